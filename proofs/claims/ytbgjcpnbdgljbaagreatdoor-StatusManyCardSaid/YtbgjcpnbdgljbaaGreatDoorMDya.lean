/- The contracts of nat.Check and dyad.Check, of what may be. -/
import Derived.Test.YtbgjcpnbdgljbaaGreatDoorMIni
import Derived.Test.YtbgjcpnbdgljbaaGreatDoorMDig
import Derived.Laws.IdiomStrings
namespace Go.Proofs.YtbgjcpnbdgljbaaGreatDoor
open Go.RowKit Go.Fil Go.Shelf

/-- A dyad as a value. -/
def dyV (d : Dya) : Value := .agg #[.bool (decide (d.m < 0)), .string (natS d.m.natAbs), .int .i64 d.e]
theorem str_ne {s : ByteArray} (h : 0 < s.size) : ¬ s.toList = [] ∧ s.toList.isEmpty = false := by
  have h1 : s.toList.length = s.size := by rw [ByteArray.toList_eq]; exact Array.length_toList
  have h2 : ¬ s.toList = [] := fun h3 => by rw [h3] at h1; simp at h1; omega
  exact ⟨h2, by simpa using h2⟩
set_option maxRecDepth 100000 in
set_option maxHeartbeats 1600000 in
theorem natmay_any (s : ByteArray) (b : Nat) (h0 : 0 < s.size) (h1 : s.size ≤ 16384) (hne : ((s[0].toNat : Int) == 0) = false) (w : World) (hc : w.cell? ⟨b, 0, none⟩ = some (.string s)) :
    Calls Tryz.prog 203 #[.slice (some ⟨b, 0, none⟩) 1 1] w fun e w' => e = .returned (.bool true) ∧ w = w' := by
  obtain ⟨s1, s2⟩ := str_ne h0
  have h2 : (s.size : Int) ≤ 16384 := by omega
  go_enter Tryz.func203, Tryz.ntmps203
  go_wp2
  refine wp_loop_rounds 2 ?_
  rw [rounds_succ]
  go_wp2
  rw [rounds_succ]
  go_wp2
  go_ret
  exact ⟨rfl, rfl⟩
set_option maxRecDepth 100000 in
set_option maxHeartbeats 1600000 in
theorem natcheck_any (s : ByteArray) (h0 : 0 < s.size) (h1 : s.size ≤ 16384) (hne : ((s[0].toNat : Int) == 0) = false) (w : World) :
    Calls Tryz.prog 147 #[.string s] w fun e w' => e = .returned (.int .i64 0) ∧ Below w.heap.size w w' := by
  have HNE := Lib.hid hne
  have H1 := Lib.hid h1
  go_enter Tryz.func147, Tryz.ntmps147
  go_wp2_with (go_at_call 203; refine (natmay_any s _ h0 H1.out HNE.out _ ?_).mono ?_; simp; rintro e w' ⟨rfl, rfl⟩)
  go_ret
  exact ⟨rfl, by repeat (first | exact Below.refl _ _ | refine below_drewN ?_ _ | refine Below.alloc ?_ (by first | omega | (simp; omega) | simp) _ | refine Below.setCell ?_ (by first | omega | (simp; omega) | simp) _ | refine Below.trans ?_ (Below.mono (by assumption) (by first | omega | (simp; omega) | simp)) | apply Below.drew)⟩
set_option maxRecDepth 100000 in
set_option maxHeartbeats 1600000 in
theorem dcheck_zero (w : World) :
    Calls Tryz.prog 83 #[dyV ⟨0, 0⟩] w fun e w' => e = .returned (.int .i64 0) ∧ Below w.heap.size w w' := by
  rw [show dyV ⟨0, 0⟩ = .agg #[.bool false, .string ⟨#[]⟩, .int .i64 0] by unfold dyV; simp [natS_zero]]
  go_enter Tryz.func83, Tryz.ntmps83
  go_wp2
  go_ret
  exact ⟨rfl, by repeat (first | exact Below.refl _ _ | refine below_drewN ?_ _ | refine Below.alloc ?_ (by first | omega | (simp; omega) | simp) _ | refine Below.setCell ?_ (by first | omega | (simp; omega) | simp) _ | refine Below.trans ?_ (Below.mono (by assumption) (by first | omega | (simp; omega) | simp)) | apply Below.drew)⟩
set_option maxRecDepth 100000 in
set_option maxHeartbeats 1600000 in
theorem dcheck_str (neg : Bool) (s : ByteArray) (x : Int) (h0 : 0 < s.size) (h1 : s.size ≤ 16384) (hne : ((s[0].toNat : Int) == 0) = false) (hodd : ((s[s.size - 1].toNat : Int) % 2 == 0) = false) (hx1 : -1048576 ≤ x) (hx2 : x ≤ 1048576) (w : World) :
    Calls Tryz.prog 83 #[.agg #[.bool neg, .string s, .int .i64 x]] w fun e w' => e = .returned (.int .i64 0) ∧ Below w.heap.size w w' := by
  obtain ⟨s1, s2⟩ := str_ne h0
  have HNE := Lib.hid hne
  have H1 := Lib.hid h1
  go_enter Tryz.func83, Tryz.ntmps83
  go_wp2_with (go_at_call 147; refine (natcheck_any s h0 H1.out HNE.out _).mono ?_; rintro e w1 ⟨rfl, hb⟩; obtain ⟨hc, hf⟩ := bcell hb; (try simp only [World.heap_drewN, World.cell?_drewN, World.frozen?_drewN] at hc hf); have z0 : w.heap.size < w1.heap.size := (by have := hb.size; try simp at this; omega))
  go_ret
  exact ⟨rfl, by repeat (first | exact Below.refl _ _ | refine below_drewN ?_ _ | refine Below.alloc ?_ (by first | omega | (simp; omega) | simp) _ | refine Below.setCell ?_ (by first | omega | (simp; omega) | simp) _ | refine Below.trans ?_ (Below.mono (by assumption) (by first | omega | (simp; omega) | simp)) | apply Below.drew)⟩
/-- A dyad that may be, and is not 0, as its parts. -/
theorem ok_str {d : Dya} (h : okD d) (h0 : d.m ≠ 0) :
    ∃ h1 : 0 < (natS d.m.natAbs).size, (natS d.m.natAbs).size ≤ 16384 ∧ (((natS d.m.natAbs)[0].toNat : Int) == 0) = false ∧ (((natS d.m.natAbs)[(natS d.m.natAbs).size - 1].toNat : Int) % 2 == 0) = false ∧ -1048576 ≤ d.e ∧ d.e ≤ 1048576 := by
  have hn : d.m.natAbs ≠ 0 := by omega
  have hp := natS_pos hn
  rcases h with ⟨h1, _⟩ | ⟨h1, h2, h3, h4⟩
  · exact absurd h1 h0
  · refine ⟨hp, ?_, ?_, ?_, h3, h4⟩
    · rw [natS_size]; omega
    · rw [natS_get _ hp]
      have := bbs_first hn
      rw [beq_eq_false_iff_ne]; omega
    · rw [natS_get _ (by omega)]
      have e : (natS d.m.natAbs).size = (bbs d.m.natAbs).length := by rw [natS, bstr_size]
      rw [e, bbs_last hn, beq_eq_false_iff_ne]; omega
theorem dcheck_any (d : Dya) (h : okD d) (w : World) :
    Calls Tryz.prog 83 #[dyV d] w fun e w' => e = .returned (.int .i64 0) ∧ Below w.heap.size w w' := by
  by_cases h0 : d.m = 0
  · have h1 : d = ⟨0, 0⟩ := by
      rcases h with ⟨h1, h2⟩ | ⟨h1, _⟩
      · exact Dya.ext' h1 h2
      · rw [h0] at h1; simp at h1
    rw [h1]
    exact dcheck_zero w
  · obtain ⟨k1, k2, k3, k4, k5, k6⟩ := ok_str h h0
    exact dcheck_str _ _ _ k1 k2 k3 k4 k5 k6 w
end Go.Proofs.YtbgjcpnbdgljbaaGreatDoor

/- The contract of dyad.whole. -/
namespace Go.Proofs.YtbgjcpnbdgljbaaGreatDoor
open Go.RowKit Go.Fil Go.Shelf

/-- The bytes of a string, in new memory. -/
theorem conv_bytes (W : World) (l : List Nat) (hl : ∀ d ∈ l, d < 256) :
    ∃ cap w1, (convert 27 185 (.string (bstr l))).run Tryz.prog W = .ok (.slice (some ⟨W.heap.size, 0, none⟩) l.length cap) w1 ∧ Seq w1 w1.heap.size (some ⟨W.heap.size, 0, none⟩) (l.map u8v) ∧ Below W.heap.size W w1 ∧ W.heap.size < w1.heap.size := by
  have h := run_bytes_of_string (P := Tryz.prog) W 27 185 5 (bstr l) Tryz.underlying27 Tryz.underlying185 Tryz.underlying5
  rw [bstr_size] at h
  refine ⟨_, _, h, ?_, ?_, ?_⟩
  · refine .inr ⟨W.heap.size, 0, rfl, by simp, fun k v hk => ?_⟩
    have hk1 : k < l.length := by
      have := (List.getElem?_eq_some_iff.1 hk).1
      simpa using this
    have hk2 : k < (bstr l).data.size := by
      have h9 : (bstr l).data.size = l.length := bstr_size l
      rw [h9]; exact hk1
    have h1 := World.cell?_alloc_mark W.drew (bytesRow (bstr l) (grownCap W l.length 0 5)) 5 ((bytesRow (bstr l) (grownCap W l.length 0 5)).size, (bytesRow (bstr l) (grownCap W l.length 0 5)).size + 1) k
    rw [bytesRow_at _ _ _ hk2] at h1
    have h2 : ((bstr l).data[k]).toNat = bnd l k := bstr_get l hl (i := k) (by rw [bstr_size]; exact hk1)
    rw [h2] at h1
    rw [List.getElem?_map, bnd_some hk1] at hk
    have hv : u8v (bnd l k) = v := Option.some.inj hk
    rw [← hv, Nat.zero_add]
    exact h1
  · exact ((Below.refl _ _).drew).alloc (Nat.le_refl _) _
  · simp
theorem grown_below {w w1 w2 : World} {g : Nat} (hb : Below w.heap.size w w1) (hg : w1.grownBy w2 (some g)) (h : w.heap.size ≤ g) : Below w.heap.size w w2 :=
  hb.grown hg hb.size (fun k hk => by injection hk with hk; omega)
set_option maxRecDepth 100000 in
set_option maxHeartbeats 1600000 in
theorem whole_str (neg : Bool) (x : Int) (n : Nat) (hn : bl n ≤ 137438953472) (w : World) :
    Calls Tryz.prog 91 #[.agg #[.bool neg, .string (natS n), .int .i64 x]] w (RN (sg neg n) w) := by
  obtain ⟨cap, w1, hrun, hseq, hbe, hsz⟩ := conv_bytes ((w.alloc (.cells #[.bool neg, .string (natS n), .int .i64 x] 29)).alloc (.cells #[.bool false, .slice none 0 0] 183)) (bbs n) (bbs_ok n)
  rw [show bstr (bbs n) = natS n from rfl] at hrun
  have hlen : (bbs n).length ≤ 68719476736 := by rw [bbs_length]; omega
  have hb1 : Below w.heap.size w w1 := ((((Below.refl _ _).alloc (Nat.le_refl _) _).alloc (by simp) _).trans (hbe.mono (by simp; omega)))
  have hc0 : w1.cell? ⟨w.heap.size, 0, none⟩ = some (.bool neg) := by
    have := hbe.cell (p := ⟨w.heap.size, 0, none⟩) (by simp; omega)
    rw [this]; simp [go_sem]
  have hblk : IntBlk w1 (w.heap.size + 1) := by
    have h0 : IntBlk ((w.alloc (.cells #[.bool neg, .string (natS n), .int .i64 x] 29)).alloc (.cells #[.bool false, .slice none 0 0] 183)) (w.heap.size + 1) := by
      have := blk_fresh (w.alloc (.cells #[.bool neg, .string (natS n), .int .i64 x] 29))
      simpa using this
    exact h0.below hbe
  have hw1 : w.heap.size < w1.heap.size := by simp at hsz; omega
  have esz : ((w.alloc (.cells #[.bool neg, .string (natS n), .int .i64 x] 29)).alloc (.cells #[.bool false, .slice none 0 0] 183)).heap.size = w.heap.size + 1 + 1 := by simp
  rw [esz] at hseq hrun
  clear esz
  have HSEQ := Lib.hid hseq
  have HB1 := Lib.hid hb1
  have HBLK := Lib.hid hblk
  have HN := Lib.hid hn
  clear hseq hb1 hblk hbe hsz
  cases neg
  · go_enter Tryz.func91, Tryz.ntmps91
    go_wp2_with fail
    refine (isetb_any _ _ _ _ (bbs n) rfl hlen (bbs_ok n) _ HBLK.out HSEQ.out).mono ?_
    rintro e w2 ⟨rfl, hi, hg⟩
    have hc3 : w2.cell? ⟨w.heap.size, 0, none⟩ = some (.bool false) := by
      rw [World.cell?_of_block (w := w1) (a := ⟨w.heap.size, 0, none⟩) (hg.block w.heap.size hw1 (by simp))]
      exact hc0
    rw [bbs_val] at hi
    have HI := Lib.hid hi
    have HG := Lib.hid hg
    clear hi hg
    go_wp2
    go_ret
    exact ⟨_, rfl, HI.out, grown_below HB1.out HG.out (by omega), by omega⟩
  · go_enter Tryz.func91, Tryz.ntmps91
    go_wp2_with fail
    refine (isetb_any _ _ _ _ (bbs n) rfl hlen (bbs_ok n) _ HBLK.out HSEQ.out).mono ?_
    rintro e w2 ⟨rfl, hi, hg⟩
    have hc3 : w2.cell? ⟨w.heap.size, 0, none⟩ = some (.bool true) := by
      rw [World.cell?_of_block (w := w1) (a := ⟨w.heap.size, 0, none⟩) (hg.block w.heap.size hw1 (by simp))]
      exact hc0
    rw [bbs_val] at hi
    have HI := Lib.hid hi
    have HG := Lib.hid hg
    clear hi hg
    go_wp2_with fail
    refine (ineg_any _ _ _ (by rw [Int.natAbs_natCast]; exact HN.out) _ HI.out.blk HI.out).mono ?_
    rintro e w3 ⟨rfl, hi, hg⟩
    have HI3 := Lib.hid hi
    have HG3 := Lib.hid hg
    clear hi hg
    go_wp2
    go_ret
    have hb2 := grown_below HB1.out HG.out (by omega)
    exact ⟨_, rfl, HI3.out, grown_below hb2 HG3.out (by omega), by omega⟩
theorem dwhole_any (d : Dya) (h : okD d) (w : World) : Calls Tryz.prog 91 #[dyV d] w (RN d.m w) := by
  have hf := h.fit
  unfold fitD at hf
  have := whole_str (decide (d.m < 0)) d.e d.m.natAbs (by omega) w
  rw [sg_self] at this
  exact this
end Go.Proofs.YtbgjcpnbdgljbaaGreatDoor

/- The contracts of dyad.made, dyad.Of. -/
namespace Go.Proofs.YtbgjcpnbdgljbaaGreatDoor
open Go.RowKit Go.Fil Go.Shelf

abbrev Tab (w : World) : Prop := TabAt 2 Lib.deBruijn32tab w
theorem Tab.below {w w' : World} (h : Tab w) (hb : Below w.heap.size w w') : Tab w' := by
  intro i hi
  have h1 := h i hi
  rw [hb.cell ?_]
  · exact h1
  · show 2 < w.heap.size
    rcases Nat.lt_or_ge 2 w.heap.size with hh | hh
    · exact hh
    · exfalso
      unfold World.cell? at h1
      rw [Array.getElem?_eq_none hh] at h1
      cases h1
/-- A string of bytes in memory. -/
theorem conv_back (W : World) (B b o n cap : Nat) (l : List Nat) (hl : ∀ d ∈ l, d < 256) (hn : l.length = n) (hs : Seq W B (some ⟨b, o, none⟩) (l.map u8v)) :
    (convert 185 27 (.slice (some ⟨b, o, none⟩) n cap)).run Tryz.prog W = .ok (.string (bstr l)) W := by
  have h := run_convert_bytes_back (P := Tryz.prog) W 185 27 5 ⟨b, o, none⟩ cap (l.map fun d => UInt8.ofNat d) Tryz.underlying185 Tryz.underlying5 Tryz.underlying27 (fun j hj => by
    have hj' : j < l.length := by simpa using hj
    rcases hs with hs | ⟨b', o', hA, hb, hc⟩
    · have : l = [] := by simpa using hs
      subst this; simp at hj'
    · injection hA with hA
      injection hA with h1 h2
      subst h1 h2
      have h3 := hc j (u8v (bnd l j)) (by rw [List.getElem?_map, bnd_some hj']; rfl)
      have h4 := hl l[j] (List.getElem_mem hj')
      have h5 : (UInt8.ofNat l[j]).toNat = bnd l j := by rw [bnd_eq hj', UInt8.toNat_ofNat']; omega
      rw [List.getElem_map, h5]
      have h6 : (⟨b, o, none⟩ : Addr).add j = ⟨b, o + j, none⟩ := by
        unfold Addr.add
        split
        · rename_i h0; subst h0; rfl
        · rfl
      rw [h6]
      exact h3)
  rw [List.length_map, hn] at h
  exact h
set_option maxRecDepth 100000 in
set_option maxHeartbeats 1600000 in
theorem made_zero (g : Nat) (e : Int) (w : World) (hz : IntAt w g 0) :
    Calls Tryz.prog 93 #[.pointer (some ⟨g, 0, none⟩), .int .i64 e] w fun en w' => en = .returned (.tuple #[dyV ⟨0, 0⟩, .int .i64 0]) ∧ Below w.heap.size w w' := by
  rw [show dyV ⟨0, 0⟩ = .agg #[.bool false, .string ⟨#[]⟩, .int .i64 0] by unfold dyV; simp [natS_zero]]
  have HZ := Lib.hid (hz.below (alloc_below w (.cells #[.bool false, .string ⟨#[]⟩, .int .i64 0] 29)))
  go_enter Tryz.func93, Tryz.ntmps93
  go_wp2_with (go_at_call 121; (with_reducible refine (isign_any g 0 ?_ _ HZ.out).mono ?_); exact (by rw [show (0 : Int).natAbs = 0 from rfl, dig_zero]; decide); rintro e w' ⟨rfl, rfl⟩)
  exact bodyPost_ret (v := .tuple #[.agg #[.bool false, .string ⟨#[]⟩, .int .i64 0], .int .i64 0]) (by simp [results, Tryz.results93, go_sem]) rfl ⟨rfl, by repeat (first | exact Below.refl _ _ | refine below_drewN ?_ _ | refine Below.alloc ?_ (by first | omega | (simp; omega) | simp) _ | refine Below.setCell ?_ (by first | omega | (simp; omega) | simp) _ | refine Below.trans ?_ (Below.mono (by assumption) (by first | omega | (simp; omega) | simp)) | apply Below.drew)⟩
theorem IntBlk.grown {w w' : World} {g f : Nat} (h : IntBlk w g) (hg : w.grownBy w' (some f)) (hne : g ≠ f) : IntBlk w' g := by
  obtain ⟨u, v, h⟩ := h
  have hl : g < w.heap.size := by
    rcases Nat.lt_or_ge g w.heap.size with hh | hh
    · exact hh
    · rw [Array.getElem?_eq_none hh] at h; cases h
  exact ⟨u, v, by rw [hg.block g hl (fun e => hne (by injection e))]; exact h⟩
theorem heap_size_alloc' (w : World) (o : Obj) : (w.alloc o).heap.size = w.heap.size + 1 := by simp
/-- Of a world w0, what a method on a newer Int keeps. -/
theorem grow_mid {w0 w1 w2 : World} {g : Nat} (hb : Below w0.heap.size w0 w1) (hg : w1.grownBy w2 (some g)) (h : w0.heap.size ≤ g) : Below w0.heap.size w0 w2 :=
  hb.grown hg hb.size (fun k hk => by injection hk with hk; omega)
theorem od_of_tz (n : Nat) : n / 2 ^ tz n = od n := rfl
set_option maxRecDepth 100000 in
set_option maxHeartbeats 6400000 in
theorem made_ne (g : Nat) (n e : Int) (h0 : n ≠ 0) (hl : bl n.natAbs ≤ 1073741824) (he1 : -1073741824 ≤ e) (he2 : e ≤ 1073741824) (hf : fitD (mkD n e)) (w : World) (hz : IntAt w g n) (hT : Tab w) :
    Calls Tryz.prog 93 #[.pointer (some ⟨g, 0, none⟩), .int .i64 e] w fun en w' => en = .returned (.tuple #[dyV (mkD n e), .int .i64 0]) ∧ Below w.heap.size w w' := by
  have hgl := hz.lt
  have hlen : (dig n.natAbs).length ≤ 274877906944 := Nat.le_trans (dig_len_lim hl) (by decide)
  have hb0 := alloc_below w (.cells #[.bool false, .string ⟨#[]⟩, .int .i64 0] 29)
  have HZ := Lib.hid (hz.below hb0)
  have HT := Lib.hid (Tab.below hT hb0)
  have hsg : (n.sign == 0) = false := by
    rw [beq_eq_false_iff_ne]
    intro h
    exact h0 (Int.sign_eq_zero_iff_zero.1 h)
  have hsn : decide (n.sign < 0) = decide (n < 0) := by
    rcases sign_vals n with ⟨h1, h2⟩ | ⟨h1, h2⟩ | ⟨h1, h2⟩ <;> rw [h2] <;> simp <;> omega
  unfold fitD at hf
  rw [mkD_m, odI_natAbs, mkD_e h0] at hf
  obtain ⟨f1, f2, f3⟩ := hf
  have hdv : dyV (mkD n e) = .agg #[.bool (decide (n < 0)), .string (natS (od n.natAbs)), .int .i64 (e + (tz n.natAbs : Int))] := by
    unfold dyV
    rw [mkD_m, mkD_e h0, odI_natAbs, decide_eq_decide.2 (odI_neg_iff n)]
  have ht := tz_bl n.natAbs
  have hod : n.natAbs / 2 ^ tz n.natAbs = od n.natAbs := rfl
  rw [hdv]
  have HOD := Lib.hid hod
  have HSN := Lib.hid hsn
  have HOB := Lib.hid f1
  have HL := Lib.hid hl
  have hbn : (bbs (od n.natAbs)).length ≤ 16384 := by rw [bbs_length]; omega
  have hob := bl_od n.natAbs
  have HOB2 := Lib.hid (show bl (od n.natAbs) ≤ 137438953472 by omega)
  have hpos := od_pos (n := n.natAbs) (by omega)
  have hbp : (bbs (od n.natAbs)) ≠ [] := by
    intro h
    have := bdig_length_pos (n := od n.natAbs) (by omega)
    rw [bbs, List.reverse_eq_nil_iff] at h
    rw [h] at this; simp at this
  have HBP := Lib.hid hbp
  have HB0 := Lib.hid hb0
  clear hdv hod hsn f1 hob hbp hb0 hz hT
  have HH0 := Lib.hid h0
  clear h0
  have ht2 : tz n.natAbs ≤ 1073741824 := by omega
  clear hl ht hpos
  generalize hod' : od n.natAbs = a at *
  generalize htz' : tz n.natAbs = t at *
  have HTZ := Lib.hid htz'
  have HOO := Lib.hid hod'
  clear htz' hod'
  have hw2 : Below (w.alloc (.cells #[.bool false, .string ⟨#[]⟩, .int .i64 0] 29)).heap.size (w.alloc (.cells #[.bool false, .string ⟨#[]⟩, .int .i64 0] 29)) (((w.alloc (.cells #[.bool false, .string ⟨#[]⟩, .int .i64 0] 29)).alloc (.cells #[.bool false, .slice none 0 0] 183)).alloc (.cells #[.bool false, .slice none 0 0] 183)) :=
    ((Below.refl _ _).alloc (Nat.le_refl _) _).alloc (by simp only [heap_size_alloc']; omega) _
  have HZ2 := Lib.hid (HZ.out.below hw2)
  have HBK1 := Lib.hid ((blk_fresh (w.alloc (.cells #[.bool false, .string ⟨#[]⟩, .int .i64 0] 29))).below (alloc_below _ (.cells #[.bool false, .slice none 0 0] 183)))
  have HBK2 := Lib.hid (blk_fresh ((w.alloc (.cells #[.bool false, .string ⟨#[]⟩, .int .i64 0] 29)).alloc (.cells #[.bool false, .slice none 0 0] 183)))
  rw [heap_size_alloc'] at HBK1
  rw [heap_size_alloc', heap_size_alloc'] at HBK2
  have HW2 := Lib.hid hw2
  clear hw2
  have t0 : (0 : Int) ≤ (t : Int) := by omega
  have t1 : (t : Int) ≤ 1073741824 := by omega
  have e1 : ¬ e > 1099511627776 := by omega
  have e2 : ¬ e < -1099511627776 := by omega
  go_enter Tryz.func93, Tryz.ntmps93
  go_wp2_with (first
    | (go_at_call 121; refine (isign_any g n hlen _ HZ.out).mono ?_; rintro e w' ⟨rfl, rfl⟩)
    | (go_at_call 150; refine (itz_any g n HH0.out hlen _ HZ.out HT.out).mono ?_; rintro e w' ⟨rfl, rfl⟩; rw [HTZ.out]))
  refine (iabs_any _ g n (Nat.le_trans HL.out (by decide)) _ HBK2.out HZ2.out).mono ?_
  rintro en w2 ⟨rfl, hi, hg⟩
  have HI := Lib.hid hi
  have hb2 := grow_mid HW2.out hg (by simp only [heap_size_alloc']; omega)
  have HK1 := Lib.hid (HBK1.out.grown hg (by omega))
  have HB2 := Lib.hid hb2
  clear hi hg hb2
  go_wp2_with fail
  refine (irsh_any _ _ t n.natAbs (Nat.le_trans HL.out (by decide)) (by omega) _ HK1.out HI.out).mono ?_
  rintro en w3 ⟨rfl, hi, hg⟩
  have hb3 := grow_mid HB2.out hg (by simp only [heap_size_alloc']; omega)
  have hod2 : n.natAbs / 2 ^ t = a := by have h1 := HOD.out; exact h1
  rw [hod2] at hi
  have HI3 := Lib.hid hi
  have HB3 := Lib.hid hb3
  clear hi hg hb3 hod2
  go_wp2_with fail
  refine (ibytes_any _ a HOB2.out _ HI3.out).mono ?_
  rintro en w4 ⟨A, rfl, hseq, hbe⟩
  have hb4 := HB3.out.trans (hbe.mono HB3.out.size)
  obtain ⟨b, o, rfl⟩ : ∃ b o, A = some ⟨b, o, none⟩ := by
    rcases hseq with h | ⟨b, o, h, _⟩
    · exact absurd (by simpa using h) HBP.out
    · exact ⟨b, o, h⟩
  have hcv := conv_back w4.drew w4.heap.size b o (bbs a).length (bbs a).length (bbs a) (bbs_ok a) rfl hseq
  have hc := (bcell hb4).1
  have hf := (bcell hb4).2
  have HZ4 := Lib.hid (HZ.out.below (hb4.trans (Below.refl _ _).drew))
  have hsz4 := hb4.size
  simp only [heap_size_alloc'] at hc hf hsz4
  have hw4 : w.heap.size < w4.heap.size := by omega
  have HB4 := Lib.hid hb4
  clear hseq hbe hb4 hsz4
  generalize hnl : (bbs a).length = L at *
  have HNL := Lib.hid hnl
  clear hnl
  go_wp2_with fail
  go_region_with (go_at_call 121; refine (isign_any g n hlen _ HZ4.out).mono ?_; rintro en w' ⟨rfl, hw'⟩; subst hw')
  all_goals
    go_wp2
    have hsn := HSN.out
    have hbw : Below w.heap.size w w4 := HB0.out.trans (HB4.out.mono (by simp only [heap_size_alloc']; omega))
    rw [← hsn]
    exact bodyPost_ret (v := .tuple #[.agg #[.bool (decide (n.sign < 0)), .string (bstr (bbs a)), .int .i64 (e + (t : Int))], .int .i64 0]) (by simp [results, Tryz.results93, go_sem, hc]) rfl ⟨rfl, by repeat (first | exact Below.refl _ _ | refine below_drewN ?_ _ | refine Below.alloc ?_ (by first | omega | (simp; omega) | simp) _ | refine Below.setCell ?_ (by first | omega | (simp; omega) | simp) _ | refine Below.trans ?_ (Below.mono (by assumption) (by first | omega | (simp; omega) | simp)) | apply Below.drew)⟩
/-- What a function that makes a dyad answers. -/
def RDy (d : Dya) (w : World) (en : Ending) (w' : World) : Prop := en = .returned (.tuple #[dyV d, .int .i64 0]) ∧ Below w.heap.size w w'
theorem made_any (g : Nat) (n e : Int) (hl : bl n.natAbs ≤ 1073741824) (he1 : -1073741824 ≤ e) (he2 : e ≤ 1073741824) (hf : fitD (mkD n e)) (w : World) (hz : IntAt w g n) (hT : Tab w) :
    Calls Tryz.prog 93 #[.pointer (some ⟨g, 0, none⟩), .int .i64 e] w (RDy (mkD n e) w) := by
  by_cases h0 : n = 0
  · subst h0
    rw [mkD_zero]
    exact made_zero g e w hz
  · exact made_ne g n e h0 hl he1 he2 hf w hz hT
end Go.Proofs.YtbgjcpnbdgljbaaGreatDoor
