/- poly.whole at whole numbers. -/
import Derived.Test.YtbgjcpnbdgljbaaGreatDoorMExa
import Derived.Test.YtbgjcpnbdgljbaaGreatDoorMPon
import Derived.Test.YtbgjcpnbdgljbaaGreatDoorMGwh
namespace Go.Proofs.YtbgjcpnbdgljbaaGreatDoor
open Go.RowKit Go.Fil Go.Shelf

theorem Tryz.infoG : (Tryz.prog.info? 31).map (fun i => (i.zero, i.size, i.bytes)) = some (some (.agg #[.bool false, .string ⟨#[]⟩, .int .i64 0, .bool false, .string ⟨#[]⟩, .int .i64 0]), 6, 64) := by kernel_rfl
theorem seq_of_own6 {w : World} {base e n : Nat} {v : Value} {xs : List Value} (h : w.ownsRow base e 6 v n xs) : ∃ A c, v = .slice A n c ∧ Seq w w.heap.size A xs := by
  rcases n with _ | n
  · have hx : xs = [] := List.eq_nil_of_length_eq_zero (by simpa using h.1)
    rcases h.2 with ⟨rfl, _⟩ | ⟨g, cap, cur, rfl, _⟩
    · exact ⟨none, 0, rfl, .inl hx⟩
    · exact ⟨_, cap, rfl, .inl hx⟩
  · obtain ⟨g, cap, hv, _, hlt⟩ := World.ownsRow.form h (by omega)
    subst hv
    refine ⟨_, cap, rfl, .inr ⟨g, 0, rfl, hlt, fun k u hu => ?_⟩⟩
    have := h.cells (g := g) rfl k u hu
    rw [Addr.add_lit] at this
    exact this
theorem gz_complex {c : Cc} {z : Zi} (h : FC c z) (w : World) (hT : Tab w) : Calls Tryz.prog 22 #[.complex .f64 c.1 c.2] w (RZ z w) := by
  have := gcomplex_any c.1 c.2 h.1.1 h.2.1 h.1.2.1 h.2.2.1 w hT
  rw [h.1.flD, h.2.flD] at this
  exact this
/-- Floats that are whole numbers, place by place. -/
def FCs (ps : List Cc) (l : List Zi) : Prop := ps.length = l.length ∧ ∀ k, k < l.length → FC (nth ps k) (nthZ l k)
theorem zcells_take {l : List Zi} {k : Nat} (hk : k < l.length) : zcells (l.take (k + 1)) = zcells (l.take k) ++ gcells (nthZ l k) := by
  rw [List.take_succ_eq_append_getElem hk, zcells_append, ← nthZ_eq hk]
  simp [zcells]
/-- The six cells of one new number. -/
theorem gauss_new (w : World) (z : Zi) (t : TypeId) : ∀ j u, (gcells z)[j]? = some u → (w.alloc (.cells #[.bool (dn (wd z.re)), .string (ds (wd z.re)), .int .i64 (wd z.re).e, .bool (dn (wd z.im)), .string (ds (wd z.im)), .int .i64 (wd z.im).e] t)).cell? ((⟨w.heap.size, 0, none⟩ : Addr).add j) = some u := by
  intro j u hj
  have hlt : j < 6 := by
    rcases Nat.lt_or_ge j 6 with h | h
    · exact h
    · rw [List.getElem?_eq_none (by show 6 ≤ j; exact h)] at hj; cases hj
  rw [Addr.add_lit, World.cell?_alloc_at _ _ _ _ (by simp), ← hj]
  match j, hlt with
  | 0, _ => rfl
  | 1, _ => rfl
  | 2, _ => rfl
  | 3, _ => rfl
  | 4, _ => rfl
  | 5, _ => rfl
set_option maxRecDepth 100000 in
set_option maxHeartbeats 3200000 in
theorem pwhole_any (A : Option Addr) (n cap : Nat) (ps : List Cc) (l : List Zi) (hn : l.length = n) (hle : n ≤ 17) (hf : FCs ps l) (w : World) (hT : Tab w) (hs : Seq w w.heap.size A (ps.map cv)) :
    Calls Tryz.prog 37 #[.slice A n cap] w fun e w' =>
      ∃ v, e = .returned v ∧ w'.ownsRow w.heap.size 31 6 v n (zcells l) ∧ Below w.heap.size w w' := by
  obtain ⟨i0, hi, hz0, hz1, hz2⟩ := info_parts Tryz.infoG
  have HS := Lib.hid hs
  have HN := Lib.hid hn
  have HF := Lib.hid hf
  have HT := Lib.hid hT
  clear hs hn hf hT
  go_enter Tryz.func37, Tryz.ntmps37
  go_wp2
  go_loopw [3, 10] (fun v i wr => ∃ k : Nat, k ≤ n ∧ i = .int .i64 k ∧ wr.ownsRow w.heap.size 31 6 v k (zcells (l.take k)) ∧ Below w.heap.size w wr) (fun _ i _ => n - (intOf i).toNat)
  case atStart => exact ⟨0, Nat.zero_le _, rfl, World.ownsRow_nil _ _ _ _, Below.refl _ _⟩
  case round =>
    obtain ⟨k, hk, rfl, hown, hnx⟩ := hrel
    by_cases hlt : k < n
    · obtain ⟨b, o, rfl, hb, hcl⟩ := (HS.out.below hnx (Nat.le_refl _)).cat (k := k) (by have := HN.out; have := HF.out.1; omega)
      have HC := Lib.hid (HF.out.2 k (by have := HN.out; omega))
      have HTr := Lib.hid (HT.out.below hnx)
      clear hb
      go_wp2_with (first
        | (go_at_call 22; refine (gz_complex HC.out _ HTr.out).mono ?_; rintro e w1 ⟨rfl, hb⟩)
        | (at_builtin; refine wpList_append_own _ rfl _ _ 49 rfl w.heap.size 31 i0 (.agg #[.bool false, .string ⟨#[]⟩, .int .i64 0, .bool false, .string ⟨#[]⟩, .int .i64 0]) 6 64 Tryz.underlying49 hi hz0 hz1 hz2 rfl (by decide) _ _ _ rfl (((own_below hown hb).alloc _).alloc _) ⟨w1.heap.size + 1, 0, none⟩ 1 1 (gcells (nthZ l k)) rfl rfl ?c1 ?c2 ?c3 ?c4 ?c5 ?_))
      case c1 =>
        have := gauss_new (w1.alloc (.cells #[.bool (dn (wd (nthZ l k).re)), .string (ds (wd (nthZ l k).re)), .int .i64 (wd (nthZ l k).re).e, .bool (dn (wd (nthZ l k).im)), .string (ds (wd (nthZ l k).im)), .int .i64 (wd (nthZ l k).im).e] 31)) (nthZ l k) 31
        rw [heap_size_alloc'] at this
        exact this
      case c2 => intro u hu; simp [gcells] at hu; rcases hu with rfl | rfl | rfl | rfl | rfl | rfl <;> rfl
      case c3 => unfold maxLen; omega
      case c4 => omega
      case c5 => have := hnx.size; have := hb.size; simp; omega
      intro v' w2 hown' hgrow _
      have z1 : w.heap.size ≤ w1.heap.size := by have := hnx.size; have := hb.size; omega
      have hnx' : Below w.heap.size w w2 := (show Below w.heap.size w _ from ((hnx.trans (hb.mono hnx.size)).alloc z1 _).alloc (by simp; omega) _).grown hgrow (by simp; omega) (fun q hq => (hown.lt q hq).1)
      have hown2 : w2.ownsRow w.heap.size 31 6 v' (k + 1) (zcells (l.take (k + 1))) := by
        rw [zcells_take (by have := HN.out; omega)]
        exact hown'
      clear hown' hgrow hown hcl hb hnx
      go_wp2
      go_roundw
      case rel => exact ⟨k + 1, by omega, by go_num, hown2, hnx'⟩
      case measure => simp [intOf]; omega
    · obtain rfl : k = n := by omega
      go_wp2
      go_ret
      exact ⟨_, rfl, by rw [← HN.out, List.take_length] at hown; rw [← HN.out]; exact hown, hnx⟩
end Go.Proofs.YtbgjcpnbdgljbaaGreatDoor

/- poly.Exact at whole numbers. -/
namespace Go.Proofs.YtbgjcpnbdgljbaaGreatDoor
open Go.RowKit Go.Fil Go.Shelf

set_option maxRecDepth 100000 in
set_option maxHeartbeats 3200000 in
theorem pExact_any (A : Option Addr) (n cap : Nat) (ps : List Cc) (l : List Zi) (hn : l.length = n) (hle : n ≤ 17) (hfc : FCs ps l) (hck : checkS ps = true) (g : Zi) (H : Horn l g) (w : World) (hT : Tab w) (hs : Seq w w.heap.size A (ps.map cv)) :
    Calls Tryz.prog 11 #[.slice A n cap, .agg #[.bool (dn (wd g.re)), .string (ds (wd g.re)), .int .i64 (wd g.re).e, .bool (dn (wd g.im)), .string (ds (wd g.im)), .int .i64 (wd g.im).e]] w (RZ (zev l g) w) := by
  have HW := Lib.hid (fun w hT hs => pwhole_any A n cap ps l hn hle hfc w hT hs)
  have HX := Lib.hid (fun A' cap' w hT hs => exact_any A' n cap' l hn hle g H w hT hs)
  have HC := Lib.hid (fun w => gz_check g H.hg w)
  have HN := Lib.hid (hfc.1.trans hn)
  have hm : n ≤ 9223372036854775807 := by omega
  have HS := Lib.hid hs
  have HT := Lib.hid hT
  clear H hs hT hfc hn hle
  unfold RZ RGv at HX ⊢
  generalize zev l g = r at *
  generalize dn (wd g.re) = na at *
  generalize ds (wd g.re) = sa at *
  generalize (wd g.re).e = xa at *
  generalize dn (wd g.im) = nb at *
  generalize ds (wd g.im) = sb at *
  generalize (wd g.im).e = xb at *
  generalize dn (wd r.re) = rna at *
  generalize ds (wd r.re) = rsa at *
  generalize (wd r.re).e = rxa at *
  generalize dn (wd r.im) = rnb at *
  generalize ds (wd r.im) = rsb at *
  generalize (wd r.im).e = rxb at *
  go_enter Tryz.func11, Tryz.ntmps11
  go_wp2_with fail
  refine Calls.mono (all_one (w.heap.size + 1 + 1) A n cap ps HN.out hm w.heap.size _ ?hs ?hg) ?k
  case hs => exact HS.out.below (B' := w.heap.size) (by repeat (first | exact Below.refl _ _ | refine below_drewN ?_ _ | refine Below.alloc ?_ (by first | omega | (simp; omega) | simp) _ | refine Below.setCell ?_ (by first | omega | (simp; omega) | simp) _ | refine Below.trans ?_ (Below.mono (by assumption) (by first | omega | (simp; omega) | simp)) | apply Below.drew)) (Nat.le_refl _)
  case hg => rw [World.cell?_alloc_at _ _ _ _ (by simp)]; rfl
  rintro e w' ⟨rfl, rfl⟩
  rw [hck]
  clear hck
  go_wp2_with (go_at_call 35; refine (HC.out _).mono ?_; rintro e w1 ⟨rfl, hb⟩; obtain ⟨hc, hf⟩ := bcell hb; (try simp only [World.heap_drewN, World.cell?_drewN, World.frozen?_drewN] at hc hf); have z0 : w.heap.size < w1.heap.size := (by have := hb.size; (try simp at this); omega); have z1 : w.heap.size + 1 < w1.heap.size := (by have := hb.size; (try simp at this); omega))
  have HB1 := Lib.hid (show Below w.heap.size w w1 by repeat (first | exact Below.refl _ _ | refine below_drewN ?_ _ | refine Below.alloc ?_ (by first | omega | (simp; omega) | simp) _ | refine Below.setCell ?_ (by first | omega | (simp; omega) | simp) _ | refine Below.trans ?_ (Below.mono (by assumption) (by first | omega | (simp; omega) | simp)) | apply Below.drew))
  have l0 : w.heap.size < w1.heap.size := by omega
  have l1 : w.heap.size + 1 < w1.heap.size := by omega
  have HT1 := Lib.hid (HT.out.below HB1.out)
  have HS1 := Lib.hid ((HS.out.below HB1.out (Nat.le_refl _)).more HB1.out.size)
  have m0 : w1.cell? ⟨w.heap.size, 0, none⟩ = some (.bool na) := by rw [hc _ _ (by simp <;> omega)] <;> try simp [go_sem]
  have m1 : w1.cell? ⟨w.heap.size, 1, none⟩ = some (.string sa) := by rw [hc _ _ (by simp <;> omega)] <;> try simp [go_sem]
  have m2 : w1.cell? ⟨w.heap.size, 2, none⟩ = some (.int .i64 xa) := by rw [hc _ _ (by simp <;> omega)] <;> try simp [go_sem]
  have m3 : w1.cell? ⟨w.heap.size, 3, none⟩ = some (.bool nb) := by rw [hc _ _ (by simp <;> omega)] <;> try simp [go_sem]
  have m4 : w1.cell? ⟨w.heap.size, 4, none⟩ = some (.string sb) := by rw [hc _ _ (by simp <;> omega)] <;> try simp [go_sem]
  have m5 : w1.cell? ⟨w.heap.size, 5, none⟩ = some (.int .i64 xb) := by rw [hc _ _ (by simp <;> omega)] <;> try simp [go_sem]
  have rc0 : w1.cell? ⟨w.heap.size + 1, 0, none⟩ = some (.bool false) := by rw [hc _ _ (by simp <;> omega)] <;> try simp [go_sem]
  have rc1 : w1.cell? ⟨w.heap.size + 1, 1, none⟩ = some (.string ⟨#[]⟩) := by rw [hc _ _ (by simp <;> omega)] <;> try simp [go_sem]
  have rc2 : w1.cell? ⟨w.heap.size + 1, 2, none⟩ = some (.int .i64 0) := by rw [hc _ _ (by simp <;> omega)] <;> try simp [go_sem]
  have rc3 : w1.cell? ⟨w.heap.size + 1, 3, none⟩ = some (.bool false) := by rw [hc _ _ (by simp <;> omega)] <;> try simp [go_sem]
  have rc4 : w1.cell? ⟨w.heap.size + 1, 4, none⟩ = some (.string ⟨#[]⟩) := by rw [hc _ _ (by simp <;> omega)] <;> try simp [go_sem]
  have rc5 : w1.cell? ⟨w.heap.size + 1, 5, none⟩ = some (.int .i64 0) := by rw [hc _ _ (by simp <;> omega)] <;> try simp [go_sem]
  have rf0 : w1.frozen? ⟨w.heap.size + 1, 0, none⟩ = false := by rw [hf _ _ (by simp <;> omega)] <;> try simp [go_sem]
  have rf1 : w1.frozen? ⟨w.heap.size + 1, 1, none⟩ = false := by rw [hf _ _ (by simp <;> omega)] <;> try simp [go_sem]
  have rf2 : w1.frozen? ⟨w.heap.size + 1, 2, none⟩ = false := by rw [hf _ _ (by simp <;> omega)] <;> try simp [go_sem]
  have rf3 : w1.frozen? ⟨w.heap.size + 1, 3, none⟩ = false := by rw [hf _ _ (by simp <;> omega)] <;> try simp [go_sem]
  have rf4 : w1.frozen? ⟨w.heap.size + 1, 4, none⟩ = false := by rw [hf _ _ (by simp <;> omega)] <;> try simp [go_sem]
  have rf5 : w1.frozen? ⟨w.heap.size + 1, 5, none⟩ = false := by rw [hf _ _ (by simp <;> omega)] <;> try simp [go_sem]
  have j1 : w.heap.size + 1 ≠ w.heap.size := by omega
  clear hc hf hb HC
  try clear z0 z1
  go_region_held3 (fun x => x.cell? ⟨w.heap.size, 0, none⟩ = some (.bool na) ∧ x.cell? ⟨w.heap.size, 1, none⟩ = some (.string sa) ∧ x.cell? ⟨w.heap.size, 2, none⟩ = some (.int .i64 xa) ∧ x.cell? ⟨w.heap.size, 3, none⟩ = some (.bool nb) ∧ x.cell? ⟨w.heap.size, 4, none⟩ = some (.string sb) ∧ x.cell? ⟨w.heap.size, 5, none⟩ = some (.int .i64 xb))
    ((refine ⟨?_, ?_, ?_, ?_, ?_, ?_⟩ <;> first | with_reducible assumption | (simp only [World.cell?_drew]; with_reducible assumption) | (rw [cell6 j1]; with_reducible assumption)))
    (first
    | (go_at_call 37; (refine (HW.out _ (HT1.out.below (Below.refl _ _).drew) HS1.out).mono ?_); rintro e w2 ⟨v, rfl, hown, hb'⟩; obtain ⟨A1, c1, rfl, hs1⟩ := seq_of_own6 hown; have HS2 := Lib.hid hs1; have HB2 := Lib.hid (undrew hb'); clear hown hs1 hb'; have HT2 := Lib.hid (HT1.out.below HB2.out); have q0 := (HB2.out.cell (p := ⟨w.heap.size, 0, none⟩) l0).trans m0; have q1 := (HB2.out.cell (p := ⟨w.heap.size, 1, none⟩) l0).trans m1; have q2 := (HB2.out.cell (p := ⟨w.heap.size, 2, none⟩) l0).trans m2; have q3 := (HB2.out.cell (p := ⟨w.heap.size, 3, none⟩) l0).trans m3; have q4 := (HB2.out.cell (p := ⟨w.heap.size, 4, none⟩) l0).trans m4; have q5 := (HB2.out.cell (p := ⟨w.heap.size, 5, none⟩) l0).trans m5)
    | (go_at_call 36; (refine (HX.out _ _ _ HT2.out HS2.out).mono ?_); rintro e w5 ⟨rfl, hb'⟩; have HB5 := Lib.hid (below_of HB2.out hb' HB2.out.size); clear hb'; have p0 := (HB5.out.cell (p := ⟨w.heap.size, 0, none⟩) l0).trans m0; have p1 := (HB5.out.cell (p := ⟨w.heap.size, 1, none⟩) l0).trans m1; have p2 := (HB5.out.cell (p := ⟨w.heap.size, 2, none⟩) l0).trans m2; have p3 := (HB5.out.cell (p := ⟨w.heap.size, 3, none⟩) l0).trans m3; have p4 := (HB5.out.cell (p := ⟨w.heap.size, 4, none⟩) l0).trans m4; have p5 := (HB5.out.cell (p := ⟨w.heap.size, 5, none⟩) l0).trans m5; have t0 := (HB5.out.cell (p := ⟨w.heap.size + 1, 0, none⟩) l1).trans rc0; have t1 := (HB5.out.cell (p := ⟨w.heap.size + 1, 1, none⟩) l1).trans rc1; have t2 := (HB5.out.cell (p := ⟨w.heap.size + 1, 2, none⟩) l1).trans rc2; have t3 := (HB5.out.cell (p := ⟨w.heap.size + 1, 3, none⟩) l1).trans rc3; have t4 := (HB5.out.cell (p := ⟨w.heap.size + 1, 4, none⟩) l1).trans rc4; have t5 := (HB5.out.cell (p := ⟨w.heap.size + 1, 5, none⟩) l1).trans rc5; have tf0 := (HB5.out.frozen (p := ⟨w.heap.size + 1, 0, none⟩) l1).trans rf0; have tf1 := (HB5.out.frozen (p := ⟨w.heap.size + 1, 1, none⟩) l1).trans rf1; have tf2 := (HB5.out.frozen (p := ⟨w.heap.size + 1, 2, none⟩) l1).trans rf2; have tf3 := (HB5.out.frozen (p := ⟨w.heap.size + 1, 3, none⟩) l1).trans rf3; have tf4 := (HB5.out.frozen (p := ⟨w.heap.size + 1, 4, none⟩) l1).trans rf4; have tf5 := (HB5.out.frozen (p := ⟨w.heap.size + 1, 5, none⟩) l1).trans rf5))
  go_wp2
  have hbw : Below w.heap.size w w5 := HB1.out.trans (HB5.out.mono HB1.out.size)
  exact bodyPost_ret (v := .tuple #[.agg #[.bool rna, .string rsa, .int .i64 rxa, .bool rnb, .string rsb, .int .i64 rxb], .int .i64 0]) (by simp [results, Tryz.results11, go_sem, t0, t1, t2, t3, t4, t5]) rfl ⟨rfl, ((((((hbw.setCell (by show w.heap.size ≤ w.heap.size + 1; omega) _).setCell (by show w.heap.size ≤ w.heap.size + 1; omega) _).setCell (by show w.heap.size ≤ w.heap.size + 1; omega) _).setCell (by show w.heap.size ≤ w.heap.size + 1; omega) _).setCell (by show w.heap.size ≤ w.heap.size + 1; omega) _).setCell (by show w.heap.size ≤ w.heap.size + 1; omega) _)⟩
end Go.Proofs.YtbgjcpnbdgljbaaGreatDoor

/- poly.SlopeExact at whole numbers. -/
namespace Go.Proofs.YtbgjcpnbdgljbaaGreatDoor
open Go.RowKit Go.Fil Go.Shelf

theorem nthZ_zdl (j : Nat) (q : List Zi) (i : Nat) (hi : i < q.length) : nthZ (zdl j q) i = zmul (zr ((j + i : Nat) : Int)) (nthZ q i) := by
  induction q generalizing j i with
  | nil => simp at hi
  | cons c q ih =>
    cases i with
    | zero => rfl
    | succ i =>
      have := ih (j + 1) i (by simpa using hi)
      rw [show j + 1 + i = j + (i + 1) by omega] at this
      exact this
theorem nthZ_drop (l : List Zi) (i : Nat) : nthZ (l.drop 1) i = nthZ l (i + 1) := by
  unfold nthZ; rw [List.getD_eq_getElem?_getD, List.getD_eq_getElem?_getD, List.getElem?_drop, Nat.add_comm]
/-- The slope's coefficients. -/
def zsl (l : List Zi) : List Zi := zdl 1 (l.drop 1)
theorem slope_length (l : List Zi) : (zsl l).length = l.length - 1 := by unfold zsl; rw [zdl_length, List.length_drop]
theorem slope_nth {l : List Zi} {k : Nat} (h1 : 1 ≤ k) (hk : k < l.length) : nthZ (zsl l) (k - 1) = zmul (zr (k : Int)) (nthZ l k) := by
  unfold zsl
  rw [nthZ_zdl _ _ _ (by rw [List.length_drop]; omega), nthZ_drop, show k - 1 + 1 = k by omega, show 1 + (k - 1) = k by omega]
theorem fc_zr {k : Nat} (h : k < 100) : FC (floatOfInt .f64 (k : Int), 0) (zr (k : Int)) := ⟨FI.of (by omega), FI.of (n := 0) (by decide)⟩
theorem zb_zr {k : Nat} (h : k < 100) : Zb 400 (zr (k : Int)) := by
  have h4 : 100 < 2 ^ 400 := by decide +kernel
  exact Zb.of (by rw [zn_zr]; omega)
set_option maxRecDepth 100000 in
set_option maxHeartbeats 6400000 in
theorem pSlope_any (A : Option Addr) (n cap : Nat) (ps : List Cc) (l : List Zi) (hn : l.length = n) (hle : n ≤ 17) (hfc : FCs ps l) (hck : checkS ps = true) (hcl : ∀ k, k < n → Zb 400 (nthZ l k)) (g : Zi) (H : Horn (zsl l) g) (w : World) (hT : Tab w) (hs : Seq w w.heap.size A (ps.map cv)) :
    Calls Tryz.prog 17 #[.slice A n cap, .agg #[.bool (dn (wd g.re)), .string (ds (wd g.re)), .int .i64 (wd g.re).e, .bool (dn (wd g.im)), .string (ds (wd g.im)), .int .i64 (wd g.im).e]] w (RZ (zev (zsl l) g) w) := by
  obtain ⟨i0, hi, hz0, hz1, hz2⟩ := info_parts Tryz.infoG
  have HW := Lib.hid (fun w hT hs => pwhole_any A n cap ps l hn hle hfc w hT hs)
  have HX := Lib.hid (fun A' cap' w hT hs => exact_any A' (n - 1) cap' (zsl l) (by rw [slope_length, hn]) (by omega) g H w hT hs)
  have HC := Lib.hid (fun w => gz_check g H.hg w)
  have HP := Lib.hid hfc.1
  have HL := Lib.hid hn
  have HCL := Lib.hid hcl
  have hm : n ≤ 9223372036854775807 := by omega
  have HS := Lib.hid hs
  have HT := Lib.hid hT
  clear H hs hT hfc hn hcl
  unfold RZ RGv at HX ⊢
  generalize zev (zsl l) g = r at *
  generalize dn (wd g.re) = na at *
  generalize ds (wd g.re) = sa at *
  generalize (wd g.re).e = xa at *
  generalize dn (wd g.im) = nb at *
  generalize ds (wd g.im) = sb at *
  generalize (wd g.im).e = xb at *
  generalize dn (wd r.re) = rna at *
  generalize ds (wd r.re) = rsa at *
  generalize (wd r.re).e = rxa at *
  generalize dn (wd r.im) = rnb at *
  generalize ds (wd r.im) = rsb at *
  generalize (wd r.im).e = rxb at *
  go_enter Tryz.func17, Tryz.ntmps17
  go_wp2_with fail
  refine Calls.mono (all_one (w.heap.size + 1 + 1) A n cap ps (HP.out.trans HL.out) hm w.heap.size _ ?hs ?hg) ?k
  case hs => exact HS.out.below (B' := w.heap.size) (by repeat (first | exact Below.refl _ _ | refine below_drewN ?_ _ | refine Below.alloc ?_ (by first | omega | (simp; omega) | simp) _ | refine Below.setCell ?_ (by first | omega | (simp; omega) | simp) _ | refine Below.trans ?_ (Below.mono (by assumption) (by first | omega | (simp; omega) | simp)) | apply Below.drew)) (Nat.le_refl _)
  case hg => rw [World.cell?_alloc_at _ _ _ _ (by simp)]; rfl
  rintro e w' ⟨rfl, rfl⟩
  rw [hck]
  clear hck
  go_wp2_with (go_at_call 35; refine (HC.out _).mono ?_; rintro e w1 ⟨rfl, hb⟩; obtain ⟨hc, hf⟩ := bcell hb; (try simp only [World.heap_drewN, World.cell?_drewN, World.frozen?_drewN] at hc hf); have z0 : w.heap.size < w1.heap.size := (by have := hb.size; (try simp at this); omega); have z1 : w.heap.size + 1 < w1.heap.size := (by have := hb.size; (try simp at this); omega))
  have HB1 := Lib.hid (show Below w.heap.size w w1 by repeat (first | exact Below.refl _ _ | refine below_drewN ?_ _ | refine Below.alloc ?_ (by first | omega | (simp; omega) | simp) _ | refine Below.setCell ?_ (by first | omega | (simp; omega) | simp) _ | refine Below.trans ?_ (Below.mono (by assumption) (by first | omega | (simp; omega) | simp)) | apply Below.drew))
  have l0 : w.heap.size < w1.heap.size := by omega
  have l1 : w.heap.size + 1 < w1.heap.size := by omega
  have HT1 := Lib.hid (HT.out.below HB1.out)
  have HS1 := Lib.hid ((HS.out.below HB1.out (Nat.le_refl _)).more HB1.out.size)
  have m0 : w1.cell? ⟨w.heap.size, 0, none⟩ = some (.bool na) := by rw [hc _ _ (by simp <;> omega)] <;> try simp [go_sem]
  have m1 : w1.cell? ⟨w.heap.size, 1, none⟩ = some (.string sa) := by rw [hc _ _ (by simp <;> omega)] <;> try simp [go_sem]
  have m2 : w1.cell? ⟨w.heap.size, 2, none⟩ = some (.int .i64 xa) := by rw [hc _ _ (by simp <;> omega)] <;> try simp [go_sem]
  have m3 : w1.cell? ⟨w.heap.size, 3, none⟩ = some (.bool nb) := by rw [hc _ _ (by simp <;> omega)] <;> try simp [go_sem]
  have m4 : w1.cell? ⟨w.heap.size, 4, none⟩ = some (.string sb) := by rw [hc _ _ (by simp <;> omega)] <;> try simp [go_sem]
  have m5 : w1.cell? ⟨w.heap.size, 5, none⟩ = some (.int .i64 xb) := by rw [hc _ _ (by simp <;> omega)] <;> try simp [go_sem]
  have rc0 : w1.cell? ⟨w.heap.size + 1, 0, none⟩ = some (.bool false) := by rw [hc _ _ (by simp <;> omega)] <;> try simp [go_sem]
  have rc1 : w1.cell? ⟨w.heap.size + 1, 1, none⟩ = some (.string ⟨#[]⟩) := by rw [hc _ _ (by simp <;> omega)] <;> try simp [go_sem]
  have rc2 : w1.cell? ⟨w.heap.size + 1, 2, none⟩ = some (.int .i64 0) := by rw [hc _ _ (by simp <;> omega)] <;> try simp [go_sem]
  have rc3 : w1.cell? ⟨w.heap.size + 1, 3, none⟩ = some (.bool false) := by rw [hc _ _ (by simp <;> omega)] <;> try simp [go_sem]
  have rc4 : w1.cell? ⟨w.heap.size + 1, 4, none⟩ = some (.string ⟨#[]⟩) := by rw [hc _ _ (by simp <;> omega)] <;> try simp [go_sem]
  have rc5 : w1.cell? ⟨w.heap.size + 1, 5, none⟩ = some (.int .i64 0) := by rw [hc _ _ (by simp <;> omega)] <;> try simp [go_sem]
  have rf0 : w1.frozen? ⟨w.heap.size + 1, 0, none⟩ = false := by rw [hf _ _ (by simp <;> omega)] <;> try simp [go_sem]
  have rf1 : w1.frozen? ⟨w.heap.size + 1, 1, none⟩ = false := by rw [hf _ _ (by simp <;> omega)] <;> try simp [go_sem]
  have rf2 : w1.frozen? ⟨w.heap.size + 1, 2, none⟩ = false := by rw [hf _ _ (by simp <;> omega)] <;> try simp [go_sem]
  have rf3 : w1.frozen? ⟨w.heap.size + 1, 3, none⟩ = false := by rw [hf _ _ (by simp <;> omega)] <;> try simp [go_sem]
  have rf4 : w1.frozen? ⟨w.heap.size + 1, 4, none⟩ = false := by rw [hf _ _ (by simp <;> omega)] <;> try simp [go_sem]
  have rf5 : w1.frozen? ⟨w.heap.size + 1, 5, none⟩ = false := by rw [hf _ _ (by simp <;> omega)] <;> try simp [go_sem]
  have M0 := Lib.hid m0
  have M1 := Lib.hid m1
  have M2 := Lib.hid m2
  have M3 := Lib.hid m3
  have M4 := Lib.hid m4
  have M5 := Lib.hid m5
  have RC0 := Lib.hid rc0
  have RC1 := Lib.hid rc1
  have RC2 := Lib.hid rc2
  have RC3 := Lib.hid rc3
  have RC4 := Lib.hid rc4
  have RC5 := Lib.hid rc5
  have RF0 := Lib.hid rf0
  have RF1 := Lib.hid rf1
  have RF2 := Lib.hid rf2
  have RF3 := Lib.hid rf3
  have RF4 := Lib.hid rf4
  have RF5 := Lib.hid rf5
  clear hc hf hb HC m0 rc0 rf0 m1 rc1 rf1 m2 rc2 rf2 m3 rc3 rf3 m4 rc4 rf4 m5 rc5 rf5
  try clear z0 z1
  go_wp2_with (go_at_call 37; (refine (HW.out _ HT1.out HS1.out).mono ?_); rintro e w2 ⟨v, rfl, hown, hb'⟩; obtain ⟨A1, c1, rfl, hs1⟩ := seq_of_own6 hown; have HS2 := Lib.hid hs1; have HB2 := Lib.hid hb'; clear hown hs1 hb'; have HT2 := Lib.hid (HT1.out.below HB2.out))
  go_loopw [6, 26] (fun u i wr => ∃ k : Nat, k ≤ n ∧ i = .int .i64 k ∧ wr.ownsRow w2.heap.size 31 6 u (k - 1) (zcells ((zsl l).take (k - 1))) ∧ Below w2.heap.size w2 wr) (fun _ i _ => n - (intOf i).toNat)
  case atStart => exact ⟨0, Nat.zero_le _, rfl, World.ownsRow_nil _ _ _ _, Below.refl _ _⟩
  case round =>
    obtain ⟨k, hk, rfl, hown, hnx⟩ := hrel
    by_cases hlt : k < n
    · obtain ⟨b, o, rfl, hbb, a0, a1, a2, a3, a4, a5⟩ := (HS2.out.below hnx (Nat.le_refl _)).zat (k := k) (by have := HL.out; omega)
      have i0' : (0 : Int) ≤ (k : Int) := by omega
      have i1 : (k : Int) < (n : Int) := by omega
      have hsz0 := hnx.size
      by_cases hz : k = 0
      · subst hz
        simp only [Nat.zero_mul, Nat.add_zero] at a0 a1 a2 a3 a4 a5
        go_wp2
        go_roundw
        case rel => exact ⟨1, by omega, rfl, hown.alloc _, hnx.alloc hsz0 _⟩
        case measure => simp [intOf]; omega
      · have hk1 : 1 ≤ k := by omega
        have hkz : ((k : Int) = 0) = False := by simp; omega
        have HTr := Lib.hid (HT2.out.below hnx)
        have HK1 := Lib.hid (zb_zr (k := k) (by omega))
        have HK2 := Lib.hid (HCL.out k hlt)
        have HFC := Lib.hid (fc_zr (k := k) (by omega))
        go_wp2_with (first
          | (go_at_call 22; refine (gz_complex HFC.out _ (HTr.out.below (alloc_below _ _))).mono ?_; rintro e w3 ⟨rfl, hb3⟩; have s3 := hb3.size; simp only [heap_size_alloc'] at s3; have l3 : wr.heap.size < w3.heap.size := (by omega); have c0 : w3.cell? ⟨wr.heap.size, 0, none⟩ = some (.bool (dn (wd (nthZ l k).re))) := (hb3.cell (p := ⟨wr.heap.size, 0, none⟩) (by simp)).trans (by simp [go_sem]); have c1 : w3.cell? ⟨wr.heap.size, 1, none⟩ = some (.string (ds (wd (nthZ l k).re))) := (hb3.cell (p := ⟨wr.heap.size, 1, none⟩) (by simp)).trans (by simp [go_sem]); have c2 : w3.cell? ⟨wr.heap.size, 2, none⟩ = some (.int .i64 (wd (nthZ l k).re).e) := (hb3.cell (p := ⟨wr.heap.size, 2, none⟩) (by simp)).trans (by simp [go_sem]); have c3 : w3.cell? ⟨wr.heap.size, 3, none⟩ = some (.bool (dn (wd (nthZ l k).im))) := (hb3.cell (p := ⟨wr.heap.size, 3, none⟩) (by simp)).trans (by simp [go_sem]); have c4 : w3.cell? ⟨wr.heap.size, 4, none⟩ = some (.string (ds (wd (nthZ l k).im))) := (hb3.cell (p := ⟨wr.heap.size, 4, none⟩) (by simp)).trans (by simp [go_sem]); have c5 : w3.cell? ⟨wr.heap.size, 5, none⟩ = some (.int .i64 (wd (nthZ l k).im).e) := (hb3.cell (p := ⟨wr.heap.size, 5, none⟩) (by simp)).trans (by simp [go_sem]); have HT3 := Lib.hid (HTr.out.below (below_of (alloc_below wr _) hb3 (by simp))); have HB3 := Lib.hid hb3; clear hb3)
          | (go_at_call 16; refine (gz_mul (zr (k : Int)) (nthZ l k) HK1.out HK2.out _ (HT3.out.below (alloc_below _ _))).mono ?_; rintro e w4 ⟨rfl, hb4⟩)
          | (at_builtin; refine wpList_append_own _ rfl _ _ 49 rfl w2.heap.size 31 i0 (.agg #[.bool false, .string ⟨#[]⟩, .int .i64 0, .bool false, .string ⟨#[]⟩, .int .i64 0]) 6 64 Tryz.underlying49 hi hz0 hz1 hz2 rfl (by decide) _ _ _ rfl (((own_below (own_below (hown.alloc _) HB3.out |>.alloc _) hb4).alloc _).alloc _) ⟨w4.heap.size + 1, 0, none⟩ 1 1 (gcells (zmul (zr (k : Int)) (nthZ l k))) rfl rfl ?c1 ?c2 ?c3 ?c4 ?c5 ?_))
        case c1 =>
          have := gauss_new (w4.alloc (.cells #[.bool (dn (wd (zmul (zr (k : Int)) (nthZ l k)).re)), .string (ds (wd (zmul (zr (k : Int)) (nthZ l k)).re)), .int .i64 (wd (zmul (zr (k : Int)) (nthZ l k)).re).e, .bool (dn (wd (zmul (zr (k : Int)) (nthZ l k)).im)), .string (ds (wd (zmul (zr (k : Int)) (nthZ l k)).im)), .int .i64 (wd (zmul (zr (k : Int)) (nthZ l k)).im).e] 31)) (zmul (zr (k : Int)) (nthZ l k)) 31
          rw [heap_size_alloc'] at this
          exact this
        case c2 => intro u hu; simp [gcells] at hu; rcases hu with rfl | rfl | rfl | rfl | rfl | rfl <;> rfl
        case c3 => unfold maxLen; omega
        case c4 => omega
        case c5 => have := hnx.size; have := hb4.size; simp at *; omega
        intro v' w5 hown' hgrow _
        have s4 := hb4.size
        simp only [heap_size_alloc'] at s4
        have z2 : w2.heap.size ≤ wr.heap.size := hsz0
        have s3 := HB3.out.size
        simp only [heap_size_alloc'] at s3
        have HB4 := below_of ((below_of (alloc_below wr _) HB3.out (by simp)).alloc (by omega) _) hb4 (by simp; omega)
        have hnx' : Below w2.heap.size w2 w5 := (show Below w2.heap.size w2 _ from ((hnx.trans (HB4.mono hsz0)).alloc (by omega) _).alloc (by simp; omega) _).grown hgrow (by simp; omega) (fun q hq => (hown.lt q hq).1)
        have hown2 : w5.ownsRow w2.heap.size 31 6 v' (k + 1 - 1) (zcells ((zsl l).take (k + 1 - 1))) := by
          have e : k + 1 - 1 = k - 1 + 1 := by omega
          have e2 : k - 1 + 1 = k := by omega
          rw [e, zcells_take (by rw [slope_length]; have := HL.out; omega), slope_nth hk1 (by have := HL.out; omega)]
          rw [e2]
          first | exact hown' | (rw [e2] at hown'; exact hown')
        clear hown' hgrow hown hb4 HB4 HB3 HT3 HTr c0 c1 c2 c3 c4 c5
        go_wp2
        go_roundw
        case rel => exact ⟨k + 1, by omega, by go_num, hown2, hnx'⟩
        case measure => simp [intOf]; omega
    · obtain rfl : k = n := by omega
      rw [show k - 1 = (zsl l).length by rw [slope_length, HL.out], List.take_length] at hown
      rw [slope_length, HL.out] at hown
      obtain ⟨A3, c3, rfl, hs3⟩ := seq_of_own6 hown
      have HS3 := Lib.hid hs3
      have HT4 := Lib.hid (HT2.out.below hnx)
      have HB6 := Lib.hid (below_of HB2.out hnx HB2.out.size)
      have l0' := Nat.lt_of_lt_of_le l0 HB6.out.size
      have l1' := Nat.lt_of_lt_of_le l1 HB6.out.size
      clear hown hs3 hnx
      have q0 := (HB6.out.cell (p := ⟨w.heap.size, 0, none⟩) l0).trans M0.out
      have q1 := (HB6.out.cell (p := ⟨w.heap.size, 1, none⟩) l0).trans M1.out
      have q2 := (HB6.out.cell (p := ⟨w.heap.size, 2, none⟩) l0).trans M2.out
      have q3 := (HB6.out.cell (p := ⟨w.heap.size, 3, none⟩) l0).trans M3.out
      have q4 := (HB6.out.cell (p := ⟨w.heap.size, 4, none⟩) l0).trans M4.out
      have q5 := (HB6.out.cell (p := ⟨w.heap.size, 5, none⟩) l0).trans M5.out
      go_wp2_with (go_at_call 36; (refine (HX.out _ _ _ HT4.out HS3.out).mono ?_); rintro e w5 ⟨rfl, hb'⟩; have HB5 := Lib.hid (below_of HB6.out hb' HB6.out.size); clear hb'; have t0 := (HB5.out.cell (p := ⟨w.heap.size + 1, 0, none⟩) l1).trans RC0.out; have tf0 := (HB5.out.frozen (p := ⟨w.heap.size + 1, 0, none⟩) l1).trans RF0.out; have t1 := (HB5.out.cell (p := ⟨w.heap.size + 1, 1, none⟩) l1).trans RC1.out; have tf1 := (HB5.out.frozen (p := ⟨w.heap.size + 1, 1, none⟩) l1).trans RF1.out; have t2 := (HB5.out.cell (p := ⟨w.heap.size + 1, 2, none⟩) l1).trans RC2.out; have tf2 := (HB5.out.frozen (p := ⟨w.heap.size + 1, 2, none⟩) l1).trans RF2.out; have t3 := (HB5.out.cell (p := ⟨w.heap.size + 1, 3, none⟩) l1).trans RC3.out; have tf3 := (HB5.out.frozen (p := ⟨w.heap.size + 1, 3, none⟩) l1).trans RF3.out; have t4 := (HB5.out.cell (p := ⟨w.heap.size + 1, 4, none⟩) l1).trans RC4.out; have tf4 := (HB5.out.frozen (p := ⟨w.heap.size + 1, 4, none⟩) l1).trans RF4.out; have t5 := (HB5.out.cell (p := ⟨w.heap.size + 1, 5, none⟩) l1).trans RC5.out; have tf5 := (HB5.out.frozen (p := ⟨w.heap.size + 1, 5, none⟩) l1).trans RF5.out)
      have hbw : Below w.heap.size w w5 := HB1.out.trans (HB5.out.mono HB1.out.size)
      exact bodyPost_ret (v := .tuple #[.agg #[.bool rna, .string rsa, .int .i64 rxa, .bool rnb, .string rsb, .int .i64 rxb], .int .i64 0]) (by simp [results, Tryz.results17, go_sem, t0, t1, t2, t3, t4, t5]) rfl ⟨rfl, ((((((hbw.setCell (by show w.heap.size ≤ w.heap.size + 1; omega) _).setCell (by show w.heap.size ≤ w.heap.size + 1; omega) _).setCell (by show w.heap.size ≤ w.heap.size + 1; omega) _).setCell (by show w.heap.size ≤ w.heap.size + 1; omega) _).setCell (by show w.heap.size ≤ w.heap.size + 1; omega) _).setCell (by show w.heap.size ≤ w.heap.size + 1; omega) _)⟩
end Go.Proofs.YtbgjcpnbdgljbaaGreatDoor
