/- The contracts of package wide's digits: cut, cmp. -/
import Derived.Test.YtbgjcpnbdgljbaaGreatDoorMPol
import Derived.Test.YtbgjcpnbdgljbaaGreatDoorMDig
import Derived.Deep.QuietTactic
import Derived.BigQuiet
import Derived.Laws.BitsAllLaws
namespace Go.Proofs.YtbgjcpnbdgljbaaGreatDoor
open Go.RowKit Go.Fil

def slLen : Value → Nat | .slice _ k _ => k | _ => 0
def u32v (d : Nat) : Value := .int .u32 (d : Int)
/-- A digit's cell. -/
theorem Seq.dat {w : World} {B : Nat} {A : Option Addr} {l : List Nat} (h : Seq w B A (l.map u32v)) {k : Nat} (hk : k < l.length) :
    ∃ b o, A = some ⟨b, o, none⟩ ∧ b < B ∧ w.cell? ⟨b, o + k, none⟩ = some (.int .u32 (nd l k : Int)) := by
  have h0 : (l.map u32v)[k]? = some (u32v (nd l k)) := by rw [List.getElem?_map, nd_some hk]; rfl
  rcases h with h | ⟨b, o, hA, hb, hc⟩
  · rw [h] at h0; simp at h0
  · exact ⟨b, o, hA, hb, hc _ _ h0⟩
theorem Seq.take {w : World} {B : Nat} {A : Option Addr} {xs : List Value} (h : Seq w B A xs) (k : Nat) : Seq w B A (xs.take k) := by
  rcases h with h | ⟨b, o, hA, hb, hc⟩
  · exact .inl (by rw [h]; simp)
  · refine .inr ⟨b, o, hA, hb, fun j u hj => hc j u ?_⟩
    rw [List.getElem?_take] at hj
    split at hj
    · exact hj
    · cases hj
set_option maxHeartbeats 800000 in
theorem cut_any (A : Option Addr) (n cap : Nat) (l : List Nat) (hn : l.length = n) (hcap : n ≤ cap) (hm : n ≤ 9223372036854775807) (hok : dok l) (B : Nat) (w : World) (hs : Seq w B A (l.map u32v)) :
    Calls Tryz.prog 186 #[.slice A n cap] w fun e w' => e = .returned (.slice A (dig (val l)).length cap) ∧ l.take (dig (val l)).length = dig (val l) ∧ w = w' := by
  have HS := Lib.hid hs
  have HN := Lib.hid hn
  have HOK := Lib.hid hok
  clear hs hn hok
  go_enter Tryz.func186, Tryz.ntmps186
  go_wp2
  go_loopw [0] (fun v wr => ∃ k : Nat, k ≤ n ∧ v = .slice A k cap ∧ Hid (val (l.take k) = val l) ∧ wr = w) (fun v _ => slLen v)
  case atStart => exact ⟨n, Nat.le_refl _, rfl, by rw [List.take_of_length_le (by have := HN.out; omega)]; exact Lib.hid rfl, rfl⟩
  case round =>
    obtain ⟨k, hk, rfl, hv, rfl⟩ := hrel
    have hfin : ∀ j, j ≤ n → val (l.take j) = val l → (j = 0 ∨ nd l (j - 1) ≠ 0) → (dig (val l)).length = j ∧ l.take j = dig (val l) := by
      intro j hj hvj hcj
      have hd := take_dig HOK.out hvj hcj (by rw [HN.out]; exact hj)
      exact ⟨by rw [← hd, List.length_take, HN.out]; omega, hd⟩
    have HF := Lib.hid hfin
    clear hfin
    cases k with
    | zero =>
      go_wp2
      go_ret
      obtain ⟨e1, e2⟩ := HF.out 0 (Nat.zero_le _) hv.out (.inl rfl)
      rw [e1]
      exact ⟨rfl, e2, rfl⟩
    | succ k =>
      obtain ⟨b, o, rfl, hb, hcl⟩ := HS.out.dat (k := k) (by have := HN.out; omega)
      have i0 : (0 : Int) ≤ (k : Int) := by omega
      have i2 : (k : Int) ≤ 9223372036854775807 := by omega
      have i3 : (k : Int) ≤ (cap : Int) := by omega
      have i1 : (k : Int) < (k : Int) + 1 := by omega
      cases hz : ((nd l k : Int) == 0)
      · have HZ := Lib.hid hz
        go_wp2
        go_ret
        have hz' := HZ.out
        rw [beq_eq_false_iff_ne] at hz'
        obtain ⟨e1, e2⟩ := HF.out (k + 1) hk hv.out (.inr (by rw [Nat.add_sub_cancel]; omega))
        rw [e1]
        exact ⟨rfl, e2, rfl⟩
      · have HZ := Lib.hid hz
        go_wp2
        have hz' := HZ.out
        rw [beq_iff_eq] at hz'
        have hv2 : val (l.take k) = val l := by
          have h1 := hv.out
          rw [val_take_nd, show nd l k = 0 by omega] at h1
          simpa using h1
        exact ⟨⟨k, by omega, rfl, hv2, trivial⟩, by simp [slLen]⟩
/-- What a comparison answers. -/
def cmpS (a b : Nat) : Int := if a < b then -1 else if a = b then 0 else 1
theorem cmpS_lt {a b : Nat} (h : a < b) : cmpS a b = -1 := by simp [cmpS, h]
theorem cmpS_gt {a b : Nat} (h : b < a) : cmpS a b = 1 := by unfold cmpS; rw [if_neg (by omega), if_neg (by omega)]
theorem cmpS_eq (a : Nat) : cmpS a a = 0 := by simp [cmpS]
set_option maxHeartbeats 1600000 in
theorem cmp_any (A1 A2 : Option Addr) (c1 c2 a b : Nat) (h1 : (dig a).length ≤ 9223372036854775807) (h2 : (dig b).length ≤ 9223372036854775807) (B : Nat) (w : World) (hs1 : Seq w B A1 ((dig a).map u32v)) (hs2 : Seq w B A2 ((dig b).map u32v)) :
    Calls Tryz.prog 154 #[.slice A1 (dig a).length c1, .slice A2 (dig b).length c2] w fun e w' => e = .returned (.int .i64 (cmpS a b)) ∧ ∃ j, w.drewN j = w' := by
  generalize hn1 : (dig a).length = n1 at h1
  generalize hn2 : (dig b).length = n2 at h2
  have HS1 := Lib.hid hs1
  have HS2 := Lib.hid hs2
  have HN1 := Lib.hid hn1
  have HN2 := Lib.hid hn2
  clear hs1 hs2 hn1 hn2
  rcases Nat.lt_trichotomy n1 n2 with hlt | heq | hgt
  · have e1 : ((n1 : Int) != (n2 : Int)) = true := by simp; omega
    have e2 : (n1 : Int) < (n2 : Int) := by omega
    go_enter Tryz.func154, Tryz.ntmps154
    go_wp2
    go_ret
    rw [cmpS_lt (dig_len_lt (by have := HN1.out; have := HN2.out; omega))]
    exact ⟨rfl, 0, rfl⟩
  · subst heq
    go_enter Tryz.func154, Tryz.ntmps154
    go_wp2
    go_loopw [5] (fun i wr => ∃ k j : Nat, k ≤ n1 ∧ i = .int .i64 ((k : Int) - 1) ∧ Hid ((dig a).drop k = (dig b).drop k) ∧ wr = w.drewN j) (fun i _ => (intOf i + 1).toNat)
    case atStart => exact ⟨n1, 0, Nat.le_refl _, rfl, by show (dig a).drop n1 = (dig b).drop n1; rw [List.drop_of_length_le (Nat.le_of_eq HN1.out), List.drop_of_length_le (Nat.le_of_eq HN2.out)], rfl⟩
    case round =>
      obtain ⟨k, j, hk, rfl, hd, rfl⟩ := hrel
      cases k with
      | zero =>
        go_wp2
        go_ret
        have hd' := hd.out
        rw [List.drop_zero, List.drop_zero] at hd'
        rw [dig_inj hd', cmpS_eq]
        exact ⟨rfl, _, rfl⟩
      | succ k =>
        obtain ⟨b1, o1, rfl, hb1, hl1⟩ := HS1.out.dat (k := k) (by have := HN1.out; omega)
        obtain ⟨b2, o2, rfl, hb2, hl2⟩ := HS2.out.dat (k := k) (by have := HN2.out; omega)
        have i0 : (0 : Int) ≤ (k : Int) := by omega
        have i1 : (k : Int) < (n1 : Int) := by omega
        have e1 : (((k + 1 : Nat) : Int) - 1) = (k : Int) := by omega
        rw [e1]
        clear e1
        have HD := hd
        rcases Nat.lt_trichotomy (nd (dig a) k) (nd (dig b) k) with hl | hl | hl
        · have f1 : ((nd (dig a) k : Int) != (nd (dig b) k : Int)) = true := by simp; omega
          have f2 : (nd (dig a) k : Int) < (nd (dig b) k : Int) := by omega
          have HC := Lib.hid (cmp_lt (dig_ok a) hd.out (by have := HN1.out; omega) (by have := HN2.out; omega) hl)
          clear hl
          go_wp2_with fail
          go_quiet (fail)
          go_wp2_with fail
          go_quiet (fail)
          go_wp2
          go_ret
          have hc := HC.out
          rw [val_dig, val_dig] at hc
          rw [cmpS_lt hc]
          exact ⟨rfl, _, by rw [World.drewN_drewN, World.drewN_drewN]⟩
        · have f1 : ((nd (dig a) k : Int) != (nd (dig b) k : Int)) = false := by rw [hl]; simp
          have HL := Lib.hid hl
          clear hl
          go_wp2_with fail
          go_quiet (fail)
          go_wp2
          go_roundw
          case rel =>
            refine ⟨k, _, by omega, by go_num, ?_, rfl⟩
            show (dig a).drop k = (dig b).drop k
            have k1 : k < (dig a).length := by have := HN1.out; omega
            have k2 : k < (dig b).length := by have := HN2.out; omega
            rw [List.drop_eq_getElem_cons k1, List.drop_eq_getElem_cons k2, ← nd_eq k1, ← nd_eq k2, HL.out, HD.out]
          case measure => simp [intOf]
        · have f1 : ((nd (dig a) k : Int) != (nd (dig b) k : Int)) = true := by simp; omega
          have f2 : ¬ (nd (dig a) k : Int) < (nd (dig b) k : Int) := by omega
          have HC := Lib.hid (cmp_lt (dig_ok b) hd.out.symm (by have := HN2.out; omega) (by have := HN1.out; omega) hl)
          clear hl
          go_wp2_with fail
          go_quiet (fail)
          go_wp2_with fail
          go_quiet (fail)
          go_wp2
          go_ret
          have hc := HC.out
          rw [val_dig, val_dig] at hc
          rw [cmpS_gt hc]
          exact ⟨rfl, _, by rw [World.drewN_drewN, World.drewN_drewN]⟩
  · have e1 : ((n1 : Int) != (n2 : Int)) = true := by simp; omega
    have e2 : ¬ (n1 : Int) < (n2 : Int) := by omega
    go_enter Tryz.func154, Tryz.ntmps154
    go_wp2
    go_ret
    rw [cmpS_gt (dig_len_lt (by have := HN1.out; have := HN2.out; omega))]
    exact ⟨rfl, 0, rfl⟩
end Go.Proofs.YtbgjcpnbdgljbaaGreatDoor

/- The contract of package wide's digits: plus. -/
namespace Go.Proofs.YtbgjcpnbdgljbaaGreatDoor
open Go.RowKit Go.Fil

theorem Tryz.infoD : (Tryz.prog.info? 244).map (fun i => (i.zero, i.size, i.bytes)) = some (some (.int .u32 0), 1, 4) := by kernel_rfl
/-- The digits lie in a block of uint32. -/
def dty (w : World) (A : Option Addr) : Prop := ∀ b o, A = some ⟨b, o, none⟩ → ∃ cs, w.heap[b]? = some (.cells cs 244 (0, 0))
theorem own_dty {w : World} {base g n cap : Nat} {xs : List Value} (h : w.ownsRow base 244 1 (.slice (some ⟨g, 0, none⟩) n cap) n xs) : dty w (some ⟨g, 0, none⟩) := by
  intro b o hA
  injection hA with hA
  injection hA with h1 h2
  subst h1
  rcases h.2 with ⟨h', _⟩ | ⟨g', cap', cur, h', _, hg, _⟩
  · cases h'
  · injection h' with h3 h4 h5
    injection h3 with h3
    injection h3 with h3 _
    subst h3
    exact ⟨cur, hg⟩
/-- What a function on digits answers: the digits of a number, in new memory or old. -/
def RD (n : Nat) (w : World) (e : Ending) (w' : World) : Prop :=
  ∃ A c, e = .returned (.slice A (dig n).length c) ∧ (dig n).length ≤ c ∧ Seq w' w'.heap.size A ((dig n).map u32v) ∧ dty w' A ∧ Below w.heap.size w w'
theorem zeros_u32 (n : Nat) : (madeCells #[.int .u32 0] n).toList = (List.replicate n 0).map u32v := by
  rw [toList_madeCells_one, List.map_replicate]; rfl
theorem own_seq {w : World} {base e g n cap : Nat} {xs : List Value} (h : w.ownsRow base e 1 (.slice (some ⟨g, 0, none⟩) n cap) n xs) : Seq w w.heap.size (some ⟨g, 0, none⟩) xs := by
  refine .inr ⟨g, 0, rfl, (h.lt g rfl).2, fun j u hj => ?_⟩
  have hl := h.1
  have hjl := (List.getElem?_eq_some_iff.1 hj).1
  rw [Nat.zero_add, h.cellAt j (by omega), hj]
theorem set_u32 (l : List Nat) (j d : Nat) : (l.map u32v).set j (.int .u32 (d : Int)) = (l.set j d).map u32v := by rw [List.map_set]; rfl
set_option maxRecDepth 100000 in
set_option maxHeartbeats 3200000 in
theorem wplus_ge (A1 A2 : Option Addr) (c1 c2 a b : Nat) (hle : (dig b).length ≤ (dig a).length) (hb : (dig a).length ≤ 1099511627776) (w : World) (hs1 : Seq w w.heap.size A1 ((dig a).map u32v)) (hs2 : Seq w w.heap.size A2 ((dig b).map u32v)) :
    Calls Tryz.prog 155 #[.slice A1 (dig a).length c1, .slice A2 (dig b).length c2] w (RD (a + b) w) := by
  obtain ⟨i0, hi, hz0, hz1, hz2⟩ := info_parts Tryz.infoD
  generalize hn1 : (dig a).length = n1 at hle hb
  generalize hn2 : (dig b).length = n2 at hle 
  have HS1 := Lib.hid hs1
  have HS2 := Lib.hid hs2
  have HN1 := Lib.hid hn1
  have HN2 := Lib.hid hn2
  clear hs1 hs2 hn1 hn2
  have hle' : ¬ (n1 : Int) < (n2 : Int) := by omega
  have hp : (0 : Int) ≤ (n1 : Int) + 1 := by omega
  go_enter Tryz.func155, Tryz.ntmps155
  go_wp2_with (at_make; refine wpList_make_full _ rfl _ _ 181 rfl w.heap.size 244 i0 (.int .u32 0) 1 Tryz.underlying181 hi hz0 hz1 _ _ _ _ (n1 + 1) rfl rfl (by omega) (by omega) ?b2 ?b3 (Nat.le_refl _) ?_)
  case b2 => first | omega | (rw [hz2]; omega)
  case b3 => unfold maxLen; omega
  intro w1 hown hgrow
  have hb1 : Below w.heap.size w w1 := (Below.refl _ _).grown hgrow (Nat.le_refl _) (fun k hk => by cases hk)
  rw [zeros_u32] at hown
  have HOWN := Lib.hid hown
  have HB1 := Lib.hid hb1
  clear hown hgrow hb1
  go_wp2
  go_loopw [6, 21] (fun cv i wr => ∃ (k c : Nat) (os : List Nat), k ≤ n1 ∧ cv = .int .u64 (c : Int) ∧ i = .int .i64 (k : Int) ∧ c ≤ 1 ∧ os.length = n1 + 1 ∧ Hid (dok os) ∧ Hid (val os + 4294967296 ^ k * c = val ((dig a).take k) + val ((dig b).take k)) ∧ Hid (∀ j, k ≤ j → nd os j = 0) ∧
      wr.ownsRow w.heap.size 244 1 (.slice (some ⟨w.heap.size, 0, none⟩) (n1 + 1) (n1 + 1)) (n1 + 1) (os.map u32v) ∧ Below w.heap.size w wr) (fun _ i _ => n1 - (intOf i).toNat)
  case atStart => exact ⟨0, 0, List.replicate (n1 + 1) 0, Nat.zero_le _, rfl, rfl, Nat.zero_le _, by simp, Lib.hid (dok_zeros _), Lib.hid (by rw [val_zeros]; simp [val]), Lib.hid (fun j _ => nd_zeros _ j), HOWN.out, HB1.out⟩
  case round =>
    obtain ⟨k, c, os, hk, rfl, rfl, hc1, hlen, hdo, hv, hzr, hown, hbe⟩ := hrel
    by_cases hlt : k < n1
    · obtain ⟨bb, o, rfl, hbb, hcl⟩ := (HS1.out.below hbe (Nat.le_refl _)).dat (k := k) (by have := HN1.out; omega)
      have i0' : (0 : Int) ≤ (k : Int) := by omega
      have i1 : (k : Int) < (n1 : Int) := by omega
      have i2 : (k : Int) < (n1 : Int) + 1 := by omega
      have d1 := nd_lt (dig_ok a) k
      have HOWN2 := Lib.hid hown
      have HBE := Lib.hid hbe
      have hfz : wr.frozen? ⟨w.heap.size, k, none⟩ = false := hown.frozenAt k
      have hcu : wr.cell? ⟨w.heap.size, k, none⟩ = some (.int .u32 (nd os k : Int)) := by
        rw [hown.cellAt k (by omega), List.getElem?_map, nd_some (by omega)]; rfl
      clear hown hbe
      by_cases hlt2 : k < n2
      · obtain ⟨bb2, o2, rfl, hbb2, hcl2⟩ := (HS2.out.below HBE.out (Nat.le_refl _)).dat (k := k) (by have := HN2.out; omega)
        have j1 : (k : Int) < (n2 : Int) := by omega
        have d2 := nd_lt (dig_ok b) k
        go_wp2
        have hsum : c + (nd (dig a) k + nd (dig b) k) < 8589934592 := by omega
        have em : ((c : Int) + (nd (dig a) k : Int) + (nd (dig b) k : Int)) % 4294967296 = (((c + (nd (dig a) k + nd (dig b) k)) % 4294967296 : Nat) : Int) := by omega
        have ed : ((c : Int) + (nd (dig a) k : Int) + (nd (dig b) k : Int)) / 4294967296 = (((c + (nd (dig a) k + nd (dig b) k)) / 4294967296 : Nat) : Int) := by omega
        rw [em, ed]
        have hst := plus_step hv.out (hzr.out k (Nat.le_refl _)) (by omega) (nd (dig a) k + nd (dig b) k) rfl
        refine ⟨⟨k + 1, (c + (nd (dig a) k + nd (dig b) k)) / 4294967296, os.set k ((c + (nd (dig a) k + nd (dig b) k)) % 4294967296), by omega, rfl, by go_num, by omega, by simpa using hlen, Lib.hid (dok_set hdo.out (Nat.mod_lt _ (by decide)) k), Lib.hid ?_, Lib.hid (fun j hj => ?_), ?_, HBE.out.setCell (Nat.le_refl _) _⟩, by simp [intOf]; omega⟩
        · rw [hst, val_take_nd, val_take_nd, Nat.mul_add]; omega
        · rw [nd_set_ne _ _ (by omega)]; exact hzr.out j (by omega)
        · rw [← set_u32]; exact (HOWN2.out.stored k _).1
      · have j1 : ¬ (k : Int) < (n2 : Int) := by omega
        have d2 : nd (dig b) k = 0 := nd_out (by have := HN2.out; omega)
        have D2 := Lib.hid d2
        clear d2
        go_wp2
        have d2 := D2.out
        have hsum : c + (nd (dig a) k + nd (dig b) k) < 8589934592 := by omega
        have em : ((c : Int) + (nd (dig a) k : Int)) % 4294967296 = (((c + (nd (dig a) k + nd (dig b) k)) % 4294967296 : Nat) : Int) := by omega
        have ed : ((c : Int) + (nd (dig a) k : Int)) / 4294967296 = (((c + (nd (dig a) k + nd (dig b) k)) / 4294967296 : Nat) : Int) := by omega
        rw [em, ed]
        have hst := plus_step hv.out (hzr.out k (Nat.le_refl _)) (by omega) (nd (dig a) k + nd (dig b) k) rfl
        refine ⟨⟨k + 1, (c + (nd (dig a) k + nd (dig b) k)) / 4294967296, os.set k ((c + (nd (dig a) k + nd (dig b) k)) % 4294967296), by omega, rfl, by go_num, by omega, by simpa using hlen, Lib.hid (dok_set hdo.out (Nat.mod_lt _ (by decide)) k), Lib.hid ?_, Lib.hid (fun j hj => ?_), ?_, HBE.out.setCell (Nat.le_refl _) _⟩, by simp [intOf]; omega⟩
        · rw [hst, val_take_nd, val_take_nd, Nat.mul_add]; omega
        · rw [nd_set_ne _ _ (by omega)]; exact hzr.out j (by omega)
        · rw [← set_u32]; exact (HOWN2.out.stored k _).1
    · obtain rfl : k = n1 := by omega
      have HOWN2 := Lib.hid hown
      have HBE := Lib.hid hbe
      have hfz : wr.frozen? ⟨w.heap.size, k, none⟩ = false := hown.frozenAt k
      have hcu : wr.cell? ⟨w.heap.size, k, none⟩ = some (.int .u32 (nd os k : Int)) := by
        rw [hown.cellAt k (by omega), List.getElem?_map, nd_some (by omega)]; rfl
      clear hown hbe
      have i0' : (0 : Int) ≤ (k : Int) := by omega
      have i2 : (k : Int) < (k : Int) + 1 := by omega
      go_wp2_with fail
      have hval : val (os.set k c) = a + b := by
        have h1 := val_set c (show k < os.length by omega)
        rw [hzr.out k (Nat.le_refl _)] at h1
        have h2 := hv.out
        rw [List.take_of_length_le (by have := HN1.out; have := HN2.out; omega), List.take_of_length_le (by have := HN1.out; have := HN2.out; omega), val_dig, val_dig] at h2
        omega
      have hown3 := (HOWN2.out.stored k (.int .u32 (c : Int))).1
      rw [set_u32] at hown3
      have hdo3 : dok (os.set k c) := dok_set hdo.out (by omega) k
      have HOWN3 := Lib.hid hown3
      have HVAL := Lib.hid hval
      have HDO3 := Lib.hid hdo3
      clear hown3 hval hdo3
      refine (cut_any _ (k + 1) (k + 1) (os.set k c) (by simpa using hlen) (Nat.le_refl _) (by omega) HDO3.out _ _ (own_seq HOWN3.out)).mono ?_
      rintro e w' ⟨rfl, hd, rfl⟩
      rw [HVAL.out] at hd ⊢
      go_wp2
      go_ret
      refine ⟨_, _, rfl, ?_, ?_, own_dty HOWN3.out, HBE.out.setCell (Nat.le_refl _) _⟩
      · have h5 := congrArg List.length hd
        rw [List.length_take, List.length_set, hlen] at h5
        omega
      · have h6 := (own_seq HOWN3.out).take (dig (a + b)).length
        rw [← List.map_take, hd] at h6
        exact h6
set_option maxRecDepth 100000 in
set_option maxHeartbeats 3200000 in
theorem wplus_lt (A1 A2 : Option Addr) (c1 c2 a b : Nat) (hle : (dig a).length < (dig b).length) (hb : (dig b).length ≤ 1099511627776) (w : World) (hs1 : Seq w w.heap.size A1 ((dig a).map u32v)) (hs2 : Seq w w.heap.size A2 ((dig b).map u32v)) :
    Calls Tryz.prog 155 #[.slice A1 (dig a).length c1, .slice A2 (dig b).length c2] w (RD (a + b) w) := by
  obtain ⟨i0, hi, hz0, hz1, hz2⟩ := info_parts Tryz.infoD
  generalize hn1 : (dig a).length = n1 at hle 
  generalize hn2 : (dig b).length = n2 at hle hb
  have HS1 := Lib.hid hs1
  have HS2 := Lib.hid hs2
  have HN1 := Lib.hid hn1
  have HN2 := Lib.hid hn2
  clear hs1 hs2 hn1 hn2
  have hle' : (n1 : Int) < (n2 : Int) := by omega
  have hp : (0 : Int) ≤ (n2 : Int) + 1 := by omega
  go_enter Tryz.func155, Tryz.ntmps155
  go_wp2_with (at_make; refine wpList_make_full _ rfl _ _ 181 rfl w.heap.size 244 i0 (.int .u32 0) 1 Tryz.underlying181 hi hz0 hz1 _ _ _ _ (n2 + 1) rfl rfl (by omega) (by omega) ?b2 ?b3 (Nat.le_refl _) ?_)
  case b2 => first | omega | (rw [hz2]; omega)
  case b3 => unfold maxLen; omega
  intro w1 hown hgrow
  have hb1 : Below w.heap.size w w1 := (Below.refl _ _).grown hgrow (Nat.le_refl _) (fun k hk => by cases hk)
  rw [zeros_u32] at hown
  have HOWN := Lib.hid hown
  have HB1 := Lib.hid hb1
  clear hown hgrow hb1
  go_wp2
  go_loopw [6, 21] (fun cv i wr => ∃ (k c : Nat) (os : List Nat), k ≤ n2 ∧ cv = .int .u64 (c : Int) ∧ i = .int .i64 (k : Int) ∧ c ≤ 1 ∧ os.length = n2 + 1 ∧ Hid (dok os) ∧ Hid (val os + 4294967296 ^ k * c = val ((dig a).take k) + val ((dig b).take k)) ∧ Hid (∀ j, k ≤ j → nd os j = 0) ∧
      wr.ownsRow w.heap.size 244 1 (.slice (some ⟨w.heap.size, 0, none⟩) (n2 + 1) (n2 + 1)) (n2 + 1) (os.map u32v) ∧ Below w.heap.size w wr) (fun _ i _ => n2 - (intOf i).toNat)
  case atStart => exact ⟨0, 0, List.replicate (n2 + 1) 0, Nat.zero_le _, rfl, rfl, Nat.zero_le _, by simp, Lib.hid (dok_zeros _), Lib.hid (by rw [val_zeros]; simp [val]), Lib.hid (fun j _ => nd_zeros _ j), HOWN.out, HB1.out⟩
  case round =>
    obtain ⟨k, c, os, hk, rfl, rfl, hc1, hlen, hdo, hv, hzr, hown, hbe⟩ := hrel
    by_cases hlt : k < n2
    · obtain ⟨bb, o, rfl, hbb, hcl⟩ := (HS2.out.below hbe (Nat.le_refl _)).dat (k := k) (by have := HN2.out; omega)
      have i0' : (0 : Int) ≤ (k : Int) := by omega
      have i1 : (k : Int) < (n2 : Int) := by omega
      have i2 : (k : Int) < (n2 : Int) + 1 := by omega
      have d1 := nd_lt (dig_ok b) k
      have HOWN2 := Lib.hid hown
      have HBE := Lib.hid hbe
      have hfz : wr.frozen? ⟨w.heap.size, k, none⟩ = false := hown.frozenAt k
      have hcu : wr.cell? ⟨w.heap.size, k, none⟩ = some (.int .u32 (nd os k : Int)) := by
        rw [hown.cellAt k (by omega), List.getElem?_map, nd_some (by omega)]; rfl
      clear hown hbe
      by_cases hlt2 : k < n1
      · obtain ⟨bb2, o2, rfl, hbb2, hcl2⟩ := (HS1.out.below HBE.out (Nat.le_refl _)).dat (k := k) (by have := HN1.out; omega)
        have j1 : (k : Int) < (n1 : Int) := by omega
        have d2 := nd_lt (dig_ok a) k
        go_wp2
        have hsum : c + (nd (dig b) k + nd (dig a) k) < 8589934592 := by omega
        have em : ((c : Int) + (nd (dig b) k : Int) + (nd (dig a) k : Int)) % 4294967296 = (((c + (nd (dig b) k + nd (dig a) k)) % 4294967296 : Nat) : Int) := by omega
        have ed : ((c : Int) + (nd (dig b) k : Int) + (nd (dig a) k : Int)) / 4294967296 = (((c + (nd (dig b) k + nd (dig a) k)) / 4294967296 : Nat) : Int) := by omega
        rw [em, ed]
        have hst := plus_step hv.out (hzr.out k (Nat.le_refl _)) (by omega) (nd (dig b) k + nd (dig a) k) rfl
        refine ⟨⟨k + 1, (c + (nd (dig b) k + nd (dig a) k)) / 4294967296, os.set k ((c + (nd (dig b) k + nd (dig a) k)) % 4294967296), by omega, rfl, by go_num, by omega, by simpa using hlen, Lib.hid (dok_set hdo.out (Nat.mod_lt _ (by decide)) k), Lib.hid ?_, Lib.hid (fun j hj => ?_), ?_, HBE.out.setCell (Nat.le_refl _) _⟩, by simp [intOf]; omega⟩
        · rw [hst, val_take_nd, val_take_nd, Nat.mul_add]; omega
        · rw [nd_set_ne _ _ (by omega)]; exact hzr.out j (by omega)
        · rw [← set_u32]; exact (HOWN2.out.stored k _).1
      · have j1 : ¬ (k : Int) < (n1 : Int) := by omega
        have d2 : nd (dig a) k = 0 := nd_out (by have := HN1.out; omega)
        have D2 := Lib.hid d2
        clear d2
        go_wp2
        have d2 := D2.out
        have hsum : c + (nd (dig b) k + nd (dig a) k) < 8589934592 := by omega
        have em : ((c : Int) + (nd (dig b) k : Int)) % 4294967296 = (((c + (nd (dig b) k + nd (dig a) k)) % 4294967296 : Nat) : Int) := by omega
        have ed : ((c : Int) + (nd (dig b) k : Int)) / 4294967296 = (((c + (nd (dig b) k + nd (dig a) k)) / 4294967296 : Nat) : Int) := by omega
        rw [em, ed]
        have hst := plus_step hv.out (hzr.out k (Nat.le_refl _)) (by omega) (nd (dig b) k + nd (dig a) k) rfl
        refine ⟨⟨k + 1, (c + (nd (dig b) k + nd (dig a) k)) / 4294967296, os.set k ((c + (nd (dig b) k + nd (dig a) k)) % 4294967296), by omega, rfl, by go_num, by omega, by simpa using hlen, Lib.hid (dok_set hdo.out (Nat.mod_lt _ (by decide)) k), Lib.hid ?_, Lib.hid (fun j hj => ?_), ?_, HBE.out.setCell (Nat.le_refl _) _⟩, by simp [intOf]; omega⟩
        · rw [hst, val_take_nd, val_take_nd, Nat.mul_add]; omega
        · rw [nd_set_ne _ _ (by omega)]; exact hzr.out j (by omega)
        · rw [← set_u32]; exact (HOWN2.out.stored k _).1
    · obtain rfl : k = n2 := by omega
      have HOWN2 := Lib.hid hown
      have HBE := Lib.hid hbe
      have hfz : wr.frozen? ⟨w.heap.size, k, none⟩ = false := hown.frozenAt k
      have hcu : wr.cell? ⟨w.heap.size, k, none⟩ = some (.int .u32 (nd os k : Int)) := by
        rw [hown.cellAt k (by omega), List.getElem?_map, nd_some (by omega)]; rfl
      clear hown hbe
      have i0' : (0 : Int) ≤ (k : Int) := by omega
      have i2 : (k : Int) < (k : Int) + 1 := by omega
      go_wp2_with fail
      have hval : val (os.set k c) = a + b := by
        have h1 := val_set c (show k < os.length by omega)
        rw [hzr.out k (Nat.le_refl _)] at h1
        have h2 := hv.out
        rw [List.take_of_length_le (by have := HN1.out; have := HN2.out; omega), List.take_of_length_le (by have := HN1.out; have := HN2.out; omega), val_dig, val_dig] at h2
        omega
      have hown3 := (HOWN2.out.stored k (.int .u32 (c : Int))).1
      rw [set_u32] at hown3
      have hdo3 : dok (os.set k c) := dok_set hdo.out (by omega) k
      have HOWN3 := Lib.hid hown3
      have HVAL := Lib.hid hval
      have HDO3 := Lib.hid hdo3
      clear hown3 hval hdo3
      refine (cut_any _ (k + 1) (k + 1) (os.set k c) (by simpa using hlen) (Nat.le_refl _) (by omega) HDO3.out _ _ (own_seq HOWN3.out)).mono ?_
      rintro e w' ⟨rfl, hd, rfl⟩
      rw [HVAL.out] at hd ⊢
      go_wp2
      go_ret
      refine ⟨_, _, rfl, ?_, ?_, own_dty HOWN3.out, HBE.out.setCell (Nat.le_refl _) _⟩
      · have h5 := congrArg List.length hd
        rw [List.length_take, List.length_set, hlen] at h5
        omega
      · have h6 := (own_seq HOWN3.out).take (dig (a + b)).length
        rw [← List.map_take, hd] at h6
        exact h6
theorem wplus_any (A1 A2 : Option Addr) (c1 c2 a b : Nat) (h1 : (dig a).length ≤ 1099511627776) (h2 : (dig b).length ≤ 1099511627776) (w : World) (hs1 : Seq w w.heap.size A1 ((dig a).map u32v)) (hs2 : Seq w w.heap.size A2 ((dig b).map u32v)) :
    Calls Tryz.prog 155 #[.slice A1 (dig a).length c1, .slice A2 (dig b).length c2] w (RD (a + b) w) := by
  rcases Nat.lt_or_ge (dig a).length (dig b).length with h | h
  · exact wplus_lt A1 A2 c1 c2 a b h h2 w hs1 hs2
  · exact wplus_ge A1 A2 c1 c2 a b h h1 w hs1 hs2
end Go.Proofs.YtbgjcpnbdgljbaaGreatDoor

/- The contract of package wide's digits: less. -/
namespace Go.Proofs.YtbgjcpnbdgljbaaGreatDoor
open Go.RowKit Go.Fil

theorem wrap_u64' (n : Int) : IntKind.u64.wrap n = n % 18446744073709551616 := by simp [IntKind.wrap, IntKind.signed, IntKind.bits]
theorem dig_len_le {a b : Nat} (h : b ≤ a) : (dig b).length ≤ (dig a).length := by
  rcases Nat.lt_or_ge (dig a).length (dig b).length with hh | hh
  · exact absurd (dig_len_lt hh) (by omega)
  · exact hh
set_option maxRecDepth 100000 in
set_option maxHeartbeats 3200000 in
theorem wless_any (A1 A2 : Option Addr) (c1 c2 a b : Nat) (hle : b ≤ a) (hb : (dig a).length ≤ 1099511627776) (w : World) (hs1 : Seq w w.heap.size A1 ((dig a).map u32v)) (hs2 : Seq w w.heap.size A2 ((dig b).map u32v)) :
    Calls Tryz.prog 156 #[.slice A1 (dig a).length c1, .slice A2 (dig b).length c2] w (RD (a - b) w) := by
  obtain ⟨i0, hi, hz0, hz1, hz2⟩ := info_parts Tryz.infoD
  have hle2 := dig_len_le hle
  generalize hn1 : (dig a).length = n1 at hle2 hb
  generalize hn2 : (dig b).length = n2 at hle2
  have HS1 := Lib.hid hs1
  have HS2 := Lib.hid hs2
  have HN1 := Lib.hid hn1
  have HN2 := Lib.hid hn2
  clear hs1 hs2 hn1 hn2
  have hp : (0 : Int) ≤ (n1 : Int) := by omega
  go_enter Tryz.func156, Tryz.ntmps156
  go_wp2_with (at_make; refine wpList_make_full _ rfl _ _ 181 rfl w.heap.size 244 i0 (.int .u32 0) 1 Tryz.underlying181 hi hz0 hz1 _ _ _ _ n1 rfl rfl (by omega) (by omega) ?b2 ?b3 (Nat.le_refl _) ?_)
  case b2 => first | omega | (rw [hz2]; omega)
  case b3 => unfold maxLen; omega
  intro w1 hown hgrow
  have hb1 : Below w.heap.size w w1 := (Below.refl _ _).grown hgrow (Nat.le_refl _) (fun k hk => by cases hk)
  rw [zeros_u32] at hown
  have HOWN := Lib.hid hown
  have HB1 := Lib.hid hb1
  clear hown hgrow hb1
  go_wp2
  go_loopw [6, 14] (fun cv i wr => ∃ (k c : Nat) (os : List Nat), k ≤ n1 ∧ cv = .int .u64 (c : Int) ∧ i = .int .i64 (k : Int) ∧ c ≤ 1 ∧ os.length = n1 ∧ Hid (dok os) ∧ Hid (val os + val ((dig b).take k) = val ((dig a).take k) + 4294967296 ^ k * c) ∧ Hid (∀ j, k ≤ j → nd os j = 0) ∧
      wr.ownsRow w.heap.size 244 1 (.slice (some ⟨w.heap.size, 0, none⟩) n1 n1) n1 (os.map u32v) ∧ Below w.heap.size w wr) (fun _ i _ => n1 - (intOf i).toNat)
  case atStart => exact ⟨0, 0, List.replicate n1 0, Nat.zero_le _, rfl, rfl, Nat.zero_le _, by simp, Lib.hid (dok_zeros _), Lib.hid (by rw [val_zeros]; simp [val]), Lib.hid (fun j _ => nd_zeros _ j), HOWN.out, HB1.out⟩
  case round =>
    obtain ⟨k, c, os, hk, rfl, rfl, hc1, hlen, hdo, hv, hzr, hown, hbe⟩ := hrel
    by_cases hlt : k < n1
    · obtain ⟨bb, o, rfl, hbb, hcl⟩ := (HS1.out.below hbe (Nat.le_refl _)).dat (k := k) (by have := HN1.out; omega)
      have i0' : (0 : Int) ≤ (k : Int) := by omega
      have i1 : (k : Int) < (n1 : Int) := by omega
      have d1 := nd_lt (dig_ok a) k
      have HOWN2 := Lib.hid hown
      have HBE := Lib.hid hbe
      have hfz : wr.frozen? ⟨w.heap.size, k, none⟩ = false := hown.frozenAt k
      have hcu : wr.cell? ⟨w.heap.size, k, none⟩ = some (.int .u32 (nd os k : Int)) := by
        rw [hown.cellAt k (by omega), List.getElem?_map, nd_some (by omega)]; rfl
      clear hown hbe
      by_cases hlt2 : k < n2
      · obtain ⟨bb2, o2, rfl, hbb2, hcl2⟩ := (HS2.out.below HBE.out (Nat.le_refl _)).dat (k := k) (by have := HN2.out; omega)
        have j1 : (k : Int) < (n2 : Int) := by omega
        have d2 := nd_lt (dig_ok b) k
        go_wp2
        simp only [wrap_u64']
        by_cases hbo : c + nd (dig b) k ≤ nd (dig a) k
        · have em : ((((nd (dig a) k : Int) - (c : Int)) % 18446744073709551616 - (nd (dig b) k : Int)) % 18446744073709551616) % 4294967296 = ((nd (dig a) k - c - nd (dig b) k : Nat) : Int) := by omega
          have ed : ((((nd (dig a) k : Int) - (c : Int)) % 18446744073709551616 - (nd (dig b) k : Int)) % 18446744073709551616) / 9223372036854775808 = ((0 : Nat) : Int) := by omega
          rw [em, ed]
          have hst := less_step_no hv.out (hzr.out k (Nat.le_refl _)) (by omega) hbo
          refine ⟨⟨k + 1, 0, os.set k (nd (dig a) k - c - nd (dig b) k), by omega, rfl, by go_num, by omega, by simpa using hlen, Lib.hid (dok_set hdo.out (by omega) k), Lib.hid ?_, Lib.hid (fun j hj => ?_), ?_, HBE.out.setCell (Nat.le_refl _) _⟩, by simp [intOf]; omega⟩
          · rw [val_take_nd, val_take_nd, Nat.mul_zero, Nat.add_zero]; exact hst
          · rw [nd_set_ne _ _ (by omega)]; exact hzr.out j (by omega)
          · rw [← set_u32]; exact (HOWN2.out.stored k _).1
        · have em : ((((nd (dig a) k : Int) - (c : Int)) % 18446744073709551616 - (nd (dig b) k : Int)) % 18446744073709551616) % 4294967296 = ((nd (dig a) k + 4294967296 - c - nd (dig b) k : Nat) : Int) := by omega
          have ed : ((((nd (dig a) k : Int) - (c : Int)) % 18446744073709551616 - (nd (dig b) k : Int)) % 18446744073709551616) / 9223372036854775808 = ((1 : Nat) : Int) := by omega
          rw [em, ed]
          have hst := less_step_yes hv.out (hzr.out k (Nat.le_refl _)) (by omega) (show nd (dig a) k < c + nd (dig b) k by omega) (by omega)
          refine ⟨⟨k + 1, 1, os.set k (nd (dig a) k + 4294967296 - c - nd (dig b) k), by omega, rfl, by go_num, by omega, by simpa using hlen, Lib.hid (dok_set hdo.out (by omega) k), Lib.hid ?_, Lib.hid (fun j hj => ?_), ?_, HBE.out.setCell (Nat.le_refl _) _⟩, by simp [intOf]; omega⟩
          · rw [val_take_nd, val_take_nd, Nat.mul_one]; exact hst
          · rw [nd_set_ne _ _ (by omega)]; exact hzr.out j (by omega)
          · rw [← set_u32]; exact (HOWN2.out.stored k _).1
      · have j1 : ¬ (k : Int) < (n2 : Int) := by omega
        have D2 := Lib.hid (show nd (dig b) k = 0 from nd_out (by have := HN2.out; omega))
        go_wp2
        have d2 := D2.out
        simp only [wrap_u64']
        by_cases hbo : c + nd (dig b) k ≤ nd (dig a) k
        · have em : (((nd (dig a) k : Int) - (c : Int)) % 18446744073709551616) % 4294967296 = ((nd (dig a) k - c - nd (dig b) k : Nat) : Int) := by omega
          have ed : (((nd (dig a) k : Int) - (c : Int)) % 18446744073709551616) / 9223372036854775808 = ((0 : Nat) : Int) := by omega
          rw [em, ed]
          have hst := less_step_no hv.out (hzr.out k (Nat.le_refl _)) (by omega) hbo
          refine ⟨⟨k + 1, 0, os.set k (nd (dig a) k - c - nd (dig b) k), by omega, rfl, by go_num, by omega, by simpa using hlen, Lib.hid (dok_set hdo.out (by omega) k), Lib.hid ?_, Lib.hid (fun j hj => ?_), ?_, HBE.out.setCell (Nat.le_refl _) _⟩, by simp [intOf]; omega⟩
          · rw [val_take_nd, val_take_nd, Nat.mul_zero, Nat.add_zero]; exact hst
          · rw [nd_set_ne _ _ (by omega)]; exact hzr.out j (by omega)
          · rw [← set_u32]; exact (HOWN2.out.stored k _).1
        · have em : (((nd (dig a) k : Int) - (c : Int)) % 18446744073709551616) % 4294967296 = ((nd (dig a) k + 4294967296 - c - nd (dig b) k : Nat) : Int) := by omega
          have ed : (((nd (dig a) k : Int) - (c : Int)) % 18446744073709551616) / 9223372036854775808 = ((1 : Nat) : Int) := by omega
          rw [em, ed]
          have hst := less_step_yes hv.out (hzr.out k (Nat.le_refl _)) (by omega) (show nd (dig a) k < c + nd (dig b) k by omega) (by omega)
          refine ⟨⟨k + 1, 1, os.set k (nd (dig a) k + 4294967296 - c - nd (dig b) k), by omega, rfl, by go_num, by omega, by simpa using hlen, Lib.hid (dok_set hdo.out (by omega) k), Lib.hid ?_, Lib.hid (fun j hj => ?_), ?_, HBE.out.setCell (Nat.le_refl _) _⟩, by simp [intOf]; omega⟩
          · rw [val_take_nd, val_take_nd, Nat.mul_one]; exact hst
          · rw [nd_set_ne _ _ (by omega)]; exact hzr.out j (by omega)
          · rw [← set_u32]; exact (HOWN2.out.stored k _).1
    · obtain rfl : k = n1 := by omega
      have HOWN2 := Lib.hid hown
      have HBE := Lib.hid hbe
      have hdl := val_lt hdo.out
      have hval : val os = a - b := by
        have h2 := hv.out
        rw [List.take_of_length_le (by have := HN1.out; have := HN2.out; omega), List.take_of_length_le (by have := HN1.out; have := HN2.out; omega), val_dig, val_dig] at h2
        rw [hlen] at hdl
        rcases Nat.lt_or_ge c 1 with hc | hc
        · rw [show c = 0 by omega] at h2; omega
        · rw [show c = 1 by omega, Nat.mul_one] at h2; omega
      have HVAL := Lib.hid hval
      clear hown hbe hval hdl
      go_wp2_with fail
      refine (cut_any _ k k os hlen (Nat.le_refl _) (by omega) hdo.out _ _ (own_seq HOWN2.out)).mono ?_
      rintro e w' ⟨rfl, hd, rfl⟩
      rw [HVAL.out] at hd ⊢
      go_wp2
      go_ret
      refine ⟨_, _, rfl, ?_, ?_, own_dty HOWN2.out, HBE.out⟩
      · have h5 := congrArg List.length hd
        rw [List.length_take, hlen] at h5
        omega
      · have h6 := (own_seq HOWN2.out).take (dig (a - b)).length
        rw [← List.map_take, hd] at h6
        exact h6
end Go.Proofs.YtbgjcpnbdgljbaaGreatDoor

/- The contract of package wide's digits: times. -/
namespace Go.Proofs.YtbgjcpnbdgljbaaGreatDoor
open Go.RowKit Go.Fil

theorem mul_fits {x y u c : Nat} (hx : x < 4294967296) (hy : y < 4294967296) (hu : u < 4294967296) (hc : c < 4294967296) : x * y + u + c < 18446744073709551616 ∧ (x * y + u + c) / 4294967296 < 4294967296 := by
  have h : x * y ≤ 4294967295 * 4294967295 := Nat.mul_le_mul (by omega) (by omega)
  omega
set_option maxRecDepth 100000 in
set_option maxHeartbeats 6400000 in
theorem wtimes_any (A1 A2 : Option Addr) (c1 c2 a b : Nat) (h1 : (dig a).length ≤ 549755813888) (h2 : (dig b).length ≤ 549755813888) (w : World) (hs1 : Seq w w.heap.size A1 ((dig a).map u32v)) (hs2 : Seq w w.heap.size A2 ((dig b).map u32v)) :
    Calls Tryz.prog 157 #[.slice A1 (dig a).length c1, .slice A2 (dig b).length c2] w (RD (a * b) w) := by
  obtain ⟨i0, hi, hz0, hz1, hz2⟩ := info_parts Tryz.infoD
  generalize hn1 : (dig a).length = n1 at h1
  generalize hn2 : (dig b).length = n2 at h2
  have HS1 := Lib.hid hs1
  have HS2 := Lib.hid hs2
  have HN1 := Lib.hid hn1
  have HN2 := Lib.hid hn2
  clear hs1 hs2 hn1 hn2
  have hp : (0 : Int) ≤ (n1 : Int) + (n2 : Int) := by omega
  go_enter Tryz.func157, Tryz.ntmps157
  go_wp2_with (at_make; refine wpList_make_full _ rfl _ _ 181 rfl w.heap.size 244 i0 (.int .u32 0) 1 Tryz.underlying181 hi hz0 hz1 _ _ _ _ (n1 + n2) rfl rfl (by omega) (by omega) ?b2 ?b3 (Nat.le_refl _) ?_)
  case b2 => first | omega | (rw [hz2]; omega)
  case b3 => unfold maxLen; omega
  intro w1 hown hgrow
  have hb1 : Below w.heap.size w w1 := (Below.refl _ _).grown hgrow (Nat.le_refl _) (fun k hk => by cases hk)
  rw [zeros_u32] at hown
  have HOWN := Lib.hid hown
  have HB1 := Lib.hid hb1
  clear hown hgrow hb1
  go_wp2
  go_loopw [19] (fun i wr => ∃ (p : Nat) (os : List Nat), p ≤ n1 ∧ i = .int .i64 (p : Int) ∧ os.length = n1 + n2 ∧ Hid (dok os) ∧ Hid (val os = val ((dig a).take p) * b) ∧ Hid (∀ j, p + n2 ≤ j → nd os j = 0) ∧
      wr.ownsRow w.heap.size 244 1 (.slice (some ⟨w.heap.size, 0, none⟩) (n1 + n2) (n1 + n2)) (n1 + n2) (os.map u32v) ∧ Below w.heap.size w wr) (fun i _ => n1 - (intOf i).toNat)
  case atStart => exact ⟨0, List.replicate (n1 + n2) 0, Nat.zero_le _, rfl, by simp, Lib.hid (dok_zeros _), Lib.hid (by rw [val_zeros]; simp [val]), Lib.hid (fun j _ => nd_zeros _ j), HOWN.out, HB1.out⟩
  case round =>
    obtain ⟨p, os, hp1, rfl, hlen, hdo, hv, hzr, hown, hbe⟩ := hrel
    by_cases hlt : p < n1
    · obtain ⟨bb, o, rfl, hbb, hcl⟩ := (HS1.out.below hbe (Nat.le_refl _)).dat (k := p) (by have := HN1.out; omega)
      have i0' : (0 : Int) ≤ (p : Int) := by omega
      have i1 : (p : Int) < (n1 : Int) := by omega
      have d1 := nd_lt (dig_ok a) p
      have HOWN2 := Lib.hid hown
      have HBE := Lib.hid hbe
      have HD1 := Lib.hid d1
      clear hown hbe d1
      go_wp2
      go_loopw [8, 26] (fun cv i wq => ∃ (k c : Nat) (os' : List Nat), k ≤ n2 ∧ cv = .int .u64 (c : Int) ∧ i = .int .i64 (k : Int) ∧ Hid (c < 4294967296) ∧ os'.length = n1 + n2 ∧ Hid (dok os') ∧ Hid (val os' + 4294967296 ^ (p + k) * c = val ((dig a).take p) * b + 4294967296 ^ p * (nd (dig a) p * val ((dig b).take k))) ∧ Hid (∀ j, p + n2 ≤ j → nd os' j = 0) ∧
        wq.ownsRow w.heap.size 244 1 (.slice (some ⟨w.heap.size, 0, none⟩) (n1 + n2) (n1 + n2)) (n1 + n2) (os'.map u32v) ∧ Below w.heap.size w wq) (fun _ i _ => n2 - (intOf i).toNat)
      case atStart => exact ⟨0, 0, os, Nat.zero_le _, rfl, rfl, Lib.hid (by decide), hlen, hdo, Lib.hid (by rw [hv.out]; simp [val]), hzr, HOWN2.out, HBE.out⟩
      case round =>
        obtain ⟨k, c, os', hk, rfl, rfl, hc, hlen', hdo', hv', hzr', hown, hbe⟩ := hrel
        by_cases hlt2 : k < n2
        · obtain ⟨bb2, o2, rfl, hbb2, hcl2⟩ := (HS2.out.below hbe (Nat.le_refl _)).dat (k := k) (by have := HN2.out; omega)
          have j0 : (0 : Int) ≤ (k : Int) := by omega
          have j1 : (k : Int) < (n2 : Int) := by omega
          have j2 : (0 : Int) ≤ (p : Int) + (k : Int) := by omega
          have j3 : (p : Int) + (k : Int) < (n1 : Int) + (n2 : Int) := by omega
          have HOWN3 := Lib.hid hown
          have HBE3 := Lib.hid hbe
          have hfz : wr.frozen? ⟨w.heap.size, p + k, none⟩ = false := hown.frozenAt (p + k)
          have hcu : wr.cell? ⟨w.heap.size, p + k, none⟩ = some (.int .u32 (nd os' (p + k) : Int)) := by
            rw [hown.cellAt (p + k) (by omega), List.getElem?_map, nd_some (by omega)]; rfl
          have d1 := HD1.out
          have d2 := nd_lt (dig_ok b) k
          have d3 := nd_lt hdo'.out (p + k)
          clear hown hbe
          go_wp2
          have hf := mul_fits d1 d2 d3 hc.out
          simp only [wrap_u64']
          have hst := times_step hv'.out (show p + k < os'.length by omega) (nd (dig a) p * nd (dig b) k) rfl
          have hdn : Hid (dok (os'.set (p + k) ((c + (nd (dig a) p * nd (dig b) k + nd os' (p + k))) % 4294967296))) := dok_set hdo'.out (Nat.mod_lt _ (by decide)) _
          have hvk := val_take_nd (dig b) k
          have hzn : ∀ j, p + n2 ≤ j → nd (os'.set (p + k) ((c + (nd (dig a) p * nd (dig b) k + nd os' (p + k))) % 4294967296)) j = 0 := fun j hj => by
            rw [nd_set_ne _ _ (by omega)]; exact hzr'.out j hj
          have hsto := (HOWN3.out.stored (p + k) (.int .u32 (((c + (nd (dig a) p * nd (dig b) k + nd os' (p + k))) % 4294967296 : Nat) : Int))).1
          rw [set_u32] at hsto
          generalize nd (dig a) p = x at *
          generalize nd (dig b) k = y at *
          generalize nd os' (p + k) = u at *
          have exy : (x : Int) * (y : Int) = ((x * y : Nat) : Int) := by simp
          rw [exy]
          have e3 : 4294967296 ^ p * (x * (val ((dig b).take k) + 4294967296 ^ k * y)) = 4294967296 ^ p * (x * val ((dig b).take k)) + 4294967296 ^ (p + k) * (x * y) := by
            rw [Nat.mul_add, Nat.mul_add, Nat.pow_add]; congr 1; ac_rfl
          generalize hq : x * y = q at *
          have em : ((c : Int) + ((q : Int) % 18446744073709551616 + (u : Int)) % 18446744073709551616) % 18446744073709551616 % 4294967296 = (((c + (q + u)) % 4294967296 : Nat) : Int) := by omega
          have ed : ((c : Int) + ((q : Int) % 18446744073709551616 + (u : Int)) % 18446744073709551616) % 18446744073709551616 / 4294967296 = (((c + (q + u)) / 4294967296 : Nat) : Int) := by omega
          rw [em, ed]
          refine ⟨⟨k + 1, (c + (q + u)) / 4294967296, os'.set (p + k) ((c + (q + u)) % 4294967296), by omega, rfl, by go_num, Lib.hid (by omega), by simpa using hlen', hdn, Lib.hid ?_, Lib.hid hzn, hsto, HBE3.out.setCell (Nat.le_refl _) _⟩, by simp [intOf]; omega⟩
          rw [hvk, e3, show p + (k + 1) = p + k + 1 by omega, hst, Nat.add_assoc]
        · obtain rfl : k = n2 := by omega
          have HOWN3 := Lib.hid hown
          have HBE3 := Lib.hid hbe
          have hfz : wr.frozen? ⟨w.heap.size, p + k, none⟩ = false := hown.frozenAt (p + k)
          have hcu : wr.cell? ⟨w.heap.size, p + k, none⟩ = some (.int .u32 (nd os' (p + k) : Int)) := by
            rw [hown.cellAt (p + k) (by omega), List.getElem?_map, nd_some (by omega)]; rfl
          clear hown hbe
          have j2 : (0 : Int) ≤ (p : Int) + (k : Int) := by omega
          have j3 : (p : Int) + (k : Int) < (n1 : Int) + (k : Int) := by omega
          go_wp2
          have em : (c : Int) % 4294967296 = ((c : Nat) : Int) := by have := hc.out; omega
          rw [em]
          have h1 := val_set c (show p + k < os'.length by omega)
          rw [hzr'.out (p + k) (Nat.le_refl _), Nat.mul_zero, Nat.add_zero] at h1
          have h2 := hv'.out
          rw [List.take_of_length_le (l := dig b) (by have := HN2.out; omega), val_dig] at h2
          have h3 : val ((dig a).take (p + 1)) * b = val ((dig a).take p) * b + 4294967296 ^ p * (nd (dig a) p * b) := by
            rw [val_take_nd, Nat.add_mul, Nat.mul_assoc]
          refine ⟨⟨p + 1, os'.set (p + k) c, by omega, by go_num, by simpa using hlen', Lib.hid (dok_set hdo'.out hc.out _), Lib.hid (by rw [h1, h2, h3]), Lib.hid (fun j hj => ?_), ?_, HBE3.out.setCell (Nat.le_refl _) _⟩, by simp [intOf]; omega⟩
          · rw [nd_set_ne _ _ (by omega)]; exact hzr'.out j (by omega)
          · rw [← set_u32]; exact (HOWN3.out.stored (p + k) _).1
    · obtain rfl : p = n1 := by omega
      have HOWN2 := Lib.hid hown
      have HBE := Lib.hid hbe
      have hval : val os = a * b := by
        have h2 := hv.out
        rw [List.take_of_length_le (by have := HN1.out; omega), val_dig] at h2
        exact h2
      have HVAL := Lib.hid hval
      clear hown hbe hval
      go_wp2_with fail
      refine (cut_any _ (p + n2) (p + n2) os hlen (Nat.le_refl _) (by omega) hdo.out _ _ (own_seq HOWN2.out)).mono ?_
      rintro e w' ⟨rfl, hd, rfl⟩
      rw [HVAL.out] at hd ⊢
      go_wp2
      go_ret
      refine ⟨_, _, rfl, ?_, ?_, own_dty HOWN2.out, HBE.out⟩
      · have h5 := congrArg List.length hd
        rw [List.length_take, hlen] at h5
        omega
      · have h6 := (own_seq HOWN2.out).take (dig (a * b)).length
        rw [← List.map_take, hd] at h6
        exact h6
end Go.Proofs.YtbgjcpnbdgljbaaGreatDoor

/- The contracts of package wide's digits: left, right. -/
namespace Go.Proofs.YtbgjcpnbdgljbaaGreatDoor
open Go.RowKit Go.Fil

theorem RD_nil (w : World) : RD 0 w (.returned (.slice none 0 0)) w := ⟨none, 0, by rw [dig_zero]; rfl, by rw [dig_zero]; exact Nat.le_refl _, .inl (by rw [dig_zero]; rfl), (fun b o h => by cases h), Below.refl _ _⟩
set_option maxRecDepth 100000 in
set_option maxHeartbeats 6400000 in
theorem wleft_any (A1 : Option Addr) (c1 a n : Nat) (h1 : (dig a).length ≤ 274877906944) (hn : n ≤ 4398046511104) (w : World) (hs1 : Seq w w.heap.size A1 ((dig a).map u32v)) :
    Calls Tryz.prog 149 #[.slice A1 (dig a).length c1, .int .u64 (n : Int)] w (RD (a * 2 ^ n) w) := by
  by_cases h0 : a = 0
  · subst h0
    rw [Nat.zero_mul]
    have e0 : (dig 0).length = 0 := by rw [dig_zero]; rfl
    rw [e0]
    go_enter Tryz.func149, Tryz.ntmps149
    go_wp2
    go_ret
    exact RD_nil w
  · have hpos := dig_length_pos h0
    obtain ⟨i0, hi, hz0, hz1, hz2⟩ := info_parts Tryz.infoD
    generalize hn1 : (dig a).length = n1 at h1 hpos
    have HS1 := Lib.hid hs1
    have HN1 := Lib.hid hn1
    clear hs1 hn1
    obtain ⟨q, hq⟩ : ∃ q, n / 32 = q := ⟨_, rfl⟩
    obtain ⟨r, hr⟩ : ∃ r, n % 32 = r := ⟨_, rfl⟩
    have HQ := Lib.hid hq
    have HR := Lib.hid hr
    have hq' : (n : Int) / 32 = (q : Int) := by omega
    have hr' : (n : Int) % 32 = (r : Int) := by omega
    have hrb : r < 32 := by omega
    have hqb : q ≤ 137438953472 := by omega
    clear hq hr
    have hne : ((n1 : Int) == 0) = false := by rw [beq_eq_false_iff_ne]; omega
    have hp : (0 : Int) ≤ (n1 : Int) + (q : Int) + 1 := by omega
    have hp2 : (0 : Int) ≤ (q : Int) := by omega
    go_enter Tryz.func149, Tryz.ntmps149
    go_wp2_with (at_make; refine wpList_make_full _ rfl _ _ 181 rfl w.heap.size 244 i0 (.int .u32 0) 1 Tryz.underlying181 hi hz0 hz1 _ _ _ _ (n1 + q + 1) rfl rfl (by omega) (by omega) ?b2 ?b3 (Nat.le_refl _) ?_)
    case b2 => first | omega | (rw [hz2]; omega)
    case b3 => unfold maxLen; omega
    intro w1 hown hgrow
    have hb1 : Below w.heap.size w w1 := (Below.refl _ _).grown hgrow (Nat.le_refl _) (fun k hk => by cases hk)
    rw [zeros_u32] at hown
    have HOWN := Lib.hid hown
    have HB1 := Lib.hid hb1
    clear hown hgrow hb1
    go_wp2
    go_loopw [22] (fun i wr => ∃ (p : Nat) (os : List Nat), p ≤ n1 ∧ i = .int .i64 (p : Int) ∧ os.length = n1 + q + 1 ∧ Hid (dok os) ∧ Hid (val os = 4294967296 ^ q * 2 ^ r * val ((dig a).take p)) ∧ Hid (nd os (p + q) < 2 ^ r) ∧ Hid (∀ j, p + q + 1 ≤ j → nd os j = 0) ∧
        wr.ownsRow w.heap.size 244 1 (.slice (some ⟨w.heap.size, 0, none⟩) (n1 + q + 1) (n1 + q + 1)) (n1 + q + 1) (os.map u32v) ∧ Below w.heap.size w wr) (fun i _ => n1 - (intOf i).toNat)
    case atStart => exact ⟨0, List.replicate (n1 + q + 1) 0, Nat.zero_le _, rfl, by simp, Lib.hid (dok_zeros _), Lib.hid (by rw [val_zeros]; simp [val]), Lib.hid (by rw [nd_zeros]; exact Nat.two_pow_pos r), Lib.hid (fun j _ => nd_zeros _ j), HOWN.out, HB1.out⟩
    case round =>
      obtain ⟨p, os, hp1, rfl, hlen, hdo, hv, hlo, hzr, hown, hbe⟩ := hrel
      by_cases hlt : p < n1
      · obtain ⟨bb, o, rfl, hbb, hcl⟩ := (HS1.out.below hbe (Nat.le_refl _)).dat (k := p) (by have := HN1.out; omega)
        have i0' : (0 : Int) ≤ (p : Int) := by omega
        have i1 : (p : Int) < (n1 : Int) := by omega
        have d1 := nd_lt (dig_ok a) p
        have HOWN2 := Lib.hid hown
        have HBE := Lib.hid hbe
        have HD1 := Lib.hid d1
        have hfz : wr.frozen? ⟨w.heap.size, p + q, none⟩ = false := hown.frozenAt (p + q)
        have hcu : wr.cell? ⟨w.heap.size, p + q, none⟩ = some (.int .u32 (nd os (p + q) : Int)) := by
          rw [hown.cellAt (p + q) (by omega), List.getElem?_map, nd_some (by omega)]; rfl
        have hfz2 : wr.frozen? ⟨w.heap.size, p + q + 1, none⟩ = false := hown.frozenAt (p + q + 1)
        have hcu2 : wr.cell? ⟨w.heap.size, p + q + 1, none⟩ = some (.int .u32 (nd os (p + q + 1) : Int)) := by
          rw [hown.cellAt (p + q + 1) (by omega), List.getElem?_map, nd_some (by omega)]; rfl
        clear hown hbe
        have j2 : (0 : Int) ≤ (p : Int) + (q : Int) := by omega
        have j3 : (p : Int) + (q : Int) < (n1 : Int) + (q : Int) + 1 := by omega
        have j4 : (0 : Int) ≤ (p : Int) + (q : Int) + 1 := by omega
        have j5 : (p : Int) + (q : Int) + 1 < (n1 : Int) + (q : Int) + 1 := by omega
        go_wp2
        have d1 := HD1.out
        have d3 := nd_lt hdo.out (p + q)
        obtain ⟨st1, st2⟩ := left_step (j := p + q) hrb d1 hv.out hlo.out (hzr.out (p + q + 1) (Nat.le_refl _)) (by omega)
        have hr2 : 2 ^ r ≤ 2147483648 := by
          have := Nat.pow_le_pow_right (show 0 < 2 by decide) (show r ≤ 31 by omega)
          simpa using this
        have hy : nd (dig a) p * 2 ^ r ≤ 4294967295 * 2147483648 := Nat.mul_le_mul (by omega) hr2
        have hor : nd os (p + q) ||| (nd (dig a) p * 2 ^ r % 4294967296) < 4294967296 := Nat.or_lt_two_pow (n := 32) d3 (Nat.mod_lt _ (by decide))
        have hb0 := u32_or_nat (nd os (p + q)) (nd (dig a) p * 2 ^ r % 4294967296) d3 (Nat.mod_lt _ (by decide))
        have e3 : 4294967296 ^ q * 2 ^ r * val ((dig a).take (p + 1)) = 4294967296 ^ q * 2 ^ r * val ((dig a).take p) + 4294967296 ^ (p + q) * (nd (dig a) p * 2 ^ r) := by
          rw [val_take_nd, Nat.mul_add, Nat.pow_add]; congr 1; ac_rfl
        simp only [wrap_u64']
        have exy : (nd (dig a) p : Int) * 2 ^ r = ((nd (dig a) p * 2 ^ r : Nat) : Int) := by simp
        rw [exy]
        generalize nd (dig a) p * 2 ^ r = y at *
        have em : (y : Int) % 18446744073709551616 % 4294967296 = ((y % 4294967296 : Nat) : Int) := by omega
        have ed : (y : Int) % 18446744073709551616 / 4294967296 % 4294967296 = ((y / 4294967296 : Nat) : Int) := by omega
        rw [em, ed, hb0]
        refine ⟨⟨p + 1, (os.set (p + q) (nd os (p + q) ||| (y % 4294967296))).set (p + q + 1) (y / 4294967296), by omega, by go_num, by simpa using hlen, Lib.hid (dok_set (dok_set hdo.out hor _) (by omega) _), Lib.hid (by rw [st1, e3]), Lib.hid ?_, Lib.hid (fun j hj => ?_), ?_, (HBE.out.setCell (Nat.le_refl _) _).setCell (Nat.le_refl _) _⟩, by simp [intOf]; omega⟩
        · rw [nd_set, if_pos ⟨by omega, by simp; omega⟩]; exact st2
        · rw [nd_set_ne _ _ (by omega), nd_set_ne _ _ (by omega)]; exact hzr.out j (by omega)
        · rw [← set_u32, ← set_u32]; exact (((HOWN2.out.stored (p + q) _).1).stored (p + q + 1) _).1
      · obtain rfl : p = n1 := by omega
        have HOWN2 := Lib.hid hown
        have HBE := Lib.hid hbe
        have hval : val os = a * 2 ^ n := by
          have h2 := hv.out
          have hQ := HQ.out
          have hR := HR.out
          rw [List.take_of_length_le (by have := HN1.out; omega), val_dig] at h2
          have e5 : (4294967296 : Nat) ^ q * 2 ^ r = 2 ^ n := by
            rw [show (4294967296 : Nat) = 2 ^ 32 from rfl, ← Nat.pow_mul, ← Nat.pow_add, show 32 * q + r = n by omega]
          rw [h2, e5, Nat.mul_comm]
        have HVAL := Lib.hid hval
        clear hown hbe hval
        go_wp2_with fail
        refine (cut_any _ (p + q + 1) (p + q + 1) os hlen (Nat.le_refl _) (by omega) hdo.out _ _ (own_seq HOWN2.out)).mono ?_
        rintro e w' ⟨rfl, hd, rfl⟩
        rw [HVAL.out] at hd ⊢
        go_wp2
        go_ret
        refine ⟨_, _, rfl, ?_, ?_, own_dty HOWN2.out, HBE.out⟩
        · have h5 := congrArg List.length hd
          rw [List.length_take, hlen] at h5
          omega
        · have h6 := (own_seq HOWN2.out).take (dig (a * 2 ^ n)).length
          rw [← List.map_take, hd] at h6
          exact h6
end Go.Proofs.YtbgjcpnbdgljbaaGreatDoor

/- The contract of package wide's digits: right. -/
namespace Go.Proofs.YtbgjcpnbdgljbaaGreatDoor
open Go.RowKit Go.Fil

theorem Seq.dropS {w : World} {B b o : Nat} {xs : List Value} (h : Seq w B (some ⟨b, o, none⟩) xs) (k : Nat) : Seq w B (some ⟨b, o + k, none⟩) (xs.drop k) := by
  rcases h with h | ⟨b', o', hA, hb, hc⟩
  · exact .inl (by rw [h]; simp)
  · injection hA with hA
    injection hA with h1 h2
    subst h1; subst h2
    refine .inr ⟨b, o + k, rfl, hb, fun j u hj => ?_⟩
    rw [List.getElem?_drop] at hj
    rw [show o + k + j = o + (k + j) by omega]
    exact hc _ _ hj
theorem val_zero_of_short {a n : Nat} (h : (dig a).length ≤ n / 32) : a / 2 ^ n = 0 := by
  have h1 := dig_length_lt a
  have h2 : (4294967296 : Nat) ^ (dig a).length ≤ 2 ^ n := by
    rw [show (4294967296 : Nat) = 2 ^ 32 from rfl, ← Nat.pow_mul]
    exact Nat.pow_le_pow_right (by decide) (by omega)
  exact Nat.div_eq_of_lt (by omega)
set_option maxRecDepth 100000 in
set_option maxHeartbeats 6400000 in
theorem wright_any (A1 : Option Addr) (c1 a n : Nat) (h1 : (dig a).length ≤ 274877906944) (hc1 : (dig a).length ≤ c1) (hn : n ≤ 4398046511104) (w : World) (hs1 : Seq w w.heap.size A1 ((dig a).map u32v)) :
    Calls Tryz.prog 205 #[.slice A1 (dig a).length c1, .int .u64 (n : Int)] w (RD (a / 2 ^ n) w) := by
  obtain ⟨q, hq⟩ : ∃ q, n / 32 = q := ⟨_, rfl⟩
  obtain ⟨r, hr⟩ : ∃ r, n % 32 = r := ⟨_, rfl⟩
  have HQ := Lib.hid hq
  have HR := Lib.hid hr
  have hq' : (n : Int) / 32 = (q : Int) := by omega
  have hr' : (n : Int) % 32 = (r : Int) := by omega
  have hrb : r < 32 := by omega
  have hqb : q ≤ 137438953472 := by omega
  have hp2 : (0 : Int) ≤ (q : Int) := by omega
  by_cases hsh : (dig a).length ≤ q
  · rw [val_zero_of_short (by omega)]
    generalize (dig a).length = n1 at *
    clear hq hr
    have hge : (n1 : Int) ≤ (q : Int) := by omega
    go_enter Tryz.func205, Tryz.ntmps205
    go_wp2
    go_ret
    exact RD_nil w
  · obtain ⟨i0, hi, hz0, hz1, hz2⟩ := info_parts Tryz.infoD
    obtain ⟨b, o, rfl, hb, hcl⟩ := hs1.dat (k := 0) (by omega)
    have hs2 := hs1.dropS q
    rw [← List.map_drop] at hs2
    generalize hn1 : (dig a).length = n1 at h1 hc1 hsh
    obtain ⟨m, rfl⟩ : ∃ m, n1 = q + m := ⟨n1 - q, by omega⟩
    have HS2 := Lib.hid hs2
    have HN1 := Lib.hid hn1
    clear hs1 hs2 hn1 hq hr hcl
    have hge : ¬ ((q : Int) + (m : Int)) ≤ (q : Int) := by omega
    have hge2 : (q : Int) ≤ (q : Int) + (m : Int) := by omega
    have hp : (0 : Int) ≤ (m : Int) := by omega
    have hcc : (q : Int) + (m : Int) ≤ (c1 : Int) := by omega
    have hmm : (q : Int) + (m : Int) - (q : Int) = (m : Int) := by omega
    go_enter Tryz.func205, Tryz.ntmps205
    go_wp2_with (at_make; refine wpList_make_full _ rfl _ _ 181 rfl w.heap.size 244 i0 (.int .u32 0) 1 Tryz.underlying181 hi hz0 hz1 _ _ _ _ m rfl rfl (by omega) (by omega) ?b2 ?b3 (Nat.le_refl _) ?_)
    case b2 => first | omega | (rw [hz2]; omega)
    case b3 => unfold maxLen; omega
    intro w1 hown hgrow
    have hb1 : Below w.heap.size w w1 := (Below.refl _ _).grown hgrow (Nat.le_refl _) (fun k hk => by cases hk)
    rw [zeros_u32] at hown
    have HOWN := Lib.hid hown
    have HB1 := Lib.hid hb1
    have hdl : ((dig a).drop q).length = m := by have := HN1.out; rw [List.length_drop]; omega
    have HDL := Lib.hid hdl
    have hnd : ∀ j, nd ((dig a).drop q) j = a / 4294967296 ^ q / 4294967296 ^ j % 4294967296 := fun j => by
      rw [nd_val (dok_drop (dig_ok a) q), val_drop (dig_ok a), val_dig]
    have HND := Lib.hid hnd
    have hdo := Lib.hid (dok_drop (dig_ok a) q)
    have HEX : Hid (4294967296 ^ q * 2 ^ r = 2 ^ n) := by
      have hQ := HQ.out
      have hR := HR.out
      show (4294967296 : Nat) ^ q * 2 ^ r = 2 ^ n
      rw [show (4294967296 : Nat) = 2 ^ 32 from rfl, ← Nat.pow_mul, ← Nat.pow_add, show 32 * q + r = n by omega]
    clear hown hgrow hb1 hdl hnd
    generalize (dig a).drop q = D at *
    go_wp2
    go_loopw [23] (fun i wr => ∃ (p : Nat) (os : List Nat), p ≤ m ∧ i = .int .i64 (p : Int) ∧ os.length = m ∧ Hid (dok os) ∧ Hid (∀ j, j < p → nd os j = a / 2 ^ n / 4294967296 ^ j % 4294967296) ∧
        wr.ownsRow w.heap.size 244 1 (.slice (some ⟨w.heap.size, 0, none⟩) m m) m (os.map u32v) ∧ Below w.heap.size w wr) (fun i _ => m - (intOf i).toNat)
    case atStart => exact ⟨0, List.replicate m 0, Nat.zero_le _, rfl, by simp, Lib.hid (dok_zeros _), Lib.hid (fun j hj => absurd hj (by omega)), HOWN.out, HB1.out⟩
    case round =>
      obtain ⟨p, os, hp1, rfl, hlen, hdo2, hv, hown, hbe⟩ := hrel
      by_cases hlt : p < m
      · obtain ⟨b3, o3, hA, hbb, hcl⟩ := (HS2.out.below hbe (Nat.le_refl _)).dat (k := p) (by have := HDL.out; omega)
        injection hA with hA
        injection hA with e1 e2
        subst e1; subst e2
        have i0' : (0 : Int) ≤ (p : Int) := by omega
        have i1 : (p : Int) < (m : Int) := by omega
        have d1 := nd_lt hdo.out p
        have d2 := nd_lt hdo.out (p + 1)
        have HOWN2 := Lib.hid hown
        have HBE := Lib.hid hbe
        have HD1 := Lib.hid d1
        have HD2 := Lib.hid d2
        have hfz : wr.frozen? ⟨w.heap.size, p, none⟩ = false := hown.frozenAt p
        have hcu : wr.cell? ⟨w.heap.size, p, none⟩ = some (.int .u32 (nd os p : Int)) := by
          rw [hown.cellAt p (by omega), List.getElem?_map, nd_some (by omega)]; rfl
        by_cases hlt2 : p + 1 < m
        · obtain ⟨b4, o4, hA, hbb2, hcl2⟩ := (HS2.out.below hbe (Nat.le_refl _)).dat (k := p + 1) (by have := HDL.out; omega)
          injection hA with hA
          injection hA with e1 e2
          subst e1; subst e2
          clear hown hbe
          have j1 : (p : Int) + 1 < (m : Int) := by omega
          go_wp2
          have d1 := HD1.out
          have d2 := HD2.out
          have e0 : (nd D (p + 1) : Int) * 4294967296 = ((nd D (p + 1) * 4294967296 : Nat) : Int) := by simp
          have hor := or_add (x := nd D p) (m := nd D (p + 1)) (r := 32) (by simpa using d1)
          have hb0 : bits .or .u64 (nd D p : Int) ((nd D (p + 1) * 4294967296 : Nat) : Int) = ((nd D p + nd D (p + 1) * 4294967296 : Nat) : Int) := by
            rw [u64_or_nat _ _ (by omega) (by omega)]
            exact congrArg (fun t : Nat => (t : Int)) hor
          have e1 : ((nd D p + nd D (p + 1) * 4294967296 : Nat) : Int) / 2 ^ r % 4294967296 = (((nd D p + nd D (p + 1) * 4294967296) / 2 ^ r % 4294967296 : Nat) : Int) := by simp
          rw [e0, hb0, e1]
          have hdg : (nd D p + nd D (p + 1) * 4294967296) / 2 ^ r % 4294967296 = a / 2 ^ n / 4294967296 ^ p % 4294967296 := by
            rw [HND.out p, HND.out (p + 1), Nat.mul_comm (_ % 4294967296) 4294967296, right_step hrb, Nat.div_div_eq_div_mul a, HEX.out]
          refine ⟨⟨p + 1, os.set p ((nd D p + nd D (p + 1) * 4294967296) / 2 ^ r % 4294967296), by omega, by go_num, by simpa using hlen, Lib.hid (dok_set hdo2.out (Nat.mod_lt _ (by decide)) _), Lib.hid (fun j hj => ?_), ?_, HBE.out.setCell (Nat.le_refl _) _⟩, by simp [intOf]; omega⟩
          · rw [nd_set]
            split
            · rename_i hjp
              rw [hdg, hjp.1]
            · rename_i hjp
              exact hv.out j (by
                rcases Nat.lt_or_ge j p with hh | hh
                · exact hh
                · exact absurd ⟨by omega, by omega⟩ hjp)
          · rw [← set_u32]; exact (HOWN2.out.stored p _).1
        · clear hown hbe
          have j1 : ¬ (p : Int) + 1 < (m : Int) := by omega
          go_wp2
          have d1 := HD1.out
          have d2 : nd D (p + 1) = 0 := nd_out (by have := HDL.out; omega)
          have e1 : (nd D p : Int) / 2 ^ r % 4294967296 = ((nd D p / 2 ^ r % 4294967296 : Nat) : Int) := by simp
          rw [e1]
          have hdg : nd D p / 2 ^ r % 4294967296 = a / 2 ^ n / 4294967296 ^ p % 4294967296 := by
            have h := right_step (n := a / 4294967296 ^ q) (i := p) hrb
            rw [← HND.out p, ← HND.out (p + 1), d2, Nat.mul_zero, Nat.add_zero, Nat.div_div_eq_div_mul a, HEX.out] at h
            exact h
          refine ⟨⟨p + 1, os.set p (nd D p / 2 ^ r % 4294967296), by omega, by go_num, by simpa using hlen, Lib.hid (dok_set hdo2.out (Nat.mod_lt _ (by decide)) _), Lib.hid (fun j hj => ?_), ?_, HBE.out.setCell (Nat.le_refl _) _⟩, by simp [intOf]; omega⟩
          · rw [nd_set]
            split
            · rename_i hjp
              rw [hdg, hjp.1]
            · rename_i hjp
              exact hv.out j (by
                rcases Nat.lt_or_ge j p with hh | hh
                · exact hh
                · exact absurd ⟨by omega, by omega⟩ hjp)
          · rw [← set_u32]; exact (HOWN2.out.stored p _).1
      · obtain rfl : p = m := by omega
        have HOWN2 := Lib.hid hown
        have HBE := Lib.hid hbe
        have hval : val os = a / 2 ^ n := by
          refine val_of_nd ?_ (fun j hj => hv.out j (by omega))
          have h2 := dig_length_lt a
          rw [HN1.out, Nat.pow_add] at h2
          rw [hlen, ← HEX.out, ← Nat.div_div_eq_div_mul]
          have h3 : a / 4294967296 ^ q < 4294967296 ^ p := by
            rw [Nat.div_lt_iff_lt_mul (Nat.pow_pos (by decide)), Nat.mul_comm]; exact h2
          exact Nat.lt_of_le_of_lt (Nat.div_le_self _ _) h3
        have HVAL := Lib.hid hval
        clear hown hbe hval
        go_wp2_with fail
        refine (cut_any _ p p os hlen (Nat.le_refl _) (by omega) hdo2.out _ _ (own_seq HOWN2.out)).mono ?_
        rintro e w' ⟨rfl, hd, rfl⟩
        rw [HVAL.out] at hd ⊢
        go_wp2
        go_ret
        refine ⟨_, _, rfl, ?_, ?_, own_dty HOWN2.out, HBE.out⟩
        · have h5 := congrArg List.length hd
          rw [List.length_take, hlen] at h5
          omega
        · have h6 := (own_seq HOWN2.out).take (dig (a / 2 ^ n)).length
          rw [← List.map_take, hd] at h6
          exact h6
end Go.Proofs.YtbgjcpnbdgljbaaGreatDoor
