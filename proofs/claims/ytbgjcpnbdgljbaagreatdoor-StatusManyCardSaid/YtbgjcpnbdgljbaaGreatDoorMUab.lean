/- math/bits.TrailingZeros64, bits.Parts: a float's sign, whole number and exponent. -/
import Derived.Test.YtbgjcpnbdgljbaaGreatDoorMDyd
import Derived.Test.YtbgjcpnbdgljbaaGreatDoorMVpa
import Derived.Test.YtbgjcpnbdgljbaaGreatDoorMGwh
import Derived.Laws.BitsAllLaws
import Derived.Deep.QuietTactic
import Derived.BigQuiet
import Derived.Test.YtbgjcpnbdgljbaaGreatDoorMIni
import Derived.Deep.RegionHeld3
namespace Go.Proofs.YtbgjcpnbdgljbaaGreatDoor
open Go.RowKit Go.Fil Go.Shelf
attribute [local irreducible] fop fsqrt fup fabs fneg pick

abbrev Tab64 (w : World) : Prop := TabAt 1 Lib.deBruijn64tab w
theorem ctz64_tz {x : Nat} (h0 : x ≠ 0) (h : x < 18446744073709551616) : Lib.ctz 64 x = tz x := by
  obtain ⟨m, hm, _⟩ := Lib.ctzFrom_spec 64 x (by omega) h
  have e : Lib.ctz 64 x = Lib.ctzFrom 64 x := by simp [Lib.ctz, h0]
  rw [e]
  conv => rhs; rw [hm]
  exact (tz_of (by omega) _).symm
set_option maxHeartbeats 1000000 in
theorem tz64_core (x k idx : Nat) (w : World) (hx0 : ((x : Int) == 0) = false)
    (key : IntKind.u64.wrap (bits BinOp.and IntKind.u64 (x : Int) (IntKind.u64.wrap (-(x : Int))) * 285870213051353865) / 288230376151711744 = (idx : Int))
    (hi : idx < 64) (hcell : w.cell? ⟨1, idx, none⟩ = some (.int .u8 k)) (hk : k < 64) :
    Calls Tryz.prog 187 #[.int .u64 (x : Int)] w fun e w' => e = .returned (.int .i64 k) ∧ w = w' := by
  go_enter Tryz.func187, Tryz.ntmps187
  go_wp2_with (simp only [key])
  go_ret
  exact ⟨rfl, rfl⟩
theorem tz64_any (x : Nat) (h0 : x ≠ 0) (hx : x < 18446744073709551616) (w : World) (hT : Tab64 w) :
    Calls Tryz.prog 187 #[.int .u64 (x : Int)] w fun e w' => e = .returned (.int .i64 (tz x : Int)) ∧ w = w' := by
  obtain ⟨hlow, hk⟩ := Lib.lowest_bit 64 x h0 hx
  obtain ⟨hi, htab⟩ := Lib.deBruijn64_at _ hk
  have hcell := hT _ hi
  rw [htab] at hcell
  have h := tz64_core x _ _ w (by simp; omega) (tz64_key x _ hx h0 hlow) hi hcell hk
  rw [ctz64_tz h0 hx] at h
  exact h
theorem or52_u64 (m : Nat) (hm : m < 4503599627370496) : bits .or .u64 (m : Int) 4503599627370496 = (m : Int) + 4503599627370496 := by
  have h1 := u64_or_nat m 4503599627370496 (by omega) (by decide)
  have e := or_add (x := m) (m := 1) (r := 52) (by omega)
  rw [show (1 * 2 ^ 52 : Nat) = 4503599627370496 by decide] at e
  rw [e] at h1
  exact h1
theorem tab64_drewN {w : World} (h : Tab64 w) (n : Nat) : Tab64 (w.drewN n) := h
theorem fin_finB {x : Nat} (hx : x < 18446744073709551616) (h : fin x = true) : finB x = true := by
  have hl : fop .sub x x < 18446744073709551616 := fop_lt _ _ _
  obtain ⟨h1, h2⟩ := (fop_sub_rd h hx h hx).rd.exact (t := 0) (by decide) (.inl (by rw [rv_zero]; grind))
  have h3 := feq_fv h1 hl fin_zero (b := 0) (by decide)
  unfold feq at h3
  unfold finB
  rw [h3, h2, fv_zero]
  exact decide_eq_true (by grind)
theorem and63 (x : Nat) (hx : x < 18446744073709551616) : (bits .and .u64 (x : Int) 9223372036854775808 != 0) = decide (9223372036854775808 ≤ x) := by
  have h := u64_and_nat x 9223372036854775808 hx (by decide)
  rw [show ((9223372036854775808 : Nat) : Int) = 9223372036854775808 from rfl] at h
  rw [h]
  have e : x &&& 9223372036854775808 = (x / 9223372036854775808 % 2) * 9223372036854775808 := by
    rw [show (9223372036854775808 : Nat) = 2 ^ 63 by decide]
    apply Nat.eq_of_testBit_eq
    intro i
    rw [Nat.testBit_and, Nat.testBit_two_pow]
    by_cases hi : 63 = i
    · subst hi
      rw [Nat.testBit_eq_decide_div_mod_eq (x := x)]
      by_cases h1 : x / 2 ^ 63 % 2 = 1
      · rw [decide_eq_true h1, h1, Nat.one_mul, Nat.testBit_two_pow]; rfl
      · rw [decide_eq_false h1, show x / 2 ^ 63 % 2 = 0 by omega, Nat.zero_mul, Nat.zero_testBit]; rfl
    · rw [decide_eq_false hi, Bool.and_false]
      by_cases h1 : x / 2 ^ 63 % 2 = 1
      · rw [h1, Nat.one_mul, Nat.testBit_two_pow, decide_eq_false hi]
      · rw [show x / 2 ^ 63 % 2 = 0 by omega, Nat.zero_mul, Nat.zero_testBit]
  rw [e]
  by_cases h1 : 9223372036854775808 ≤ x
  · rw [decide_eq_true h1, show x / 9223372036854775808 % 2 = 1 by omega]; rfl
  · rw [decide_eq_false h1, show x / 9223372036854775808 % 2 = 0 by omega]; rfl
theorem parts_val (neg : Bool) (m : Nat) (e : Int) : ((sg neg (od m) : Int) : Rat) * p2 (e + (tz m : Int)) = ((sg neg m : Int) : Rat) * p2 e := by
  have h : ((m : Nat) : Rat) = ((od m : Nat) : Rat) * p2 (tz m : Int) := by
    rw [p2_nat]
    rw [← Rat.natCast_mul, Nat.mul_comm, tz_mul]
  rw [p2_add]
  unfold sg
  cases neg
  · simp only [Bool.false_eq_true, if_false, Rat.intCast_natCast]
    rw [h]; grind
  · simp only [if_true, Rat.intCast_neg, Rat.intCast_natCast]
    rw [h]; grind
/-- What Parts answers. -/
def RParts (x : Nat) (w : World) (e : Ending) (w' : World) : Prop := ∃ (neg : Bool) (m : Nat) (E : Int) (k : Nat), e = .returned (.tuple #[.bool neg, .int .u64 (m : Int), .int .i64 E, .bool true]) ∧ ((sg neg m : Int) : Rat) * p2 E = fv x ∧ m < 9007199254740992 ∧ -1074 ≤ E ∧ E ≤ 1100 ∧ w.drewN k = w'
theorem parts_post (x m : Nat) (e0 : Int) (hm : m ≠ 0) (hm2 : m < 9007199254740992) (he1 : -1074 ≤ e0) (he2 : e0 ≤ 972) (hN : (bits .and .u64 (x : Int) 9223372036854775808 != 0) = decide (9223372036854775808 ≤ x)) (hV : fv x = ((sg (decide (9223372036854775808 ≤ x)) m : Int) : Rat) * p2 e0) (w : World) (k : Nat) :
    RParts x w (.returned (.tuple #[.bool (bits .and .u64 (x : Int) 9223372036854775808 != 0), .int .u64 ((m : Int) / 2 ^ min (tz m) 64), .int .i64 (wrap64 (e0 + (tz m : Int))), .bool true])) (w.drewN k) := by
  have h53 : bl m ≤ 53 := bl_le_of_lt (by simpa using hm2)
  have htz : tz m < bl m := by
    have h1 := bl_od_tz hm
    have h2 := od_pos hm
    have h3 : 0 < bl (od m) := by
      rcases Nat.eq_zero_or_pos (bl (od m)) with h | h
      · have := bl_lt (od m); rw [h] at this; omega
      · exact h
    omega
  have e1 : ((m : Int) / 2 ^ min (tz m) 64) = ((od m : Nat) : Int) := by
    rw [Nat.min_eq_left (by omega)]
    have h := tz_mul m
    have h4 : m / 2 ^ tz m = od m := by
      conv => lhs; lhs; rw [← h]
      exact Nat.mul_div_cancel_left _ (Nat.two_pow_pos _)
    rw [← h4]; push_cast; rfl
  have e2 : wrap64 (e0 + (tz m : Int)) = e0 + (tz m : Int) := by unfold wrap64; omega
  rw [e1, e2, hN]
  refine ⟨_, od m, _, k, rfl, ?_, ?_, by omega, by omega, rfl⟩
  · rw [parts_val, hV]
  · have h := tz_mul m
    have : od m * 1 ≤ od m * 2 ^ tz m := Nat.mul_le_mul_left _ (Nat.two_pow_pos _)
    rw [Nat.mul_comm] at h
    omega
theorem parts_any (x : Nat) (hx : x < 18446744073709551616) (hf : fin x = true) (w : World) (hT : Tab64 w) : Calls Tryz.prog 125 #[.float .f64 x] w (RParts x w) := by
  have h3 := run_f64bits
  have h4 := fl_and x hx
  have h5 := fl_exp x hx
  have HX := Lib.hid hx
  have hfin : finB x = true := fin_finB hx hf
  have HT := Lib.hid hT
  clear hx hT
  generalize hE : x / 4503599627370496 % 2048 = E at *
  generalize hM : x % 4503599627370496 = M at *
  have i0 : (0 : Int) ≤ (E : Int) := by omega
  have i1 : (E : Int) ≤ 2047 := by omega
  have i2 : (0 : Int) ≤ (M : Int) := by omega
  have i3 : (M : Int) ≤ 4503599627370495 := by omega
  have HE := Lib.hid hE
  have HM := Lib.hid hM
  clear hE hM
  have HN := Lib.hid (and63 x HX.out)
  have HV := Lib.hid (flD_val x)
  have HNZ := Lib.hid (show E = 0 → flM x = M ∧ flE x = -1074 from fun h => ⟨by unfold flM; rw [HE.out, HM.out, if_pos h], by unfold flE; rw [HE.out, if_pos h]; rfl⟩)
  have HNE := Lib.hid (show E ≠ 0 → flM x = M + 4503599627370496 ∧ flE x = (E : Int) - 1075 from fun h => ⟨by unfold flM; rw [HE.out, HM.out, if_neg h]; omega, by unfold flE; rw [HE.out, if_neg h]⟩)
  have hfv : fv x = neg1 (decide (9223372036854775808 ≤ x)) * rv (x % 9223372036854775808) := rfl
  have HFV := Lib.hid hfv
  have HOR := Lib.hid (or52_u64 M (by omega))
  clear hfv
  by_cases h0 : E = 0
  · obtain ⟨m1, m2⟩ := HNZ.out h0
    rw [m1, m2] at HV
    subst h0
    clear m1 m2
    by_cases hm : M = 0
    · subst hm
      go_enter Tryz.func125, Tryz.ntmps125
      go_wp2_with (first
        | (go_at_call 180; refine (finite_any _ _).mono ?_; rintro e w' ⟨k, rfl, rfl⟩; simp only [hfin]))
      refine bodyPost_ret (v := .tuple #[.bool (bits BinOp.and IntKind.u64 (↑x) 9223372036854775808 != 0), .int .u64 0, .int .i64 0, .bool true]) (by simp [results, Tryz.results125, go_sem]) rfl ⟨_, 0, 0, k, rfl, ?_, by decide, by decide, by decide, rfl⟩
      rw [HFV.out, ← HV.out]
      unfold sg; simp
    · have hm' : ((M : Int) == 0) = false := by rw [beq_eq_false_iff_ne]; omega
      have t0 : (0 : Int) ≤ (tz M : Int) := by omega
      go_enter Tryz.func125, Tryz.ntmps125
      go_wp2_with (first
        | (go_at_call 180; refine (finite_any _ _).mono ?_; rintro e w' ⟨k, rfl, rfl⟩; simp only [hfin])
        | (go_at_call 187; refine (tz64_any M hm (by omega) _ (tab64_drewN HT.out _)).mono ?_; rintro e w' ⟨rfl, rfl⟩))
      go_quiet (fail)
      go_wp2
      have hd : (w.drewN k).drewN nq = w.drewN (k + nq) := by simp [World.drewN, Nat.add_assoc]
      rw [hd]
      refine bodyPost_ret (v := .tuple #[.bool (bits BinOp.and IntKind.u64 (↑x) 9223372036854775808 != 0), .int .u64 ((M : Int) / 2 ^ min (tz M) 64), .int .i64 (wrap64 (-1074 + (tz M : Int))), .bool true]) (by simp [results, Tryz.results125, go_sem]) rfl ?_
      exact parts_post x M (-1074) hm (by omega) (by omega) (by omega) HN.out (by rw [HFV.out, ← HV.out]) w _
  · obtain ⟨m1, m2⟩ := HNE.out h0
    rw [m1, m2] at HV
    clear m1 m2 HNE HNZ
    have hor := HOR.out
    clear HOR
    obtain ⟨mm, hmm⟩ : ∃ mm, M + 4503599627370496 = mm := ⟨_, rfl⟩
    rw [hmm] at HV
    rw [show (M : Int) + 4503599627370496 = (mm : Int) by omega] at hor
    have b1 : mm ≠ 0 := by omega
    have b2 : mm < 9007199254740992 := by omega
    have HMM := Lib.hid hmm
    clear hmm
    have e0 : ¬ (E : Int) = 0 := by omega
    have e1 : (0 : Int) < (E : Int) := by omega
    have hm' : ((mm : Int) == 0) = false := by rw [beq_eq_false_iff_ne]; omega
    have HTZ := Lib.hid (fun n => tz64_any mm b1 (by omega) (w.drewN n) (tab64_drewN HT.out n))
    have t0 : (0 : Int) ≤ (tz mm : Int) := by omega
    have hff : E < 2047 := by
      have h1 := HE.out
      unfold fin at hf
      have h2 := of_decide_eq_true hf
      omega
    have HP := Lib.hid (fun k => parts_post x mm ((E : Int) - 1 - 1074) b1 b2 (by omega) (by omega) HN.out (by rw [HFV.out, ← HV.out, show (E : Int) - 1 - 1074 = (E : Int) - 1075 by omega]) w k)
    clear HN HFV HV b1 b2 hff HE HM HX
    go_enter Tryz.func125, Tryz.ntmps125
    go_wp2_with (first
      | (go_at_call 180; refine (finite_any _ _).mono ?_; rintro e w' ⟨k, rfl, rfl⟩; simp only [hfin])
      | (go_at_call 187; refine (HTZ.out _).mono ?_; rintro e w' ⟨rfl, rfl⟩))
    go_quiet (fail)
    go_wp2
    have hd : (w.drewN k).drewN nq = w.drewN (k + nq) := by simp [World.drewN, Nat.add_assoc]
    rw [hd]
    exact bodyPost_ret (v := .tuple #[.bool (bits BinOp.and IntKind.u64 (↑x) 9223372036854775808 != 0), .int .u64 ((mm : Int) / 2 ^ min (tz mm) 64), .int .i64 (wrap64 ((E : Int) - 1 - 1074 + (tz mm : Int))), .bool true]) (by simp [results, Tryz.results125, go_sem]) rfl (HP.out (k + nq))
end Go.Proofs.YtbgjcpnbdgljbaaGreatDoor

/- ball's exact numbers: plus. -/
namespace Go.Proofs.YtbgjcpnbdgljbaaGreatDoor
open Go.RowKit Go.Fil Go.Shelf
attribute [local irreducible] fop fsqrt fup fabs fneg pick

/-- An exact number's size. -/
structure Sz (m e : Int) (K : Nat) : Prop where
  b : bl m.natAbs ≤ K
  lo : -(K : Int) ≤ e
  hi : e ≤ (K : Int)
theorem Sz.mono {m e : Int} {K L : Nat} (h : Sz m e K) (hKL : K ≤ L) : Sz m e L := ⟨Nat.le_trans h.b hKL, by have := h.lo; omega, by have := h.hi; omega⟩
/-- What a function that makes an exact number answers. -/
def RNm (v : Rat) (K : Nat) (w : World) (en : Ending) (w' : World) : Prop := ∃ g m e, en = .returned (.agg #[.pointer (some ⟨g, 0, none⟩), .int .i64 e]) ∧ IntAt w' g m ∧ (m : Rat) * p2 e = v ∧ Sz m e K ∧ Below w.heap.size w w'
/-- An Int is kept where a block that is neither an Int nor digits is turned. -/
theorem IntAt.but {w w' : World} {g k : Nat} {z : Int} (h : IntAt w g z) (hk : ∀ i, i ≠ k → w'.heap[i]? = w.heap[i]?) (hs : w'.heap.size = w.heap.size) {cs : Array Value} {t : TypeId} {fr : Nat × Nat} (ht : w.heap[k]? = some (.cells cs t fr)) (h1 : t ≠ 183) (h2 : t ≠ 244) : IntAt w' g z := by
  obtain ⟨A, c, h3, h4, h5, h6⟩ := h
  have hgk : g ≠ k := by
    rintro rfl
    rw [h3] at ht
    injection ht with ht
    injection ht with _ ht _
    exact h1 ht.symm
  refine ⟨A, c, by rw [hk g hgk]; exact h3, h4, ?_, ?_⟩
  · rcases h5 with h5 | ⟨b, o, hA, hb, hc⟩
    · exact .inl h5
    · have hbk : b ≠ k := by
        rintro rfl
        obtain ⟨cs', h7⟩ := h6 b o hA
        rw [h7] at ht
        injection ht with ht
        injection ht with _ ht _
        exact h2 ht.symm
      exact .inr ⟨b, o, hA, by rw [hs]; exact hb, fun j u hj => by rw [World.cell?_of_block (w := w) (a := ⟨b, o + j, none⟩) (hk b hbk)]; exact hc j u hj⟩
  · intro b o hA
    obtain ⟨cs', h7⟩ := h6 b o hA
    have hbk : b ≠ k := by
      rintro rfl
      rw [h7] at ht
      injection ht with ht
      injection ht with _ ht _
      exact h2 ht.symm
    exact ⟨cs', by rw [hk b hbk]; exact h7⟩
/-- A block of the call's own that holds an exact number. -/
def NBlk (w : World) (k : Nat) : Prop := ∃ u v, w.heap[k]? = some (.cells #[u, v] 113 (0, 0))
theorem NBlk.set {w : World} {k : Nat} (h : NBlk w k) (o : Nat) (x : Value) (ho : o < 2) : NBlk (w.setCell ⟨k, o, none⟩ x) k := by
  obtain ⟨u, v, h⟩ := h
  unfold NBlk
  rw [heap_setCell_same w k o _ _ x h]
  match o, ho with
  | 0, _ => exact ⟨_, _, rfl⟩
  | 1, _ => exact ⟨_, _, rfl⟩
theorem NBlk.cells {w : World} {k : Nat} (h : NBlk w k) : (∃ u, w.cell? ⟨k, 0, none⟩ = some u) ∧ (∃ u, w.cell? ⟨k, 1, none⟩ = some u) ∧ ∀ o, w.frozen? ⟨k, o, none⟩ = false := by
  obtain ⟨u, v, h⟩ := h
  exact ⟨⟨u, by rw [cell_of_row w k 0 _ _ (0, 0) h]; rfl⟩, ⟨v, by rw [cell_of_row w k 1 _ _ (0, 0) h]; rfl⟩, fun o => frozen_of_row w k o _ _ h⟩
theorem IntAt.store {w : World} {g k : Nat} {z : Int} (h : IntAt w g z) (hn : NBlk w k) (o : Nat) (x : Value) : IntAt (w.setCell ⟨k, o, none⟩ x) g z := by
  obtain ⟨u, v, hk⟩ := hn
  exact h.but (fun i hi => heap_setCell_other _ ⟨k, o, none⟩ i _ (fun e => hi e)) (by simp) hk (by decide) (by decide)
theorem NBlk.new (w : World) (u v : Value) : NBlk (w.alloc (.cells #[u, v] 113)) w.heap.size := ⟨u, v, fresh_row w _⟩
theorem NBlk.below {w w' : World} {k B : Nat} (h : NBlk w k) (hb : Below B w w') (hk : k < B) : NBlk w' k := by
  obtain ⟨u, v, h⟩ := h
  exact ⟨u, v, by rw [hb.block k hk]; exact h⟩
theorem NBlk.grown {w w' : World} {k g : Nat} (h : NBlk w k) (hb : w.grownBy w' (some g)) (hne : k ≠ g) : NBlk w' k := by
  obtain ⟨u, v, h⟩ := h
  have hk : k < w.heap.size := by
    refine Nat.lt_of_not_le fun hge => ?_
    rw [Array.getElem?_eq_none hge] at h; cases h
  exact ⟨u, v, by rw [hb.block k hk (by simpa using hne)]; exact h⟩
theorem rnm_of {w w' : World} {g : Nat} {m e : Int} {v : Rat} {K : Nat} (hz : IntAt w' g m) (hv : (m : Rat) * p2 e = v) (hs : Sz m e K) (hb : Below w.heap.size w w') : RNm v K w (.returned (.agg #[.pointer (some ⟨g, 0, none⟩), .int .i64 e])) w' := ⟨g, m, e, rfl, hz, hv, hs, hb⟩
theorem num_shl (m e : Int) (n : Nat) : ((m * 2 ^ n : Int) : Rat) * p2 e = (m : Rat) * p2 (e + (n : Int)) := by
  rw [p2_add, p2_nat]
  push_cast
  grind
section
variable (g1 g2 : Nat) (m1 m2 e1 e2 : Int) (K : Nat) (hK : K ≤ 1000000) (h1 : Sz m1 e1 K) (h2 : Sz m2 e2 K) (w : World) (hz1 : IntAt w g1 m1) (hz2 : IntAt w g2 m2)
include hK h1 h2 hz1 hz2
set_option maxRecDepth 100000 in
set_option maxHeartbeats 3200000 in
theorem nplus_zero (h0 : m1 = 0 ∨ m2 = 0) : Calls Tryz.prog 65 #[.agg #[.pointer (some ⟨g1, 0, none⟩), .int .i64 e1], .agg #[.pointer (some ⟨g2, 0, none⟩), .int .i64 e2]] w (RNm ((m1 : Rat) * p2 e1 + (m2 : Rat) * p2 e2) (3 * K + 1) w) := by
  have hl1 := dig_len_lim h1.b
  have hl2 := dig_len_lim h2.b
  have hb : Below w.heap.size w (((w.alloc (.cells #[.pointer (some ⟨g1, 0, none⟩), .int .i64 e1] 113)).alloc (.cells #[.pointer (some ⟨g2, 0, none⟩), .int .i64 e2] 113)).alloc (.cells #[.pointer none, .int .i64 0] 113)) := by repeat (first | exact Below.refl _ _ | refine below_drewN ?_ _ | refine Below.alloc ?_ (by first | omega | (simp; omega) | simp) _ | refine Below.setCell ?_ (by first | omega | (simp; omega) | simp) _ | refine Below.trans ?_ (Below.mono (by assumption) (by first | omega | (simp; omega) | simp)) | apply Below.drew)
  have HS := Lib.hid (fun w hz => isign_any g1 m1 (by omega) w hz)
  have HS2 := Lib.hid (fun w hz => isign_any g2 m2 (by omega) w hz)
  have HZ1 := Lib.hid hz1
  have HZ2 := Lib.hid hz2
  have HH1 := Lib.hid h1
  have HH := Lib.hid h2
  have HB := Lib.hid hb
  clear hz1 hz2 h1 h2 hl1 hb hl2
  by_cases h0' : m1 = 0
  · subst h0'
    go_enter Tryz.func65, Tryz.ntmps65
    go_wp2_with (first
      | (go_at_call 121; refine (HS.out _ (HZ1.out.below HB.out)).mono ?_; rintro e w' ⟨rfl, rfl⟩))
    have hz : (((0 : Int) : Rat) * p2 e1 + (m2 : Rat) * p2 e2) = (m2 : Rat) * p2 e2 := by rw [show ((0 : Int) : Rat) = 0 from rfl, Rat.zero_mul, Rat.zero_add]
    rw [hz]
    have hbw : Below w.heap.size w (((w.alloc (.cells #[.pointer (some ⟨g1, 0, none⟩), .int .i64 e1] 113)).alloc (.cells #[.pointer (some ⟨g2, 0, none⟩), .int .i64 e2] 113)).alloc (.cells #[.pointer (some ⟨g2, 0, none⟩), .int .i64 e2] 113)) := by repeat (first | exact Below.refl _ _ | refine below_drewN ?_ _ | refine Below.alloc ?_ (by first | omega | (simp; omega) | simp) _ | refine Below.setCell ?_ (by first | omega | (simp; omega) | simp) _ | refine Below.trans ?_ (Below.mono (by assumption) (by first | omega | (simp; omega) | simp)) | apply Below.drew)
    exact bodyPost_ret (v := .agg #[.pointer (some ⟨g2, 0, none⟩), .int .i64 e2]) (by simp [results, Tryz.results65, go_sem]) rfl (rnm_of (HZ2.out.below hbw) rfl (HH.out.mono (by omega)) hbw)
  · obtain rfl : m2 = 0 := by omega
    have hs1 : (m1.sign == 0) = false := by rw [beq_eq_false_iff_ne]; exact fun h => h0' (Int.sign_eq_zero_iff_zero.1 h)
    go_enter Tryz.func65, Tryz.ntmps65
    go_wp2_with (first
      | (go_at_call 121; (with_reducible refine (HS.out _ (HZ1.out.below HB.out)).mono ?_); rintro e w' ⟨rfl, rfl⟩)
      | (go_at_call 121; (with_reducible refine (HS2.out _ (HZ2.out.below HB.out)).mono ?_); rintro e w' ⟨rfl, rfl⟩))
    have hz : ((m1 : Rat) * p2 e1 + ((0 : Int) : Rat) * p2 e2) = (m1 : Rat) * p2 e1 := by rw [show ((0 : Int) : Rat) = 0 from rfl, Rat.zero_mul, Rat.add_zero]
    rw [hz]
    have hbw : Below w.heap.size w (((w.alloc (.cells #[.pointer (some ⟨g1, 0, none⟩), .int .i64 e1] 113)).alloc (.cells #[.pointer (some ⟨g2, 0, none⟩), .int .i64 e2] 113)).alloc (.cells #[.pointer (some ⟨g1, 0, none⟩), .int .i64 e1] 113)) := by repeat (first | exact Below.refl _ _ | refine below_drewN ?_ _ | refine Below.alloc ?_ (by first | omega | (simp; omega) | simp) _ | refine Below.setCell ?_ (by first | omega | (simp; omega) | simp) _ | refine Below.trans ?_ (Below.mono (by assumption) (by first | omega | (simp; omega) | simp)) | apply Below.drew)
    exact bodyPost_ret (v := .agg #[.pointer (some ⟨g1, 0, none⟩), .int .i64 e1]) (by simp [results, Tryz.results65, go_sem]) rfl (rnm_of (HZ1.out.below hbw) rfl (HH1.out.mono (by omega)) hbw)
set_option maxRecDepth 100000 in
set_option maxHeartbeats 6400000 in
theorem nplus_ge (n : Nat) (he : e1 = e2 + (n : Int)) (n1 : m1 ≠ 0) (n2 : m2 ≠ 0) : Calls Tryz.prog 65 #[.agg #[.pointer (some ⟨g1, 0, none⟩), .int .i64 e1], .agg #[.pointer (some ⟨g2, 0, none⟩), .int .i64 e2]] w (RNm ((m1 : Rat) * p2 e1 + (m2 : Rat) * p2 e2) (3 * K + 1) w) := by
  have hl1 := dig_len_lim h1.b
  have hl2 := dig_len_lim h2.b
  have hlo := h2.lo
  have hhi := h1.hi
  have hn : n ≤ 2 * K := by omega
  have hsz : Sz (m1 * 2 ^ n + m2) e2 (3 * K + 1) := by
    refine ⟨?_, by omega, by have := h2.hi; omega⟩
    have b1 : bl (m1 * 2 ^ n).natAbs ≤ 3 * K := by
      rw [Int.natAbs_mul, show ((2 : Int) ^ n).natAbs = 2 ^ n by rw [Int.natAbs_pow]; rfl]
      have := bl_shl m1.natAbs n
      have := h1.b
      omega
    exact bl_sum b1 (Nat.le_trans h2.b (by omega))
  have hval : (m1 : Rat) * p2 e1 + (m2 : Rat) * p2 e2 = ((m1 * 2 ^ n + m2 : Int) : Rat) * p2 e2 := by
    rw [he, Rat.intCast_add, Rat.add_mul, num_shl]
  rw [hval]
  have b1 : bl m1.natAbs ≤ 137438953472 := Nat.le_trans h1.b (by omega)
  have b2 : bl m2.natAbs ≤ 137438953472 := Nat.le_trans h2.b (by omega)
  have b3 : bl (m1 * 2 ^ n).natAbs ≤ 137438953472 := by
    rw [Int.natAbs_mul, show ((2 : Int) ^ n).natAbs = 2 ^ n by rw [Int.natAbs_pow]; rfl]
    have := bl_shl m1.natAbs n
    have := h1.b
    omega
  have hb : Below w.heap.size w (((w.alloc (.cells #[.pointer (some ⟨g1, 0, none⟩), .int .i64 e1] 113)).alloc (.cells #[.pointer (some ⟨g2, 0, none⟩), .int .i64 e2] 113)).alloc (.cells #[.pointer none, .int .i64 0] 113)) := by repeat (first | exact Below.refl _ _ | refine below_drewN ?_ _ | refine Below.alloc ?_ (by first | omega | (simp; omega) | simp) _ | refine Below.setCell ?_ (by first | omega | (simp; omega) | simp) _ | refine Below.trans ?_ (Below.mono (by assumption) (by first | omega | (simp; omega) | simp)) | apply Below.drew)
  have HS := Lib.hid (fun w hz => isign_any g1 m1 (by omega) w hz)
  have HS2 := Lib.hid (fun w hz => isign_any g2 m2 (by omega) w hz)
  have HLS := Lib.hid (fun g w hb hz => ilsh_any g g1 n m1 b1 (by omega) w hb hz)
  have HAD := Lib.hid (fun g w hb hy hz => iadd_any g g g2 (m1 * 2 ^ n) m2 b3 b2 w hb hy hz)
  have HZ1 := Lib.hid hz1
  have HZ2 := Lib.hid hz2
  have HSZ := Lib.hid hsz
  have HB := Lib.hid hb
  have hg1 := hz1.lt
  have hg2 := hz2.lt
  have hs1 : (m1.sign == 0) = false := by rw [beq_eq_false_iff_ne]; exact fun h => n1 (Int.sign_eq_zero_iff_zero.1 h)
  have hs2 : (m2.sign == 0) = false := by rw [beq_eq_false_iff_ne]; exact fun h => n2 (Int.sign_eq_zero_iff_zero.1 h)
  have hsh : e2 + (n : Int) - e2 = (n : Int) := by omega
  have hlt : ¬ e2 + (n : Int) < e2 := by omega
  subst he
  have i0 : (0 : Int) ≤ (n : Int) := by omega
  have i1 : (n : Int) ≤ 2000000 := by omega
  have i2 : -1000000 ≤ e2 := by omega
  have i3 : e2 + (n : Int) ≤ 1000000 := by omega
  clear hz1 hz2 h1 h2 hl1 hb hl2 hsz hval b1 b2 b3 hlo hhi hn n1 n2 hK
  go_enter Tryz.func65, Tryz.ntmps65
  go_wp2_with (first
    | (go_at_call 121; (with_reducible refine (HS.out _ (HZ1.out.below HB.out)).mono ?_); rintro e w' ⟨rfl, rfl⟩)
    | (go_at_call 121; (with_reducible refine (HS2.out _ (HZ2.out.below HB.out)).mono ?_); rintro e w' ⟨rfl, rfl⟩))
  have hb4 : Below w.heap.size w ((((w.alloc (.cells #[.pointer (some ⟨g1, 0, none⟩), .int .i64 (e2 + (n : Int))] 113)).alloc (.cells #[.pointer (some ⟨g2, 0, none⟩), .int .i64 e2] 113)).alloc (.cells #[.pointer none, .int .i64 0] 113)).alloc (.cells #[.bool false, .slice none 0 0] 183)) := by repeat (first | exact Below.refl _ _ | refine below_drewN ?_ _ | refine Below.alloc ?_ (by first | omega | (simp; omega) | simp) _ | refine Below.setCell ?_ (by first | omega | (simp; omega) | simp) _ | refine Below.trans ?_ (Below.mono (by assumption) (by first | omega | (simp; omega) | simp)) | apply Below.drew)
  have hblk : IntBlk ((((w.alloc (.cells #[.pointer (some ⟨g1, 0, none⟩), .int .i64 (e2 + (n : Int))] 113)).alloc (.cells #[.pointer (some ⟨g2, 0, none⟩), .int .i64 e2] 113)).alloc (.cells #[.pointer none, .int .i64 0] 113)).alloc (.cells #[.bool false, .slice none 0 0] 183)) (w.heap.size + 1 + 1 + 1) := by
    have := blk_fresh (((w.alloc (.cells #[.pointer (some ⟨g1, 0, none⟩), .int .i64 (e2 + (n : Int))] 113)).alloc (.cells #[.pointer (some ⟨g2, 0, none⟩), .int .i64 e2] 113)).alloc (.cells #[.pointer none, .int .i64 0] 113))
    simpa using this
  refine (HLS.out _ _ hblk (HZ1.out.below hb4)).mono ?_
  rintro e w5 ⟨rfl, hz5, hg5⟩
  have hsz5 := hg5.size
  simp only [heap_size_alloc'] at hsz5
  have x0 : w5.cell? ⟨w.heap.size + 1, 0, none⟩ = some (.pointer (some ⟨g2, 0, none⟩)) := (World.cell?_of_block (a := ⟨w.heap.size + 1, 0, none⟩) (hg5.block (w.heap.size + 1) (by simp <;> omega) (by simp))).trans (by simp [go_sem])
  have x1 : w5.cell? ⟨w.heap.size + 1, 1, none⟩ = some (.int .i64 e2) := (World.cell?_of_block (a := ⟨w.heap.size + 1, 1, none⟩) (hg5.block (w.heap.size + 1) (by simp <;> omega) (by simp))).trans (by simp [go_sem])
  have hnb : NBlk w5 (w.heap.size + 1 + 1) := by
    have h0 := NBlk.new ((w.alloc (.cells #[.pointer (some ⟨g1, 0, none⟩), .int .i64 (e2 + (n : Int))] 113)).alloc (.cells #[.pointer (some ⟨g2, 0, none⟩), .int .i64 e2] 113)) (.pointer none) (.int .i64 0)
    have h1 := h0.below (alloc_below _ (.cells #[.bool false, .slice none 0 0] 183)) (by simp)
    simp only [heap_size_alloc'] at h1
    exact h1.grown hg5 (by omega)
  have HG5 := Lib.hid hz5
  have HB5 := Lib.hid (grown_below hb4 hg5 (by omega))
  have HNB := Lib.hid hnb
  have HZ5 := Lib.hid (HZ2.out.below HB5.out)
  have HK5 := Lib.hid hz5.blk
  have hl5 : w.heap.size + 1 < w5.heap.size := by omega
  have hl6 : w.heap.size + 1 + 1 < w5.heap.size := by omega
  have nn1 : w.heap.size + 1 ≠ w.heap.size + 1 + 1 + 1 := by omega
  have nn2 : w.heap.size + 1 + 1 ≠ w.heap.size + 1 + 1 + 1 := by omega
  clear hz5 hg5 hb4 hblk hnb
  go_wp2_with fail
  go_region_held3 (fun x => x.cell? ⟨w.heap.size + 1, 0, none⟩ = some (.pointer (some ⟨g2, 0, none⟩)) ∧ x.cell? ⟨w.heap.size + 1, 1, none⟩ = some (.int .i64 e2))
    (refine ⟨?_, ?_⟩ <;> first
      | with_reducible assumption
      | (simp [go_sem, *]; done))
    (first
      | (go_at_call 94; refine (HAD.out _ w5.drew (HK5.out.below (Below.refl _ _).drew) (HG5.out.below (Below.refl _ _).drew) (HZ5.out.below (Below.refl _ _).drew)).mono ?_; rintro e w6 ⟨rfl, hz6, hg6⟩; have p0 := (World.cell?_of_block (a := ⟨w.heap.size + 1, 0, none⟩) (hg6.block (w.heap.size + 1) hl5 (by simp))).trans x0; have p1 := (World.cell?_of_block (a := ⟨w.heap.size + 1, 1, none⟩) (hg6.block (w.heap.size + 1) hl5 (by simp))).trans x1;
          have HG6 := Lib.hid hz6; have HB6 := Lib.hid (grown_below (HB5.out.trans ((Below.refl _ _).drew.mono HB5.out.size)) hg6 (by omega)); have HN6 := Lib.hid ((HNB.out.below (Below.refl _ _).drew hl6).grown hg6 nn2); have hc6 := HN6.out.cells; obtain ⟨⟨ru, r0⟩, ⟨rv', r1⟩, rf⟩ := hc6; clear hz6 hg6))
  go_wp2
  exact bodyPost_ret (v := .agg #[.pointer (some ⟨w.heap.size + 1 + 1 + 1, 0, none⟩), .int .i64 e2]) (by simp [results, Tryz.results65, go_sem, r0, r1]) rfl (rnm_of ((HG6.out.store HN6.out 0 _).store (HN6.out.set 0 _ (by decide)) 1 _) rfl HSZ.out ((HB6.out.setCell (by show w.heap.size ≤ w.heap.size + 1 + 1; omega) _).setCell (by show w.heap.size ≤ w.heap.size + 1 + 1; omega) _))
set_option maxRecDepth 100000 in
set_option maxHeartbeats 6400000 in
theorem nplus_lt (n : Nat) (h0 : 0 < n) (he : e2 = e1 + (n : Int)) (n1 : m1 ≠ 0) (n2 : m2 ≠ 0) : Calls Tryz.prog 65 #[.agg #[.pointer (some ⟨g1, 0, none⟩), .int .i64 e1], .agg #[.pointer (some ⟨g2, 0, none⟩), .int .i64 e2]] w (RNm ((m1 : Rat) * p2 e1 + (m2 : Rat) * p2 e2) (3 * K + 1) w) := by
  have hl1 := dig_len_lim h1.b
  have hl2 := dig_len_lim h2.b
  have hlo := h1.lo
  have hhi := h2.hi
  have hn : n ≤ 2 * K := by omega
  have hsz : Sz (m2 * 2 ^ n + m1) e1 (3 * K + 1) := by
    refine ⟨?_, by omega, by have := h1.hi; omega⟩
    have b1 : bl (m2 * 2 ^ n).natAbs ≤ 3 * K := by
      rw [Int.natAbs_mul, show ((2 : Int) ^ n).natAbs = 2 ^ n by rw [Int.natAbs_pow]; rfl]
      have := bl_shl m2.natAbs n
      have := h2.b
      omega
    exact bl_sum b1 (Nat.le_trans h1.b (by omega))
  have hval : (m1 : Rat) * p2 e1 + (m2 : Rat) * p2 e2 = ((m2 * 2 ^ n + m1 : Int) : Rat) * p2 e1 := by
    rw [he, Rat.intCast_add, Rat.add_mul, num_shl, Rat.add_comm]
  rw [hval]
  have b1 : bl m1.natAbs ≤ 137438953472 := Nat.le_trans h1.b (by omega)
  have b2 : bl m2.natAbs ≤ 137438953472 := Nat.le_trans h2.b (by omega)
  have b3 : bl (m2 * 2 ^ n).natAbs ≤ 137438953472 := by
    rw [Int.natAbs_mul, show ((2 : Int) ^ n).natAbs = 2 ^ n by rw [Int.natAbs_pow]; rfl]
    have := bl_shl m2.natAbs n
    have := h2.b
    omega
  have hb : Below w.heap.size w (((w.alloc (.cells #[.pointer (some ⟨g1, 0, none⟩), .int .i64 e1] 113)).alloc (.cells #[.pointer (some ⟨g2, 0, none⟩), .int .i64 e2] 113)).alloc (.cells #[.pointer none, .int .i64 0] 113)) := by repeat (first | exact Below.refl _ _ | refine below_drewN ?_ _ | refine Below.alloc ?_ (by first | omega | (simp; omega) | simp) _ | refine Below.setCell ?_ (by first | omega | (simp; omega) | simp) _ | refine Below.trans ?_ (Below.mono (by assumption) (by first | omega | (simp; omega) | simp)) | apply Below.drew)
  have HS := Lib.hid (fun w hz => isign_any g1 m1 (by omega) w hz)
  have HS2 := Lib.hid (fun w hz => isign_any g2 m2 (by omega) w hz)
  have HLS := Lib.hid (fun g w hb hz => ilsh_any g g2 n m2 b2 (by omega) w hb hz)
  have HAD := Lib.hid (fun g w hb hy hz => iadd_any g g g1 (m2 * 2 ^ n) m1 b3 b1 w hb hy hz)
  have HZ1 := Lib.hid hz1
  have HZ2 := Lib.hid hz2
  have HSZ := Lib.hid hsz
  have HB := Lib.hid hb
  have hg1 := hz1.lt
  have hg2 := hz2.lt
  have hs1 : (m1.sign == 0) = false := by rw [beq_eq_false_iff_ne]; exact fun h => n1 (Int.sign_eq_zero_iff_zero.1 h)
  have hs2 : (m2.sign == 0) = false := by rw [beq_eq_false_iff_ne]; exact fun h => n2 (Int.sign_eq_zero_iff_zero.1 h)
  have hsh : e1 + (n : Int) - e1 = (n : Int) := by omega
  have hlt : e1 < e1 + (n : Int) := by omega
  subst he
  have i0 : (0 : Int) ≤ (n : Int) := by omega
  have i1 : (n : Int) ≤ 2000000 := by omega
  have i2 : -1000000 ≤ e1 := by omega
  have i3 : e1 + (n : Int) ≤ 1000000 := by omega
  clear hz1 hz2 h1 h2 hl1 hb hl2 hsz hval b1 b2 b3 hlo hhi hn n1 n2 hK
  go_enter Tryz.func65, Tryz.ntmps65
  go_wp2_with (first
    | (go_at_call 121; (with_reducible refine (HS.out _ (HZ1.out.below HB.out)).mono ?_); rintro e w' ⟨rfl, rfl⟩)
    | (go_at_call 121; (with_reducible refine (HS2.out _ (HZ2.out.below HB.out)).mono ?_); rintro e w' ⟨rfl, rfl⟩))
  have hb4 : Below w.heap.size w ((((w.alloc (.cells #[.pointer (some ⟨g2, 0, none⟩), .int .i64 (e1 + (n : Int))] 113)).alloc (.cells #[.pointer (some ⟨g1, 0, none⟩), .int .i64 e1] 113)).alloc (.cells #[.pointer none, .int .i64 0] 113)).alloc (.cells #[.bool false, .slice none 0 0] 183)) := by repeat (first | exact Below.refl _ _ | refine below_drewN ?_ _ | refine Below.alloc ?_ (by first | omega | (simp; omega) | simp) _ | refine Below.setCell ?_ (by first | omega | (simp; omega) | simp) _ | refine Below.trans ?_ (Below.mono (by assumption) (by first | omega | (simp; omega) | simp)) | apply Below.drew)
  have hblk : IntBlk ((((w.alloc (.cells #[.pointer (some ⟨g2, 0, none⟩), .int .i64 (e1 + (n : Int))] 113)).alloc (.cells #[.pointer (some ⟨g1, 0, none⟩), .int .i64 e1] 113)).alloc (.cells #[.pointer none, .int .i64 0] 113)).alloc (.cells #[.bool false, .slice none 0 0] 183)) (w.heap.size + 1 + 1 + 1) := by
    have := blk_fresh (((w.alloc (.cells #[.pointer (some ⟨g2, 0, none⟩), .int .i64 (e1 + (n : Int))] 113)).alloc (.cells #[.pointer (some ⟨g1, 0, none⟩), .int .i64 e1] 113)).alloc (.cells #[.pointer none, .int .i64 0] 113))
    simpa using this
  refine (HLS.out _ _ hblk (HZ2.out.below hb4)).mono ?_
  rintro e w5 ⟨rfl, hz5, hg5⟩
  have hsz5 := hg5.size
  simp only [heap_size_alloc'] at hsz5
  have x0 : w5.cell? ⟨w.heap.size + 1, 0, none⟩ = some (.pointer (some ⟨g1, 0, none⟩)) := (World.cell?_of_block (a := ⟨w.heap.size + 1, 0, none⟩) (hg5.block (w.heap.size + 1) (by simp <;> omega) (by simp))).trans (by simp [go_sem])
  have x1 : w5.cell? ⟨w.heap.size + 1, 1, none⟩ = some (.int .i64 e1) := (World.cell?_of_block (a := ⟨w.heap.size + 1, 1, none⟩) (hg5.block (w.heap.size + 1) (by simp <;> omega) (by simp))).trans (by simp [go_sem])
  have hnb : NBlk w5 (w.heap.size + 1 + 1) := by
    have h0 := NBlk.new ((w.alloc (.cells #[.pointer (some ⟨g2, 0, none⟩), .int .i64 (e1 + (n : Int))] 113)).alloc (.cells #[.pointer (some ⟨g1, 0, none⟩), .int .i64 e1] 113)) (.pointer none) (.int .i64 0)
    have h1 := h0.below (alloc_below _ (.cells #[.bool false, .slice none 0 0] 183)) (by simp)
    simp only [heap_size_alloc'] at h1
    exact h1.grown hg5 (by omega)
  have HG5 := Lib.hid hz5
  have HB5 := Lib.hid (grown_below hb4 hg5 (by omega))
  have HNB := Lib.hid hnb
  have HZ5 := Lib.hid (HZ1.out.below HB5.out)
  have HK5 := Lib.hid hz5.blk
  have hl5 : w.heap.size + 1 < w5.heap.size := by omega
  have hl6 : w.heap.size + 1 + 1 < w5.heap.size := by omega
  have nn1 : w.heap.size + 1 ≠ w.heap.size + 1 + 1 + 1 := by omega
  have nn2 : w.heap.size + 1 + 1 ≠ w.heap.size + 1 + 1 + 1 := by omega
  clear hz5 hg5 hb4 hblk hnb
  go_wp2_with fail
  go_region_held3 (fun x => x.cell? ⟨w.heap.size + 1, 0, none⟩ = some (.pointer (some ⟨g1, 0, none⟩)) ∧ x.cell? ⟨w.heap.size + 1, 1, none⟩ = some (.int .i64 e1))
    (refine ⟨?_, ?_⟩ <;> first
      | with_reducible assumption
      | (simp [go_sem, *]; done))
    (first
      | (go_at_call 94; refine (HAD.out _ w5.drew (HK5.out.below (Below.refl _ _).drew) (HG5.out.below (Below.refl _ _).drew) (HZ5.out.below (Below.refl _ _).drew)).mono ?_; rintro e w6 ⟨rfl, hz6, hg6⟩; have p0 := (World.cell?_of_block (a := ⟨w.heap.size + 1, 0, none⟩) (hg6.block (w.heap.size + 1) hl5 (by simp))).trans x0; have p1 := (World.cell?_of_block (a := ⟨w.heap.size + 1, 1, none⟩) (hg6.block (w.heap.size + 1) hl5 (by simp))).trans x1;
          have HG6 := Lib.hid hz6; have HB6 := Lib.hid (grown_below (HB5.out.trans ((Below.refl _ _).drew.mono HB5.out.size)) hg6 (by omega)); have HN6 := Lib.hid ((HNB.out.below (Below.refl _ _).drew hl6).grown hg6 nn2); have hc6 := HN6.out.cells; obtain ⟨⟨ru, r0⟩, ⟨rv', r1⟩, rf⟩ := hc6; clear hz6 hg6))
  go_wp2
  exact bodyPost_ret (v := .agg #[.pointer (some ⟨w.heap.size + 1 + 1 + 1, 0, none⟩), .int .i64 e1]) (by simp [results, Tryz.results65, go_sem, r0, r1]) rfl (rnm_of ((HG6.out.store HN6.out 0 _).store (HN6.out.set 0 _ (by decide)) 1 _) rfl HSZ.out ((HB6.out.setCell (by show w.heap.size ≤ w.heap.size + 1 + 1; omega) _).setCell (by show w.heap.size ≤ w.heap.size + 1 + 1; omega) _))
theorem nplus_any : Calls Tryz.prog 65 #[.agg #[.pointer (some ⟨g1, 0, none⟩), .int .i64 e1], .agg #[.pointer (some ⟨g2, 0, none⟩), .int .i64 e2]] w (RNm ((m1 : Rat) * p2 e1 + (m2 : Rat) * p2 e2) (3 * K + 1) w) := by
  by_cases n1 : m1 = 0
  · exact nplus_zero g1 g2 m1 m2 e1 e2 K hK h1 h2 w hz1 hz2 (.inl n1)
  · by_cases n2 : m2 = 0
    · exact nplus_zero g1 g2 m1 m2 e1 e2 K hK h1 h2 w hz1 hz2 (.inr n2)
    · rcases Int.lt_or_le e1 e2 with hlt | hle
      · exact nplus_lt g1 g2 m1 m2 e1 e2 K hK h1 h2 w hz1 hz2 (e2 - e1).toNat (by omega) (by omega) n1 n2
      · exact nplus_ge g1 g2 m1 m2 e1 e2 K hK h1 h2 w hz1 hz2 (e1 - e2).toNat (by omega) n1 n2
end
end Go.Proofs.YtbgjcpnbdgljbaaGreatDoor

/- ball's exact numbers: less, times. -/
namespace Go.Proofs.YtbgjcpnbdgljbaaGreatDoor
open Go.RowKit Go.Fil Go.Shelf
attribute [local irreducible] fop fsqrt fup fabs fneg pick

theorem intblk_new (w : World) : IntBlk (w.alloc (.cells #[.bool false, .slice none 0 0] 183)) w.heap.size := blk_fresh w
section
variable (g1 g2 : Nat) (m1 m2 e1 e2 : Int) (K : Nat) (hK : K ≤ 1000000) (h1 : Sz m1 e1 K) (h2 : Sz m2 e2 K) (w : World) (hz1 : IntAt w g1 m1) (hz2 : IntAt w g2 m2)
include hK h1 h2 hz1 hz2
set_option maxRecDepth 100000 in
set_option maxHeartbeats 6400000 in
theorem nless_any : Calls Tryz.prog 63 #[.agg #[.pointer (some ⟨g1, 0, none⟩), .int .i64 e1], .agg #[.pointer (some ⟨g2, 0, none⟩), .int .i64 e2]] w (RNm ((m1 : Rat) * p2 e1 - (m2 : Rat) * p2 e2) (3 * K + 1) w) := by
  have hval : (m1 : Rat) * p2 e1 - (m2 : Rat) * p2 e2 = (m1 : Rat) * p2 e1 + ((-m2 : Int) : Rat) * p2 e2 := by rw [Rat.intCast_neg]; grind
  rw [hval]
  have h2' : Sz (-m2) e2 K := ⟨by rw [Int.natAbs_neg]; exact h2.b, h2.lo, h2.hi⟩
  have HNG := Lib.hid (fun g w hb hz => ineg_any g g2 m2 (Nat.le_trans h2.b (by omega)) w hb hz)
  have HPL := Lib.hid (fun g w hz1 hz2 => nplus_any g1 g m1 (-m2) e1 e2 K hK h1 h2' w hz1 hz2)
  have hb3 : Below w.heap.size w (((w.alloc (.cells #[.pointer (some ⟨g1, 0, none⟩), .int .i64 e1] 113)).alloc (.cells #[.pointer (some ⟨g2, 0, none⟩), .int .i64 e2] 113)).alloc (.cells #[.pointer none, .int .i64 0] 113)) := by repeat (first | exact Below.refl _ _ | refine below_drewN ?_ _ | refine Below.alloc ?_ (by first | omega | (simp; omega) | simp) _ | refine Below.setCell ?_ (by first | omega | (simp; omega) | simp) _ | refine Below.trans ?_ (Below.mono (by assumption) (by first | omega | (simp; omega) | simp)) | apply Below.drew)
  have HB3 := Lib.hid hb3
  have HZ1 := Lib.hid (hz1.below hb3)
  have HZ2 := Lib.hid (hz2.below hb3)
  clear hz1 hz2 h1 h2 h2' hval hb3 hK
  go_enter Tryz.func63, Tryz.ntmps63
  go_wp2_with fail
  obtain ⟨w3, hw3⟩ : ∃ w3, w3 = (((w.alloc (.cells #[.pointer (some ⟨g1, 0, none⟩), .int .i64 e1] 113)).alloc (.cells #[.pointer (some ⟨g2, 0, none⟩), .int .i64 e2] 113)).alloc (.cells #[.pointer none, .int .i64 0] 113)) := ⟨_, rfl⟩
  have a0 : w3.cell? ⟨w.heap.size, 0, none⟩ = some (.pointer (some ⟨g1, 0, none⟩)) := by rw [hw3]; simp [go_sem]
  have a1 : w3.cell? ⟨w.heap.size, 1, none⟩ = some (.int .i64 e1) := by rw [hw3]; simp [go_sem]
  have b0 : w3.cell? ⟨w.heap.size + 1, 0, none⟩ = some (.pointer (some ⟨g2, 0, none⟩)) := by rw [hw3]; simp [go_sem]
  have b1 : w3.cell? ⟨w.heap.size + 1, 1, none⟩ = some (.int .i64 e2) := by rw [hw3]; simp [go_sem]
  have hnb : NBlk w3 (w.heap.size + 1 + 1) := by
    rw [hw3]
    have h0 := NBlk.new ((w.alloc (.cells #[.pointer (some ⟨g1, 0, none⟩), .int .i64 e1] 113)).alloc (.cells #[.pointer (some ⟨g2, 0, none⟩), .int .i64 e2] 113)) (.pointer none) (.int .i64 0)
    simp only [heap_size_alloc'] at h0
    exact h0
  have hs3 : w3.heap.size = w.heap.size + 1 + 1 + 1 := by rw [hw3]; simp
  rw [← hw3] at HB3 HZ1 HZ2 ⊢
  have HNB := Lib.hid hnb
  have HS3 := Lib.hid hs3
  have l0 : w.heap.size < w3.heap.size := by omega
  have l1 : w.heap.size + 1 < w3.heap.size := by omega
  have l2 : w.heap.size + 1 + 1 < w3.heap.size := by omega
  clear hw3 hnb hs3
  go_region_held3 (fun x => x.cell? ⟨w.heap.size, 0, none⟩ = some (.pointer (some ⟨g1, 0, none⟩)) ∧ x.cell? ⟨w.heap.size, 1, none⟩ = some (.int .i64 e1) ∧ x.cell? ⟨w.heap.size + 1, 0, none⟩ = some (.pointer (some ⟨g2, 0, none⟩)) ∧ x.cell? ⟨w.heap.size + 1, 1, none⟩ = some (.int .i64 e2))
    (refine ⟨?_, ?_, ?_, ?_⟩ <;> first
      | with_reducible assumption
      | (simp [go_sem, *]; done))
    (first
      | (go_at_call 124; refine (HNG.out w3.heap.size _ (by first | exact intblk_new w3 | exact (intblk_new w3).below (Below.refl _ _).drew) (HZ2.out.below (by repeat (first | exact Below.refl _ _ | refine below_drewN ?_ _ | refine Below.alloc ?_ (by first | omega | (simp; omega) | simp) _ | refine Below.setCell ?_ (by first | omega | (simp; omega) | simp) _ | refine Below.trans ?_ (Below.mono (by assumption) (by first | omega | (simp; omega) | simp)) | apply Below.drew)))).mono ?_; rintro e w4 ⟨rfl, hz4, hg4⟩; have hb4 : Below w3.heap.size w3 w4 := grown_below (by repeat (first | exact Below.refl _ _ | refine below_drewN ?_ _ | refine Below.alloc ?_ (by first | omega | (simp; omega) | simp) _ | refine Below.setCell ?_ (by first | omega | (simp; omega) | simp) _ | refine Below.trans ?_ (Below.mono (by assumption) (by first | omega | (simp; omega) | simp)) | apply Below.drew)) hg4 (Nat.le_refl _);
          have HZ4 := Lib.hid hz4; have HB4 := Lib.hid hb4; have p0 := (hb4.cell (p := ⟨w.heap.size, 0, none⟩) l0).trans a0; have p1 := (hb4.cell (p := ⟨w.heap.size, 1, none⟩) l0).trans a1; have p2 := (hb4.cell (p := ⟨w.heap.size + 1, 0, none⟩) l1).trans b0; have p3 := (hb4.cell (p := ⟨w.heap.size + 1, 1, none⟩) l1).trans b1; clear hz4 hg4 hb4)
      | (go_at_call 65; refine (HPL.out w3.heap.size _ (HZ1.out.below HB4.out) HZ4.out).mono ?_; rintro e w5 ⟨g5, m5, e5, rfl, hz5, hv5, hs5, hb5⟩; have hb5' : Below w3.heap.size w3 w5 := HB4.out.trans (hb5.mono HB4.out.size); have HZ5 := Lib.hid hz5; have HV5 := Lib.hid hv5; have HS5 := Lib.hid hs5; have HB5 := Lib.hid hb5'; have HN5 := Lib.hid (HNB.out.below hb5' l2); have hc5 := HN5.out.cells; obtain ⟨⟨ru, r0⟩, ⟨rv', r1⟩, rf⟩ := hc5;
          have q0 := (hb5'.cell (p := ⟨w.heap.size, 0, none⟩) l0).trans a0; have q1 := (hb5'.cell (p := ⟨w.heap.size, 1, none⟩) l0).trans a1; have q2 := (hb5'.cell (p := ⟨w.heap.size + 1, 0, none⟩) l1).trans b0; have q3 := (hb5'.cell (p := ⟨w.heap.size + 1, 1, none⟩) l1).trans b1; clear hz5 hv5 hs5 hb5 hb5'))
  go_wp2
  have hbw := HB3.out.trans (HB5.out.mono HB3.out.size)
  exact bodyPost_ret (v := .agg #[.pointer (some ⟨g5, 0, none⟩), .int .i64 e5]) (by simp [results, Tryz.results63, go_sem, r0, r1]) rfl (rnm_of ((HZ5.out.store HN5.out 0 _).store (HN5.out.set 0 _ (by decide)) 1 _) HV5.out HS5.out ((hbw.setCell (by show w.heap.size ≤ w.heap.size + 1 + 1; omega) _).setCell (by show w.heap.size ≤ w.heap.size + 1 + 1; omega) _))
set_option maxRecDepth 100000 in
set_option maxHeartbeats 6400000 in
theorem ntimes_any : Calls Tryz.prog 122 #[.agg #[.pointer (some ⟨g1, 0, none⟩), .int .i64 e1], .agg #[.pointer (some ⟨g2, 0, none⟩), .int .i64 e2]] w (RNm (((m1 : Rat) * p2 e1) * ((m2 : Rat) * p2 e2)) (2 * K) w) := by
  have hval : ((m1 : Rat) * p2 e1) * ((m2 : Rat) * p2 e2) = ((m1 * m2 : Int) : Rat) * p2 (e1 + e2) := by rw [Rat.intCast_mul, p2_add]; grind
  rw [hval]
  have hs12 : Sz (m1 * m2) (e1 + e2) (2 * K) := ⟨by have := bl_prod h1.b h2.b; omega, by have := h1.lo; have := h2.lo; omega, by have := h1.hi; have := h2.hi; omega⟩
  have HSZ := Lib.hid hs12
  have HNG := Lib.hid (fun g w hb hy hz => imul_any g g1 g2 m1 m2 (Nat.le_trans h1.b (by omega)) (Nat.le_trans h2.b (by omega)) w hb hy hz)
  have j1 : -2000000 ≤ e1 + e2 := by have := h1.lo; have := h2.lo; omega
  have j2 : e1 + e2 ≤ 2000000 := by have := h1.hi; have := h2.hi; omega
  have jw : IntKind.i64.wrap (e1 + e2) = e1 + e2 := IntWalk.i64_in _ (by omega)
  have hb3 : Below w.heap.size w (((w.alloc (.cells #[.pointer (some ⟨g1, 0, none⟩), .int .i64 e1] 113)).alloc (.cells #[.pointer (some ⟨g2, 0, none⟩), .int .i64 e2] 113)).alloc (.cells #[.pointer none, .int .i64 0] 113)) := by repeat (first | exact Below.refl _ _ | refine below_drewN ?_ _ | refine Below.alloc ?_ (by first | omega | (simp; omega) | simp) _ | refine Below.setCell ?_ (by first | omega | (simp; omega) | simp) _ | refine Below.trans ?_ (Below.mono (by assumption) (by first | omega | (simp; omega) | simp)) | apply Below.drew)
  have HB3 := Lib.hid hb3
  have HZ1 := Lib.hid (hz1.below hb3)
  have HZ2 := Lib.hid (hz2.below hb3)
  clear hz1 hz2 h1 h2 hs12 hval hb3 hK
  go_enter Tryz.func122, Tryz.ntmps122
  go_wp2_with fail
  obtain ⟨w3, hw3⟩ : ∃ w3, w3 = (((w.alloc (.cells #[.pointer (some ⟨g1, 0, none⟩), .int .i64 e1] 113)).alloc (.cells #[.pointer (some ⟨g2, 0, none⟩), .int .i64 e2] 113)).alloc (.cells #[.pointer none, .int .i64 0] 113)) := ⟨_, rfl⟩
  have a0 : w3.cell? ⟨w.heap.size, 0, none⟩ = some (.pointer (some ⟨g1, 0, none⟩)) := by rw [hw3]; simp [go_sem]
  have a1 : w3.cell? ⟨w.heap.size, 1, none⟩ = some (.int .i64 e1) := by rw [hw3]; simp [go_sem]
  have b0 : w3.cell? ⟨w.heap.size + 1, 0, none⟩ = some (.pointer (some ⟨g2, 0, none⟩)) := by rw [hw3]; simp [go_sem]
  have b1 : w3.cell? ⟨w.heap.size + 1, 1, none⟩ = some (.int .i64 e2) := by rw [hw3]; simp [go_sem]
  have hnb : NBlk w3 (w.heap.size + 1 + 1) := by
    rw [hw3]
    have h0 := NBlk.new ((w.alloc (.cells #[.pointer (some ⟨g1, 0, none⟩), .int .i64 e1] 113)).alloc (.cells #[.pointer (some ⟨g2, 0, none⟩), .int .i64 e2] 113)) (.pointer none) (.int .i64 0)
    simp only [heap_size_alloc'] at h0
    exact h0
  have hs3 : w3.heap.size = w.heap.size + 1 + 1 + 1 := by rw [hw3]; simp
  rw [← hw3] at HB3 HZ1 HZ2 ⊢
  have HNB := Lib.hid hnb
  have HS3 := Lib.hid hs3
  have l0 : w.heap.size < w3.heap.size := by omega
  have l1 : w.heap.size + 1 < w3.heap.size := by omega
  have l2 : w.heap.size + 1 + 1 < w3.heap.size := by omega
  clear hw3 hnb hs3
  go_region_held3 (fun x => x.cell? ⟨w.heap.size, 0, none⟩ = some (.pointer (some ⟨g1, 0, none⟩)) ∧ x.cell? ⟨w.heap.size, 1, none⟩ = some (.int .i64 e1) ∧ x.cell? ⟨w.heap.size + 1, 0, none⟩ = some (.pointer (some ⟨g2, 0, none⟩)) ∧ x.cell? ⟨w.heap.size + 1, 1, none⟩ = some (.int .i64 e2))
    (refine ⟨?_, ?_, ?_, ?_⟩ <;> first
      | with_reducible assumption
      | (simp [go_sem, *]; done))
    (first
      | (go_at_call 96; refine (HNG.out w3.heap.size _ (by first | exact intblk_new w3 | exact (intblk_new w3).below (Below.refl _ _).drew) (HZ1.out.below (by repeat (first | exact Below.refl _ _ | refine below_drewN ?_ _ | refine Below.alloc ?_ (by first | omega | (simp; omega) | simp) _ | refine Below.setCell ?_ (by first | omega | (simp; omega) | simp) _ | refine Below.trans ?_ (Below.mono (by assumption) (by first | omega | (simp; omega) | simp)) | apply Below.drew))) (HZ2.out.below (by repeat (first | exact Below.refl _ _ | refine below_drewN ?_ _ | refine Below.alloc ?_ (by first | omega | (simp; omega) | simp) _ | refine Below.setCell ?_ (by first | omega | (simp; omega) | simp) _ | refine Below.trans ?_ (Below.mono (by assumption) (by first | omega | (simp; omega) | simp)) | apply Below.drew)))).mono ?_; rintro e w4 ⟨rfl, hz4, hg4⟩; have hb4 : Below w3.heap.size w3 w4 := grown_below (by repeat (first | exact Below.refl _ _ | refine below_drewN ?_ _ | refine Below.alloc ?_ (by first | omega | (simp; omega) | simp) _ | refine Below.setCell ?_ (by first | omega | (simp; omega) | simp) _ | refine Below.trans ?_ (Below.mono (by assumption) (by first | omega | (simp; omega) | simp)) | apply Below.drew)) hg4 (Nat.le_refl _);
          have HZ4 := Lib.hid hz4; have HB4 := Lib.hid hb4; have p0 := (hb4.cell (p := ⟨w.heap.size, 0, none⟩) l0).trans a0; have p1 := (hb4.cell (p := ⟨w.heap.size, 1, none⟩) l0).trans a1; have p2 := (hb4.cell (p := ⟨w.heap.size + 1, 0, none⟩) l1).trans b0; have p3 := (hb4.cell (p := ⟨w.heap.size + 1, 1, none⟩) l1).trans b1; have HN4 := Lib.hid (HNB.out.below hb4 l2); have hc4 := HN4.out.cells; obtain ⟨⟨ru, r0⟩, ⟨rv', r1⟩, rf⟩ := hc4; clear hz4 hg4 hb4))
  all_goals
    go_wp2
    have hbw := HB3.out.trans (HB4.out.mono HB3.out.size)
    exact bodyPost_ret (v := .agg #[.pointer (some ⟨w3.heap.size, 0, none⟩), .int .i64 (e1 + e2)]) (by simp [results, Tryz.results122, go_sem, r0, r1]) rfl (rnm_of ((HZ4.out.store HN4.out 0 _).store (HN4.out.set 0 _ (by decide)) 1 _) rfl HSZ.out ((hbw.setCell (by show w.heap.size ≤ w.heap.size + 1 + 1; omega) _).setCell (by show w.heap.size ≤ w.heap.size + 1 + 1; omega) _))
end
end Go.Proofs.YtbgjcpnbdgljbaaGreatDoor
