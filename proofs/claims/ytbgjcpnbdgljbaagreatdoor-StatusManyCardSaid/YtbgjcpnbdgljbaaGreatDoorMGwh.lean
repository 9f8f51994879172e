/- The contracts of package gauss at whole numbers. -/
import Derived.Test.YtbgjcpnbdgljbaaGreatDoorMGau
import Derived.Test.YtbgjcpnbdgljbaaGreatDoorMQfl
import Derived.Test.YtbgjcpnbdgljbaaGreatDoorMMax
namespace Go.Proofs.YtbgjcpnbdgljbaaGreatDoor
open Go.RowKit Go.Fil Go.Shelf

/-- A whole number as a dyad. -/
def wd (n : Int) : Dya := mkD n 0
theorem wd_e (n : Int) : 0 ≤ (wd n).e ∧ (wd n).e ≤ bl n.natAbs := by
  unfold wd
  by_cases h : n = 0
  · subst h; rw [mkD_zero]; exact ⟨by decide, by decide⟩
  · rw [mkD_e h]
    have := tz_bl n.natAbs
    omega
theorem wd_fit {n : Int} (h : bl n.natAbs ≤ 1000) : fitD (wd n) := fit_mk h (by decide) (by decide) (by decide)
theorem wd_ok {n : Int} (h : bl n.natAbs ≤ 1000) : okD (wd n) := okD_mk (wd_fit h)
theorem wd_neg (n : Int) : negD (wd n) = wd (-n) := negD_mk n 0
theorem wd_mul (a b : Int) : mulD (wd a) (wd b) = wd (a * b) := by unfold wd; rw [mulD_mk]; rfl
theorem wd_add (a b : Int) : addD (wd a) (wd b) = wd (a + b) := by unfold wd; rw [addD_mk]
theorem bl_sum {a b : Int} {k : Nat} (ha : bl a.natAbs ≤ k) (hb : bl b.natAbs ≤ k) : bl (a + b).natAbs ≤ k + 1 := by
  have h1 := bl_mono (show (a + b).natAbs ≤ a.natAbs + b.natAbs by omega)
  have h2 := bl_add a.natAbs b.natAbs
  omega
theorem bl_prod {a b : Int} {k : Nat} (ha : bl a.natAbs ≤ k) (hb : bl b.natAbs ≤ k) : bl (a * b).natAbs ≤ k + k := by
  rw [Int.natAbs_mul]
  have := bl_mul a.natAbs b.natAbs
  omega
theorem wd_addfit {a b : Int} {k : Nat} (hk : k ≤ 900) (ha : bl a.natAbs ≤ k) (hb : bl b.natAbs ≤ k) : AddFit (wd a) (wd b) := by
  have h1 := wd_e a
  have h2 := wd_e b
  have h3 := bl_sum ha hb
  refine ⟨by omega, ?_⟩
  rw [wd_add]
  exact wd_fit (by omega)
/-- A whole complex number within k bits. -/
def Zb (k : Nat) (z : Zi) : Prop := bl z.re.natAbs ≤ k ∧ bl z.im.natAbs ≤ k
theorem Zb.mono {j k : Nat} {z : Zi} (h : Zb j z) (hk : j ≤ k) : Zb k z := ⟨Nat.le_trans h.1 hk, Nat.le_trans h.2 hk⟩
theorem Zb.of {z : Zi} {k : Nat} (h : zn z < 2 ^ k) : Zb k z := by
  obtain ⟨h1, h2⟩ := zn_parts z
  exact ⟨bl_le_of_lt (by omega), bl_le_of_lt (by omega)⟩
/-- What a function that makes a whole complex number answers. -/
def RZ (z : Zi) (w : World) (en : Ending) (w' : World) : Prop := RGv (wd z.re) (wd z.im) w en w'
section
variable (y z : Zi) (hy : Zb 400 y) (hz : Zb 400 z) (w : World) (hT : Tab w)
include hy
theorem gz_check : Calls Tryz.prog 35 #[.agg #[.bool (dn (wd y.re)), .string (ds (wd y.re)), .int .i64 (wd y.re).e, .bool (dn (wd y.im)), .string (ds (wd y.im)), .int .i64 (wd y.im).e]] w fun e w' => e = .returned (.int .i64 0) ∧ Below w.heap.size w w' :=
  gcheck_any _ _ (wd_ok (by have := hy.1; omega)) (wd_ok (by have := hy.2; omega)) w
include hT
theorem gz_norm : Calls Tryz.prog 50 #[.agg #[.bool (dn (wd y.re)), .string (ds (wd y.re)), .int .i64 (wd y.re).e, .bool (dn (wd y.im)), .string (ds (wd y.im)), .int .i64 (wd y.im).e]] w (RDv (wd (znorm y)) w) := by
  have h := gnorm_any (wd y.re) (wd y.im) (wd_ok (by have := hy.1; omega)) (wd_ok (by have := hy.2; omega)) (by rw [wd_mul]; exact wd_fit (by have := bl_prod hy.1 hy.1; omega)) (by rw [wd_mul]; exact wd_fit (by have := bl_prod hy.2 hy.2; omega))
    (by rw [wd_mul, wd_mul]; exact wd_addfit (k := 800) (by decide) (bl_prod hy.1 hy.1) (bl_prod hy.2 hy.2)) w hT
  rw [wd_mul, wd_mul, wd_add] at h
  exact h
include hz
theorem gz_add : Calls Tryz.prog 13 #[.agg #[.bool (dn (wd y.re)), .string (ds (wd y.re)), .int .i64 (wd y.re).e, .bool (dn (wd y.im)), .string (ds (wd y.im)), .int .i64 (wd y.im).e], .agg #[.bool (dn (wd z.re)), .string (ds (wd z.re)), .int .i64 (wd z.re).e, .bool (dn (wd z.im)), .string (ds (wd z.im)), .int .i64 (wd z.im).e]] w (RZ (zadd y z) w) := by
  have h := gadd_any (wd y.re) (wd y.im) (wd z.re) (wd z.im) (wd_ok (by have := hy.1; omega)) (wd_ok (by have := hy.2; omega)) (wd_ok (by have := hz.1; omega)) (wd_ok (by have := hz.2; omega)) (wd_addfit (by decide) hy.1 hz.1) (wd_addfit (by decide) hy.2 hz.2) w hT
  rw [wd_add, wd_add] at h
  exact h
theorem gz_sub : Calls Tryz.prog 18 #[.agg #[.bool (dn (wd y.re)), .string (ds (wd y.re)), .int .i64 (wd y.re).e, .bool (dn (wd y.im)), .string (ds (wd y.im)), .int .i64 (wd y.im).e], .agg #[.bool (dn (wd z.re)), .string (ds (wd z.re)), .int .i64 (wd z.re).e, .bool (dn (wd z.im)), .string (ds (wd z.im)), .int .i64 (wd z.im).e]] w (RZ (zsub y z) w) := by
  have e1 : bl (-z.re).natAbs ≤ 400 := by rw [Int.natAbs_neg]; exact hz.1
  have e2 : bl (-z.im).natAbs ≤ 400 := by rw [Int.natAbs_neg]; exact hz.2
  have h := gsub_any (wd y.re) (wd y.im) (wd z.re) (wd z.im) (wd_ok (by have := hy.1; omega)) (wd_ok (by have := hy.2; omega)) (wd_ok (by have := hz.1; omega)) (wd_ok (by have := hz.2; omega)) (by rw [wd_neg]; exact wd_addfit (by decide) hy.1 e1) (by rw [wd_neg]; exact wd_addfit (by decide) hy.2 e2) w hT
  rw [wd_neg, wd_neg, wd_add, wd_add, ← Int.sub_eq_add_neg, ← Int.sub_eq_add_neg] at h
  exact h
theorem gz_mul : Calls Tryz.prog 16 #[.agg #[.bool (dn (wd y.re)), .string (ds (wd y.re)), .int .i64 (wd y.re).e, .bool (dn (wd y.im)), .string (ds (wd y.im)), .int .i64 (wd y.im).e], .agg #[.bool (dn (wd z.re)), .string (ds (wd z.re)), .int .i64 (wd z.re).e, .bool (dn (wd z.im)), .string (ds (wd z.im)), .int .i64 (wd z.im).e]] w (RZ (zmul y z) w) := by
  have p1 := bl_prod hy.1 hz.1
  have p2 := bl_prod hy.2 hz.2
  have p3 := bl_prod hy.1 hz.2
  have p4 := bl_prod hy.2 hz.1
  have p5 : bl (-(y.im * z.im)).natAbs ≤ 400 + 400 := by rw [Int.natAbs_neg]; exact p2
  have h := gmul_any (wd y.re) (wd y.im) (wd z.re) (wd z.im) (wd_ok (by have := hy.1; omega)) (wd_ok (by have := hy.2; omega)) (wd_ok (by have := hz.1; omega)) (wd_ok (by have := hz.2; omega))
    (by rw [wd_mul]; exact wd_fit (by omega)) (by rw [wd_mul]; exact wd_fit (by omega)) (by rw [wd_mul, wd_mul, wd_neg]; exact wd_addfit (by decide) p1 p5)
    (by rw [wd_mul]; exact wd_fit (by omega)) (by rw [wd_mul]; exact wd_fit (by omega)) (by rw [wd_mul, wd_mul]; exact wd_addfit (by decide) p3 p4) w hT
  rw [wd_mul, wd_mul, wd_mul, wd_mul, wd_neg, wd_add, wd_add, ← Int.sub_eq_add_neg] at h
  exact h
end
end Go.Proofs.YtbgjcpnbdgljbaaGreatDoor

/- The contracts of math.Ldexp at normal numbers, and of math.Copysign. -/
namespace Go.Proofs.YtbgjcpnbdgljbaaGreatDoor
open Go.RowKit Go.Fil Go.Shelf
attribute [local irreducible] fop fsqrt fup fabs fneg pick

theorem rv_one' : rv 4607182418800017408 = 1 := by
  have h := rv_at (K := 4607182418800017408) (j := 1022) (kept := 4503599627370496) (by decide) (by decide) (.inr (by decide))
  rw [h]
  have e : ((4503599627370496 : Nat) : Rat) = p2 ((52 : Nat) : Int) := by rw [p2_nat]
  rw [e, ← p2_add]
  exact p2_zero
/-- One times a positive float. -/
theorem one_mul {z : Nat} (hz : z < 9218868437227405312) : fin (fop .mul 4607182418800017408 z) = true ∧ fv (fop .mul 4607182418800017408 z) = rv z := by
  have hf : fin z = true := nb_fin hz
  have h := fop_mul_rd (a := 4607182418800017408) (b := z) (by decide) (by decide) hf (by omega)
  have e1 : fv 4607182418800017408 = 1 := by rw [fv_small (by decide), rv_one']
  rw [e1, fv_small (x := z) (by omega), Rat.one_mul] at h
  exact h.exact hz (.inl rfl)
theorem i64_and_nat (a b : Nat) (ha : a < 9223372036854775808) (hb : b < 9223372036854775808) : bits .and .i64 (a : Int) (b : Int) = ((a &&& b : Nat) : Int) := by
  have hx : a &&& b ≤ a := Nat.and_le_left
  show IntKind.i64.wrap ((BitVec.ofInt 64 (a : Int) &&& BitVec.ofInt 64 (b : Int)).toNat : Int) = _
  rw [BitVec.toNat_and, ofInt_u64 a (by omega), ofInt_u64 b (by omega), IntWalk.i64_in _ (by omega)]
theorem ld_and (E : Nat) (h : E ≤ 2046) : bits .and .i64 (E : Int) 2047 = (E : Int) := by
  have h1 := i64_and_nat E 2047 (by omega) (by decide)
  rw [show ((2047 : Nat) : Int) = 2047 from rfl] at h1
  rw [h1, show (2047 : Nat) = 2 ^ 11 - 1 by decide, Nat.and_two_pow_sub_one_eq_mod]
  omega
theorem nat_andNot_hi (E M : Nat) (hE : E ≤ 2047) (hM : M < 4503599627370496) : (E * 4503599627370496 + M) &&& (18446744073709551615 - 9218868437227405312) = M := by
  have e : (18446744073709551615 - 9218868437227405312 : Nat) = 9223372036854775808 + 4503599627370495 := by decide
  rw [e]
  apply Nat.eq_of_testBit_eq
  intro i
  have hy : (E * 4503599627370496 + M) = 2 ^ 52 * E + M := by omega
  have hc : (9223372036854775808 + 4503599627370495 : Nat) = 2 ^ 52 * 2048 + 4503599627370495 := by decide
  rw [Nat.testBit_and, hy, hc, Nat.testBit_two_pow_mul_add _ (by simpa using hM), Nat.testBit_two_pow_mul_add _ (by decide)]
  by_cases hi : i < 52
  · rw [if_pos hi, if_pos hi, show (4503599627370495 : Nat) = 2 ^ 52 - 1 by decide, Nat.testBit_two_pow_sub_one]
    simp [hi]
  · rw [if_neg hi, if_neg hi]
    have h1 : M.testBit i = false := Nat.testBit_lt_two_pow (Nat.lt_of_lt_of_le hM (by
      have := Nat.pow_le_pow_right (show 0 < 2 by decide) (show 52 ≤ i by omega)
      simpa using this))
    rw [h1]
    rw [show (2048 : Nat) = 2 ^ 11 by decide, Nat.testBit_two_pow]
    by_cases h2 : i - 52 = 11
    · rw [h2]
      have : E.testBit 11 = false := Nat.testBit_lt_two_pow (by omega)
      rw [this]; rfl
    · have h3 : decide (11 = i - 52) = false := by rw [decide_eq_false_iff_not]; omega
      rw [h3, Bool.and_false]
theorem ld_andNot (E M : Nat) (hE : E ≤ 2047) (hM : M < 4503599627370496) : bits .andNot .u64 ((E * 4503599627370496 + M : Nat) : Int) 9218868437227405312 = (M : Int) := by
  have h1 := u64_andNot_nat (E * 4503599627370496 + M) 9218868437227405312 (by omega) (by decide)
  rw [show ((9218868437227405312 : Nat) : Int) = 9218868437227405312 from rfl] at h1
  rw [h1, nat_andNot_hi E M hE hM]
theorem ld_or (D M : Nat) (hD : D ≤ 2047) (hM : M < 4503599627370496) : bits .or .u64 (M : Int) ((D : Int) * 4503599627370496) = ((M + D * 4503599627370496 : Nat) : Int) := by
  have h1 := u64_or_nat M (D * 4503599627370496) (by omega) (by omega)
  have e := or_add (x := M) (m := D) (r := 52) (by simpa using hM)
  rw [show (2 : Nat) ^ 52 = 4503599627370496 by decide] at e
  rw [e] at h1
  rw [← h1]
  congr 1
set_option maxRecDepth 100000 in
theorem norm_any (y : Nat) (h1 : 4503599627370496 ≤ y) (h2 : y < 9218868437227405312) (w : World) :
    Calls Tryz.prog 240 #[.float .f64 y] w fun e w' => e = .returned (.tuple #[.float .f64 y, .int .i64 0]) ∧ w = w' := by
  have e0 : fabs y = y := by rw [fabs_fin (nb_fin h2)]; exact Nat.mod_eq_of_lt (by omega)
  have e1 : (FloatKind.f64.format.order (fabs y) 4503599627370496 == some .lt) = false := by
    have h := flt_fv (a := y) (b := 4503599627370496) (nb_fin h2) (by omega) (by decide) (by decide)
    unfold flt at h
    rw [e0, h, decide_eq_false_iff_not, fv_small (by omega), fv_small (by decide)]
    have := rv_mono h1
    grind
  clear e0
  go_enter Tryz.func240, Tryz.ntmps240
  go_wp2_with (go_at_call 165; refine (abs_any _ _).mono ?_; rintro e w' ⟨s, rfl, rfl⟩)
  go_ret2
  exact ⟨rfl, rfl⟩
set_option maxRecDepth 100000 in
set_option maxHeartbeats 3200000 in
theorem ldexp_in (E M D : Nat) (k : Int) (hE1 : 1 ≤ E) (hE2 : E ≤ 2046) (hM : M < 4503599627370496) (hD1 : 1 ≤ D) (hD2 : D ≤ 2046) (hk : k + ((E : Int) - 1023) = (D : Int) - 1023) (w : World) :
    Calls Tryz.prog 212 #[.float .f64 (E * 4503599627370496 + M), .int .i64 k] w fun e w' => ∃ s n, e = .returned (.float .f64 (pick (fop .mul 4607182418800017408 (M + D * 4503599627370496)) s)) ∧ w.drewN n = w' := by
  have l1 : 4503599627370496 ≤ E * 4503599627370496 + M := by omega
  have l2 : E * 4503599627370496 + M < 9218868437227405312 := by omega
  have HN := Lib.hid (norm_any _ l1 l2)
  have f1 : isNaN (E * 4503599627370496 + M) = false := not_nan_of_fin (nb_fin l2)
  have f2 : infB (E * 4503599627370496 + M) = false := infB_fin (nb_fin l2)
  have f3 : (FloatKind.f64.format.order (E * 4503599627370496 + M) 0 == some .eq) = false := by
    have h := feq_fv (a := E * 4503599627370496 + M) (b := 0) (nb_fin l2) (by omega) fin_zero (by decide)
    unfold feq at h
    rw [h, decide_eq_false_iff_not, fv_zero, fv_small (by omega)]
    have := rv_pos (r := E * 4503599627370496 + M) (by omega)
    grind
  have b1 := run_f64bits
  have b2 := run_f64from
  have g1 := ld_and E hE2
  have g2 := ld_andNot E M (by omega) hM
  have g3 := ld_or D M (by omega) hM
  have g4 : ((E * 4503599627370496 + M : Nat) : Int) / 4503599627370496 = (E : Int) := by omega
  have i0 : (0 : Int) ≤ (E : Int) := by omega
  have i1 : (E : Int) ≤ 2046 := by omega
  have i2 : (1 : Int) ≤ (D : Int) := by omega
  have i3 : (D : Int) ≤ 2046 := by omega
  have i4 : -2046 ≤ k := by omega
  have i5 : k ≤ 2046 := by omega
  have g5 : (D : Int) - 1023 + 1023 = (D : Int) := by omega
  have g6 : ((M + D * 4503599627370496 : Nat) : Int).toNat = M + D * 4503599627370496 := by omega
  clear l1 l2 hM hE1 hE2 hD1 hD2
  generalize E * 4503599627370496 + M = y at *
  generalize M + D * 4503599627370496 = z at *
  go_enter Tryz.func212, Tryz.ntmps212
  go_wp2_with (first
    | (go_at_call 102; refine (isinf0_any _ _).mono ?_; rintro e w' ⟨rfl, rfl⟩)
    | (go_at_call 101; refine (isnan_any _ _).mono ?_; rintro e w' ⟨rfl, rfl⟩)
    | (go_at_call 240; refine (HN.out _).mono ?_; rintro e w' ⟨rfl, rfl⟩))
  go_ret
  exact ⟨_, _, rfl, rfl⟩
end Go.Proofs.YtbgjcpnbdgljbaaGreatDoor

/- The contracts of dyad.cut, round, Near where nothing is rounded. -/
namespace Go.Proofs.YtbgjcpnbdgljbaaGreatDoor
open Go.RowKit Go.Fil Go.Shelf
attribute [local irreducible] fop fsqrt fup fabs fneg pick

set_option maxRecDepth 100000 in
set_option maxHeartbeats 3200000 in
theorem cut_exact (neg : Bool) (a : Nat) (x t last : Int) (sh m : Nat) (hl : max (t - 52) (-1074) = last) (h1 : x - last = (sh : Int)) (hm : a * 2 ^ sh = m) (hm2 : m < 18446744073709551616) (hb : bl a ≤ 1000000) (hsh : sh ≤ 1000000) (t1 : -2000000 ≤ t) (t2 : t ≤ 2000000) (x1 : -2000000 ≤ x) (x2 : x ≤ 2000000) (w : World) :
    Calls Tryz.prog 160 #[.agg #[.bool neg, .string (natS a), .int .i64 x], .int .i64 t] w fun e w' => e = .returned (.tuple #[.int .u64 (m : Int), .int .i64 last, .int .i64 0, .bool true]) ∧ Below w.heap.size w w' := by
  have hb0 : Below w.heap.size w ((w.alloc (.cells #[.bool neg, .string (natS a), .int .i64 x] 29)).alloc (.cells #[.bool false, .slice none 0 0] 183)) := by repeat (first | exact Below.refl _ _ | refine below_drewN ?_ _ | refine Below.alloc ?_ (by first | omega | (simp; omega) | simp) _ | refine Below.setCell ?_ (by first | omega | (simp; omega) | simp) _ | refine Below.trans ?_ (Below.mono (by assumption) (by first | omega | (simp; omega) | simp)) | apply Below.drew)
  obtain ⟨cap, w1, hrun, hseq, hbe, hsz⟩ := conv_bytes ((w.alloc (.cells #[.bool neg, .string (natS a), .int .i64 x] 29)).alloc (.cells #[.bool false, .slice none 0 0] 183)) (bbs a) (bbs_ok a)
  rw [show bstr (bbs a) = natS a from rfl] at hrun
  have hlen : (bbs a).length ≤ 68719476736 := by rw [bbs_length]; omega
  have hb1 : Below w.heap.size w w1 := hb0.trans (hbe.mono (by simp; omega))
  have hc2 : w1.cell? ⟨w.heap.size, 2, none⟩ = some (.int .i64 x) := by
    have := hbe.cell (p := ⟨w.heap.size, 2, none⟩) (by simp; omega)
    rw [this]; simp [go_sem]
  have hblk : IntBlk w1 (w.heap.size + 1) := by
    have h0 : IntBlk ((w.alloc (.cells #[.bool neg, .string (natS a), .int .i64 x] 29)).alloc (.cells #[.bool false, .slice none 0 0] 183)) (w.heap.size + 1) := by
      have := blk_fresh (w.alloc (.cells #[.bool neg, .string (natS a), .int .i64 x] 29))
      simpa using this
    exact h0.below hbe
  have hw1 : w.heap.size < w1.heap.size := by simp at hsz; omega
  have esz : ((w.alloc (.cells #[.bool neg, .string (natS a), .int .i64 x] 29)).alloc (.cells #[.bool false, .slice none 0 0] 183)).heap.size = w.heap.size + 1 + 1 := by simp
  rw [esz] at hseq hrun
  clear esz
  have HSEQ := Lib.hid hseq
  have HB1 := Lib.hid hb1
  have HBLK := Lib.hid hblk
  have HA := Lib.hid hb
  have HM := Lib.hid hm
  have HM2 := Lib.hid hm2
  have hge : last ≤ x := by omega
  have hl1 : -2000052 ≤ last := by omega
  have hl2 : last ≤ 2000000 := by omega
  clear hseq hb1 hblk hbe hsz hb0 hb hm hm2
  go_enter Tryz.func160, Tryz.ntmps160
  go_wp2_with fail
  refine (isetb_any _ _ _ _ (bbs a) rfl hlen (bbs_ok a) _ HBLK.out HSEQ.out).mono ?_
  rintro e w2 ⟨rfl, hi, hg⟩
  have hc3 : w2.cell? ⟨w.heap.size, 2, none⟩ = some (.int .i64 x) := by
    rw [World.cell?_of_block (w := w1) (a := ⟨w.heap.size, 2, none⟩) (hg.block w.heap.size hw1 (by simp))]
    exact hc2
  rw [bbs_val] at hi
  have HI := Lib.hid hi
  have HB2 := Lib.hid (grown_below HB1.out hg (by omega))
  clear hi hg hc2
  go_wp2_with fail
  refine (ilsh_any _ _ sh (a : Int) (by rw [Int.natAbs_natCast]; have := HA.out; omega) (by omega) _ HI.out.blk HI.out).mono ?_
  rintro e w3 ⟨rfl, hi, hg⟩
  have hcast : ((a : Int) * 2 ^ sh) = ((m : Nat) : Int) := by rw [← HM.out]; push_cast; rfl
  rw [hcast] at hi
  have HI3 := Lib.hid hi
  have HB3 := Lib.hid (grown_below HB2.out hg (by omega))
  clear hi hg hcast
  go_wp2_with (go_at_call 208; refine (iu64_any _ m HM2.out _ HI3.out).mono ?_; rintro e w' ⟨rfl, rfl⟩)
  have hb3 := HB3.out
  exact bodyPost_ret (v := .tuple #[.int .u64 (m : Int), .int .i64 last, .int .i64 0, .bool true]) (by simp [results, Tryz.results160, go_sem]) rfl ⟨rfl, hb3⟩
/-- The float of a great mantissa. -/
theorem rv_inj {a b : Nat} (h : rv a = rv b) : a = b := by
  rcases Nat.lt_trichotomy a b with h1 | h1 | h1
  · have := rv_lt h1; grind
  · exact h1
  · have := rv_lt h1; grind
theorem fi_word {x r : Nat} {n : Int} (h : FI x n) (hn : 0 < n) (hv : rv r = (n : Rat)) : x = r := by
  obtain ⟨h1, h2, h3⟩ := h
  have hp : (0 : Rat) < (n : Rat) := by exact_mod_cast hn
  rcases Nat.lt_or_ge x 9223372036854775808 with hx | hx
  · rw [fv_small hx] at h3
    exact rv_inj (by rw [h3, hv])
  · exfalso
    unfold fv at h3
    rw [decide_eq_true hx] at h3
    have h4 := rv_nonneg (x % 9223372036854775808)
    have e : neg1 true = -1 := rfl
    rw [e] at h3
    grind
theorem mant_word (M : Nat) (hM : M < 4503599627370496) : floatOfInt .f64 ((4503599627370496 + M : Nat) : Int) = 1075 * 4503599627370496 + M := by
  refine fi_word (n := ((4503599627370496 + M : Nat) : Int)) (FI.of (by omega)) (by omega) ?_
  rw [rv_at (K := 1075 * 4503599627370496 + M) (j := 1074) (kept := 4503599627370496 + M) (by omega) (by omega) (.inr (by omega))]
  rw [show (-1074 + ((1074 : Nat) : Int)) = 0 by decide, p2_zero, Rat.mul_one]
  rfl
/-- The float of a whole number: its top, its mantissa. -/
theorem near_val {N t M : Nat} (hN : N * 2 ^ (52 - t) = 4503599627370496 + M) (hM : M < 4503599627370496) (ht : t ≤ 52) : rv (M + (1023 + t) * 4503599627370496) = (N : Rat) := by
  rw [rv_at (K := M + (1023 + t) * 4503599627370496) (j := 1022 + t) (kept := 4503599627370496 + M) (by omega) (by omega) (.inr (by omega)), ← hN]
  have e : ((N * 2 ^ (52 - t) : Nat) : Rat) = (N : Rat) * p2 ((52 - t : Nat) : Int) := by rw [p2_nat]; push_cast; rfl
  rw [e, Rat.mul_assoc, ← p2_add, show (((52 - t : Nat) : Int) + (-1074 + ((1022 + t : Nat) : Int))) = 0 by omega, p2_zero, Rat.mul_one]
theorem bl_unique {n k : Nat} (h1 : 2 ^ k ≤ n) (h2 : n < 2 ^ (k + 1)) : bl n = k + 1 := by
  have h0 : n ≠ 0 := by have := Nat.two_pow_pos k; omega
  have h3 := bl_le h0
  have h4 := bl_lt n
  have h5 := bl_le_of_lt h2
  rcases Nat.lt_or_ge (bl n) (k + 1) with h | h
  · have := Nat.pow_le_pow_right (show 0 < 2 by decide) (show bl n ≤ k by omega)
    omega
  · omega
theorem bl_od_tz {n : Nat} (h : n ≠ 0) : bl (od n) + tz n = bl n := by
  have h1 := tz_mul n
  have h2 : od n ≠ 0 := by have := od_pos h; omega
  have h3 := bl_le h2
  have h4 := bl_lt (od n)
  have h5 : 0 < bl (od n) := by
    rcases Nat.eq_zero_or_pos (bl (od n)) with h6 | h6
    · rw [h6] at h4; omega
    · exact h6
  have e1 : 2 ^ (bl (od n) - 1 + tz n) ≤ n := by
    rw [Nat.pow_add, Nat.mul_comm]
    conv => rhs; rw [← h1]
    exact Nat.mul_le_mul_left _ h3
  have e2 : n < 2 ^ (bl (od n) - 1 + tz n + 1) := by
    rw [show bl (od n) - 1 + tz n + 1 = tz n + bl (od n) by omega, Nat.pow_add]
    conv => lhs; rw [← h1]
    exact Nat.mul_lt_mul_of_pos_left h4 (Nat.two_pow_pos _)
  rw [bl_unique e1 e2]; omega
set_option maxRecDepth 100000 in
theorem copy_neg (x : Nat) (hx : x < 9223372036854775808) (w : World) :
    Calls Tryz.prog 162 #[.float .f64 x, .float .f64 13830554455654793216] w fun e w' => e = .returned (.float .f64 (x + 9223372036854775808)) ∧ w = w' := by
  have b1 := run_f64bits
  have b2 := run_f64from
  have g1 : bits .andNot .u64 (x : Int) 9223372036854775808 = (x : Int) := by rw [abs_bits, Nat.mod_eq_of_lt hx]
  have g2 : bits .and .u64 (13830554455654793216 : Int) 9223372036854775808 = 9223372036854775808 := by decide
  have g3 : bits .or .u64 (x : Int) 9223372036854775808 = ((x + 9223372036854775808 : Nat) : Int) := by
    have h1 := u64_or_nat x 9223372036854775808 (by omega) (by decide)
    have e := or_add (x := x) (m := 1) (r := 63) (by simpa using hx)
    rw [show (1 * 2 ^ 63 : Nat) = 9223372036854775808 by decide] at e
    rw [e] at h1
    exact h1
  have g4 : ((x + 9223372036854775808 : Nat) : Int).toNat = x + 9223372036854775808 := by omega
  go_enter Tryz.func162, Tryz.ntmps162
  go_wp2
  go_ret
  exact ⟨rfl, rfl⟩
set_option maxRecDepth 100000 in
theorem Ldexp_any (E M D : Nat) (k : Int) (hE1 : 1 ≤ E) (hE2 : E ≤ 2046) (hM : M < 4503599627370496) (hD1 : 1 ≤ D) (hD2 : D ≤ 2046) (hk : k + ((E : Int) - 1023) = (D : Int) - 1023) (w : World) :
    Calls Tryz.prog 161 #[.float .f64 (E * 4503599627370496 + M), .int .i64 k] w fun e w' => ∃ s n, e = .returned (.float .f64 (pick (fop .mul 4607182418800017408 (M + D * 4503599627370496)) s)) ∧ w.drewN n = w' := by
  have H := Lib.hid (ldexp_in E M D k hE1 hE2 hM hD1 hD2 hk)
  clear hk
  generalize E * 4503599627370496 + M = y at *
  go_enter Tryz.func161, Tryz.ntmps161
  go_wp2_with (go_at_call 212; refine (H.out _).mono ?_; rintro e w' ⟨s, n, rfl, rfl⟩)
  go_ret
  exact ⟨_, _, rfl, rfl⟩
theorem fi_neg {F : Nat} {n : Int} (hn : n < 0) (hF : F < 9223372036854775808) (hf : fin F = true) (hv : fv F = ((n.natAbs : Nat) : Rat)) : FI (F + 9223372036854775808) n := by
  have e : (F + 9223372036854775808) % 9223372036854775808 = F := by omega
  refine ⟨by omega, ?_, ?_⟩
  · unfold fin at hf ⊢
    simp only [decide_eq_true_eq] at hf ⊢
    omega
  · rw [fv_small hF] at hv
    unfold fv
    rw [e, hv, decide_eq_true (by omega)]
    have e2 : neg1 true = -1 := rfl
    rw [e2]
    have e3 : ((n.natAbs : Nat) : Int) = -n := by omega
    have e4 : ((n.natAbs : Nat) : Rat) = ((-n : Int) : Rat) := by rw [← e3]; rfl
    rw [e4, Rat.intCast_neg]
    grind
/-- What near makes of a whole number: its float. -/
def RNear (n : Int) (w : World) (e : Ending) (w' : World) : Prop := ∃ F, e = .returned (.tuple #[.float .f64 F, .int .i64 0]) ∧ FI F n ∧ Below w.heap.size w w'
theorem wd_top {n : Int} (h0 : n ≠ 0) : topD (wd n) = (bl n.natAbs : Int) - 1 := by
  unfold topD wd
  rw [mkD_m, odI_natAbs, mkD_e h0]
  have := bl_od_tz (n := n.natAbs) (by omega)
  omega
set_option maxRecDepth 100000 in
theorem top_zero (w : World) : Calls Tryz.prog 159 #[.agg #[.bool (dn (wd 0)), .string (ds (wd 0)), .int .i64 (wd 0).e]] w fun e w' => e = .returned (.tuple #[.int .i64 0, .bool false]) ∧ Below w.heap.size w w' := by
  have hs : ∀ w : World, Calls Tryz.prog 90 #[.agg #[.bool (dn (wd 0)), .string (ds (wd 0)), .int .i64 (wd 0).e]] w fun e w' => e = .returned (.int .i64 0) ∧ Below w.heap.size w w' := dsignV (wd 0) (wd_ok (by decide))
  have HS := Lib.hid hs
  clear hs
  generalize dn (wd 0) = na at *
  generalize ds (wd 0) = sa at *
  generalize (wd 0).e = xa at *
  go_enter Tryz.func159, Tryz.ntmps159
  go_wp2_with (go_at_call 90; refine (HS.out _).mono ?_; rintro e w1 ⟨rfl, hb⟩; obtain ⟨hc, hf⟩ := bcell hb; (try simp only [World.heap_drewN, World.cell?_drewN, World.frozen?_drewN] at hc hf); have z0 : w.heap.size < w1.heap.size := (by have := hb.size; try simp at this; omega))
  go_ret2
  exact ⟨rfl, by repeat (first | exact Below.refl _ _ | refine below_drewN ?_ _ | refine Below.alloc ?_ (by first | omega | (simp; omega) | simp) _ | refine Below.setCell ?_ (by first | omega | (simp; omega) | simp) _ | refine Below.trans ?_ (Below.mono (by assumption) (by first | omega | (simp; omega) | simp)) | apply Below.drew)⟩
set_option maxRecDepth 100000 in
set_option maxHeartbeats 3200000 in
theorem round_zero (f : Value) (w : World) :
    Calls Tryz.prog 98 #[.agg #[.bool (dn (wd 0)), .string (ds (wd 0)), .int .i64 (wd 0).e], f] w (RNear 0 w) := by
  have HC := Lib.hid (dcheckV (wd 0) (wd_ok (by decide)))
  have HT := Lib.hid top_zero
  generalize dn (wd 0) = na at *
  generalize ds (wd 0) = sa at *
  generalize (wd 0).e = xa at *
  go_enter Tryz.func98, Tryz.ntmps98
  go_wp2_with (first
    | (go_at_call 83; refine (HC.out _).mono ?_; rintro e w1 ⟨rfl, hb⟩; obtain ⟨hc, hf⟩ := bcell hb; (try simp only [World.heap_drewN, World.cell?_drewN, World.frozen?_drewN] at hc hf); have z0 : w.heap.size < w1.heap.size := (by have := hb.size; try simp at this; omega))
    | (go_at_call 159; refine (HT.out _).mono ?_; rintro e w2 ⟨rfl, hb2⟩))
  go_ret2
  exact ⟨0, rfl, ⟨by decide, by decide, by rw [fv_zero]; rfl⟩, by repeat (first | exact Below.refl _ _ | refine below_drewN ?_ _ | refine Below.alloc ?_ (by first | omega | (simp; omega) | simp) _ | refine Below.setCell ?_ (by first | omega | (simp; omega) | simp) _ | refine Below.trans ?_ (Below.mono (by assumption) (by first | omega | (simp; omega) | simp)) | apply Below.drew)⟩
set_option maxRecDepth 100000 in
set_option maxHeartbeats 3200000 in
theorem round_ne (n : Int) (h0 : n ≠ 0) (hn : n.natAbs < 9007199254740992) (f : Value) (w : World) :
    Calls Tryz.prog 98 #[.agg #[.bool (dn (wd n)), .string (ds (wd n)), .int .i64 (wd n).e], f] w (RNear n w) := by
  have hbl : bl n.natAbs ≤ 53 := bl_le_of_lt (by simpa using hn)
  have hok := wd_ok (n := n) (by omega)
  have hm0 : (wd n).m ≠ 0 := by unfold wd; rw [mkD_m]; exact odI_ne h0
  have HC := Lib.hid (dcheckV (wd n) hok)
  have htop := dtop_any (wd n) hok hm0
  rw [wd_top h0] at htop
  have hb1 := bl_le (n := n.natAbs) (by omega)
  have hb2 := bl_lt n.natAbs
  have hpos : 0 < bl n.natAbs := by
    rcases Nat.eq_zero_or_pos (bl n.natAbs) with h | h
    · rw [h] at hb2; omega
    · exact h
  obtain ⟨t, ht⟩ : ∃ t, bl n.natAbs = t + 1 := ⟨bl n.natAbs - 1, by omega⟩
  rw [ht] at htop hb1 hb2 hbl
  rw [show ((t + 1 : Nat) : Int) - 1 = (t : Int) by omega] at htop
  rw [Nat.add_sub_cancel] at hb1
  have ht52 : t ≤ 52 := by omega
  -- the mantissa
  have hP : 2 ^ t * 2 ^ (52 - t) = 4503599627370496 := by rw [← Nat.pow_add, show t + (52 - t) = 52 by omega]
  have hm1 : 4503599627370496 ≤ n.natAbs * 2 ^ (52 - t) := by rw [← hP]; exact Nat.mul_le_mul_right _ hb1
  have hm2 : n.natAbs * 2 ^ (52 - t) < 9007199254740992 := by
    have h := Nat.mul_lt_mul_of_pos_right hb2 (Nat.two_pow_pos (52 - t))
    rw [Nat.pow_succ, Nat.mul_assoc, Nat.mul_comm 2, ← Nat.mul_assoc, hP] at h
    exact h
  obtain ⟨M, hM⟩ : ∃ M, n.natAbs * 2 ^ (52 - t) = 4503599627370496 + M := ⟨n.natAbs * 2 ^ (52 - t) - 4503599627370496, by omega⟩
  have hMl : M < 4503599627370496 := by omega
  have hz := near_val hM hMl ht52
  have hzl : M + (1023 + t) * 4503599627370496 < 9218868437227405312 := by omega
  obtain ⟨hf, hv⟩ := one_mul hzl
  rw [hz] at hv
  -- cut
  have hod : n.natAbs = od n.natAbs * 2 ^ tz n.natAbs := by rw [Nat.mul_comm]; exact (tz_mul _).symm
  have hsh : od n.natAbs * 2 ^ (tz n.natAbs + (52 - t)) = 4503599627370496 + M := by
    rw [Nat.pow_add, ← Nat.mul_assoc, ← hod]; exact hM
  have htz := tz_bl n.natAbs
  have hcut := cut_exact (dn (wd n)) (od n.natAbs) (tz n.natAbs : Int) (t : Int) ((t : Int) - 52) (tz n.natAbs + (52 - t)) (4503599627370496 + M) (by omega) (by omega) hsh (by omega) (by have := bl_od n.natAbs; omega) (by omega) (by omega) (by omega) (by omega) (by omega)
  have he : (wd n).e = (tz n.natAbs : Int) := by unfold wd; rw [mkD_e h0]; omega
  have hs : ds (wd n) = natS (od n.natAbs) := by unfold ds wd; rw [mkD_m, odI_natAbs]
  have hd : dn (wd n) = decide (n < 0) := by unfold dn wd; rw [mkD_m]; exact decide_eq_decide.2 (odI_neg_iff n)
  have hld := Ldexp_any 1075 M (1023 + t) ((t : Int) - 52) (by decide) (by decide) hMl (by omega) (by omega) (by omega)
  have hcv := mant_word M hMl
  rw [← hs, ← he, hd] at hcut
  rw [hd] at htop HC ⊢
  have hFl : fop .mul 4607182418800017408 (M + (1023 + t) * 4503599627370496) < 18446744073709551616 := fop_lt _ _ _
  generalize fop .mul 4607182418800017408 (M + (1023 + t) * 4503599627370496) = F at *
  have hpk : ∀ s, pick F s = F := pick_of (not_nan_of_fin hf)
  have hpos' : (0 : Rat) < ((n.natAbs : Nat) : Rat) := by exact_mod_cast (by omega)
  have hF63 : F < 9223372036854775808 := by
    rcases Nat.lt_or_ge F 9223372036854775808 with hx | hx
    · exact hx
    · exfalso
      unfold fv at hv
      rw [decide_eq_true hx] at hv
      have h4 := rv_nonneg (F % 9223372036854775808)
      have e : neg1 true = -1 := rfl
      rw [e] at hv
      grind
  have hFI : FI F ((n.natAbs : Nat) : Int) := ⟨hFl, hf, by rw [hv]; rfl⟩
  have i1 : ((4503599627370496 + M : Nat) : Int) ≤ 9007199254740991 := by omega
  have i0 : (0 : Int) ≤ ((4503599627370496 + M : Nat) : Int) := by omega
  have i2 : (t : Int) < 1024 := by omega
  have HCUT := Lib.hid hcut
  have HTOP := Lib.hid htop
  have HLD := Lib.hid hld
  have HFI := Lib.hid hFI
  have HF := Lib.hid hF63
  have HV := Lib.hid hv
  have HFF := Lib.hid hf
  have HSZ := Lib.hid hFl
  clear hcut htop hld hFI hF63 hv hf hFl hs he hd hod hsh htz hM hMl hz hzl hm1 hm2 hP hb1 hb2 hbl hok hm0 ht hpos hpos' ht52
  generalize hmn : (4503599627370496 + M : Nat) = mm at *
  generalize hyn : (1075 * 4503599627370496 + M : Nat) = Y at *
  have HMN := Lib.hid hmn
  have HYN := Lib.hid hyn
  clear hmn hyn
  generalize hlst : (t : Int) - 52 = lst at *
  have HLS := Lib.hid hlst
  clear hlst
  generalize ds (wd n) = sa at *
  generalize (wd n).e = xa at *
  by_cases hneg : n < 0
  · rw [decide_eq_true hneg] at *
    have HCN := Lib.hid (copy_neg F HF.out)
    go_enter Tryz.func98, Tryz.ntmps98
    go_wp2_with (first
      | (go_at_call 83; refine (HC.out _).mono ?_; rintro e w1 ⟨rfl, hb⟩; obtain ⟨hc, hf⟩ := bcell hb; (try simp only [World.heap_drewN, World.cell?_drewN, World.frozen?_drewN] at hc hf); have z0 : w.heap.size < w1.heap.size := (by have := hb.size; try simp at this; omega))
      | (go_at_call 159; refine (HTOP.out _).mono ?_; rintro e w2 ⟨rfl, hb2⟩; obtain ⟨hc2, hf2⟩ := bcell hb2; have y0 : w.heap.size < w2.heap.size := Nat.lt_of_lt_of_le z0 hb2.size)
      | (go_at_call 160; refine (HCUT.out _).mono ?_; rintro e w3 ⟨rfl, hb3⟩; obtain ⟨hc3, hf3⟩ := bcell hb3; have x0 : w.heap.size < w3.heap.size := Nat.lt_of_lt_of_le y0 hb3.size)
      | (go_at_call 161; refine (HLD.out _).mono ?_; rintro e w' ⟨s, q, rfl, rfl⟩)
      | (go_at_call 162; refine (HCN.out _).mono ?_; rintro e w' ⟨rfl, rfl⟩))
    go_ret2
    exact ⟨_, rfl, fi_neg hneg HF.out HFF.out HV.out, by repeat (first | exact Below.refl _ _ | refine below_drewN ?_ _ | refine Below.alloc ?_ (by first | omega | (simp; omega) | simp) _ | refine Below.setCell ?_ (by first | omega | (simp; omega) | simp) _ | refine Below.trans ?_ (Below.mono (by assumption) (by first | omega | (simp; omega) | simp)) | apply Below.drew)⟩
  · rw [decide_eq_false hneg] at *
    go_enter Tryz.func98, Tryz.ntmps98
    go_wp2_with (first
      | (go_at_call 83; refine (HC.out _).mono ?_; rintro e w1 ⟨rfl, hb⟩; obtain ⟨hc, hf⟩ := bcell hb; (try simp only [World.heap_drewN, World.cell?_drewN, World.frozen?_drewN] at hc hf); have z0 : w.heap.size < w1.heap.size := (by have := hb.size; try simp at this; omega))
      | (go_at_call 159; refine (HTOP.out _).mono ?_; rintro e w2 ⟨rfl, hb2⟩; obtain ⟨hc2, hf2⟩ := bcell hb2; have y0 : w.heap.size < w2.heap.size := Nat.lt_of_lt_of_le z0 hb2.size)
      | (go_at_call 160; refine (HCUT.out _).mono ?_; rintro e w3 ⟨rfl, hb3⟩; obtain ⟨hc3, hf3⟩ := bcell hb3; have x0 : w.heap.size < w3.heap.size := Nat.lt_of_lt_of_le y0 hb3.size)
      | (go_at_call 161; refine (HLD.out _).mono ?_; rintro e w' ⟨s, q, rfl, rfl⟩))
    have hFI := HFI.out
    rw [show ((n.natAbs : Nat) : Int) = n by omega] at hFI
    go_ret2
    exact ⟨_, rfl, hFI, by repeat (first | exact Below.refl _ _ | refine below_drewN ?_ _ | refine Below.alloc ?_ (by first | omega | (simp; omega) | simp) _ | refine Below.setCell ?_ (by first | omega | (simp; omega) | simp) _ | refine Below.trans ?_ (Below.mono (by assumption) (by first | omega | (simp; omega) | simp)) | apply Below.drew)⟩
set_option maxRecDepth 100000 in
theorem dnear_any (n : Int) (hn : n.natAbs < 9007199254740992) (w : World) :
    Calls Tryz.prog 51 #[.agg #[.bool (dn (wd n)), .string (ds (wd n)), .int .i64 (wd n).e]] w (RNear n w) := by
  have hr : ∀ (f : Value) (w : World), Calls Tryz.prog 98 #[.agg #[.bool (dn (wd n)), .string (ds (wd n)), .int .i64 (wd n).e], f] w (RNear n w) := by
    intro f w
    by_cases h0 : n = 0
    · subst h0; exact round_zero f w
    · exact round_ne n h0 hn f w
  have HR := Lib.hid hr
  clear hr
  generalize dn (wd n) = na at *
  generalize ds (wd n) = sa at *
  generalize (wd n).e = xa at *
  go_enter Tryz.func51, Tryz.ntmps51
  go_wp2_with (go_at_call 98; refine (HR.out _ _).mono ?_; rintro e w1 ⟨F, rfl, hF, hb⟩; have HF := Lib.hid hF; clear hF)
  go_ret2
  exact ⟨F, rfl, HF.out, by repeat (first | exact Below.refl _ _ | refine below_drewN ?_ _ | refine Below.alloc ?_ (by first | omega | (simp; omega) | simp) _ | refine Below.setCell ?_ (by first | omega | (simp; omega) | simp) _ | refine Below.trans ?_ (Below.mono (by assumption) (by first | omega | (simp; omega) | simp)) | apply Below.drew)⟩
/-- What near makes of a whole complex number. -/
def RNearZ (z : Zi) (w : World) (e : Ending) (w' : World) : Prop := ∃ F G, e = .returned (.tuple #[.complex .f64 F G, .int .i64 0]) ∧ FC (F, G) z ∧ Below w.heap.size w w'
set_option maxRecDepth 100000 in
theorem gnear_any (z : Zi) (h1 : z.re.natAbs < 9007199254740992) (h2 : z.im.natAbs < 9007199254740992) (w : World) :
    Calls Tryz.prog 20 #[.agg #[.bool (dn (wd z.re)), .string (ds (wd z.re)), .int .i64 (wd z.re).e, .bool (dn (wd z.im)), .string (ds (wd z.im)), .int .i64 (wd z.im).e]] w (RNearZ z w) := by
  have HC := Lib.hid (gz_check z ⟨Nat.le_trans (bl_le_of_lt (k := 53) (by simpa using h1)) (by decide), Nat.le_trans (bl_le_of_lt (k := 53) (by simpa using h2)) (by decide)⟩)
  have HR := Lib.hid (dnear_any z.re h1)
  have HI := Lib.hid (dnear_any z.im h2)
  clear h1 h2
  generalize dn (wd z.re) = na at *
  generalize ds (wd z.re) = sa at *
  generalize (wd z.re).e = xa at *
  generalize dn (wd z.im) = nb at *
  generalize ds (wd z.im) = sb at *
  generalize (wd z.im).e = xb at *
  go_enter Tryz.func20, Tryz.ntmps20
  go_wp2_with (first
    | (go_at_call 35; refine (HC.out _).mono ?_; rintro e w1 ⟨rfl, hb⟩; obtain ⟨hc, hf⟩ := bcell hb; (try simp only [World.heap_drewN, World.cell?_drewN, World.frozen?_drewN] at hc hf); have z0 : w.heap.size < w1.heap.size := (by have := hb.size; try simp at this; omega))
    | (go_at_call 51; (with_reducible refine (HR.out _).mono ?_); rintro e w2 ⟨F, rfl, hF, hb2⟩; have HF := Lib.hid hF; clear hF; obtain ⟨hc2, hf2⟩ := bcell hb2; have y0 : w.heap.size < w2.heap.size := Nat.lt_of_lt_of_le z0 hb2.size)
    | (go_at_call 51; (with_reducible refine (HI.out _).mono ?_); rintro e w3 ⟨G, rfl, hG, hb3⟩; have HG := Lib.hid hG; clear hG))
  go_ret2
  exact ⟨F, G, rfl, ⟨HF.out, HG.out⟩, by repeat (first | exact Below.refl _ _ | refine below_drewN ?_ _ | refine Below.alloc ?_ (by first | omega | (simp; omega) | simp) _ | refine Below.setCell ?_ (by first | omega | (simp; omega) | simp) _ | refine Below.trans ?_ (Below.mono (by assumption) (by first | omega | (simp; omega) | simp)) | apply Below.drew)⟩
end Go.Proofs.YtbgjcpnbdgljbaaGreatDoor

/- The contract of gauss.Conj at whole numbers. -/
namespace Go.Proofs.YtbgjcpnbdgljbaaGreatDoor
open Go.RowKit Go.Fil Go.Shelf

set_option maxRecDepth 100000 in
set_option maxHeartbeats 3200000 in
theorem conj_gen (a b c : Dya) (ha : okD a) (hb : okD b) (hn : ∀ w : World, Calls Tryz.prog 95 #[.agg #[.bool (dn b), .string (ds b), .int .i64 b.e]] w fun e w' => e = .returned (.agg #[.bool (dn c), .string (ds c), .int .i64 c.e]) ∧ Below w.heap.size w w') (w : World) :
    Calls Tryz.prog 49 #[.agg #[.bool (dn a), .string (ds a), .int .i64 a.e, .bool (dn b), .string (ds b), .int .i64 b.e]] w fun e w' => e = .returned (.agg #[.bool (dn a), .string (ds a), .int .i64 a.e, .bool (dn c), .string (ds c), .int .i64 c.e]) ∧ Below w.heap.size w w' := by
  have HC := Lib.hid (gcheck_any a b ha hb)
  have HN := Lib.hid hn
  clear ha hb hn
  generalize dn a = na at *
  generalize ds a = sa at *
  generalize a.e = xa at *
  generalize dn b = nb at *
  generalize ds b = sb at *
  generalize b.e = xb at *
  generalize dn c = nc at *
  generalize ds c = sc at *
  generalize c.e = xc at *
  go_enter Tryz.func49, Tryz.ntmps49
  go_wp2_with (go_at_call 35; refine (HC.out _).mono ?_; rintro e w1 ⟨rfl, hb⟩; obtain ⟨hc, hf⟩ := bcell hb; (try simp only [World.heap_drewN, World.cell?_drewN, World.frozen?_drewN] at hc hf); have z0 : w.heap.size < w1.heap.size := (by have := hb.size; (try simp at this); omega); have z1 : w.heap.size + 1 < w1.heap.size := (by have := hb.size; (try simp at this); omega))
  have HB1 := Lib.hid (show Below w.heap.size w w1 by repeat (first | exact Below.refl _ _ | refine below_drewN ?_ _ | refine Below.alloc ?_ (by first | omega | (simp; omega) | simp) _ | refine Below.setCell ?_ (by first | omega | (simp; omega) | simp) _ | refine Below.trans ?_ (Below.mono (by assumption) (by first | omega | (simp; omega) | simp)) | apply Below.drew))
  have l0 : w.heap.size < w1.heap.size := by omega
  have l1 : w.heap.size + 1 < w1.heap.size := by omega
  have m0 : w1.cell? ⟨w.heap.size, 0, none⟩ = some (.bool na) := by rw [hc _ _ (by simp <;> omega)] <;> try simp [go_sem]
  have m1 : w1.cell? ⟨w.heap.size, 1, none⟩ = some (.string sa) := by rw [hc _ _ (by simp <;> omega)] <;> try simp [go_sem]
  have m2 : w1.cell? ⟨w.heap.size, 2, none⟩ = some (.int .i64 xa) := by rw [hc _ _ (by simp <;> omega)] <;> try simp [go_sem]
  have m3 : w1.cell? ⟨w.heap.size, 3, none⟩ = some (.bool nb) := by rw [hc _ _ (by simp <;> omega)] <;> try simp [go_sem]
  have m4 : w1.cell? ⟨w.heap.size, 4, none⟩ = some (.string sb) := by rw [hc _ _ (by simp <;> omega)] <;> try simp [go_sem]
  have m5 : w1.cell? ⟨w.heap.size, 5, none⟩ = some (.int .i64 xb) := by rw [hc _ _ (by simp <;> omega)] <;> try simp [go_sem]
  have rc0 : w1.cell? ⟨w.heap.size + 1, 0, none⟩ = some (.bool false) := by rw [hc _ _ (by simp <;> omega)] <;> try simp [go_sem]
  have rf0 : w1.frozen? ⟨w.heap.size + 1, 0, none⟩ = false := by rw [hf _ _ (by simp <;> omega)] <;> try simp [go_sem]
  have rc1 : w1.cell? ⟨w.heap.size + 1, 1, none⟩ = some (.string ⟨#[]⟩) := by rw [hc _ _ (by simp <;> omega)] <;> try simp [go_sem]
  have rf1 : w1.frozen? ⟨w.heap.size + 1, 1, none⟩ = false := by rw [hf _ _ (by simp <;> omega)] <;> try simp [go_sem]
  have rc2 : w1.cell? ⟨w.heap.size + 1, 2, none⟩ = some (.int .i64 0) := by rw [hc _ _ (by simp <;> omega)] <;> try simp [go_sem]
  have rf2 : w1.frozen? ⟨w.heap.size + 1, 2, none⟩ = false := by rw [hf _ _ (by simp <;> omega)] <;> try simp [go_sem]
  have rc3 : w1.cell? ⟨w.heap.size + 1, 3, none⟩ = some (.bool false) := by rw [hc _ _ (by simp <;> omega)] <;> try simp [go_sem]
  have rf3 : w1.frozen? ⟨w.heap.size + 1, 3, none⟩ = false := by rw [hf _ _ (by simp <;> omega)] <;> try simp [go_sem]
  have rc4 : w1.cell? ⟨w.heap.size + 1, 4, none⟩ = some (.string ⟨#[]⟩) := by rw [hc _ _ (by simp <;> omega)] <;> try simp [go_sem]
  have rf4 : w1.frozen? ⟨w.heap.size + 1, 4, none⟩ = false := by rw [hf _ _ (by simp <;> omega)] <;> try simp [go_sem]
  have rc5 : w1.cell? ⟨w.heap.size + 1, 5, none⟩ = some (.int .i64 0) := by rw [hc _ _ (by simp <;> omega)] <;> try simp [go_sem]
  have rf5 : w1.frozen? ⟨w.heap.size + 1, 5, none⟩ = false := by rw [hf _ _ (by simp <;> omega)] <;> try simp [go_sem]
  have j1 : w.heap.size + 1 ≠ w.heap.size := by omega
  clear hc hf hb z0 z1 HC
  go_region_held3 (fun x => x.cell? ⟨w.heap.size, 0, none⟩ = some (.bool na) ∧ x.cell? ⟨w.heap.size, 1, none⟩ = some (.string sa) ∧ x.cell? ⟨w.heap.size, 2, none⟩ = some (.int .i64 xa) ∧ x.cell? ⟨w.heap.size, 3, none⟩ = some (.bool nb) ∧ x.cell? ⟨w.heap.size, 4, none⟩ = some (.string sb) ∧ x.cell? ⟨w.heap.size, 5, none⟩ = some (.int .i64 xb))
    ((refine ⟨?_, ?_, ?_, ?_, ?_, ?_⟩ <;> first | with_reducible assumption | (simp only [World.cell?_drew]; with_reducible assumption) | (rw [cell6 j1]; with_reducible assumption)))
    (first
    | (go_at_call 95; refine (HN.out _).mono ?_; rintro en w5 ⟨rfl, hb5'⟩; have HB5 := Lib.hid (undrew hb5'); clear hb5'; have q0 := (HB5.out.cell (p := ⟨w.heap.size, 0, none⟩) l0).trans m0; have q1 := (HB5.out.cell (p := ⟨w.heap.size, 1, none⟩) l0).trans m1; have q2 := (HB5.out.cell (p := ⟨w.heap.size, 2, none⟩) l0).trans m2; have q3 := (HB5.out.cell (p := ⟨w.heap.size, 3, none⟩) l0).trans m3; have q4 := (HB5.out.cell (p := ⟨w.heap.size, 4, none⟩) l0).trans m4; have q5 := (HB5.out.cell (p := ⟨w.heap.size, 5, none⟩) l0).trans m5; have rc0' := (HB5.out.cell (p := ⟨w.heap.size + 1, 0, none⟩) l1).trans rc0; have rf0' := (HB5.out.frozen (p := ⟨w.heap.size + 1, 0, none⟩) l1).trans rf0; have rc1' := (HB5.out.cell (p := ⟨w.heap.size + 1, 1, none⟩) l1).trans rc1; have rf1' := (HB5.out.frozen (p := ⟨w.heap.size + 1, 1, none⟩) l1).trans rf1; have rc2' := (HB5.out.cell (p := ⟨w.heap.size + 1, 2, none⟩) l1).trans rc2; have rf2' := (HB5.out.frozen (p := ⟨w.heap.size + 1, 2, none⟩) l1).trans rf2; have rc3' := (HB5.out.cell (p := ⟨w.heap.size + 1, 3, none⟩) l1).trans rc3; have rf3' := (HB5.out.frozen (p := ⟨w.heap.size + 1, 3, none⟩) l1).trans rf3; have rc4' := (HB5.out.cell (p := ⟨w.heap.size + 1, 4, none⟩) l1).trans rc4; have rf4' := (HB5.out.frozen (p := ⟨w.heap.size + 1, 4, none⟩) l1).trans rf4; have rc5' := (HB5.out.cell (p := ⟨w.heap.size + 1, 5, none⟩) l1).trans rc5; have rf5' := (HB5.out.frozen (p := ⟨w.heap.size + 1, 5, none⟩) l1).trans rf5))
  go_wp2
  have hbw : Below w.heap.size w w5 := HB1.out.trans (HB5.out.mono HB1.out.size)
  exact bodyPost_ret (v := .agg #[.bool na, .string sa, .int .i64 xa, .bool nc, .string sc, .int .i64 xc]) (by simp [results, Tryz.results49, go_sem, rc0', rc1', rc2', rc3', rc4', rc5']) rfl ⟨rfl, ((((((hbw.setCell (by show w.heap.size ≤ w.heap.size + 1; omega) _).setCell (by show w.heap.size ≤ w.heap.size + 1; omega) _).setCell (by show w.heap.size ≤ w.heap.size + 1; omega) _).setCell (by show w.heap.size ≤ w.heap.size + 1; omega) _).setCell (by show w.heap.size ≤ w.heap.size + 1; omega) _).setCell (by show w.heap.size ≤ w.heap.size + 1; omega) _)⟩
theorem gz_conj (y : Zi) (hy : Zb 400 y) (w : World) : Calls Tryz.prog 49 #[.agg #[.bool (dn (wd y.re)), .string (ds (wd y.re)), .int .i64 (wd y.re).e, .bool (dn (wd y.im)), .string (ds (wd y.im)), .int .i64 (wd y.im).e]] w fun e w' => e = .returned (.agg #[.bool (dn (wd (zcon y).re)), .string (ds (wd (zcon y).re)), .int .i64 (wd (zcon y).re).e, .bool (dn (wd (zcon y).im)), .string (ds (wd (zcon y).im)), .int .i64 (wd (zcon y).im).e]) ∧ Below w.heap.size w w' :=
  conj_gen (wd y.re) (wd y.im) (wd (-y.im)) (wd_ok (by have := hy.1; omega)) (wd_ok (by have := hy.2; omega)) (fun w => by
    have h := dnegV (wd y.im) (wd_ok (by have := hy.2; omega)) w
    rwa [wd_neg] at h) w
end Go.Proofs.YtbgjcpnbdgljbaaGreatDoor
