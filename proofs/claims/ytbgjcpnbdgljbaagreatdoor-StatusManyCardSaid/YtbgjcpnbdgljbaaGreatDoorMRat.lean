/- Dyads: their order by tops; what a float is as a dyad. No program is in sight but for the order of whole numbers. -/
import Derived.Test.YtbgjcpnbdgljbaaGreatDoorMDya
import Derived.Test.YtbgjcpnbdgljbaaGreatDoorMFlo
import Derived.Test.YtbgjcpnbdgljbaaGreatDoorMDig
import Derived.Test.YtbgjcpnbdgljbaaGreatDoorMSeq
namespace Go.Fil
open Go Go.Proofs.YtbgjcpnbdgljbaaGreatDoor

/-- A dyad's number of a low place. -/
def atLow (a : Dya) (low : Int) : Int := a.m * 2 ^ (a.e - low).toNat
def cmpD (a b : Dya) : Int := cmpZ (atLow a (min a.e b.e)) (atLow b (min a.e b.e))
def topD (a : Dya) : Int := (bl a.m.natAbs : Int) - 1 + a.e
theorem atLow_abs (a : Dya) (low : Int) : (atLow a low).natAbs = a.m.natAbs * 2 ^ (a.e - low).toNat := by
  unfold atLow; rw [Int.natAbs_mul, Int.natAbs_pow]; rfl
theorem atLow_sign (a : Dya) (low : Int) : (atLow a low).sign = a.m.sign := by
  unfold atLow
  have hp : (0 : Int) < 2 ^ (a.e - low).toNat := Int.pow_pos (by decide)
  rw [Int.sign_mul, Int.sign_eq_one_of_pos hp, Int.mul_one]
theorem abs_lt_of_top {a b : Dya} {low : Int} (hb : b.m ≠ 0) (h1 : low ≤ a.e) (h2 : low ≤ b.e) (h : topD a < topD b) : (atLow a low).natAbs < (atLow b low).natAbs := by
  rw [atLow_abs, atLow_abs]
  unfold topD at h
  have ha := bl_lt a.m.natAbs
  have hb' := bl_le (n := b.m.natAbs) (by omega)
  have hb0 : 0 < bl b.m.natAbs := by
    rcases Nat.eq_zero_or_pos (bl b.m.natAbs) with hz | hz
    · have := bl_lt b.m.natAbs
      rw [hz] at this; omega
    · exact hz
  have s1 : a.m.natAbs * 2 ^ (a.e - low).toNat < 2 ^ (bl a.m.natAbs) * 2 ^ (a.e - low).toNat := Nat.mul_lt_mul_of_pos_right ha (Nat.two_pow_pos _)
  have s2 : 2 ^ (bl b.m.natAbs - 1) * 2 ^ (b.e - low).toNat ≤ b.m.natAbs * 2 ^ (b.e - low).toNat := Nat.mul_le_mul_right _ hb'
  rw [← Nat.pow_add] at s1 s2
  have s3 : 2 ^ (bl a.m.natAbs + (a.e - low).toNat) ≤ 2 ^ (bl b.m.natAbs - 1 + (b.e - low).toNat) := Nat.pow_le_pow_right (by decide) (by omega)
  omega
theorem cmpZ_sign {y z : Int} (h : y.sign ≠ z.sign ∨ y.sign = 0) : cmpZ y z = (y.sign - z.sign).sign := by
  unfold cmpZ
  rcases sign_vals y with ⟨h1, e1⟩ | ⟨h1, e1⟩ | ⟨h1, e1⟩ <;> rcases sign_vals z with ⟨h2, e2⟩ | ⟨h2, e2⟩ | ⟨h2, e2⟩ <;> rw [e1, e2] <;> rw [e1, e2] at h <;> first | (exfalso; omega) | (repeat (split <;> try omega)) <;> rfl
theorem cmpD_sign {a b : Dya} (h : a.m.sign ≠ b.m.sign ∨ a.m.sign = 0) : cmpD a b = (a.m.sign - b.m.sign).sign := by
  unfold cmpD
  rw [cmpZ_sign (by rw [atLow_sign, atLow_sign]; exact h), atLow_sign, atLow_sign]
theorem cmpD_top {a b : Dya} (h : a.m.sign = b.m.sign) (h0 : a.m ≠ 0) (ht : topD a ≠ topD b) : cmpD a b = a.m.sign * (topD a - topD b).sign := by
  have hb0 : b.m ≠ 0 := by
    intro hb; rw [hb] at h; exact h0 (Int.sign_eq_zero_iff_zero.1 h)
  have sa := atLow_sign a (min a.e b.e)
  have sb := atLow_sign b (min a.e b.e)
  unfold cmpD
  rcases Int.lt_or_gt_of_ne ht with hlt | hlt
  · have h3 := abs_lt_of_top (low := min a.e b.e) hb0 (by omega) (by omega) hlt
    generalize atLow a (min a.e b.e) = y at *
    generalize atLow b (min a.e b.e) = z at *
    rw [show (topD a - topD b).sign = -1 from Int.sign_eq_neg_one_of_neg (by omega)]
    unfold cmpZ
    rcases sign_vals y with ⟨h1, e1⟩ | ⟨h1, e1⟩ | ⟨h1, e1⟩ <;> rcases sign_vals z with ⟨h2, e2⟩ | ⟨h2, e2⟩ | ⟨h2, e2⟩ <;> first | (exfalso; omega) | (rw [← sa, e1]; repeat (split <;> try omega)) <;> rfl
  · have h3 := abs_lt_of_top (low := min a.e b.e) h0 (by omega) (by omega) hlt
    generalize atLow a (min a.e b.e) = y at *
    generalize atLow b (min a.e b.e) = z at *
    rw [show (topD a - topD b).sign = 1 from Int.sign_eq_one_of_pos (by omega)]
    unfold cmpZ
    rcases sign_vals y with ⟨h1, e1⟩ | ⟨h1, e1⟩ | ⟨h1, e1⟩ <;> rcases sign_vals z with ⟨h2, e2⟩ | ⟨h2, e2⟩ | ⟨h2, e2⟩ <;> first | (exfalso; omega) | (rw [← sa, e1]; repeat (split <;> try omega)) <;> rfl

/-- A finite float's whole number and power. -/
def flM (x : Nat) : Nat := if x / 4503599627370496 % 2048 = 0 then x % 4503599627370496 else 4503599627370496 + x % 4503599627370496
def flE (x : Nat) : Int := (if x / 4503599627370496 % 2048 = 0 then 1 else ((x / 4503599627370496 % 2048 : Nat) : Int)) - 1075
def flD (x : Nat) : Dya := mkD (sg (decide (9223372036854775808 ≤ x)) (flM x)) (flE x)
theorem flM_lt (x : Nat) : flM x < 9007199254740992 := by unfold flM; split <;> omega
theorem flE_le (x : Nat) : -1074 ≤ flE x ∧ flE x ≤ 972 := by unfold flE; split <;> omega
theorem fitD_fl (x : Nat) : fitD (flD x) := by
  have h1 := flM_lt x
  have h2 := flE_le x
  refine fit_mk (k := 53) ?_ (by omega) (by omega) (by omega)
  rw [sg_abs]
  exact bl_le_of_lt (by exact h1)
theorem okD_fl (x : Nat) : okD (flD x) := okD_mk (fitD_fl x)
end Go.Fil

/- Floats as rational numbers: what the model's rounding gives, and how far it is off. No program is in sight. -/
namespace Go.Fil
open Go

/-- 2 to the power k. -/
def p2 (k : Int) : Rat := (2 : Rat) ^ k
theorem p2_pos (k : Int) : 0 < p2 k := Rat.zpow_pos (by decide)
theorem p2_add (j k : Int) : p2 (j + k) = p2 j * p2 k := Rat.zpow_add (by decide) j k
theorem p2_nat (k : Nat) : p2 (k : Int) = ((2 ^ k : Nat) : Rat) := by
  unfold p2; rw [Rat.zpow_natCast, Rat.natCast_pow]; rfl
theorem p2_zero : p2 0 = 1 := by rw [show (0 : Int) = ((0 : Nat) : Int) from rfl, p2_nat]; rfl
theorem p2_one : p2 1 = 2 := by rw [show (1 : Int) = ((1 : Nat) : Int) from rfl, p2_nat]; rfl
theorem p2_mono {j k : Int} (h : j ≤ k) : p2 j ≤ p2 k := by
  obtain ⟨n, rfl⟩ : ∃ n : Nat, k = j + n := ⟨(k - j).toNat, by omega⟩
  rw [p2_add, p2_nat]
  have h1 : (1 : Rat) ≤ ((2 ^ n : Nat) : Rat) := by
    have : 1 ≤ 2 ^ n := Nat.two_pow_pos n
    exact_mod_cast this
  have := Rat.mul_le_mul_of_nonneg_left h1 (Rat.le_of_lt (p2_pos j))
  grind
theorem p2_succ (k : Int) : p2 (k + 1) = 2 * p2 k := by rw [p2_add, p2_one]; grind
theorem p2_cancel (k : Int) : p2 (-k) * p2 k = 1 := by rw [← p2_add, show -k + k = 0 by omega, p2_zero]

/-- What a rung is worth. -/
def rv (r : Nat) : Rat := if r < 4503599627370496 then (r : Rat) * p2 (-1074) else ((4503599627370496 + r % 4503599627370496 : Nat) : Rat) * p2 (-1074 + ((r / 4503599627370496 - 1 : Nat) : Int))
def neg1 (b : Bool) : Rat := if b then -1 else 1
/-- What a finite float is worth. -/
def fv (x : Nat) : Rat := neg1 (decide (9223372036854775808 ≤ x)) * rv (x % 9223372036854775808)
theorem lp_double : Ieee.double.leastPlace = -1074 := by decide
theorem fb_double : Ieee.double.fractionBits = 52 := by decide
theorem rv_at {K : Nat} {j kept : Nat} (hK : K = j * 4503599627370496 + kept) (hk : kept ≤ 9007199254740992) (h : j = 0 ∨ 4503599627370496 ≤ kept) :
    rv K = (kept : Rat) * p2 (-1074 + (j : Int)) := by
  subst hK
  have two : p2 (-1074 + ((j + 1 : Nat) : Int)) = 2 * p2 (-1074 + (j : Int)) := by
    rw [← p2_succ]; congr 1; omega
  by_cases h1 : kept < 4503599627370496
  · have hj : j = 0 := by omega
    subst hj
    unfold rv
    rw [if_pos (by omega)]
    simp
  · by_cases h2 : kept = 9007199254740992
    · subst h2
      unfold rv
      rw [if_neg (by omega)]
      have e1 : (j * 4503599627370496 + 9007199254740992) % 4503599627370496 = 0 := by omega
      have e2 : (j * 4503599627370496 + 9007199254740992) / 4503599627370496 - 1 = j + 1 := by omega
      rw [e1, e2, two]
      grind
    · unfold rv
      rw [if_neg (by omega)]
      have e1 : 4503599627370496 + (j * 4503599627370496 + kept) % 4503599627370496 = kept := by omega
      have e2 : (j * 4503599627370496 + kept) / 4503599627370496 - 1 = j := by omega
      rw [e1, e2]
/-- Each rung in that form. -/
theorem rv_form (r : Nat) : ∃ j kept : Nat, r = j * 4503599627370496 + kept ∧ kept < 9007199254740992 ∧ (j = 0 ∨ 4503599627370496 ≤ kept) := by
  by_cases h : r < 4503599627370496
  · exact ⟨0, r, by omega, by omega, .inl rfl⟩
  · exact ⟨r / 4503599627370496 - 1, 4503599627370496 + r % 4503599627370496, by omega, by omega, .inr (by omega)⟩
theorem rv_nonneg (r : Nat) : 0 ≤ rv r := by
  obtain ⟨j, kept, h1, h2, h3⟩ := rv_form r
  rw [rv_at h1 (by omega) h3]
  exact Rat.mul_nonneg (by exact_mod_cast Nat.zero_le kept) (Rat.le_of_lt (p2_pos _))
theorem rv_zero : rv 0 = 0 := by unfold rv; simp
/-- The next rung is one last place further. -/
theorem rv_step {j kept : Nat} (hk : kept < 9007199254740992) (h : j = 0 ∨ 4503599627370496 ≤ kept) :
    rv (j * 4503599627370496 + kept + 1) = ((kept : Rat) + 1) * p2 (-1074 + (j : Int)) := by
  rw [Nat.add_assoc, rv_at (j := j) (kept := kept + 1) rfl (by omega) (by omega)]
  push_cast; rfl
theorem rv_lt_succ (r : Nat) : rv r < rv (r + 1) := by
  obtain ⟨j, kept, h1, h2, h3⟩ := rv_form r
  rw [h1, rv_step h2 h3, rv_at rfl (by omega) h3]
  have := p2_pos (-1074 + (j : Int))
  grind
theorem rv_mono {a b : Nat} (h : a ≤ b) : rv a ≤ rv b := by
  induction b with
  | zero => obtain rfl : a = 0 := by omega
            exact Rat.le_refl
  | succ b ih =>
    by_cases e : a = b + 1
    · subst e; exact Rat.le_refl
    · have := ih (by omega)
      have := rv_lt_succ b
      grind
theorem rv_lt {a b : Nat} (h : a < b) : rv a < rv b := by
  have := rv_lt_succ a
  have := rv_mono (show a + 1 ≤ b by omega)
  grind
theorem rv_pos {r : Nat} (h : 0 < r) : 0 < rv r := by have := rv_lt h; rw [rv_zero] at this; exact this
/-- What a word stands for. -/
theorem read_fv {x : Nat} (h : fin x = true) (hx : x < 18446744073709551616) :
    ∃ (m j : Nat), Ieee.double.read x = .number (decide (9223372036854775808 ≤ x)) m (-1074 + (j : Int)) ∧ rv (x % 9223372036854775808) = (m : Rat) * p2 (-1074 + (j : Int)) ∧ m < 9007199254740992 ∧ x % 9223372036854775808 = j * 4503599627370496 + m ∧ (j = 0 ∨ 4503599627370496 ≤ m) ∧ j ≤ 2045 := by
  have hs : (x / 9223372036854775808 % 2 == 1) = decide (9223372036854775808 ≤ x) := by
    rw [Bool.eq_iff_iff]; simp; omega
  unfold fin at h
  simp only [decide_eq_true_eq] at h
  unfold Ieee.Format.read
  simp only [sw_double, ir_double, bi_double, lp_double, hs]
  by_cases h1 : x % 9223372036854775808 < 4503599627370496
  · rw [if_pos h1]
    exact ⟨x % 9223372036854775808, 0, by simp, by unfold rv; rw [if_pos h1]; simp, by omega, by omega, .inl rfl, by omega⟩
  · rw [if_neg h1, if_pos h]
    refine ⟨_, _, rfl, ?_, by omega, by omega, .inr (by omega), by omega⟩
    unfold rv; rw [if_neg h1]
theorem fv_read {x : Nat} (h : fin x = true) (hx : x < 18446744073709551616) :
    ∃ (m : Nat) (p : Int), Ieee.double.read x = .number (decide (9223372036854775808 ≤ x)) m p ∧ fv x = neg1 (decide (9223372036854775808 ≤ x)) * ((m : Rat) * p2 p) ∧ m < 9007199254740992 ∧ -1074 ≤ p ∧ p ≤ 971 := by
  obtain ⟨m, j, h1, h2, h3, h4, h5, h6⟩ := read_fv h hx
  exact ⟨m, _, h1, by unfold fv; rw [h2], h3, by omega, by omega⟩
/-- The whole number to the nearest. -/
theorem cut_even (neg : Bool) (n d : Nat) :
    2 * n ≤ (2 * Ieee.Toward.cut .even neg n d + 1) * 2 ^ d ∧ 2 * Ieee.Toward.cut .even neg n d * 2 ^ d ≤ 2 * n + 2 ^ d ∧ (∀ c, n = c * 2 ^ d → Ieee.Toward.cut .even neg n d = c) := by
  unfold Ieee.Toward.cut
  simp only [Nat.shiftLeft_eq, Nat.one_mul]
  by_cases hd : d ≤ n.log2 + 2
  · rw [Nat.min_eq_left hd]
    have hp := Nat.two_pow_pos d
    generalize 2 ^ d = g at *
    have h1 := Nat.div_add_mod n g
    have h2 := Nat.mod_lt n hp
    generalize n / g = q at *
    generalize n % g = r at *
    have e : (2 * q + 1) * g = 2 * (g * q) + g := by rw [Nat.add_mul, Nat.mul_assoc, Nat.mul_comm q g]; omega
    have e3 : (2 * (q + 1) + 1) * g = 2 * (g * q) + 3 * g := by rw [Nat.add_mul, Nat.mul_assoc, Nat.add_mul, Nat.mul_comm q g]; omega
    have e2 : 2 * q * g = 2 * (g * q) := by rw [Nat.mul_assoc, Nat.mul_comm q g]
    have e4 : 2 * (q + 1) * g = 2 * (g * q) + 2 * g := by rw [Nat.mul_assoc, Nat.add_mul, Nat.mul_comm q g]; omega
    refine ⟨?_, ?_, ?_⟩
    · cases hm : (decide (g < 2 * r) || g == 2 * r && q % 2 == 1)
      · simp only [Bool.toNat_false, Nat.add_zero]
        simp only [Bool.or_eq_false_iff, decide_eq_false_iff_not] at hm
        omega
      · simp only [Bool.toNat_true]
        omega
    · cases hm : (decide (g < 2 * r) || g == 2 * r && q % 2 == 1)
      · simp only [Bool.toNat_false, Nat.add_zero]; omega
      · simp only [Bool.toNat_true]
        have : g ≤ 2 * r := by
          simp only [Bool.or_eq_true, decide_eq_true_eq, Bool.and_eq_true, beq_iff_eq] at hm
          omega
        omega
    · intro c hc
      have hq : q = c ∧ r = 0 := by
        have h5 : n / g = c := by rw [hc]; exact Nat.mul_div_cancel _ hp
        have h6 : n % g = 0 := by rw [hc]; exact Nat.mul_mod_left _ _
        have h7 : (g * q + r) / g = q := by rw [Nat.mul_add_div hp, Nat.div_eq_of_lt h2]; omega
        have h8 : (g * q + r) % g = r := by rw [Nat.mul_add_mod, Nat.mod_eq_of_lt h2]
        rw [h1] at h7 h8
        omega
      obtain ⟨rfl, rfl⟩ := hq
      have : (decide (g < 2 * 0) || g == 2 * 0 && q % 2 == 1) = false := by
        simp; omega
      rw [this]; rfl
  · have hd' : n.log2 + 2 ≤ d := by omega
    rw [Nat.min_eq_right hd']
    have hn : n < 2 ^ (n.log2 + 1) := Nat.lt_log2_self
    have hg : 2 ^ (n.log2 + 2) = 2 * 2 ^ (n.log2 + 1) := by rw [Nat.pow_succ]; omega
    have hge : 2 ^ (n.log2 + 2) ≤ 2 ^ d := Nat.pow_le_pow_right (by decide) hd'
    have q0 : n / 2 ^ (n.log2 + 2) = 0 := Nat.div_eq_of_lt (by omega)
    have r0 : n % 2 ^ (n.log2 + 2) = n := Nat.mod_eq_of_lt (by omega)
    rw [q0, r0]
    have : (decide (2 ^ (n.log2 + 2) < 2 * n) || 2 ^ (n.log2 + 2) == 2 * n && 0 % 2 == 1) = false := by
      simp; omega
    rw [this]
    simp only [Bool.toNat_false, Nat.add_zero, Nat.mul_zero, Nat.zero_add, Nat.zero_mul, Nat.one_mul]
    refine ⟨by omega, by omega, fun c hc => ?_⟩
    rcases Nat.eq_zero_or_pos c with h | h
    · exact h.symm
    · have : 1 * 2 ^ d ≤ c * 2 ^ d := Nat.mul_le_mul_right _ h
      omega
/-- What the rounded number is: kept times 2 to the power j - 1074, half a last place off at most. -/
theorem nearest_spec (neg : Bool) {m : Nat} (p : Int) (hm : m ≠ 0) :
    ∃ (j kept : Nat), Ieee.double.nearest neg m p = Ieee.double.word neg (min (j * 4503599627370496 + kept) 9218868437227405312) ∧ kept ≤ 9007199254740992 ∧ (j = 0 ∨ 4503599627370496 ≤ kept) ∧
      2 * ((m : Rat) * p2 p) ≤ (2 * (kept : Rat) + 1) * p2 (-1074 + (j : Int)) ∧ 2 * (kept : Rat) * p2 (-1074 + (j : Int)) ≤ 2 * ((m : Rat) * p2 p) + p2 (-1074 + (j : Int)) ∧
      (∀ c : Nat, (m : Rat) * p2 p = (c : Rat) * p2 (-1074 + (j : Int)) → kept = c) ∧
      (j = 0 ∨ (4503599627370496 : Rat) * p2 (-1074 + (j : Int)) ≤ (m : Rat) * p2 p) ∧ (j = 0 → -1074 ≤ p → (m : Rat) * p2 p = (kept : Rat) * p2 (-1074)) := by
  obtain ⟨last, hlast⟩ : ∃ last, max (p + (m.log2 : Int) - 52) (-1074) = last := ⟨_, rfl⟩
  have hl1 : p + (m.log2 : Int) - 52 ≤ last := by omega
  have hl2 : -1074 ≤ last := by omega
  have hl3 : last = p + (m.log2 : Int) - 52 ∨ last = -1074 := by omega
  have lo : 2 ^ m.log2 ≤ m := Nat.log2_self_le hm
  have hi : m < 2 ^ (m.log2 + 1) := Nat.lt_log2_self
  obtain ⟨u, hu⟩ : ∃ u, (p - last).toNat = u := ⟨_, rfl⟩
  obtain ⟨d, hd⟩ : ∃ d, (last - p).toNat = d := ⟨_, rfl⟩
  obtain ⟨k, hk⟩ : ∃ k, Ieee.Toward.cut .even neg (m <<< u) d = k := ⟨_, rfl⟩
  obtain ⟨c1, c2, c3⟩ := cut_even neg (m <<< u) d
  rw [hk] at c1 c2 c3
  rw [Nat.shiftLeft_eq] at c1 c2 c3
  refine ⟨(last + 1074).toNat, k, ?_, ?_, ?_, ?_⟩
  · unfold Ieee.Format.nearest
    rw [if_neg hm]
    simp only [lp_double, fb_double, bi_double, ir_double]
    rw [show ((52 : Nat) : Int) = 52 from rfl, hlast, hu, hd, hk, show last - -1074 = last + 1074 by omega]
  · have hb : m * 2 ^ u < 9007199254740992 * 2 ^ d := by
      have e : (9007199254740992 : Nat) * 2 ^ d = 2 ^ (53 + d) := by rw [Nat.pow_add]
      rw [e]
      refine Nat.lt_of_lt_of_le (Nat.mul_lt_mul_of_pos_right hi (Nat.two_pow_pos u)) ?_
      rw [← Nat.pow_add]
      exact Nat.pow_le_pow_right (by decide) (by omega)
    have hp := Nat.two_pow_pos d
    have : 2 * k * 2 ^ d < (2 * 9007199254740992 + 1) * 2 ^ d := by
      rw [Nat.add_mul, Nat.mul_assoc 2 9007199254740992]; omega
    have := Nat.lt_of_mul_lt_mul_right this
    omega
  · by_cases h0 : last = -1074
    · left; omega
    · right
      have h1 : last = p + (m.log2 : Int) - 52 := by omega
      have hb : 4503599627370496 * 2 ^ d ≤ m * 2 ^ u := by
        have e : (4503599627370496 : Nat) * 2 ^ d = 2 ^ (52 + d) := by rw [Nat.pow_add]
        rw [e]
        refine Nat.le_trans ?_ (Nat.mul_le_mul_right _ lo)
        rw [← Nat.pow_add]
        exact Nat.pow_le_pow_right (by decide) (by omega)
      have : 2 * 4503599627370496 * 2 ^ d ≤ (2 * k + 1) * 2 ^ d := by rw [Nat.mul_assoc]; omega
      have := Nat.le_of_mul_le_mul_right this (Nat.two_pow_pos d)
      omega
  · have ej : -1074 + (((last + 1074).toNat : Nat) : Int) = last := by omega
    rw [ej]
    have key : ((m * 2 ^ u : Nat) : Rat) * p2 last = ((m : Rat) * p2 p) * ((2 ^ d : Nat) : Rat) := by
      rw [Rat.natCast_mul, ← p2_nat, ← p2_nat]
      rw [Rat.mul_assoc, Rat.mul_assoc, ← p2_add, ← p2_add]
      congr 2
      omega
    have hpd : (0 : Rat) < ((2 ^ d : Nat) : Rat) := by
      have := Nat.two_pow_pos d
      exact_mod_cast this
    have r1 : 2 * ((m * 2 ^ u : Nat) : Rat) ≤ (2 * (k : Rat) + 1) * ((2 ^ d : Nat) : Rat) := by exact_mod_cast c1
    have r2 : 2 * (k : Rat) * ((2 ^ d : Nat) : Rat) ≤ 2 * ((m * 2 ^ u : Nat) : Rat) + ((2 ^ d : Nat) : Rat) := by exact_mod_cast c2
    have hpl := p2_pos last
    have exact1 : ∀ c : Nat, (m : Rat) * p2 p = (c : Rat) * p2 last → k = c := by
      intro c hc
      refine c3 c ?_
      rw [hc] at key
      have : ((m * 2 ^ u : Nat) : Rat) * p2 last = ((c * 2 ^ d : Nat) : Rat) * p2 last := by rw [key, Rat.natCast_mul]; grind
      have h2 : ((m * 2 ^ u : Nat) : Rat) = ((c * 2 ^ d : Nat) : Rat) := by
        exact Rat.le_antisymm (Rat.le_of_mul_le_mul_right (by rw [this]; exact Rat.le_refl) hpl) (Rat.le_of_mul_le_mul_right (by rw [this]; exact Rat.le_refl) hpl)
      exact_mod_cast h2
    generalize ((m * 2 ^ u : Nat) : Rat) = N at *
    generalize ((2 ^ d : Nat) : Rat) = D at *
    refine ⟨?_, ?_, exact1, ?_, ?_⟩
    · have h1 := Rat.mul_le_mul_of_nonneg_right r1 (Rat.le_of_lt hpl)
      refine Rat.le_of_mul_le_mul_right (c := D) ?_ hpd
      grind
    · have h1 := Rat.mul_le_mul_of_nonneg_right r2 (Rat.le_of_lt hpl)
      refine Rat.le_of_mul_le_mul_right (c := D) ?_ hpd
      grind
    · by_cases h0 : last = -1074
      · left; omega
      · right
        have h1 : last = p + (m.log2 : Int) - 52 := by omega
        have e : (4503599627370496 : Rat) * p2 last = ((2 ^ m.log2 : Nat) : Rat) * p2 p := by
          have e1 : (4503599627370496 : Rat) = p2 52 := by rw [show (52 : Int) = ((52 : Nat) : Int) from rfl, p2_nat]; rfl
          rw [e1, ← p2_nat, ← p2_add, ← p2_add]
          congr 1; omega
        rw [e]
        have h2 : ((2 ^ m.log2 : Nat) : Rat) ≤ (m : Rat) := by exact_mod_cast lo
        exact Rat.mul_le_mul_of_nonneg_right h2 (Rat.le_of_lt (p2_pos p))
    · intro hj hp
      have hl : last = -1074 := by omega
      subst hl
      have e : (m : Rat) * p2 p = ((m * 2 ^ (p + 1074).toNat : Nat) : Rat) * p2 (-1074) := by
        rw [Rat.natCast_mul, ← p2_nat, Rat.mul_assoc, ← p2_add]
        congr 2; omega
      rw [e, exact1 _ e]
end Go.Fil

/- Floats that are whole numbers: what sums and products give while they stay below 2 to the power 53. No program is in sight. -/
namespace Go.Fil
open Go

/-- A finite float that is a whole number. -/
def FI (x : Nat) (n : Int) : Prop := x < 18446744073709551616 ∧ fin x = true ∧ fv x = (n : Rat)
theorem rv_inf : (9007199254740992 : Rat) ≤ rv 9218868437227405312 := by
  rw [rv_at (j := 2046) (kept := 4503599627370496) (by decide) (by decide) (by decide)]
  have h : p2 0 ≤ p2 (-1074 + ((2046 : Nat) : Int) - 1) := p2_mono (by decide)
  have h2 : p2 (-1074 + ((2046 : Nat) : Int)) = 2 * p2 (-1074 + ((2046 : Nat) : Int) - 1) := by
    rw [← p2_succ]; congr 1
  rw [p2_zero] at h
  rw [h2]
  have e : ((4503599627370496 : Nat) : Rat) = 4503599627370496 := rfl
  rw [e]
  grind
theorem neg1_mul_abs {neg : Bool} {z : Int} (h1 : z < 0 → neg = true) (h2 : 0 < z → neg = false) : neg1 neg * ((z.natAbs : Nat) : Rat) = (z : Rat) := by
  rcases Int.lt_trichotomy z 0 with h | h | h
  · rw [h1 h]
    obtain ⟨k, rfl⟩ : ∃ k : Nat, z = -(k : Int) := ⟨z.natAbs, by omega⟩
    rw [Int.natAbs_neg, Int.natAbs_natCast]
    unfold neg1
    push_cast
    grind
  · subst h
    show neg1 neg * ((0 : Nat) : Rat) = ((0 : Int) : Rat)
    rw [show ((0 : Nat) : Rat) = 0 from rfl, show ((0 : Int) : Rat) = 0 from rfl, Rat.mul_zero]
  · rw [h2 h]
    obtain ⟨k, rfl⟩ : ∃ k : Nat, z = (k : Int) := ⟨z.natAbs, by omega⟩
    rw [Int.natAbs_natCast]
    unfold neg1
    push_cast
    grind
theorem fi_word {neg : Bool} {r : Nat} {z : Int} (hr : r < 9218868437227405312) (h1 : z < 0 → neg = true) (h2 : 0 < z → neg = false) (hv : rv r = ((z.natAbs : Nat) : Rat)) : FI (Ieee.double.word neg r) z := by
  unfold Ieee.Format.word
  rw [sw_double]
  cases neg
  · simp only [Bool.false_eq_true, if_false]
    refine ⟨by omega, by unfold fin; simp; omega, ?_⟩
    unfold fv
    rw [decide_eq_false (by omega), Nat.mod_eq_of_lt (by omega), hv]
    exact neg1_mul_abs h1 h2
  · simp only [if_true]
    refine ⟨by omega, by unfold fin; simp; omega, ?_⟩
    unfold fv
    rw [decide_eq_true (by omega), show (9223372036854775808 + r) % 9223372036854775808 = r by omega, hv]
    exact neg1_mul_abs h1 h2
theorem nearest_whole {neg : Bool} {m : Nat} {p : Int} {z : Int} (hz : z.natAbs < 9007199254740992) (h : (m : Rat) * p2 p = ((z.natAbs : Nat) : Rat)) (h1 : z < 0 → neg = true) (h2 : 0 < z → neg = false) :
    FI (Ieee.double.nearest neg m p) z := by
  by_cases hm : m = 0
  · subst hm
    have hz0 : z.natAbs = 0 := by
      rw [show ((0 : Nat) : Rat) = 0 from rfl, Rat.zero_mul] at h
      exact_mod_cast h.symm
    unfold Ieee.Format.nearest
    rw [if_pos rfl]
    exact fi_word (by decide) h1 h2 (by rw [rv_zero, hz0]; rfl)
  · obtain ⟨j, kept, hw, hk, hj, _, _, hex, hlo, _⟩ := nearest_spec neg p hm
    rw [hw]
    have hc : ∃ c : Nat, (m : Rat) * p2 p = (c : Rat) * p2 (-1074 + (j : Int)) := by
      by_cases hjj : (j : Int) ≤ 1074
      · refine ⟨z.natAbs * 2 ^ (1074 - (j : Int)).toNat, ?_⟩
        rw [h, Rat.natCast_mul, ← p2_nat, Rat.mul_assoc, ← p2_add]
        rw [show ((1074 - (j : Int)).toNat : Int) + (-1074 + (j : Int)) = 0 by omega, p2_zero, Rat.mul_one]
      · exfalso
        rcases hlo with h0 | hlo
        · omega
        · rw [h] at hlo
          have h3 : p2 1 ≤ p2 (-1074 + (j : Int)) := p2_mono (by omega)
          rw [p2_one] at h3
          have h4 : ((z.natAbs : Nat) : Rat) < ((9007199254740992 : Nat) : Rat) := by exact_mod_cast hz
          have e : ((9007199254740992 : Nat) : Rat) = 9007199254740992 := rfl
          rw [e] at h4
          grind
    obtain ⟨c, hc⟩ := hc
    have hkc := hex c hc
    have hv : rv (j * 4503599627370496 + kept) = ((z.natAbs : Nat) : Rat) := by
      rw [rv_at rfl hk hj, hkc, ← hc, h]
    have hlt : j * 4503599627370496 + kept < 9218868437227405312 := by
      rcases Nat.lt_or_ge (j * 4503599627370496 + kept) 9218868437227405312 with hh | hh
      · exact hh
      · exfalso
        have h3 := rv_mono hh
        have h4 := rv_inf
        rw [hv] at h3
        have h5 : ((z.natAbs : Nat) : Rat) < ((9007199254740992 : Nat) : Rat) := by exact_mod_cast hz
        have e : ((9007199254740992 : Nat) : Rat) = 9007199254740992 := rfl
        rw [e] at h5
        grind
    rw [Nat.min_eq_left (Nat.le_of_lt hlt)]
    exact fi_word hlt h1 h2 hv
/-- A number with its sign, in units. -/
theorem signed_val (s : Bool) (m k : Nat) : ((Ieee.signed s m k : Int) : Rat) = neg1 s * ((m : Rat) * p2 (k : Int)) := by
  unfold Ieee.signed neg1
  rw [Nat.shiftLeft_eq, p2_nat]
  cases s
  · simp only [Bool.false_eq_true, if_false]
    push_cast; grind
  · simp only [if_true]
    push_cast; grind
theorem rat_abs {t : Int} {b : Int} {z : Int} (h : (t : Rat) * p2 b = (z : Rat)) : ((t.natAbs : Nat) : Rat) * p2 b = ((z.natAbs : Nat) : Rat) ∧ (z < 0 ↔ t < 0) ∧ (0 < z ↔ 0 < t) := by
  have hb := p2_pos b
  have hneg : (z < 0 ↔ t < 0) := by
    constructor
    · intro hz
      rcases Int.lt_or_le t 0 with ht | ht
      · exact ht
      · exfalso
        have h1 : (0 : Rat) ≤ (t : Rat) := by exact_mod_cast ht
        have h2 : ((z : Int) : Rat) < 0 := by exact_mod_cast hz
        have := Rat.mul_nonneg h1 (Rat.le_of_lt hb)
        grind
    · intro ht
      rcases Int.lt_or_le z 0 with hz | hz
      · exact hz
      · exfalso
        have h1 : (0 : Rat) < ((-t : Int) : Rat) := by exact_mod_cast (by omega : 0 < -t)
        have h2 : (0 : Rat) ≤ (z : Rat) := by exact_mod_cast hz
        have h3 := Rat.mul_pos h1 hb
        push_cast at h3
        grind
  have hpos : (0 < z ↔ 0 < t) := by
    constructor
    · intro hz
      rcases Int.lt_or_le 0 t with ht | ht
      · exact ht
      · exfalso
        have h1 : (0 : Rat) ≤ ((-t : Int) : Rat) := by exact_mod_cast (by omega : 0 ≤ -t)
        have h2 : (0 : Rat) < (z : Rat) := by exact_mod_cast hz
        have h3 := Rat.mul_nonneg h1 (Rat.le_of_lt hb)
        push_cast at h3
        grind
    · intro ht
      rcases Int.lt_or_le 0 z with hz | hz
      · exact hz
      · exfalso
        have h1 : (0 : Rat) < (t : Rat) := by exact_mod_cast ht
        have h2 : ((z : Int) : Rat) ≤ 0 := by exact_mod_cast hz
        have h3 := Rat.mul_pos h1 hb
        grind
  refine ⟨?_, hneg, hpos⟩
  rcases Int.lt_or_le t 0 with ht | ht
  · have hz := hneg.2 ht
    have e1 : ((t.natAbs : Nat) : Rat) = -(t : Rat) := by
      have : ((t.natAbs : Nat) : Int) = -t := by omega
      exact_mod_cast congrArg (fun i : Int => (i : Rat)) this
    have e2 : ((z.natAbs : Nat) : Rat) = -(z : Rat) := by
      have : ((z.natAbs : Nat) : Int) = -z := by omega
      exact_mod_cast congrArg (fun i : Int => (i : Rat)) this
    rw [e1, e2]; grind
  · have hz : 0 ≤ z := by
      rcases Int.lt_or_le z 0 with hz | hz
      · have := hneg.1 hz; omega
      · exact hz
    have e1 : ((t.natAbs : Nat) : Rat) = (t : Rat) := by
      have : ((t.natAbs : Nat) : Int) = t := by omega
      exact_mod_cast congrArg (fun i : Int => (i : Rat)) this
    have e2 : ((z.natAbs : Nat) : Rat) = (z : Rat) := by
      have : ((z.natAbs : Nat) : Int) = z := by omega
      exact_mod_cast congrArg (fun i : Int => (i : Rat)) this
    rw [e1, e2]; exact h
theorem sum_whole {sa sb : Bool} {ma mb : Nat} {pa pb : Int} {m n : Int} (ha : neg1 sa * ((ma : Rat) * p2 pa) = (m : Rat)) (hb : neg1 sb * ((mb : Rat) * p2 pb) = (n : Rat)) (hz : (m + n).natAbs < 9007199254740992) :
    ∃ d, (Ieee.Datum.number sa ma pa).sum (.number sb mb pb) = some d ∧ FI (Ieee.double.write d) (m + n) := by
  refine ⟨_, rfl, ?_⟩
  dsimp only [Ieee.Format.write]
  obtain ⟨base, hbase⟩ : ∃ base, min pa pb = base := ⟨_, rfl⟩
  rw [hbase]
  obtain ⟨t, ht⟩ : ∃ t, Ieee.signed sa ma (pa - base).toNat + Ieee.signed sb mb (pb - base).toNat = t := ⟨_, rfl⟩
  rw [ht]
  have hval : (t : Rat) * p2 base = ((m + n : Int) : Rat) := by
    rw [← ht]
    push_cast
    rw [signed_val, signed_val, ← ha, ← hb]
    have e1 : p2 pa = p2 (((pa - base).toNat : Nat) : Int) * p2 base := by rw [← p2_add]; congr 1; omega
    have e2 : p2 pb = p2 (((pb - base).toNat : Nat) : Int) * p2 base := by rw [← p2_add]; congr 1; omega
    rw [e1, e2]; grind
  obtain ⟨h1, h2, h3⟩ := rat_abs hval
  refine nearest_whole hz h1 (fun h => ?_) (fun h => ?_)
  · have := h2.1 h
    rw [if_neg (by omega)]; simpa using this
  · have := h3.1 h
    rw [if_neg (by omega)]; simp; omega
theorem read_FI {x : Nat} {n : Int} (h : FI x n) : ∃ s m p, Ieee.double.read x = .number s m p ∧ neg1 s * ((m : Rat) * p2 p) = (n : Rat) := by
  obtain ⟨hx, hf, hv⟩ := h
  obtain ⟨m, p, h1, h2, _⟩ := fv_read hf hx
  exact ⟨_, m, p, h1, by rw [← h2, hv]⟩
theorem FI.add {a b : Nat} {m n : Int} (ha : FI a m) (hb : FI b n) (hz : (m + n).natAbs < 9007199254740992) : FI (fop .add a b) (m + n) := by
  obtain ⟨sa, ma, pa, ra, va⟩ := read_FI ha
  obtain ⟨sb, mb, pb, rb, vb⟩ := read_FI hb
  obtain ⟨d, hd, hfi⟩ := sum_whole va vb hz
  have : fop .add a b = Ieee.double.write d := by
    unfold fop floatBits
    show (Ieee.Format.add Ieee.double a b).getD qnan = _
    unfold Ieee.Format.add
    rw [ra, rb, hd]; rfl
  rw [this]; exact hfi
theorem neg1_not (s : Bool) : neg1 (!s) = -neg1 s := by cases s <;> simp [neg1]
theorem FI.sub {a b : Nat} {m n : Int} (ha : FI a m) (hb : FI b n) (hz : (m - n).natAbs < 9007199254740992) : FI (fop .sub a b) (m - n) := by
  obtain ⟨sa, ma, pa, ra, va⟩ := read_FI ha
  obtain ⟨sb, mb, pb, rb, vb⟩ := read_FI hb
  have vb' : neg1 (!sb) * ((mb : Rat) * p2 pb) = ((-n : Int) : Rat) := by
    rw [neg1_not, Rat.neg_mul, vb]; push_cast; rfl
  obtain ⟨d, hd, hfi⟩ := sum_whole va vb' (by rw [← Int.sub_eq_add_neg]; exact hz)
  have : fop .sub a b = Ieee.double.write d := by
    unfold fop floatBits
    show (Ieee.Format.sub Ieee.double a b).getD qnan = _
    unfold Ieee.Format.sub
    rw [ra, rb]
    show (Option.map _ ((Ieee.Datum.number sa ma pa).sum (.number (!sb) mb pb))).getD qnan = _
    rw [hd]; rfl
  rw [this, Int.sub_eq_add_neg]; exact hfi
theorem neg1_xor (s t : Bool) : neg1 (s ^^ t) = neg1 s * neg1 t := by cases s <;> cases t <;> simp [neg1] <;> grind
theorem neg1_sq (s : Bool) : neg1 s * neg1 s = 1 := by cases s <;> simp [neg1] <;> grind
theorem neg1_sign {s : Bool} {q : Rat} {z : Int} (hq : 0 ≤ q) (h : neg1 s * q = (z : Rat)) : (z < 0 → s = true) ∧ (0 < z → s = false) ∧ q = ((z.natAbs : Nat) : Rat) := by
  cases s
  · have h' : q = (z : Rat) := by rw [← h]; unfold neg1; simp
    have hz : 0 ≤ z := by rw [h'] at hq; exact_mod_cast hq
    refine ⟨fun h => by omega, fun _ => rfl, ?_⟩
    rw [h']
    have : ((z.natAbs : Nat) : Int) = z := by omega
    exact_mod_cast (congrArg (fun i : Int => (i : Rat)) this).symm
  · have h' : q = ((-z : Int) : Rat) := by push_cast; rw [← h]; unfold neg1; simp; grind
    have hz : 0 ≤ -z := by rw [h'] at hq; exact_mod_cast hq
    refine ⟨fun _ => rfl, fun h => by omega, ?_⟩
    rw [h']
    have : ((z.natAbs : Nat) : Int) = -z := by omega
    exact_mod_cast (congrArg (fun i : Int => (i : Rat)) this).symm
theorem FI.mul {a b : Nat} {m n : Int} (ha : FI a m) (hb : FI b n) (hz : (m * n).natAbs < 9007199254740992) : FI (fop .mul a b) (m * n) := by
  obtain ⟨sa, ma, pa, ra, va⟩ := read_FI ha
  obtain ⟨sb, mb, pb, rb, vb⟩ := read_FI hb
  have : fop .mul a b = Ieee.double.nearest (sa ^^ sb) (ma * mb) (pa + pb) := by
    unfold fop floatBits
    show (Ieee.Format.mul Ieee.double a b).getD qnan = _
    unfold Ieee.Format.mul
    rw [ra, rb]; rfl
  rw [this]
  have hv : neg1 (sa ^^ sb) * (((ma * mb : Nat) : Rat) * p2 (pa + pb)) = ((m * n : Int) : Rat) := by
    push_cast
    rw [neg1_xor, p2_add, ← va, ← vb]; grind
  have hq : (0 : Rat) ≤ ((ma * mb : Nat) : Rat) * p2 (pa + pb) := Rat.mul_nonneg (by exact_mod_cast Nat.zero_le _) (Rat.le_of_lt (p2_pos _))
  obtain ⟨h1, h2, h3⟩ := neg1_sign hq hv
  exact nearest_whole hz h3 h1 h2
/-- A whole number as a float. -/
theorem FI.of {n : Int} (hz : n.natAbs < 9007199254740992) : FI (floatOfInt .f64 n) n := by
  have : floatOfInt .f64 n = Ieee.double.nearest (decide (n < 0)) n.natAbs 0 := rfl
  rw [this]
  exact nearest_whole hz (by rw [p2_zero, Rat.mul_one]) (fun h => by simpa using h) (fun h => by simp; omega)
end Go.Fil

/- Whole complex numbers and polynomials over them: sums, products, the way from g to g + h, division by z less r. No program is in sight. -/
namespace Go.Fil
open Go

structure Zi where
  re : Int
  im : Int
theorem Zi.ext' {a b : Zi} (h : a.re = b.re) (k : a.im = b.im) : a = b := by cases a; cases b; simp_all
instance : DecidableEq Zi := fun a b => if h : a.re = b.re ∧ a.im = b.im then .isTrue (Zi.ext' h.1 h.2) else .isFalse (by rintro rfl; exact h ⟨rfl, rfl⟩)
def z0 : Zi := ⟨0, 0⟩
def zr (n : Int) : Zi := ⟨n, 0⟩
def zadd (a b : Zi) : Zi := ⟨a.re + b.re, a.im + b.im⟩
def zsub (a b : Zi) : Zi := ⟨a.re - b.re, a.im - b.im⟩
def zneg (a : Zi) : Zi := ⟨-a.re, -a.im⟩
def zcon (a : Zi) : Zi := ⟨a.re, -a.im⟩
def zmul (a b : Zi) : Zi := ⟨a.re * b.re - a.im * b.im, a.re * b.im + a.im * b.re⟩
theorem zmul_zero (a : Zi) : zmul a z0 = z0 := by apply Zi.ext' <;> simp [zmul, z0]
theorem zero_zmul (a : Zi) : zmul z0 a = z0 := by apply Zi.ext' <;> simp [zmul, z0]
theorem zadd_zero (a : Zi) : zadd a z0 = a := by apply Zi.ext' <;> simp [zadd, z0]
theorem zero_zadd (a : Zi) : zadd z0 a = a := by apply Zi.ext' <;> simp [zadd, z0]
theorem zadd_assoc (a b c : Zi) : zadd (zadd a b) c = zadd a (zadd b c) := by apply Zi.ext' <;> simp only [zadd] <;> omega

/-- What a list of coefficients makes of g. -/
def zev : List Zi → Zi → Zi
  | [], _ => z0
  | c :: q, g => zadd (zmul (zev q g) g) c
theorem zev_one (c g : Zi) : zev [c] g = c := by rw [zev, zev, zero_zmul, zero_zadd]
/-- The slope at g. -/
def zder : List Zi → Zi → Zi
  | [], _ => z0
  | _ :: q, g => zadd (zev q g) (zmul (zder q g) g)
theorem taylor (p : List Zi) (g h : Zi) : ∃ t, zev p (zadd g h) = zadd (zadd (zev p g) (zmul (zder p g) h)) (zmul (zmul h h) t) := by
  induction p with
  | nil => exact ⟨z0, by apply Zi.ext' <;> simp [zev, zder, zmul, zadd, z0]⟩
  | cons c q ih =>
    obtain ⟨t, ht⟩ := ih
    refine ⟨zadd (zder q g) (zmul (zadd g h) t), ?_⟩
    rw [zev, ht, zev, zder]
    generalize zev q g = A
    generalize zder q g = B
    apply Zi.ext' <;> simp only [zadd, zmul] <;> grind
def zdl : Nat → List Zi → List Zi
  | _, [] => []
  | k, c :: q => zmul (zr (k : Int)) c :: zdl (k + 1) q
theorem zdl_length (k : Nat) (q : List Zi) : (zdl k q).length = q.length := by
  induction q generalizing k with
  | nil => rfl
  | cons c q ih => simp [zdl, ih]
theorem zev_zdl (k : Nat) (q : List Zi) (g : Zi) : zev (zdl k q) g = zadd (zmul (zr (k : Int)) (zev q g)) (zmul (zder q g) g) := by
  induction q generalizing k with
  | nil => simp [zdl, zev, zder, zmul_zero, zero_zmul, zadd_zero]
  | cons c q ih =>
    rw [zdl, zev, ih, zev, zder]
    generalize zev q g = A
    generalize zder q g = B
    apply Zi.ext' <;> simp only [zadd, zmul, zr] <;> push_cast <;> grind
theorem zder_cons (c : Zi) (q : List Zi) (g : Zi) : zder (c :: q) g = zev (zdl 1 q) g := by
  rw [zev_zdl, zder]
  apply Zi.ext' <;> simp [zadd, zmul, zr]
/-- Division by z less r: the rest and the quotient. -/
def zquo (r : Zi) : List Zi → Zi × List Zi
  | [] => (z0, [])
  | [c] => (c, [])
  | c :: d :: q => (zadd c (zmul r (zquo r (d :: q)).1), (zquo r (d :: q)).1 :: (zquo r (d :: q)).2)
theorem zquo_ev (r : Zi) (p : List Zi) (g : Zi) : zadd (zmul (zev (zquo r p).2 g) (zsub g r)) (zquo r p).1 = zev p g := by
  induction p with
  | nil => simp [zquo, zev, zero_zmul, zadd_zero]
  | cons c q ih =>
    cases q with
    | nil => simp [zquo, zev, zero_zmul, zero_zadd]
    | cons d q =>
      rw [zev, ← ih, zquo]
      generalize zquo r (d :: q) = u
      simp only [zev]
      generalize zev u.2 g = A
      apply Zi.ext' <;> simp only [zadd, zmul, zsub] <;> grind
theorem zquo_length (r : Zi) (c : Zi) (q : List Zi) : (zquo r (c :: q)).2.length = q.length := by
  induction q generalizing c with
  | nil => rfl
  | cons d q ih => simp [zquo, ih]

/-- A coefficient, 0 beyond. -/
def zpl (p : List Zi) (k : Nat) : Zi := p.getD k z0
theorem zpl_cons_zero (c : Zi) (q : List Zi) : zpl (c :: q) 0 = c := rfl
theorem zpl_cons_succ (c : Zi) (q : List Zi) (k : Nat) : zpl (c :: q) (k + 1) = zpl q k := by simp [zpl]
theorem zpl_nil (k : Nat) : zpl [] k = z0 := by simp [zpl]
/-- What the first n of coefficients make of g. -/
def zevN (f : Nat → Zi) : Nat → Zi → Zi
  | 0, _ => z0
  | n + 1, g => zadd (zmul (zevN (fun k => f (k + 1)) n g) g) (f 0)
theorem zevN_congr {f h : Nat → Zi} (n : Nat) (g : Zi) (hf : ∀ k, k < n → f k = h k) : zevN f n g = zevN h n g := by
  induction n generalizing f h with
  | zero => rfl
  | succ n ih =>
    rw [zevN, zevN, hf 0 (by omega), ih (f := fun k => f (k + 1)) (h := fun k => h (k + 1)) (fun k hk => hf (k + 1) (by omega))]
theorem zevN_zero (n : Nat) (g : Zi) : zevN (fun _ => z0) n g = z0 := by
  induction n with
  | zero => rfl
  | succ n ih => rw [zevN, ih, zero_zmul, zadd_zero]
theorem zevN_pl (p : List Zi) (g : Zi) (n : Nat) (h : p.length ≤ n) : zevN (zpl p) n g = zev p g := by
  induction p generalizing n with
  | nil => rw [zevN_congr (h := fun _ => z0) n g (fun k _ => zpl_nil k), zevN_zero]; rfl
  | cons c q ih =>
    cases n with
    | zero => simp at h
    | succ n =>
      rw [zevN, zpl_cons_zero, zevN_congr (h := zpl q) n g (fun k _ => zpl_cons_succ c q k), ih n (by simpa using h), zev]
theorem zevN_list (f : Nat → Zi) (n : Nat) (g : Zi) : zev ((List.range n).map f) g = zevN f n g := by
  rw [← zevN_pl _ g n (by simp)]
  refine zevN_congr n g (fun k hk => ?_)
  unfold zpl
  rw [List.getD_eq_getElem?_getD, List.getElem?_map, List.getElem?_range hk]; rfl
theorem zevN_add (f h : Nat → Zi) (n : Nat) (g : Zi) : zevN (fun k => zadd (f k) (h k)) n g = zadd (zevN f n g) (zevN h n g) := by
  induction n generalizing f h with
  | zero => simp [zevN, zadd_zero]
  | succ n ih =>
    rw [zevN, zevN, zevN, ih (fun k => f (k + 1)) (fun k => h (k + 1))]
    generalize zevN (fun k => f (k + 1)) n g = A
    generalize zevN (fun k => h (k + 1)) n g = B
    apply Zi.ext' <;> simp only [zadd, zmul] <;> grind
theorem zevN_mul (c : Zi) (f : Nat → Zi) (n : Nat) (g : Zi) : zevN (fun k => zmul c (f k)) n g = zmul c (zevN f n g) := by
  induction n generalizing f with
  | zero => simp [zevN, zmul_zero]
  | succ n ih =>
    rw [zevN, zevN, ih (fun k => f (k + 1))]
    generalize zevN (fun k => f (k + 1)) n g = A
    apply Zi.ext' <;> simp only [zadd, zmul] <;> grind
/-- The coefficients of a product. -/
def zcv : List Zi → List Zi → Nat → Zi
  | [], _, _ => z0
  | c :: _, q, 0 => zmul c (zpl q 0)
  | c :: p, q, k + 1 => zadd (zmul c (zpl q (k + 1))) (zcv p q k)
def zsh (f : Nat → Zi) : Nat → Zi
  | 0 => z0
  | k + 1 => f k
theorem zcv_cons (c : Zi) (p q : List Zi) (k : Nat) : zcv (c :: p) q k = zadd (zmul c (zpl q k)) (zsh (zcv p q) k) := by
  cases k with
  | zero => rw [zcv, zsh, zadd_zero]
  | succ k => rfl
theorem zev_cv (p q : List Zi) (g : Zi) (n : Nat) (h : p.length + q.length ≤ n + 1) (hq : 0 < p.length → q.length ≤ n) : zevN (zcv p q) n g = zmul (zev p g) (zev q g) := by
  induction p generalizing n with
  | nil => rw [zevN_congr (h := fun _ => z0) n g (fun k _ => by rw [zcv]), zevN_zero, zev, zero_zmul]
  | cons c p ih =>
    have hqn := hq (by simp)
    rw [zevN_congr (h := fun k => zadd (zmul c (zpl q k)) (zsh (zcv p q) k)) n g (fun k _ => zcv_cons c p q k), zevN_add, zevN_mul, zevN_pl q g n hqn, zev]
    have h2 : zevN (zsh (zcv p q)) n g = zmul (zmul (zev p g) (zev q g)) g := by
      cases n with
      | zero =>
        have : q = [] := by cases q with | nil => rfl | cons d q => simp at hqn
        subst this
        rw [zevN, zev, zmul_zero, zero_zmul]
      | succ n =>
        rw [zevN]
        show zadd (zmul (zevN (zcv p q) n g) g) z0 = _
        rw [zadd_zero]
        congr 1
        by_cases hp : 0 < p.length
        · refine ih n (by simp at h; omega) (fun _ => by simp at h; omega)
        · have : p = [] := by cases p with | nil => rfl | cons d q => simp at hp
          subst this
          rw [zevN_congr (h := fun _ => z0) n g (fun k _ => by rw [zcv]), zevN_zero, zev, zero_zmul]
    rw [h2]
    generalize zev p g = A
    generalize zev q g = B
    apply Zi.ext' <;> simp only [zadd, zmul] <;> grind
end Go.Fil

/- Whole complex numbers: bounds by the sum of the parts' magnitudes; quotients, ends cut off. No program is in sight. -/
namespace Go.Fil
open Go

/-- The sum of the parts' magnitudes. -/
def zn (a : Zi) : Nat := a.re.natAbs + a.im.natAbs
theorem zn_add (a b : Zi) : zn (zadd a b) ≤ zn a + zn b := by unfold zn zadd; dsimp only; omega
theorem zn_sub (a b : Zi) : zn (zsub a b) ≤ zn a + zn b := by unfold zn zsub; dsimp only; omega
theorem zn_con (a : Zi) : zn (zcon a) = zn a := by unfold zn zcon; dsimp only; omega
theorem zn_neg (a : Zi) : zn (zneg a) = zn a := by unfold zn zneg; dsimp only; omega
theorem zn_mul (a b : Zi) : zn (zmul a b) ≤ zn a * zn b := by
  unfold zn zmul
  dsimp only
  rw [Nat.add_mul, Nat.mul_add, Nat.mul_add, ← Int.natAbs_mul, ← Int.natAbs_mul, ← Int.natAbs_mul, ← Int.natAbs_mul]
  omega
theorem zn_z0 : zn z0 = 0 := rfl
theorem zn_zr (k : Nat) : zn (zr (k : Int)) = k := by unfold zn zr; dsimp only; omega
theorem zn_parts (a : Zi) : a.re.natAbs ≤ zn a ∧ a.im.natAbs ≤ zn a := by unfold zn; omega
/-- 1 + G + G^2 + .. -/
def geo (G : Nat) : Nat → Nat
  | 0 => 0
  | n + 1 => geo G n * G + 1
theorem geo_mono (G : Nat) {n k : Nat} (hG : 1 ≤ G) (h : n ≤ k) : geo G n ≤ geo G k := by
  induction h with
  | refl => exact Nat.le_refl _
  | step _ ih =>
    rename_i m _
    have : geo G m * 1 ≤ geo G m * G := Nat.mul_le_mul_left _ hG
    rw [geo]; omega
theorem zn_zev {p : List Zi} {g : Zi} {C G : Nat} (hp : ∀ c ∈ p, zn c ≤ C) (hg : zn g ≤ G) : zn (zev p g) ≤ C * geo G p.length := by
  induction p with
  | nil => exact Nat.zero_le _
  | cons c q ih =>
    have h1 := ih (fun c hc => hp c (List.mem_cons_of_mem _ hc))
    have h2 := hp c List.mem_cons_self
    rw [zev, List.length_cons, geo]
    have h3 := zn_add (zmul (zev q g) g) c
    have h4 := zn_mul (zev q g) g
    have h5 : zn (zev q g) * zn g ≤ C * geo G q.length * G := Nat.mul_le_mul h1 hg
    rw [Nat.mul_add, ← Nat.mul_assoc]
    omega
theorem zn_zdl {p : List Zi} {C : Nat} (k : Nat) (hp : ∀ c ∈ p, zn c ≤ C) : ∀ c ∈ zdl k p, zn c ≤ (k + p.length) * C := by
  induction p generalizing k with
  | nil => simp [zdl]
  | cons c q ih =>
    intro d hd
    rw [zdl, List.mem_cons] at hd
    rcases hd with rfl | hd
    · have h1 := zn_mul (zr (k : Int)) c
      rw [zn_zr] at h1
      have h2 := hp c List.mem_cons_self
      have h3 : k * zn c ≤ (k + (c :: q).length) * C := Nat.mul_le_mul (Nat.le_add_right _ _) h2
      omega
    · have := ih (k + 1) (fun c hc => hp c (List.mem_cons_of_mem _ hc)) d hd
      rw [List.length_cons]
      rw [show k + (q.length + 1) = k + 1 + q.length by omega]; exact this
theorem zn_zder {p : List Zi} {g : Zi} {C G : Nat} (hp : ∀ c ∈ p, zn c ≤ C) (hg : zn g ≤ G) : zn (zder p g) ≤ p.length * C * geo G p.length := by
  cases p with
  | nil => exact Nat.zero_le _
  | cons c q =>
    rw [zder_cons]
    have h1 := zn_zev (p := zdl 1 q) (g := g) (zn_zdl 1 (fun c hc => hp c (List.mem_cons_of_mem _ hc))) hg
    rw [zdl_length] at h1
    refine Nat.le_trans h1 ?_
    rw [List.length_cons, Nat.add_comm 1]
    refine Nat.mul_le_mul_left _ ?_
    rw [geo]
    rcases Nat.eq_zero_or_pos G with h0 | h0
    · subst h0
      have : geo 0 q.length ≤ 1 := by
        cases q.length with
        | zero => exact Nat.zero_le _
        | succ n => rw [geo]; omega
      omega
    · have : geo G q.length * 1 ≤ geo G q.length * G := Nat.mul_le_mul_left _ h0
      omega
theorem zn_zquo {r : Zi} {p : List Zi} {C G : Nat} (hp : ∀ c ∈ p, zn c ≤ C) (hr : zn r ≤ G) : zn (zquo r p).1 ≤ C * geo G p.length ∧ ∀ c ∈ (zquo r p).2, zn c ≤ C * geo G p.length := by
  induction p with
  | nil => exact ⟨Nat.zero_le _, by simp [zquo]⟩
  | cons c q ih =>
    cases q with
    | nil =>
      have h := hp c List.mem_cons_self
      refine ⟨?_, by simp [zquo]⟩
      rw [zquo]; simp [geo]; exact h
    | cons d q =>
      obtain ⟨h1, h2⟩ := ih (fun c hc => hp c (List.mem_cons_of_mem _ hc))
      have h3 := hp c List.mem_cons_self
      have h4 := zn_add c (zmul r (zquo r (d :: q)).1)
      have h5 := zn_mul r (zquo r (d :: q)).1
      have h6 : zn r * zn (zquo r (d :: q)).1 ≤ G * (C * geo G (d :: q).length) := Nat.mul_le_mul hr h1
      have h7 : G * (C * geo G (d :: q).length) = C * (geo G (d :: q).length * G) := by ac_rfl
      have h8 : C * geo G (c :: d :: q).length = C * (geo G (d :: q).length * G) + C := by
        rw [List.length_cons, geo, Nat.mul_add, Nat.mul_one]
      refine ⟨by rw [zquo]; dsimp only; omega, ?_⟩
      intro x hx
      rw [zquo] at hx
      dsimp only at hx
      rw [h8]
      rcases Nat.eq_zero_or_pos G with h0 | h0
      · subst h0
        rcases List.mem_cons.1 hx with rfl | hx
        · have : geo 0 (d :: q).length ≤ 1 := by rw [List.length_cons, geo]; omega
          have := Nat.mul_le_mul_left C this
          omega
        · have := h2 x hx
          have h9 : geo 0 (d :: q).length ≤ 1 := by rw [List.length_cons, geo]; omega
          have := Nat.mul_le_mul_left C h9
          omega
      · have h9 : C * geo G (d :: q).length ≤ C * (geo G (d :: q).length * G) := Nat.mul_le_mul_left _ (Nat.le_mul_of_pos_right _ h0)
        rcases List.mem_cons.1 hx with rfl | hx
        · omega
        · have := h2 x hx
          omega
/-- What is cut off at the end is 0. -/
theorem zev_take {p : List Zi} {g : Zi} {n : Nat} (h : ∀ k, n ≤ k → zpl p k = z0) : zev (p.take n) g = zev p g := by
  induction p generalizing n with
  | nil => simp
  | cons c q ih =>
    cases n with
    | zero =>
      have h0 := h 0 (Nat.le_refl _)
      rw [zpl_cons_zero] at h0
      have h1 := ih (n := 0) (fun k _ => by have := h (k + 1) (Nat.zero_le _); rwa [zpl_cons_succ] at this)
      rw [List.take_zero, zev] at h1
      rw [List.take_zero, zev, zev, ← h1, h0, zero_zmul, zadd_zero]
    | succ n =>
      rw [List.take_succ_cons, zev, zev, ih (fun k hk => by have := h (k + 1) (by omega); rwa [zpl_cons_succ] at this)]
/-- Sums by places. -/
theorem zev_add (p q : List Zi) (g : Zi) {n : Nat} (hp : p.length ≤ n) (hq : q.length ≤ n) : zev ((List.range n).map fun k => zadd (zpl p k) (zpl q k)) g = zadd (zev p g) (zev q g) := by
  rw [zevN_list, zevN_add, zevN_pl p g n hp, zevN_pl q g n hq]
/-- Products. -/
theorem zev_mul (p q : List Zi) (g : Zi) (hp : 0 < p.length) (hq : 0 < q.length) : zev ((List.range (p.length + q.length - 1)).map (zcv p q)) g = zmul (zev p g) (zev q g) := by
  rw [zevN_list, zev_cv p q g _ (by omega) (fun _ => by omega)]
theorem zmul_comm (a b : Zi) : zmul a b = zmul b a := by apply Zi.ext' <;> simp only [zmul] <;> grind
theorem zmul_assoc (a b c : Zi) : zmul (zmul a b) c = zmul a (zmul b c) := by apply Zi.ext' <;> simp only [zmul] <;> grind
/-- The squared magnitude. -/
def znorm (a : Zi) : Int := a.re * a.re + a.im * a.im
theorem znorm_con (a : Zi) : zmul a (zcon a) = zr (znorm a) := by apply Zi.ext' <;> simp only [zmul, zcon, zr, znorm] <;> grind
theorem znorm_zero {a : Zi} (h : znorm a = 0) : a = z0 := by
  unfold znorm at h
  have h1 : 0 ≤ a.re * a.re := by
    rcases Int.le_total 0 a.re with h | h
    · exact Int.mul_nonneg h h
    · exact Int.mul_nonneg_of_nonpos_of_nonpos h h
  have h2 : 0 ≤ a.im * a.im := by
    rcases Int.le_total 0 a.im with h | h
    · exact Int.mul_nonneg h h
    · exact Int.mul_nonneg_of_nonpos_of_nonpos h h
  have h3 : a.re * a.re = 0 := by omega
  have h4 : a.im * a.im = 0 := by omega
  refine Zi.ext' ?_ ?_
  · rcases Int.mul_eq_zero.1 h3 with h | h <;> exact h
  · rcases Int.mul_eq_zero.1 h4 with h | h <;> exact h
theorem znorm_mul (a b : Zi) : znorm (zmul a b) = znorm a * znorm b := by simp only [znorm, zmul]; grind
theorem znorm_nonneg (a : Zi) : 0 ≤ znorm a := by
  unfold znorm
  have h1 : 0 ≤ a.re * a.re := by
    rcases Int.le_total 0 a.re with h | h
    · exact Int.mul_nonneg h h
    · exact Int.mul_nonneg_of_nonpos_of_nonpos h h
  have h2 : 0 ≤ a.im * a.im := by
    rcases Int.le_total 0 a.im with h | h
    · exact Int.mul_nonneg h h
    · exact Int.mul_nonneg_of_nonpos_of_nonpos h h
  omega
theorem znorm_le (a : Zi) : (znorm a).natAbs ≤ zn a * zn a := by
  have h := zn_mul a (zcon a)
  rw [zn_con, znorm_con] at h
  have h2 := (zn_parts (zr (znorm a))).1
  show (zr (znorm a)).re.natAbs ≤ _
  omega
/-- A multiple of the square of h: of 0 that is 0; else its product with the square's conjugate is, part by part, a multiple of the square's squared magnitude. -/
theorem mult_zero {h t : Zi} (h0 : zmul h h = z0) : zmul (zmul h h) t = z0 := by rw [h0, zero_zmul]
theorem mult_parts (hh t : Zi) : zmul (zmul hh t) (zcon hh) = ⟨znorm hh * t.re, znorm hh * t.im⟩ := by
  rw [zmul_assoc, zmul_comm t, ← zmul_assoc, znorm_con]
  apply Zi.ext' <;> simp [zmul, zr]
end Go.Fil

/- Floats compared: as the rational numbers that they stand for. Floats that are whole complex numbers. No program is in sight. -/
namespace Go.Fil
open Go

theorem compare_rat {t u : Int} {b : Int} {q r : Rat} (hq : (t : Rat) * p2 b = q) (hr : (u : Rat) * p2 b = r) : compare t u = if q < r then .lt else if q = r then .eq else .gt := by
  have hb := p2_pos b
  rcases Int.lt_trichotomy t u with h | h | h
  · have h1 : q < r := by
      rw [← hq, ← hr]
      exact Rat.mul_lt_mul_of_pos_right (by exact_mod_cast h) hb
    rw [if_pos h1]
    exact Int.compare_eq_lt.2 h
  · have h1 : q = r := by rw [← hq, ← hr, h]
    rw [if_neg (by rw [h1]; exact Rat.lt_irrefl), if_pos h1]
    exact Int.compare_eq_eq.2 h
  · have h1 : r < q := by
      rw [← hq, ← hr]
      exact Rat.mul_lt_mul_of_pos_right (by exact_mod_cast h) hb
    rw [if_neg (by grind), if_neg (by grind)]
    exact Int.compare_eq_gt.2 h
theorem order_fv {a b : Nat} (ha : fin a = true) (hxa : a < 18446744073709551616) (hb : fin b = true) (hxb : b < 18446744073709551616) :
    FloatKind.f64.format.order a b = some (if fv a < fv b then .lt else if fv a = fv b then .eq else .gt) := by
  obtain ⟨m, p, h1, h2, _⟩ := fv_read ha hxa
  obtain ⟨n, q, h3, h4, _⟩ := fv_read hb hxb
  show (Ieee.double.read a).order (Ieee.double.read b) = _
  rw [h1, h3]
  dsimp only [Ieee.Datum.order]
  congr 1
  obtain ⟨base, hbase⟩ : ∃ base, min p q = base := ⟨_, rfl⟩
  rw [hbase]
  refine compare_rat (b := base) ?_ ?_
  · rw [signed_val, h2]
    have e1 : p2 p = p2 (((p - base).toNat : Nat) : Int) * p2 base := by rw [← p2_add]; congr 1; omega
    rw [e1]; grind
  · rw [signed_val, h4]
    have e1 : p2 q = p2 (((q - base).toNat : Nat) : Int) * p2 base := by rw [← p2_add]; congr 1; omega
    rw [e1]; grind
theorem fin_zero : fin 0 = true := by decide
theorem fv_zero : fv 0 = 0 := by
  unfold fv
  rw [Nat.zero_mod, rv_zero, Rat.mul_zero]
section
variable {a b : Nat} (ha : fin a = true) (hxa : a < 18446744073709551616) (hb : fin b = true) (hxb : b < 18446744073709551616)
include ha hxa hb hxb
theorem feq_fv : feq a b = decide (fv a = fv b) := by
  unfold feq
  rw [order_fv ha hxa hb hxb]
  by_cases h : fv a < fv b
  · rw [if_pos h, decide_eq_false (by grind)]; rfl
  · rw [if_neg h]
    by_cases h2 : fv a = fv b
    · rw [if_pos h2, decide_eq_true h2]; rfl
    · rw [if_neg h2, decide_eq_false h2]; rfl
theorem flt_fv : flt a b = decide (fv a < fv b) := by
  unfold flt
  rw [order_fv ha hxa hb hxb]
  by_cases h : fv a < fv b
  · rw [if_pos h, decide_eq_true h]; rfl
  · rw [if_neg h, decide_eq_false h]
    by_cases h2 : fv a = fv b
    · rw [if_pos h2]; rfl
    · rw [if_neg h2]; rfl
theorem fgt_fv : fgt a b = decide (fv b < fv a) := by
  unfold fgt
  rw [order_fv ha hxa hb hxb]
  by_cases h : fv a < fv b
  · rw [if_pos h, decide_eq_false (by grind)]; rfl
  · rw [if_neg h]
    by_cases h2 : fv a = fv b
    · rw [if_pos h2, decide_eq_false (by rw [h2]; exact Rat.lt_irrefl)]; rfl
    · rw [if_neg h2, decide_eq_true (by grind)]; rfl
theorem fle_fv : fle a b = decide (fv a ≤ fv b) := by
  have h1 := flt_fv ha hxa hb hxb
  have h2 := feq_fv ha hxa hb hxb
  unfold flt at h1
  unfold feq at h2
  unfold fle
  rw [h1, h2, Bool.eq_iff_iff]
  simp only [Bool.or_eq_true, decide_eq_true_eq]
  constructor
  · rintro (h | h) <;> grind
  · intro h; grind
end
theorem fabs_fin {x : Nat} (h : fin x = true) : fabs x = x % 9223372036854775808 := by unfold fabs; rw [not_nan_of_fin h]; rfl
theorem fin_fabs {x : Nat} (h : fin x = true) : fin (fabs x) = true := by
  rw [fabs_fin h]; unfold fin at *; rw [Nat.mod_mod]; exact h
theorem fabs_lt {x : Nat} (h : fin x = true) : fabs x < 9223372036854775808 := by rw [fabs_fin h]; exact Nat.mod_lt _ (by decide)
theorem fv_small {x : Nat} (h : x < 9223372036854775808) : fv x = rv x := by
  unfold fv
  rw [decide_eq_false (by omega), Nat.mod_eq_of_lt h]
  unfold neg1
  rw [if_neg (by decide), Rat.one_mul]
theorem fv_fabs {x : Nat} (h : fin x = true) : fv (fabs x) = rv (x % 9223372036854775808) := by
  rw [fv_small (fabs_lt h), fabs_fin h]
theorem infB_fin {x : Nat} (h : fin x = true) : infB x = false := by
  unfold infB
  have hf := fin_fabs h
  have hl := fabs_lt h
  rw [order_fv hf (by omega) (by decide) (by decide)]
  have : fv (fabs x) ≤ fv 9218868437227405311 := by
    rw [fv_small hl, fv_small (by decide)]
    refine rv_mono ?_
    unfold fin at hf
    simp at hf
    omega
  by_cases h1 : fv (fabs x) < fv 9218868437227405311
  · rw [if_pos h1]; rfl
  · rw [if_neg h1, if_pos (by grind)]; rfl
theorem cfin_of {a b : Nat} (ha : fin a = true) (hb : fin b = true) : cfin a b = true := by
  unfold cfin kindS
  rw [infB_fin ha, infB_fin hb, not_nan_of_fin ha, not_nan_of_fin hb]; rfl

/-- A float that is a whole number is equal to 0 just if it is. -/
theorem FI.zero {x : Nat} {n : Int} (h : FI x n) : feq x 0 = decide (n = 0) := by
  obtain ⟨h1, h2, h3⟩ := h
  rw [feq_fv h2 h1 fin_zero (by decide), fv_zero, h3, Bool.eq_iff_iff]
  simp only [decide_eq_true_eq]
  exact_mod_cast Iff.rfl
/-- Both parts are whole numbers. -/
def FC (c : Cc) (a : Zi) : Prop := FI c.1 a.re ∧ FI c.2 a.im
theorem FC.add {c d : Cc} {a b : Zi} (hc : FC c a) (hd : FC d b) (h : zn a + zn b < 9007199254740992) : FC (fop .add c.1 d.1, fop .add c.2 d.2) (zadd a b) := by
  have h1 := zn_parts a
  have h2 := zn_parts b
  exact ⟨hc.1.add hd.1 (by omega), hc.2.add hd.2 (by omega)⟩
theorem FC.mul {c d : Cc} {a b : Zi} (hc : FC c a) (hd : FC d b) (h : zn a * zn b < 9007199254740992) : FC (mulRe c.1 c.2 d.1 d.2, mulIm c.1 c.2 d.1 d.2) (zmul a b) := by
  have h0 : zn a * zn b = a.re.natAbs * b.re.natAbs + a.re.natAbs * b.im.natAbs + (a.im.natAbs * b.re.natAbs + a.im.natAbs * b.im.natAbs) := by
    unfold zn; rw [Nat.add_mul, Nat.mul_add, Nat.mul_add]
  rw [h0] at h
  rw [← Int.natAbs_mul, ← Int.natAbs_mul, ← Int.natAbs_mul, ← Int.natAbs_mul] at h
  unfold mulRe mulIm
  refine ⟨(hc.1.mul hd.1 (by omega)).sub (hc.2.mul hd.2 (by omega)) (by omega), (hc.1.mul hd.2 (by omega)).add (hc.2.mul hd.1 (by omega)) (by omega)⟩
theorem FC.fin {c : Cc} {a : Zi} (h : FC c a) : cfin c.1 c.2 = true := cfin_of h.1.2.1 h.2.2.1
theorem FC.zero {c : Cc} {a : Zi} (h : FC c a) : czero c.1 c.2 = decide (a = z0) := by
  unfold czero
  rw [h.1.zero, h.2.zero, Bool.eq_iff_iff]
  simp only [Bool.and_eq_true, decide_eq_true_eq]
  constructor
  · rintro ⟨h1, h2⟩; exact Zi.ext' h1 h2
  · rintro rfl; exact ⟨rfl, rfl⟩
theorem FC.z0 : FC (0, 0) z0 := ⟨⟨by decide, by decide, by rw [fv_zero]; rfl⟩, ⟨by decide, by decide, by rw [fv_zero]; rfl⟩⟩
theorem FI.notNaN {x : Nat} {n : Int} (h : FI x n) : isNaN x = false := not_nan_of_fin h.2.1
theorem FI.pick {x : Nat} {n : Int} (h : FI x n) (s : Nat) : pick x s = x := pick_of h.notNaN s
end Go.Fil

/- Dyads as rational numbers; a float's dyad. No program is in sight. -/
namespace Go.Fil
open Go Go.Proofs.YtbgjcpnbdgljbaaGreatDoor

theorem rat_cancel {a b c : Rat} (hc : 0 < c) (h : a * c = b * c) : a = b := by
  by_cases h1 : a < b
  · have := Rat.mul_lt_mul_of_pos_right h1 hc; grind
  · by_cases h2 : b < a
    · have := Rat.mul_lt_mul_of_pos_right h2 hc; grind
    · grind
theorem mkD_rat_le {n k e f : Int} (hef : e ≤ f) (h : (n : Rat) * p2 e = (k : Rat) * p2 f) : mkD n e = mkD k f := by
  obtain ⟨j, hj⟩ : ∃ j : Nat, f = e + j := ⟨(f - e).toNat, by omega⟩
  subst hj
  have h1 : (n : Rat) = ((k * 2 ^ j : Int) : Rat) := by
    refine rat_cancel (p2_pos e) ?_
    rw [h, Int.add_comm, p2_add, p2_nat, ← Rat.mul_assoc]
    push_cast; rfl
  have h2 : n = k * 2 ^ j := by exact_mod_cast h1
  rw [h2, mkD_shift]
theorem mkD_rat {n k e f : Int} (h : (n : Rat) * p2 e = (k : Rat) * p2 f) : mkD n e = mkD k f := by
  rcases Int.le_total e f with h1 | h1
  · exact mkD_rat_le h1 h
  · exact (mkD_rat_le h1 h.symm).symm
/-- The number that a dyad stands for. -/
def dv (d : Dya) : Rat := (d.m : Rat) * p2 d.e
theorem dv_mk (n e : Int) : dv (mkD n e) = (n : Rat) * p2 e := by
  unfold dv
  by_cases h0 : n = 0
  · subst h0
    rw [mkD_zero]
    show ((0 : Int) : Rat) * _ = ((0 : Int) : Rat) * _
    rw [show ((0 : Int) : Rat) = 0 from rfl, Rat.zero_mul, Rat.zero_mul]
  · rw [mkD_m, mkD_e h0, Int.add_comm, p2_add, p2_nat, ← Rat.mul_assoc]
    congr 1
    have := odI_tz n
    rw [show ((2 ^ tz n.natAbs : Nat) : Rat) = ((2 ^ tz n.natAbs : Int) : Rat) by push_cast; rfl]
    rw [← Rat.intCast_mul, this]
theorem flD_val (x : Nat) : ((sg (decide (9223372036854775808 ≤ x)) (flM x) : Int) : Rat) * p2 (flE x) = neg1 (decide (9223372036854775808 ≤ x)) * rv (x % 9223372036854775808) := by
  have h1 : ((flM x : Nat) : Rat) * p2 (flE x) = rv (x % 9223372036854775808) := by
    have hd : x % 9223372036854775808 / 4503599627370496 = x / 4503599627370496 % 2048 := by omega
    have hm : x % 9223372036854775808 % 4503599627370496 = x % 4503599627370496 := by omega
    unfold rv flM flE
    by_cases h0 : x / 4503599627370496 % 2048 = 0
    · rw [if_pos h0, if_pos h0, if_pos (by omega)]
      have : x % 9223372036854775808 = x % 4503599627370496 := by omega
      rw [this]; rfl
    · rw [if_neg h0, if_neg h0, if_neg (by omega), hm, hd]
      congr 2
      omega
  rw [← h1]
  unfold sg neg1
  cases decide (9223372036854775808 ≤ x)
  · rw [if_neg (by decide), if_neg (by decide), Rat.one_mul]; rfl
  · rw [if_pos rfl, if_pos rfl]
    push_cast
    grind
theorem flD_fv (x : Nat) : dv (flD x) = fv x := by
  unfold flD
  rw [dv_mk, flD_val]; rfl
theorem flD_of {x : Nat} {n e : Int} (h : fv x = (n : Rat) * p2 e) : flD x = mkD n e := by
  unfold flD
  refine mkD_rat ?_
  rw [flD_val, ← h]; rfl
theorem FI.flD {x : Nat} {n : Int} (h : FI x n) : flD x = mkD n 0 := flD_of (by rw [p2_zero, Rat.mul_one]; exact h.2.2)
/-- A dyad is what it stands for. -/
theorem dv_inj {a b : Dya} (ha : okD a) (hb : okD b) (h : dv a = dv b) : a = b := by
  rw [← mkD_self ha, ← mkD_self hb]
  exact mkD_rat h
end Go.Fil
