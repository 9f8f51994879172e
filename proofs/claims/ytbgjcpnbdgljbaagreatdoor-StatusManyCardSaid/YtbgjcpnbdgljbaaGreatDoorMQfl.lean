/- Complex numbers of rational parts; magnitudes bounded by their squares: sums, products. No program is in sight. -/
import Derived.KernelRfl
import Derived.Test.YtbgjcpnbdgljbaaGreatDoorMRat
namespace Go.Fil
open Go

theorem sq_nn (q : Rat) : 0 ≤ q * q := by
  rcases @Rat.le_total 0 q with h | h
  · exact Rat.mul_nonneg h h
  · have := Rat.mul_nonneg (show 0 ≤ -q by grind) (show 0 ≤ -q by grind)
    grind
theorem mul_mono {a b c d : Rat} (ha : 0 ≤ a) (hc : 0 ≤ c) (h1 : a ≤ b) (h2 : c ≤ d) : a * c ≤ b * d := by
  have h3 := Rat.mul_le_mul_of_nonneg_right h1 hc
  have h4 := Rat.mul_le_mul_of_nonneg_left h2 (show 0 ≤ b by grind)
  grind
theorem le_of_sq {a b : Rat} (hb : 0 ≤ b) (h : a * a ≤ b * b) : a ≤ b := by
  refine Rat.not_lt.1 fun hlt => ?_
  have h1 := Rat.mul_lt_mul_of_pos_right hlt (show 0 < a by grind)
  have h2 := Rat.mul_le_mul_of_nonneg_left (Rat.le_of_lt hlt) hb
  grind
theorem sq_mono {a b : Rat} (ha : 0 ≤ a) (h : a ≤ b) : a * a ≤ b * b := mul_mono ha ha h h

structure Qi where
  re : Rat
  im : Rat
theorem Qi.ext' {a b : Qi} (h : a.re = b.re) (k : a.im = b.im) : a = b := by cases a; cases b; simp_all
instance : DecidableEq Qi := fun a b => if h : a.re = b.re ∧ a.im = b.im then .isTrue (Qi.ext' h.1 h.2) else .isFalse (by rintro rfl; exact h ⟨rfl, rfl⟩)
def q0 : Qi := ⟨0, 0⟩
def qr (n : Rat) : Qi := ⟨n, 0⟩
def qadd (a b : Qi) : Qi := ⟨a.re + b.re, a.im + b.im⟩
def qsub (a b : Qi) : Qi := ⟨a.re - b.re, a.im - b.im⟩
def qneg (a : Qi) : Qi := ⟨-a.re, -a.im⟩
def qmul (a b : Qi) : Qi := ⟨a.re * b.re - a.im * b.im, a.re * b.im + a.im * b.re⟩
def nsq (a : Qi) : Rat := a.re * a.re + a.im * a.im
theorem nsq_nn (a : Qi) : 0 ≤ nsq a := by
  have h1 := sq_nn a.re
  have h2 := sq_nn a.im
  unfold nsq; grind
theorem nsq_mul (a b : Qi) : nsq (qmul a b) = nsq a * nsq b := by simp only [nsq, qmul]; grind
theorem nsq_zero {a : Qi} (h : nsq a = 0) : a = q0 := by
  have h1 := sq_nn a.re
  have h2 := sq_nn a.im
  unfold nsq at h
  have h3 : a.re * a.re = 0 := by grind
  have h4 : a.im * a.im = 0 := by grind
  exact Qi.ext' (by rcases Rat.mul_eq_zero.1 h3 with h | h <;> exact h) (by rcases Rat.mul_eq_zero.1 h4 with h | h <;> exact h)
/-- The magnitude is at most r. -/
def Le (a : Qi) (r : Rat) : Prop := 0 ≤ r ∧ nsq a ≤ r * r
theorem Le.nn {a : Qi} {r : Rat} (h : Le a r) : 0 ≤ r := h.1
theorem Le.mono {a : Qi} {r s : Rat} (h : Le a r) (hs : r ≤ s) : Le a s := by
  have := sq_mono h.1 hs
  have h1 := h.1
  have h2 := h.2
  exact ⟨by grind, by grind⟩
theorem Le.zero {r : Rat} (h : 0 ≤ r) : Le q0 r := ⟨h, by have := sq_nn r; simp only [nsq, q0]; grind⟩
theorem Le.neg {a : Qi} {r : Rat} (h : Le a r) : Le (qneg a) r := ⟨h.1, by have := h.2; simp only [nsq, qneg] at *; grind⟩
theorem Le.add {a b : Qi} {r s : Rat} (ha : Le a r) (hb : Le b s) : Le (qadd a b) (r + s) := by
  obtain ⟨hr, h1⟩ := ha
  obtain ⟨hs, h2⟩ := hb
  have hrs := Rat.mul_nonneg hr hs
  refine ⟨by grind, ?_⟩
  have h3 : nsq a * nsq b ≤ (r * r) * (s * s) := mul_mono (nsq_nn a) (nsq_nn b) h1 h2
  have h4 := sq_nn (a.re * b.im - a.im * b.re)
  have h5 : (a.re * b.re + a.im * b.im) * (a.re * b.re + a.im * b.im) ≤ (r * s) * (r * s) := by
    have e : (a.re * b.re + a.im * b.im) * (a.re * b.re + a.im * b.im) + (a.re * b.im - a.im * b.re) * (a.re * b.im - a.im * b.re) = nsq a * nsq b := by
      simp only [nsq]; grind
    grind
  have h6 := le_of_sq hrs h5
  have e : nsq (qadd a b) = nsq a + nsq b + 2 * (a.re * b.re + a.im * b.im) := by simp only [nsq, qadd]; grind
  rw [e]; grind
theorem Le.mul {a b : Qi} {r s : Rat} (ha : Le a r) (hb : Le b s) : Le (qmul a b) (r * s) := by
  refine ⟨Rat.mul_nonneg ha.1 hb.1, ?_⟩
  rw [nsq_mul]
  have := mul_mono (nsq_nn a) (nsq_nn b) ha.2 hb.2
  grind
theorem qsub_add (a b : Qi) : qsub a b = qadd a (qneg b) := by apply Qi.ext' <;> simp only [qsub, qadd, qneg] <;> grind
theorem Le.sub {a b : Qi} {r s : Rat} (ha : Le a r) (hb : Le b s) : Le (qsub a b) (r + s) := by rw [qsub_add]; exact ha.add hb.neg
theorem Le.swap {a b : Qi} {r : Rat} (h : Le (qsub a b) r) : Le (qsub b a) r := by
  have e : qsub b a = qneg (qsub a b) := by apply Qi.ext' <;> simp only [qsub, qneg] <;> grind
  rw [e]; exact h.neg
theorem Le.tri {a b c : Qi} {r s : Rat} (h : Le (qsub a b) r) (k : Le (qsub b c) s) : Le (qsub a c) (r + s) := by
  have e : qsub a c = qadd (qsub a b) (qsub b c) := by apply Qi.ext' <;> simp only [qsub, qadd] <;> grind
  rw [e]; exact h.add k
/-- Every number has a bound. -/
def bd (a : Qi) : Rat := 1 + nsq a
theorem Le.bd (a : Qi) : Le a (bd a) := by
  have h := nsq_nn a
  have h2 := sq_nn (nsq a)
  unfold Fil.bd
  exact ⟨by grind, by grind⟩
/-- The parts' bounds. -/
theorem Le.parts {x y r s : Rat} (h1 : x ≤ r) (h2 : -x ≤ r) (h3 : y ≤ s) (h4 : -y ≤ s) : Le ⟨x, y⟩ (r + s) := by
  have hr : 0 ≤ r := by grind
  have hs : 0 ≤ s := by grind
  have h5 : x * x ≤ r * r := by
    rcases @Rat.le_total 0 x with h | h
    · exact sq_mono h h1
    · have := sq_mono (show 0 ≤ -x by grind) h2; grind
  have h6 : y * y ≤ s * s := by
    rcases @Rat.le_total 0 y with h | h
    · exact sq_mono h h3
    · have := sq_mono (show 0 ≤ -y by grind) h4; grind
  have h7 := Rat.mul_nonneg hr hs
  refine ⟨by grind, ?_⟩
  show x * x + y * y ≤ _
  grind
/-- Below any fraction that is left: it is nothing. -/
theorem exists_nat (q : Rat) : ∃ n : Nat, q ≤ (n : Rat) := by
  refine ⟨q.ceil.toNat, ?_⟩
  have h1 := @Rat.le_ceil q
  have h2 : q.ceil ≤ (q.ceil.toNat : Int) := by omega
  have h3 : ((q.ceil : Int) : Rat) ≤ ((q.ceil.toNat : Int) : Rat) := by exact_mod_cast h2
  have e : ((q.ceil.toNat : Int) : Rat) = ((q.ceil.toNat : Nat) : Rat) := rfl
  rw [e] at h3
  grind
theorem Le.lim {a : Qi} {r c : Rat} (hr : 0 ≤ r) (hc : 0 ≤ c) (h : ∀ n : Nat, Le a (r + c * ((n + 1 : Nat) : Rat)⁻¹)) : Le a r := by
  refine ⟨hr, Rat.not_lt.1 fun hlt => ?_⟩
  have hd : 0 < nsq a - r * r := by grind
  obtain ⟨n, hn⟩ := exists_nat ((2 * (r * c) + c * c) * (nsq a - r * r)⁻¹)
  have hinv := Rat.mul_inv_cancel (nsq a - r * r) (by grind)
  have h1 := (h n).2
  obtain ⟨N, hN⟩ : ∃ N : Rat, ((n + 1 : Nat) : Rat) = N := ⟨_, rfl⟩
  have hN1 : (n : Rat) + 1 = N := by rw [← hN]; push_cast; rfl
  rw [hN] at h1
  have hn0 : (0 : Rat) ≤ (n : Rat) := by exact_mod_cast Nat.zero_le n
  have hNp : 1 ≤ N := by grind
  have hNi := Rat.mul_inv_cancel N (by grind)
  have hip : 0 ≤ N⁻¹ := by
    rcases @Rat.le_total 0 N⁻¹ with h | h
    · exact h
    · have := Rat.mul_nonneg (show 0 ≤ -N⁻¹ by grind) (show 0 ≤ N by grind)
      grind
  have hi1 : N⁻¹ ≤ 1 := by
    have := Rat.mul_le_mul_of_nonneg_left hNp hip
    grind
  -- (r + c/N)^2 <= r^2 + (2rc + cc)/N
  have hrc := Rat.mul_nonneg hr hc
  have hcc := sq_nn c
  have h2 : (r + c * N⁻¹) * (r + c * N⁻¹) ≤ r * r + (2 * (r * c) + c * c) * N⁻¹ := by
    have := mul_mono hip hcc hi1 (Rat.le_refl)
    have h3 := Rat.mul_le_mul_of_nonneg_left this hip
    grind
  have h4 : (2 * (r * c) + c * c) < (nsq a - r * r) * N := by
    have h5 := Rat.mul_le_mul_of_nonneg_left hn (Rat.le_of_lt hd)
    have h6 : (nsq a - r * r) * ((2 * (r * c) + c * c) * (nsq a - r * r)⁻¹) = 2 * (r * c) + c * c := by grind
    have h7 : (nsq a - r * r) * N = (nsq a - r * r) * (n : Rat) + (nsq a - r * r) := by rw [← hN1]; grind
    grind
  have h8 : (2 * (r * c) + c * c) * N⁻¹ < nsq a - r * r := by
    have hpos : 0 < N⁻¹ := by
      refine Rat.not_le.1 fun h0 => ?_
      have e0 : N⁻¹ = 0 := by grind
      rw [e0] at hNi
      grind
    have := Rat.mul_lt_mul_of_pos_right h4 hpos
    rw [Rat.mul_assoc, hNi, Rat.mul_one] at this
    exact this
  grind
/-- Powers of what is below 1 fall below any bound. -/
theorem bernoulli {a : Rat} (ha : 0 ≤ a) (n : Nat) : 1 + (n : Rat) * a ≤ (1 + a) ^ n := by
  induction n with
  | zero => rw [Rat.pow_zero]; have : ((0 : Nat) : Rat) = 0 := rfl; rw [this]; grind
  | succ n ih =>
    rw [Rat.pow_succ]
    have h1 := Rat.mul_le_mul_of_nonneg_right ih (show 0 ≤ 1 + a by grind)
    have h2 := Rat.mul_nonneg (show (0 : Rat) ≤ (n : Rat) by exact_mod_cast Nat.zero_le n) (sq_nn a)
    push_cast
    grind
theorem rat_mul_pow (a b : Rat) (n : Nat) : (a * b) ^ n = a ^ n * b ^ n := by
  induction n with
  | zero => rw [Rat.pow_zero, Rat.pow_zero, Rat.pow_zero, Rat.mul_one]
  | succ n ih => rw [Rat.pow_succ, Rat.pow_succ, Rat.pow_succ, ih]; grind
theorem rat_one_pow (n : Nat) : (1 : Rat) ^ n = 1 := by
  induction n with
  | zero => rw [Rat.pow_zero]
  | succ n ih => rw [Rat.pow_succ, ih, Rat.mul_one]
theorem pow_small {q e : Rat} (h0 : 0 ≤ q) (h1 : q < 1) (he : 0 < e) : ∃ n : Nat, q ^ n < e := by
  by_cases hz : q = 0
  · exact ⟨1, by rw [hz, Rat.pow_succ]; grind⟩
  have hq : 0 < q := by grind
  -- 1/q = 1 + a
  have hqi := Rat.mul_inv_cancel q (by grind)
  obtain ⟨a, ha⟩ : ∃ a, q⁻¹ = 1 + a := ⟨q⁻¹ - 1, by grind⟩
  have hap : 0 < a := by
    refine Rat.not_le.1 fun hle => ?_
    have h2 := Rat.mul_le_mul_of_nonneg_left (show q⁻¹ ≤ 1 by grind) (Rat.le_of_lt hq)
    grind
  obtain ⟨n, hn⟩ := exists_nat (e⁻¹ * a⁻¹)
  refine ⟨n, ?_⟩
  have hei := Rat.mul_inv_cancel e (by grind)
  have hai := Rat.mul_inv_cancel a (by grind)
  have h3 := bernoulli (Rat.le_of_lt hap) n
  have h4 : q ^ n * (1 + a) ^ n = 1 := by
    rw [← ha, ← rat_mul_pow, hqi, rat_one_pow]
  have h5 := Rat.mul_le_mul_of_nonneg_right hn (Rat.le_of_lt hap)
  have h6 : e⁻¹ ≤ (n : Rat) * a := by
    have : e⁻¹ * a⁻¹ * a = e⁻¹ := by grind
    grind
  have hp : 0 < q ^ n := Rat.pow_pos hq
  -- q^n (1 + n a) <= 1, so q^n / e < 1
  have h7 := Rat.mul_le_mul_of_nonneg_left h3 (Rat.le_of_lt hp)
  refine Rat.not_le.1 fun hle => ?_
  have h8 : 0 < e⁻¹ := by
    refine Rat.not_le.1 fun h9 => ?_
    have := Rat.mul_le_mul_of_nonneg_left h9 (Rat.le_of_lt he)
    grind
  have h9 := Rat.mul_le_mul_of_nonneg_right hle (Rat.le_of_lt h8)
  have h10 := Rat.mul_le_mul_of_nonneg_left h6 (Rat.le_of_lt hp)
  grind
end Go.Fil

/- Floats rounded: how far a sum, a product is off; what the next float above is an upper bound of. No program is in sight. -/
namespace Go.Fil
open Go

/-- z is the number v, rounded to the nearest; likewise, v no finer than the finest float. -/
def Rd (v : Rat) (z : Nat) : Prop := ∃ neg m p, z = Ieee.double.nearest neg m p ∧ v = neg1 neg * ((m : Rat) * p2 p)
def RdX (v : Rat) (z : Nat) : Prop := ∃ neg m p, z = Ieee.double.nearest neg m p ∧ v = neg1 neg * ((m : Rat) * p2 p) ∧ -1074 ≤ p
theorem RdX.rd {v : Rat} {z : Nat} (h : RdX v z) : Rd v z := by obtain ⟨n, m, p, h1, h2, _⟩ := h; exact ⟨n, m, p, h1, h2⟩
/-- Half of a last bit; the least of halves. -/
def ue : Rat := p2 (-53)
def ut : Rat := p2 (-1075)
theorem ue_pos : 0 < ue := p2_pos _
theorem ut_pos : 0 < ut := p2_pos _
theorem word_mod (neg : Bool) {r : Nat} (h : r ≤ 9218868437227405312) : Ieee.double.word neg r % 9223372036854775808 = r ∧ Ieee.double.word neg r < 18446744073709551616 ∧ decide (9223372036854775808 ≤ Ieee.double.word neg r) = neg := by
  unfold Ieee.Format.word
  rw [sw_double]
  cases neg
  · rw [if_neg (by decide)]
    exact ⟨by omega, by omega, by rw [decide_eq_false (by omega)]⟩
  · rw [if_pos rfl]
    exact ⟨by omega, by omega, by rw [decide_eq_true (by omega)]⟩
/-- A rounded magnitude: its word; how far it is off; the next one is above it. -/
theorem rd_mag (neg : Bool) (m : Nat) (p : Int) : ∃ r, r ≤ 9218868437227405312 ∧ Ieee.double.nearest neg m p = Ieee.double.word neg r ∧
    (r < 9218868437227405312 → rv r ≤ (m : Rat) * p2 p + (rv r * ue + ut) ∧ (m : Rat) * p2 p ≤ rv r + (rv r * ue + ut) ∧ (m : Rat) * p2 p ≤ rv (r + 1) ∧
      (-1074 ≤ p → rv r ≤ (m : Rat) * p2 p + rv r * ue ∧ (m : Rat) * p2 p ≤ rv r + rv r * ue)) := by
  by_cases hm : m = 0
  · subst hm
    refine ⟨0, by decide, by unfold Ieee.Format.nearest; rw [if_pos rfl], fun _ => ?_⟩
    rw [show ((0 : Nat) : Rat) = 0 from rfl, Rat.zero_mul, rv_zero]
    have h1 := ut_pos
    have h2 := rv_pos (r := 0 + 1) (by decide)
    refine ⟨by grind, by grind, by grind, fun _ => ⟨by grind, by grind⟩⟩
  · obtain ⟨j, kept, hw, hk, hj, h1, h2, _, hlo, hx⟩ := nearest_spec neg p hm
    refine ⟨_, Nat.min_le_right _ _, hw, fun hlt => ?_⟩
    have hlt' : j * 4503599627370496 + kept < 9218868437227405312 := by omega
    rw [Nat.min_eq_left (by omega)]
    have hv : rv (j * 4503599627370496 + kept) = (kept : Rat) * p2 (-1074 + (j : Int)) := rv_at rfl hk hj
    have hnext : ((kept : Rat) + 1) * p2 (-1074 + (j : Int)) ≤ rv (j * 4503599627370496 + kept + 1) := by
      rcases Nat.lt_or_ge kept 9007199254740992 with hh | hh
      · rw [rv_step hh hj]; exact Rat.le_refl
      · have hke : kept = 9007199254740992 := by omega
        subst hke
        have e : j * 4503599627370496 + 9007199254740992 + 1 = (j + 1) * 4503599627370496 + 4503599627370497 := by omega
        rw [e, rv_at (j := j + 1) (kept := 4503599627370497) rfl (by omega) (.inr (by omega))]
        have e2 : p2 (-1074 + ((j + 1 : Nat) : Int)) = 2 * p2 (-1074 + (j : Int)) := by
          rw [show -1074 + ((j + 1 : Nat) : Int) = -1074 + (j : Int) + 1 by omega, p2_succ]
        rw [e2]
        have hp := p2_pos (-1074 + (j : Int))
        have e3 : ((9007199254740992 : Nat) : Rat) = 9007199254740992 := rfl
        have e4 : ((4503599627370497 : Nat) : Rat) = 4503599627370497 := rfl
        rw [e3, e4]
        grind
    have hp := p2_pos (-1074 + (j : Int))
    have hunit : j = 0 ∨ (1 / 2) * p2 (-1074 + (j : Int)) ≤ rv (j * 4503599627370496 + kept) * ue := by
      rcases hj with h0 | h0
      · exact .inl h0
      · right
        rw [hv]
        have e1 : (1 / 2 : Rat) = 4503599627370496 * ue := by
          have h53 : p2 (-53) * p2 53 = 1 := p2_cancel 53
          have h52 : p2 53 = 9007199254740992 := by rw [show (53 : Int) = ((53 : Nat) : Int) from rfl, p2_nat]; rfl
          unfold ue
          rw [h52] at h53
          grind
        rw [e1]
        have h3 : (4503599627370496 : Rat) ≤ (kept : Rat) := by exact_mod_cast h0
        have h4 := Rat.mul_le_mul_of_nonneg_right h3 (Rat.le_of_lt (Rat.mul_pos ue_pos hp))
        grind
    have hu0 : j = 0 → (1 / 2) * p2 (-1074 + (j : Int)) = ut := by
      intro h0
      subst h0
      have : p2 (-1074) = 2 * p2 (-1075) := by rw [← p2_succ]; rfl
      show (1 / 2) * p2 (-1074) = ut
      unfold ut
      rw [this]; grind
    have hrn := rv_nonneg (j * 4503599627370496 + kept)
    have hue := Rat.mul_nonneg hrn (Rat.le_of_lt ue_pos)
    have hut := ut_pos
    have hhalf : (1 / 2) * p2 (-1074 + (j : Int)) ≤ rv (j * 4503599627370496 + kept) * ue + ut := by
      rcases hunit with h0 | h0
      · have := hu0 h0; grind
      · grind
    rw [hv] at hhalf hunit hrn hue ⊢
    refine ⟨by grind, by grind, by grind, fun hp1 => ?_⟩
    rcases hunit with h0 | h0
    · have h3 := hx h0 hp1
      subst h0
      have e : p2 (-1074 + ((0 : Nat) : Int)) = p2 (-1074) := rfl
      rw [e] at hue ⊢
      rw [h3]
      refine ⟨by grind, by grind⟩
    · refine ⟨by grind, by grind⟩
theorem fv_word (neg : Bool) {r : Nat} (h : r ≤ 9218868437227405312) : fv (Ieee.double.word neg r) = neg1 neg * rv r := by
  obtain ⟨h1, _, h3⟩ := word_mod neg h
  unfold fv
  rw [h3, h1]
theorem fin_word (neg : Bool) {r : Nat} (h : r ≤ 9218868437227405312) : fin (Ieee.double.word neg r) = decide (r < 9218868437227405312) := by
  unfold fin
  rw [(word_mod neg h).1]
theorem neg1_cases (b : Bool) : neg1 b = 1 ∨ neg1 b = -1 := by cases b <;> simp [neg1]
theorem Rd.lt {v : Rat} {z : Nat} (h : Rd v z) : z < 18446744073709551616 := by
  obtain ⟨neg, m, p, rfl, _⟩ := h
  obtain ⟨r, hr, hw, _⟩ := rd_mag neg m p
  rw [hw]; exact (word_mod neg hr).2.1
theorem Rd.notNaN {v : Rat} {z : Nat} (h : Rd v z) : isNaN z = false := by
  obtain ⟨neg, m, p, rfl, _⟩ := h
  exact isNaN_nearest neg m p
/-- The magnitude of a float. -/
def fm (x : Nat) : Rat := rv (x % 9223372036854775808)
theorem fm_nn (x : Nat) : 0 ≤ fm x := rv_nonneg _
theorem fm_abs (x : Nat) : fv x ≤ fm x ∧ -fv x ≤ fm x := by
  have h := fm_nn x
  have e : fv x = neg1 (decide (9223372036854775808 ≤ x)) * fm x := rfl
  rw [e]
  rcases neg1_cases (decide (9223372036854775808 ≤ x)) with h1 | h1 <;> rw [h1] <;> constructor <;> grind
theorem fm_sq (x : Nat) : fv x * fv x = fm x * fm x := by
  have e : fv x = neg1 (decide (9223372036854775808 ≤ x)) * fm x := rfl
  rw [e]
  rcases neg1_cases (decide (9223372036854775808 ≤ x)) with h1 | h1 <;> rw [h1] <;> grind
theorem Rd.err {v : Rat} {z : Nat} (h : Rd v z) (hf : fin z = true) : v - fv z ≤ fm z * ue + ut ∧ fv z - v ≤ fm z * ue + ut := by
  obtain ⟨neg, m, p, rfl, rfl⟩ := h
  obtain ⟨r, hr, hw, hs⟩ := rd_mag neg m p
  rw [hw, fin_word neg hr] at hf
  obtain ⟨h1, h2, _, _⟩ := hs (by simpa using hf)
  rw [hw, fv_word neg hr]
  unfold fm
  rw [(word_mod neg hr).1]
  rcases neg1_cases neg with h3 | h3 <;> rw [h3] <;> constructor <;> grind
theorem RdX.err {v : Rat} {z : Nat} (h : RdX v z) (hf : fin z = true) : v - fv z ≤ fm z * ue ∧ fv z - v ≤ fm z * ue := by
  obtain ⟨neg, m, p, rfl, rfl, hp⟩ := h
  obtain ⟨r, hr, hw, hs⟩ := rd_mag neg m p
  rw [hw, fin_word neg hr] at hf
  obtain ⟨_, _, _, h4⟩ := hs (by simpa using hf)
  obtain ⟨h1, h2⟩ := h4 hp
  rw [hw, fv_word neg hr]
  unfold fm
  rw [(word_mod neg hr).1]
  rcases neg1_cases neg with h3 | h3 <;> rw [h3] <;> constructor <;> grind
/-- The operations on finite floats. -/
theorem sum_rd {sa sb : Bool} {ma mb : Nat} {pa pb : Int} (ha : -1074 ≤ pa) (hb : -1074 ≤ pb) :
    ∃ d, (Ieee.Datum.number sa ma pa).sum (.number sb mb pb) = some d ∧ RdX (neg1 sa * ((ma : Rat) * p2 pa) + neg1 sb * ((mb : Rat) * p2 pb)) (Ieee.double.write d) := by
  refine ⟨_, rfl, ?_⟩
  dsimp only [Ieee.Format.write]
  obtain ⟨base, hbase⟩ : ∃ base, min pa pb = base := ⟨_, rfl⟩
  rw [hbase]
  obtain ⟨t, ht⟩ : ∃ t, Ieee.signed sa ma (pa - base).toNat + Ieee.signed sb mb (pb - base).toNat = t := ⟨_, rfl⟩
  rw [ht]
  have hval : (t : Rat) * p2 base = neg1 sa * ((ma : Rat) * p2 pa) + neg1 sb * ((mb : Rat) * p2 pb) := by
    rw [← ht]
    push_cast
    rw [signed_val, signed_val]
    have e1 : p2 pa = p2 (((pa - base).toNat : Nat) : Int) * p2 base := by rw [← p2_add]; congr 1; omega
    have e2 : p2 pb = p2 (((pb - base).toNat : Nat) : Int) * p2 base := by rw [← p2_add]; congr 1; omega
    rw [e1, e2]; grind
  rw [← hval]
  refine ⟨_, _, _, rfl, ?_, by omega⟩
  rw [← Rat.mul_assoc]
  congr 1
  by_cases h0 : t = 0
  · subst h0
    rw [show ((0 : Int).natAbs : Nat) = 0 from rfl, show ((0 : Nat) : Rat) = 0 from rfl, Rat.mul_zero]; rfl
  · rw [if_neg h0]
    exact (neg1_mul_abs (neg := decide (t < 0)) (fun h => by simpa using h) (fun h => by simp; omega)).symm
section
variable {a b : Nat} (ha : fin a = true) (hxa : a < 18446744073709551616) (hb : fin b = true) (hxb : b < 18446744073709551616)
include ha hxa hb hxb
theorem fop_add_rd : RdX (fv a + fv b) (fop .add a b) := by
  obtain ⟨m, p, h1, h2, _, h3, _⟩ := fv_read ha hxa
  obtain ⟨n, q, h4, h5, _, h6, _⟩ := fv_read hb hxb
  obtain ⟨d, hd, hr⟩ := sum_rd (sa := decide (9223372036854775808 ≤ a)) (sb := decide (9223372036854775808 ≤ b)) (ma := m) (mb := n) h3 h6
  have : fop .add a b = Ieee.double.write d := by
    unfold fop floatBits
    show (Ieee.Format.add Ieee.double a b).getD qnan = _
    unfold Ieee.Format.add
    rw [h1, h4, hd]; rfl
  rw [this, h2, h5]; exact hr
theorem fop_sub_rd : RdX (fv a - fv b) (fop .sub a b) := by
  obtain ⟨m, p, h1, h2, _, h3, _⟩ := fv_read ha hxa
  obtain ⟨n, q, h4, h5, _, h6, _⟩ := fv_read hb hxb
  obtain ⟨d, hd, hr⟩ := sum_rd (sa := decide (9223372036854775808 ≤ a)) (sb := !decide (9223372036854775808 ≤ b)) (ma := m) (mb := n) h3 h6
  have : fop .sub a b = Ieee.double.write d := by
    unfold fop floatBits
    show (Ieee.Format.sub Ieee.double a b).getD qnan = _
    unfold Ieee.Format.sub
    rw [h1, h4]
    show (Option.map _ ((Ieee.Datum.number _ m p).sum (.number (!_) n q))).getD qnan = _
    rw [hd]; rfl
  rw [neg1_not] at hr
  rw [this, h2, h5, Rat.sub_eq_add_neg, ← Rat.neg_mul]; exact hr
theorem fop_mul_rd : Rd (fv a * fv b) (fop .mul a b) := by
  obtain ⟨m, p, h1, h2, _⟩ := fv_read ha hxa
  obtain ⟨n, q, h4, h5, _⟩ := fv_read hb hxb
  refine ⟨decide (9223372036854775808 ≤ a) ^^ decide (9223372036854775808 ≤ b), m * n, p + q, ?_, ?_⟩
  · unfold fop floatBits
    show (Ieee.Format.mul Ieee.double a b).getD qnan = _
    unfold Ieee.Format.mul
    rw [h1, h4]; rfl
  · rw [h2, h5, neg1_xor, p2_add]; push_cast; grind
end
end Go.Fil

/- Upper bounds by floats from 0 up to infinity: sums, products rounded up; what a sum, a product may lose. No program is in sight. -/
namespace Go.Fil
open Go

/-- From 0 up to infinity. -/
def Nb (x : Nat) : Prop := x ≤ 9218868437227405312
theorem nb_fin {x : Nat} (h : x < 9218868437227405312) : fin x = true := by unfold fin; simp; omega
theorem fin_nb {x : Nat} (hx : Nb x) (h : fin x = true) : x < 9218868437227405312 := by unfold Nb at hx; unfold fin at h; simp at h; omega
theorem nb_fv {x : Nat} (h : Nb x) : fv x = rv x := fv_small (by unfold Nb at h; omega)
theorem rv_ne {x : Nat} (h : x ≠ 0) : 0 < rv x := rv_pos (by omega)
theorem feq_nb {x : Nat} (h : Nb x) : feq x 0 = decide (x = 0) := by
  rcases Nat.lt_or_ge x 9218868437227405312 with h1 | h1
  · rw [feq_fv (nb_fin h1) (by omega) fin_zero (by decide), fv_zero, nb_fv h, Bool.eq_iff_iff]
    simp only [decide_eq_true_eq]
    constructor
    · intro h2
      refine Decidable.byContradiction fun h3 => ?_
      have := rv_ne h3
      grind
    · rintro rfl; exact rv_zero
  · have : x = 9218868437227405312 := by unfold Nb at h; omega
    subst this; decide
theorem read_nb {x : Nat} (h : x < 9218868437227405312) : ∃ m p, Ieee.double.read x = .number false m p ∧ rv x = (m : Rat) * p2 p ∧ -1074 ≤ p := by
  obtain ⟨m, p, h1, h2, _, h3, _⟩ := fv_read (nb_fin h) (by omega)
  rw [decide_eq_false (by omega)] at h1 h2
  refine ⟨m, p, h1, ?_, h3⟩
  rw [fv_small (by omega)] at h2
  unfold neg1 at h2
  rw [if_neg (by decide), Rat.one_mul] at h2
  exact h2
theorem read_inf : Ieee.double.read 9218868437227405312 = .infinity false := by decide
theorem inf_case {x : Nat} (h : Nb x) : x < 9218868437227405312 ∨ x = 9218868437227405312 := by unfold Nb at h; omega
/-- The next float above. -/
theorem fup_nb {z : Nat} (h : Nb z) : Nb (fup z) ∧ (fup z < 9218868437227405312 → z < 9218868437227405312 ∧ fup z = z + 1) := by
  rcases inf_case h with h1 | h1
  · have hf := nb_fin h1
    have e : fup z = z + 1 := by
      unfold fup
      rw [not_nan_of_fin hf, if_neg (by decide)]
      have h2 : (FloatKind.f64.format.order z 9218868437227405311 == some .gt) = false := by
        rw [order_fv hf (by omega) (by decide) (by decide)]
        have : fv z ≤ fv 9218868437227405311 := by
          rw [fv_small (by omega), fv_small (by decide)]
          exact rv_mono (by omega)
        by_cases h3 : fv z < fv 9218868437227405311
        · rw [if_pos h3]; rfl
        · rw [if_neg h3, if_pos (by grind)]; rfl
      rw [h2, if_neg (by decide)]
      have h3 := feq_nb h
      unfold feq at h3
      rw [h3]
      by_cases h0 : z = 0
      · rw [decide_eq_true h0, if_pos rfl, h0]
      · rw [decide_eq_false h0, if_neg (by decide), if_neg (by omega)]
    rw [e]
    exact ⟨by unfold Nb; omega, fun _ => ⟨h1, rfl⟩⟩
  · subst h1
    have e : fup 9218868437227405312 = 9218868437227405312 := by decide
    rw [e]
    exact ⟨Nat.le_refl _, fun h => absurd h (Nat.lt_irrefl _)⟩
/-- A rounded magnitude and the next float above it. -/
theorem mag_up (m : Nat) (p : Int) : Nb (Ieee.double.nearest false m p) ∧ Nb (fup (Ieee.double.nearest false m p)) ∧ (fup (Ieee.double.nearest false m p) < 9218868437227405312 → (m : Rat) * p2 p ≤ rv (fup (Ieee.double.nearest false m p))) := by
  obtain ⟨r, hr, hw, hs⟩ := rd_mag false m p
  have e : Ieee.double.word false r = r := by unfold Ieee.Format.word; rw [if_neg (by decide)]
  rw [hw, e]
  obtain ⟨h1, h2⟩ := fup_nb (z := r) hr
  refine ⟨hr, h1, fun h => ?_⟩
  obtain ⟨h3, h4⟩ := h2 h
  rw [h4]
  exact (hs h3).2.2.1
theorem add_nb {x y : Nat} (hx : x < 9218868437227405312) (hy : y < 9218868437227405312) : ∃ m p, fop .add x y = Ieee.double.nearest false m p ∧ rv x + rv y = (m : Rat) * p2 p := by
  obtain ⟨m, p, h1, h2, h3⟩ := read_nb hx
  obtain ⟨n, q, h4, h5, h6⟩ := read_nb hy
  obtain ⟨base, hbase⟩ : ∃ base, min p q = base := ⟨_, rfl⟩
  refine ⟨m * 2 ^ (p - base).toNat + n * 2 ^ (q - base).toNat, base, ?_, ?_⟩
  · unfold fop floatBits
    show (Ieee.Format.add Ieee.double x y).getD qnan = _
    unfold Ieee.Format.add
    rw [h1, h4]
    show Ieee.double.write (.number _ _ _) = _
    rw [hbase]
    dsimp only [Ieee.Format.write]
    have e : Ieee.signed false m (p - base).toNat + Ieee.signed false n (q - base).toNat = ((m * 2 ^ (p - base).toNat + n * 2 ^ (q - base).toNat : Nat) : Int) := by
      unfold Ieee.signed
      rw [if_neg (by decide), if_neg (by decide), Nat.shiftLeft_eq, Nat.shiftLeft_eq]
      push_cast; rfl
    rw [e, Int.natAbs_natCast]
    congr 1
    split
    · rfl
    · exact decide_eq_false (Int.not_lt.2 (Int.natCast_nonneg _))
  · rw [h2, h5]
    have e1 : p2 p = p2 (((p - base).toNat : Nat) : Int) * p2 base := by rw [← p2_add]; congr 1; omega
    have e2 : p2 q = p2 (((q - base).toNat : Nat) : Int) * p2 base := by rw [← p2_add]; congr 1; omega
    rw [e1, e2, p2_nat, p2_nat, Rat.natCast_add, Rat.natCast_mul, Rat.natCast_mul]; grind
theorem mul_nb {x y : Nat} (hx : x < 9218868437227405312) (hy : y < 9218868437227405312) : ∃ m p, fop .mul x y = Ieee.double.nearest false m p ∧ rv x * rv y = (m : Rat) * p2 p := by
  obtain ⟨m, p, h1, h2, h3⟩ := read_nb hx
  obtain ⟨n, q, h4, h5, h6⟩ := read_nb hy
  refine ⟨m * n, p + q, ?_, ?_⟩
  · unfold fop floatBits
    show (Ieee.Format.mul Ieee.double x y).getD qnan = _
    unfold Ieee.Format.mul
    rw [h1, h4]; rfl
  · rw [h2, h5, p2_add, Rat.natCast_mul]; grind
theorem write_inf : Ieee.double.write (.infinity false) = 9218868437227405312 := by decide
theorem sum_inf_r (m : Nat) (p : Int) : (Option.map Ieee.double.write ((Ieee.Datum.number false m p).sum (.infinity false))).getD qnan = 9218868437227405312 := by
  have e : (Ieee.Datum.number false m p).sum (.infinity false) = some (.infinity false) := rfl
  rw [e, Option.map_some, Option.getD_some]; exact write_inf
theorem sum_inf_l (m : Nat) (p : Int) : (Option.map Ieee.double.write ((Ieee.Datum.infinity false).sum (.number false m p))).getD qnan = 9218868437227405312 := by
  have e : (Ieee.Datum.infinity false).sum (.number false m p) = some (.infinity false) := rfl
  rw [e, Option.map_some, Option.getD_some]; exact write_inf
theorem sum_inf_b : (Option.map Ieee.double.write ((Ieee.Datum.infinity false).sum (.infinity false))).getD qnan = 9218868437227405312 := by
  have e : (Ieee.Datum.infinity false).sum (.infinity false) = some (.infinity false) := rfl
  rw [e, Option.map_some, Option.getD_some]; exact write_inf
theorem read_of_inf {x : Nat} (h : x = 9218868437227405312) : Ieee.double.read x = .infinity false := by rw [h]; exact read_inf
theorem inf_add {x y : Nat} (hx : Nb x) (hy : Nb y) (h : x = 9218868437227405312 ∨ y = 9218868437227405312) : fop .add x y = 9218868437227405312 := by
  have e : fop .add x y = (Option.map Ieee.double.write ((Ieee.double.read x).sum (Ieee.double.read y))).getD qnan := rfl
  rw [e]
  rcases inf_case hx with h1 | h1 <;> rcases inf_case hy with h2 | h2
  · exfalso
    rcases h with h | h
    · exact Nat.ne_of_lt h1 h
    · exact Nat.ne_of_lt h2 h
  · obtain ⟨m, p, h3, _⟩ := read_nb h1
    rw [h3, read_of_inf h2]; exact sum_inf_r m p
  · obtain ⟨m, p, h3, _⟩ := read_nb h2
    rw [h3, read_of_inf h1]; exact sum_inf_l m p
  · rw [read_of_inf h1, read_of_inf h2]; exact sum_inf_b
theorem inf_mul {x y : Nat} (hx : Nb x) (hy : Nb y) (hx0 : x ≠ 0) (hy0 : y ≠ 0) (h : x = 9218868437227405312 ∨ y = 9218868437227405312) : fop .mul x y = 9218868437227405312 := by
  have e := write_inf
  have hm : ∀ {x m : Nat} {p : Int}, x ≠ 0 → rv x = (m : Rat) * p2 p → m ≠ 0 := by
    rintro x m p h0 hv rfl
    have := rv_ne h0
    rw [hv, show ((0 : Nat) : Rat) = 0 from rfl, Rat.zero_mul] at this
    exact absurd this (by decide)
  unfold fop floatBits
  show (Ieee.Format.mul Ieee.double x y).getD qnan = _
  unfold Ieee.Format.mul
  rcases inf_case hx with h1 | h1 <;> rcases inf_case hy with h2 | h2
  · omega
  · obtain ⟨m, p, h3, h4, _⟩ := read_nb h1
    rw [h2, h3, read_inf]
    show (Option.map _ (if m = 0 then _ else _)).getD qnan = _
    rw [if_neg (hm hx0 h4)]; exact e
  · obtain ⟨m, p, h3, h4, _⟩ := read_nb h2
    rw [h1, h3, read_inf]
    show (Option.map _ (if m = 0 then _ else _)).getD qnan = _
    rw [if_neg (hm hy0 h4)]; exact e
  · rw [h1, h2, read_inf]; exact e
/-- ball.plus. -/
theorem plusS_ok {x y : Nat} (hx : Nb x) (hy : Nb y) : Nb (plusS x y) ∧ (plusS x y < 9218868437227405312 → x < 9218868437227405312 ∧ y < 9218868437227405312 ∧ rv x + rv y ≤ rv (plusS x y)) := by
  unfold plusS
  rw [feq_nb hx, feq_nb hy]
  by_cases hx0 : x = 0
  · subst hx0
    rw [decide_eq_true rfl, if_pos rfl, rv_zero]
    exact ⟨hy, fun h => ⟨by decide, h, by grind⟩⟩
  · rw [decide_eq_false hx0, if_neg (by decide)]
    by_cases hy0 : y = 0
    · subst hy0
      rw [decide_eq_true rfl, if_pos rfl, rv_zero]
      exact ⟨hx, fun h => ⟨h, by decide, by grind⟩⟩
    · rw [decide_eq_false hy0, if_neg (by decide)]
      rcases inf_case hx with h1 | h1
      · rcases inf_case hy with h2 | h2
        · obtain ⟨m, p, h3, h4⟩ := add_nb h1 h2
          rw [h3, h4]
          obtain ⟨_, h5, h6⟩ := mag_up m p
          exact ⟨h5, fun h => ⟨h1, h2, h6 h⟩⟩
        · rw [inf_add hx hy (.inr h2)]
          have := fup_nb (z := 9218868437227405312) (Nat.le_refl _)
          exact ⟨this.1, fun h => absurd (this.2 h).1 (Nat.lt_irrefl _)⟩
      · rw [inf_add hx hy (.inl h1)]
        have := fup_nb (z := 9218868437227405312) (Nat.le_refl _)
        exact ⟨this.1, fun h => absurd (this.2 h).1 (Nat.lt_irrefl _)⟩
/-- ball.times. -/
theorem timesS_ok {x y : Nat} (hx : Nb x) (hy : Nb y) : Nb (timesS x y) ∧ (timesS x y < 9218868437227405312 → (x = 0 ∨ y = 0 ∨ (x < 9218868437227405312 ∧ y < 9218868437227405312)) ∧ rv x * rv y ≤ rv (timesS x y)) := by
  unfold timesS
  rw [feq_nb hx, feq_nb hy]
  by_cases hx0 : x = 0
  · subst hx0
    rw [decide_eq_true rfl, Bool.true_or, if_pos rfl, rv_zero]
    exact ⟨by unfold Nb; decide, fun _ => ⟨.inl rfl, by grind⟩⟩
  · rw [decide_eq_false hx0, Bool.false_or]
    by_cases hy0 : y = 0
    · subst hy0
      rw [decide_eq_true rfl, if_pos rfl, rv_zero]
      exact ⟨by unfold Nb; decide, fun _ => ⟨.inr (.inl rfl), by grind⟩⟩
    · rw [decide_eq_false hy0, if_neg (by decide)]
      rcases inf_case hx with h1 | h1
      · rcases inf_case hy with h2 | h2
        · obtain ⟨m, p, h3, h4⟩ := mul_nb h1 h2
          rw [h3, h4]
          obtain ⟨_, h5, h6⟩ := mag_up m p
          exact ⟨h5, fun h => ⟨.inr (.inr ⟨h1, h2⟩), h6 h⟩⟩
        · rw [inf_mul hx hy hx0 hy0 (.inr h2)]
          have := fup_nb (z := 9218868437227405312) (Nat.le_refl _)
          exact ⟨this.1, fun h => absurd (this.2 h).1 (Nat.lt_irrefl _)⟩
      · rw [inf_mul hx hy hx0 hy0 (.inl h1)]
        have := fup_nb (z := 9218868437227405312) (Nat.le_refl _)
        exact ⟨this.1, fun h => absurd (this.2 h).1 (Nat.lt_irrefl _)⟩
/-- A number that is a float is rounded to itself. -/
theorem Rd.exact {v : Rat} {z : Nat} (h : Rd v z) {t : Nat} (ht : t < 9218868437227405312) (hv : v = rv t ∨ v = -rv t) : fin z = true ∧ fv z = v := by
  obtain ⟨neg, m, p, rfl, rfl⟩ := h
  have hmag : (m : Rat) * p2 p = rv t := by
    have h1 : (0 : Rat) ≤ (m : Rat) * p2 p := Rat.mul_nonneg (by exact_mod_cast Nat.zero_le m) (Rat.le_of_lt (p2_pos p))
    have h2 := rv_nonneg t
    rcases neg1_cases neg with h3 | h3 <;> rw [h3] at hv <;> rcases hv with hv | hv <;> grind
  by_cases hm : m = 0
  · subst hm
    have e : Ieee.double.nearest neg 0 p = Ieee.double.word neg 0 := by unfold Ieee.Format.nearest; rw [if_pos rfl]
    rw [e, fin_word neg (by decide), fv_word neg (by decide), rv_zero, show ((0 : Nat) : Rat) = 0 from rfl, Rat.zero_mul]
    exact ⟨by decide, rfl⟩
  · obtain ⟨j, kept, hw, hk, hj, _, _, hex, hlo, _⟩ := nearest_spec neg p hm
    obtain ⟨i, k, ht2, hk2, hi⟩ := rv_form t
    have hvt : rv t = (k : Rat) * p2 (-1074 + (i : Int)) := rv_at ht2 (by omega) hi
    have hji : j ≤ i := by
      rcases hlo with h0 | h0
      · omega
      · refine Decidable.byContradiction fun hlt => ?_
        rw [hmag, hvt] at h0
        have h1 : p2 (-1074 + (i : Int) + 1) ≤ p2 (-1074 + (j : Int)) := p2_mono (by omega)
        rw [p2_succ] at h1
        have h2 : ((k : Nat) : Rat) < ((9007199254740992 : Nat) : Rat) := by exact_mod_cast hk2
        have e3 : ((9007199254740992 : Nat) : Rat) = 9007199254740992 := rfl
        rw [e3] at h2
        have h3 := Rat.mul_lt_mul_of_pos_right h2 (p2_pos (-1074 + (i : Int)))
        grind
    have hc : (m : Rat) * p2 p = ((k * 2 ^ (i - j) : Nat) : Rat) * p2 (-1074 + (j : Int)) := by
      rw [hmag, hvt, Rat.natCast_mul, ← p2_nat, Rat.mul_assoc, ← p2_add]
      congr 2; omega
    have hkc := hex _ hc
    have hr : rv (j * 4503599627370496 + kept) = rv t := by
      rw [rv_at rfl hk hj, hkc, ← hc, hmag]
    have hrt : j * 4503599627370496 + kept = t := by
      rcases Nat.lt_trichotomy (j * 4503599627370496 + kept) t with h1 | h1 | h1
      · have := rv_lt h1; grind
      · exact h1
      · have := rv_lt h1; grind
    rw [hw, hrt, Nat.min_eq_left (by omega), fin_word neg (by omega), fv_word neg (by omega), hmag]
    exact ⟨decide_eq_true ht, rfl⟩
end Go.Fil
