/- Polynomials over rational complex numbers: the way from x to x + h; a map whose slope stays below q on a ball brings points nearer by q. No program is in sight. -/
import Derived.Test.YtbgjcpnbdgljbaaGreatDoorMQfl
import Derived.Test.YtbgjcpnbdgljbaaGreatDoorMSeq
namespace Go.Fil
open Go

def qev : List Qi → Qi → Qi
  | [], _ => q0
  | c :: q, x => qadd (qmul (qev q x) x) c
def qder : List Qi → Qi → Qi
  | [], _ => q0
  | _ :: q, x => qadd (qev q x) (qmul (qder q x) x)
theorem qev_bd (p : List Qi) (R : Rat) : ∃ D, ∀ x, Le x R → Le (qev p x) D := by
  induction p with
  | nil => exact ⟨0, fun x _ => Le.zero (Rat.le_refl)⟩
  | cons c q ih =>
    obtain ⟨D, hD⟩ := ih
    exact ⟨D * R + bd c, fun x hx => ((hD x hx).mul hx).add (Le.bd c)⟩
theorem qder_bd (p : List Qi) (R : Rat) : ∃ D, ∀ x, Le x R → Le (qder p x) D := by
  induction p with
  | nil => exact ⟨0, fun x _ => Le.zero (Rat.le_refl)⟩
  | cons c q ih =>
    obtain ⟨D, hD⟩ := ih
    obtain ⟨E, hE⟩ := qev_bd q R
    exact ⟨E + D * R, fun x hx => (hE x hx).add ((hD x hx).mul hx)⟩
theorem qtaylor (p : List Qi) (R : Rat) (hR : 0 ≤ R) : ∃ T, 0 ≤ T ∧ ∀ x h, Le x R → Le h R → ∃ t, Le t T ∧ qev p (qadd x h) = qadd (qadd (qev p x) (qmul (qder p x) h)) (qmul (qmul h h) t) := by
  induction p with
  | nil => exact ⟨0, Rat.le_refl, fun x h _ _ => ⟨q0, Le.zero Rat.le_refl, by apply Qi.ext' <;> simp only [qev, qder, qmul, qadd, q0] <;> grind⟩⟩
  | cons c q ih =>
    obtain ⟨T, hT0, hT⟩ := ih
    obtain ⟨D, hD⟩ := qder_bd q R
    have hD0 := (hD q0 (Le.zero hR)).1
    refine ⟨D + (R + R) * T, ?_, fun x h hx hh => ?_⟩
    · have := Rat.mul_nonneg (show 0 ≤ R + R by grind) hT0
      grind
    · obtain ⟨t, ht, he⟩ := hT x h hx hh
      refine ⟨qadd (qder q x) (qmul (qadd x h) t), (hD x hx).add ((hx.add hh).mul ht), ?_⟩
      rw [qev, he, qev, qder]
      generalize qev q x = A
      generalize qder q x = B
      apply Qi.ext' <;> simp only [qadd, qmul] <;> grind
/-- Times a rational number. -/
theorem Le.scale {a : Qi} {r s : Rat} (h : Le a r) (hs : 0 ≤ s) : Le (qmul (qr s) a) (s * r) :=
  Le.mul ⟨hs, by simp only [nsq, qr]; grind⟩ h
theorem Le.convex {x h c : Qi} {r s : Rat} (h1 : Le (qsub x c) r) (h2 : Le (qsub (qadd x h) c) r) (h0 : 0 ≤ s) (hs : s ≤ 1) : Le (qsub (qadd x (qmul (qr s) h)) c) r := by
  have h3 := (h1.scale (show 0 ≤ 1 - s by grind)).add (h2.scale h0)
  have e : qadd (qmul (qr (1 - s)) (qsub x c)) (qmul (qr s) (qsub (qadd x h) c)) = qsub (qadd x (qmul (qr s) h)) c := by
    apply Qi.ext' <;> simp only [qadd, qmul, qsub, qr] <;> grind
  rw [e] at h3
  exact h3.mono (by grind)
/-- Newton's simplified step: x less y times what p makes of x. -/
def kst (p : List Qi) (y x : Qi) : Qi := qsub x (qmul y (qev p x))
def q1 : Qi := ⟨1, 0⟩
theorem rat_inv {N : Rat} (h : 1 ≤ N) : N * N⁻¹ = 1 ∧ 0 ≤ N⁻¹ ∧ N⁻¹ ≤ 1 := by
  have hNi := Rat.mul_inv_cancel N (by grind)
  have hip : 0 ≤ N⁻¹ := by
    rcases @Rat.le_total 0 N⁻¹ with h' | h'
    · exact h'
    · have := Rat.mul_nonneg (show 0 ≤ -N⁻¹ by grind) (show 0 ≤ N by grind)
      grind
  refine ⟨hNi, hip, ?_⟩
  have := Rat.mul_le_mul_of_nonneg_left h hip
  grind
section
variable (p : List Qi) (y c : Qi) (r q : Rat) (hD : ∀ x, Le (qsub x c) r → Le (qsub q1 (qmul y (qder p x))) q)
include hD
theorem step_le {x h : Qi} {ρ T R : Rat} (hx : Le (qsub x c) r) (hh : Le h ρ) (hxR : Le x R) (hhR : Le h R) (hT : ∀ x h, Le x R → Le h R → ∃ t, Le t T ∧ qev p (qadd x h) = qadd (qadd (qev p x) (qmul (qder p x) h)) (qmul (qmul h h) t)) :
    Le (qsub (kst p y (qadd x h)) (kst p y x)) (q * ρ + bd y * (ρ * ρ * T)) := by
  obtain ⟨t, ht, he⟩ := hT x h hxR hhR
  have h1 := ((hD x hx).mul hh).sub ((Le.bd y).mul ((hh.mul hh).mul ht))
  have e : qsub (qmul (qsub q1 (qmul y (qder p x))) h) (qmul y (qmul (qmul h h) t)) = qsub (kst p y (qadd x h)) (kst p y x) := by
    unfold kst
    rw [he]
    generalize qev p x = A
    generalize qder p x = B
    apply Qi.ext' <;> simp only [qadd, qmul, qsub, q1] <;> grind
  rw [e] at h1
  exact h1
/-- Points are brought nearer by q. -/
theorem lip {x x' : Qi} {ρ : Rat} (hx : Le (qsub x c) r) (hx' : Le (qsub x' c) r) (hρ : Le (qsub x' x) ρ) : Le (qsub (kst p y x') (kst p y x)) (q * ρ) := by
  obtain ⟨h, hh⟩ : ∃ h, qsub x' x = h := ⟨_, rfl⟩
  have hxe : x' = qadd x h := by rw [← hh]; apply Qi.ext' <;> simp only [qadd, qsub] <;> grind
  subst hxe
  rw [hh] at hρ
  clear hh
  have hq0 := (hD x hx).1
  have hr0 := hx.1
  have hρ0 := hρ.1
  -- all points of the ball are below R, so are the steps
  obtain ⟨R, hR⟩ : ∃ R, bd c + r + ρ = R := ⟨_, rfl⟩
  have hb0 := (Le.bd c).1
  have hball : ∀ z, Le (qsub z c) r → Le z R := by
    intro z hz
    have e : z = qadd (qsub z c) c := by apply Qi.ext' <;> simp only [qadd, qsub] <;> grind
    rw [e]
    exact (hz.add (Le.bd c)).mono (by grind)
  obtain ⟨T, hT0, hT⟩ := qtaylor p R (by grind)
  have hY := (Le.bd y).1
  have hc0 : 0 ≤ bd y * (ρ * ρ * T) := Rat.mul_nonneg hY (Rat.mul_nonneg (sq_nn ρ) hT0)
  refine Le.lim (Rat.mul_nonneg hq0 hρ0) hc0 fun n => ?_
  obtain ⟨N, hN⟩ : ∃ N : Rat, ((n + 1 : Nat) : Rat) = N := ⟨_, rfl⟩
  rw [hN]
  have hN1 : 1 ≤ N := by
    have h1 : (0 : Rat) ≤ (n : Rat) := by exact_mod_cast Nat.zero_le n
    have h2 : (n : Rat) + 1 = N := by rw [← hN]; push_cast; rfl
    grind
  obtain ⟨i1, i2, i3⟩ := rat_inv hN1
  have hs : Le (qmul (qr N⁻¹) h) (N⁻¹ * ρ) := hρ.scale i2
  have hsρ : N⁻¹ * ρ ≤ ρ := by
    have := Rat.mul_le_mul_of_nonneg_right i3 hρ0
    grind
  have hsR : Le (qmul (qr N⁻¹) h) R := hs.mono (by grind)
  have hpt : ∀ k : Nat, k ≤ n + 1 → Le (qsub (qadd x (qmul (qr ((k : Rat) * N⁻¹)) h)) c) r := by
    intro k hk
    have hk0 : (0 : Rat) ≤ (k : Rat) := by exact_mod_cast Nat.zero_le k
    have hk1 : (k : Rat) ≤ N := by rw [← hN]; exact_mod_cast hk
    refine Le.convex hx hx' (Rat.mul_nonneg hk0 i2) ?_
    have := Rat.mul_le_mul_of_nonneg_right hk1 i2
    grind
  have key : ∀ k : Nat, k ≤ n + 1 → Le (qsub (kst p y (qadd x (qmul (qr ((k : Rat) * N⁻¹)) h))) (kst p y x)) ((k : Rat) * (q * (N⁻¹ * ρ) + bd y * ((N⁻¹ * ρ) * (N⁻¹ * ρ) * T))) := by
    intro k
    induction k with
    | zero =>
      intro _
      have e : qadd x (qmul (qr (((0 : Nat) : Rat) * N⁻¹)) h) = x := by
        rw [show ((0 : Nat) : Rat) = 0 from rfl]
        apply Qi.ext' <;> simp only [qadd, qmul, qr] <;> grind
      have e2 : qsub (kst p y x) (kst p y x) = q0 := by apply Qi.ext' <;> simp only [qsub, q0] <;> grind
      rw [e, e2, show ((0 : Nat) : Rat) = 0 from rfl, Rat.zero_mul]
      exact Le.zero Rat.le_refl
    | succ k ih =>
      intro hk
      have h1 := ih (by omega)
      have h2 := step_le p y c r q hD (hpt k (by omega)) hs (hball _ (hpt k (by omega))) hsR hT
      have e : qadd (qadd x (qmul (qr ((k : Rat) * N⁻¹)) h)) (qmul (qr N⁻¹) h) = qadd x (qmul (qr (((k + 1 : Nat) : Rat) * N⁻¹)) h) := by
        push_cast
        apply Qi.ext' <;> simp only [qadd, qmul, qr] <;> grind
      rw [e] at h2
      refine (h2.tri h1).mono ?_
      push_cast
      grind
  have h1 := key (n + 1) (Nat.le_refl _)
  rw [hN] at h1
  have e : qadd x (qmul (qr (N * N⁻¹)) h) = qadd x h := by
    rw [i1]
    apply Qi.ext' <;> simp only [qadd, qmul, qr] <;> grind
  rw [e] at h1
  refine h1.mono ?_
  have e1 : N * (q * (N⁻¹ * ρ) + bd y * ((N⁻¹ * ρ) * (N⁻¹ * ρ) * T)) = (N * N⁻¹) * (q * ρ) + (N * N⁻¹) * (bd y * (ρ * ρ * T) * N⁻¹) := by grind
  rw [e1, i1]
  grind
end
end Go.Fil

/- A product of factors x - g, and a ball on which Newton's simplified step brings points nearer and stays: just one g lies in it, and stands there once. No program is in sight. -/
namespace Go.Fil
open Go

/-- The product of the factors; its slope. -/
def qprod : List Qi → Qi → Qi
  | [], _ => q1
  | g :: gs, x => qmul (qprod gs x) (qsub x g)
def qdprod : List Qi → Qi → Qi
  | [], _ => q0
  | g :: gs, x => qadd (qprod gs x) (qmul (qdprod gs x) (qsub x g))
theorem qprod_root {gs : List Qi} {x : Qi} (h : x ∈ gs) : qprod gs x = q0 := by
  induction gs with
  | nil => cases h
  | cons g gs ih =>
    rw [qprod]
    rcases List.mem_cons.1 h with rfl | h
    · apply Qi.ext' <;> simp only [qmul, qsub, q0] <;> grind
    · rw [ih h]; apply Qi.ext' <;> simp only [qmul, qsub, q0] <;> grind
theorem qdprod_twice {gs : List Qi} {x : Qi} (h : 2 ≤ gs.count x) : qdprod gs x = q0 := by
  induction gs with
  | nil => simp at h
  | cons g gs ih =>
    rw [qdprod]
    rw [List.count_cons] at h
    by_cases hg : g = x
    · subst hg
      simp only [beq_self_eq_true, if_true] at h
      have hm : g ∈ gs := List.count_pos_iff.1 (by omega)
      rw [qprod_root hm]; apply Qi.ext' <;> simp only [qmul, qadd, qsub, q0] <;> grind
    · have hne : (g == x) = false := by simpa using hg
      rw [hne] at h
      simp at h
      have hm : x ∈ gs := List.count_pos_iff.1 (by omega)
      rw [qprod_root hm, ih h]; apply Qi.ext' <;> simp only [qmul, qadd, qsub, q0] <;> grind
theorem nsq_sub_comm (a b : Qi) : nsq (qsub a b) = nsq (qsub b a) := by simp only [nsq, qsub]; grind
/-- Where all factors are away from 0, so is the product. -/
theorem qprod_far {gs : List Qi} {x : Qi} {e : Rat} (he : 0 ≤ e) (h : ∀ g ∈ gs, e ≤ nsq (qsub x g)) : e ^ gs.length ≤ nsq (qprod gs x) := by
  induction gs with
  | nil => rw [List.length_nil, Rat.pow_zero, qprod]; simp only [nsq, q1]; grind
  | cons g gs ih =>
    rw [List.length_cons, Rat.pow_succ, qprod, nsq_mul]
    exact mul_mono (Rat.pow_nonneg he) he (ih fun g hg => h g (List.mem_cons_of_mem _ hg)) (h g List.mem_cons_self)
/-- A rest between a ball and points out of it. -/
theorem gap (gs : List Qi) (c : Qi) {r : Rat} (hr : 0 ≤ r) (h : ∀ g ∈ gs, ¬ Le (qsub g c) r) : ∃ d, 0 < d ∧ ∀ g ∈ gs, (r + d) * (r + d) ≤ nsq (qsub g c) := by
  induction gs with
  | nil => exact ⟨1, by decide, by simp⟩
  | cons g gs ih =>
    obtain ⟨d, hd, hg⟩ := ih fun g hg => h g (List.mem_cons_of_mem _ hg)
    have h1 : r * r < nsq (qsub g c) := Rat.not_le.1 fun hle => h g List.mem_cons_self ⟨hr, hle⟩
    obtain ⟨N, hN⟩ : ∃ N, nsq (qsub g c) = N := ⟨_, rfl⟩
    rw [hN] at h1
    -- one rest for g
    have hex : ∃ d, 0 < d ∧ (r + d) * (r + d) ≤ N := by
      have hM : 0 < 2 * r + 1 := by grind
      have hMi := Rat.mul_inv_cancel (2 * r + 1) (by grind)
      obtain ⟨k, hk⟩ : ∃ k, (N - r * r) * (2 * r + 1)⁻¹ = k := ⟨_, rfl⟩
      have hk2 : k * (2 * r + 1) = N - r * r := by rw [← hk]; grind
      have hk0 : 0 < k := by
        refine Rat.not_le.1 fun hle => ?_
        have := Rat.mul_le_mul_of_nonneg_right hle (Rat.le_of_lt hM)
        grind
      by_cases hk1 : k ≤ 1
      · refine ⟨k, hk0, ?_⟩
        have := Rat.mul_le_mul_of_nonneg_left hk1 (Rat.le_of_lt hk0)
        grind
      · refine ⟨1, by decide, ?_⟩
        have := Rat.mul_le_mul_of_nonneg_right (show 1 ≤ k by grind) (Rat.le_of_lt hM)
        grind
    obtain ⟨d', hd', hg'⟩ := hex
    by_cases hdd : d ≤ d'
    · refine ⟨d, hd, fun x hx => ?_⟩
      rcases List.mem_cons.1 hx with rfl | hx
      · rw [hN]
        have := sq_mono (show 0 ≤ r + d by grind) (show r + d ≤ r + d' by grind)
        grind
      · exact hg x hx
    · refine ⟨d', hd', fun x hx => ?_⟩
      rcases List.mem_cons.1 hx with rfl | hx
      · rw [hN]; exact hg'
      · have h2 := hg x hx
        have := sq_mono (show 0 ≤ r + d' by grind) (show r + d' ≤ r + d by grind)
        grind
theorem never {q m E : Rat} (h0 : 0 ≤ q) (h1 : q < 1) (h : ∀ k : Nat, E ≤ (q ^ k * m) * (q ^ k * m)) : E ≤ 0 := by
  refine Rat.not_lt.1 fun hE => ?_
  have hmm := sq_nn m
  have hM : 0 < m * m + 1 := by grind
  have hMi := Rat.mul_inv_cancel (m * m + 1) (by grind)
  have hMp : 0 < (m * m + 1)⁻¹ := by
    refine Rat.not_le.1 fun hle => ?_
    have := Rat.mul_le_mul_of_nonneg_left hle (Rat.le_of_lt hM)
    grind
  obtain ⟨k, hk⟩ := pow_small h0 h1 (Rat.mul_pos hE hMp)
  have hp := Rat.pow_nonneg (n := k) h0
  have hp1 : q ^ k ≤ 1 := by
    clear hk
    induction k with
    | zero => rw [Rat.pow_zero]; exact Rat.le_refl
    | succ k ih =>
      have hp' := Rat.pow_nonneg (n := k) h0
      rw [Rat.pow_succ]
      have := mul_mono hp' h0 (ih hp') (Rat.le_of_lt h1)
      grind
  have h2 := h k
  have h3 := Rat.mul_lt_mul_of_pos_right hk hM
  have h4 : E * (m * m + 1)⁻¹ * (m * m + 1) = E := by rw [Rat.mul_assoc, Rat.mul_comm _ (m * m + 1), hMi, Rat.mul_one]
  have h5 : (q ^ k * m) * (q ^ k * m) ≤ q ^ k * (m * m) := by
    have := Rat.mul_le_mul_of_nonneg_left hp1 (Rat.mul_nonneg hp hmm)
    grind
  grind
theorem ball_center (c : Qi) {r : Rat} (hr : 0 ≤ r) : Le (qsub c c) r := by
  have : qsub c c = q0 := by apply Qi.ext' <;> simp only [qsub, q0] <;> grind
  rw [this]; exact Le.zero hr
section
variable (p gs : List Qi) (y c : Qi) (r q m : Rat)
variable (hev : ∀ x, qev p x = qprod gs x) (hder : ∀ x, qder p x = qdprod gs x)
variable (hD : ∀ x, Le (qsub x c) r → Le (qsub q1 (qmul y (qder p x))) q)
variable (hq : q < 1) (hr : 0 ≤ r)
include hD hq hr
theorem y_ne : y ≠ q0 := by
  rintro rfl
  have h1 := hD c (ball_center c hr)
  have e : qsub q1 (qmul q0 (qder p c)) = q1 := by apply Qi.ext' <;> simp only [qsub, qmul, q0, q1] <;> grind
  rw [e] at h1
  obtain ⟨h2, h3⟩ := h1
  have := mul_mono h2 h2 (Rat.le_of_lt hq) (Rat.le_of_lt hq)
  have h4 : q * q ≤ q := by
    have := Rat.mul_le_mul_of_nonneg_left (Rat.le_of_lt hq) h2
    grind
  simp only [nsq, q1] at h3
  grind
omit hr in
include hev in
/-- Two of the g that lie in the ball are one. -/
theorem same_root {g g' : Qi} (h1 : g ∈ gs) (h2 : g' ∈ gs) (hb : Le (qsub g c) r) (hb' : Le (qsub g' c) r) : g = g' := by
  have hq0 := (hD g hb).1
  have hk : ∀ g ∈ gs, kst p y g = g := by
    intro g hg
    unfold kst
    rw [hev, qprod_root hg]
    apply Qi.ext' <;> simp only [qsub, qmul, q0] <;> grind
  have hstep : ∀ k : Nat, Le (qsub g' g) (q ^ k * (r + r)) := by
    intro k
    induction k with
    | zero => rw [Rat.pow_zero, Rat.one_mul]; exact hb'.tri hb.swap
    | succ k ih =>
      have h3 := lip p y c r q hD hb hb' ih
      rw [hk g h1, hk g' h2] at h3
      rw [Rat.pow_succ]
      exact h3.mono (by grind)
  have h4 := never hq0 hq fun k => (hstep k).2
  have h5 := nsq_nn (qsub g' g)
  have h6 := nsq_zero (show nsq (qsub g' g) = 0 by grind)
  have e1 := congrArg Qi.re h6
  have e2 := congrArg Qi.im h6
  simp only [qsub, q0] at e1 e2
  exact Qi.ext' (by grind) (by grind)
omit hr in
include hder in
/-- What lies in the ball stands there once. -/
theorem once_root {g : Qi} (h1 : g ∈ gs) (hb : Le (qsub g c) r) : gs.count g = 1 := by
  have hp : 0 < gs.count g := List.count_pos_iff.2 h1
  rcases Nat.lt_or_ge (gs.count g) 2 with h | h
  · omega
  · exfalso
    have h2 := hD g hb
    rw [hder, qdprod_twice h] at h2
    have e : qsub q1 (qmul y q0) = q1 := by apply Qi.ext' <;> simp only [qsub, qmul, q0, q1] <;> grind
    rw [e] at h2
    obtain ⟨h2, h3⟩ := h2
    have h4 : q * q ≤ q := by
      have := Rat.mul_le_mul_of_nonneg_left (Rat.le_of_lt hq) h2
      grind
    simp only [nsq, q1] at h3
    grind
include hev in
/-- One lies in it. -/
theorem some_root (hm : Le (qmul y (qev p c)) m) (hmr : m + q * r ≤ r) : ∃ g ∈ gs, Le (qsub g c) r := by
  refine Classical.byContradiction fun hno => ?_
  have hno' : ∀ g ∈ gs, ¬ Le (qsub g c) r := fun g hg hl => hno ⟨g, hg, hl⟩
  obtain ⟨d, hd, hgap⟩ := gap gs c hr hno'
  have hq0 := (hD c (ball_center c hr)).1
  have hm0 := hm.1
  -- the orbit
  obtain ⟨o, ho0, hos⟩ : ∃ o : Nat → Qi, o 0 = c ∧ ∀ k, o (k + 1) = kst p y (o k) := ⟨fun k => Nat.rec c (fun _ x => kst p y x) k, rfl, fun _ => rfl⟩
  have hkc : Le (qsub (kst p y c) c) m := by
    have e : qsub (kst p y c) c = qneg (qmul y (qev p c)) := by unfold kst; apply Qi.ext' <;> simp only [qsub, qneg] <;> grind
    rw [e]; exact hm.neg
  have hin : ∀ k, Le (qsub (o k) c) r := by
    intro k
    induction k with
    | zero => rw [ho0]; exact ball_center c hr
    | succ k ih =>
      rw [hos]
      exact ((lip p y c r q hD (ball_center c hr) ih ih).tri hkc).mono (by grind)
  have hnext : ∀ k, Le (qsub (o (k + 1)) (o k)) (q ^ k * m) := by
    intro k
    induction k with
    | zero => rw [hos, ho0, Rat.pow_zero, Rat.one_mul]; exact hkc
    | succ k ih =>
      rw [hos (k + 1)]
      have h1 := lip p y c r q hD (hin k) (hin (k + 1)) ih
      rw [← hos k] at h1
      rw [Rat.pow_succ]
      exact h1.mono (by grind)
  have hfar : ∀ x, Le (qsub x c) r → ∀ g ∈ gs, d * d * (1 / 4) ≤ nsq (qsub x g) := by
    intro x hx g hg
    refine Rat.not_lt.1 fun hlt => ?_
    have h1 : Le (qsub g x) (d * (1 / 2)) := by
      refine ⟨by grind, ?_⟩
      rw [nsq_sub_comm]; grind
    have h2 := (h1.tri hx).2
    have h3 := hgap g hg
    have h4 : (d * (1 / 2) + r) * (d * (1 / 2) + r) < (r + d) * (r + d) := by
      have h5 := Rat.mul_nonneg hr (Rat.le_of_lt hd)
      have h6 := Rat.mul_pos hd hd
      grind
    grind
  obtain ⟨E, hE⟩ : ∃ E, (d * d * (1 / 4)) ^ gs.length = E := ⟨_, rfl⟩
  have hdd : 0 < d * d * (1 / 4) := by have := Rat.mul_pos hd hd; grind
  have hEp : 0 < E := by rw [← hE]; exact Rat.pow_pos hdd
  have hy : 0 < nsq y := by
    have h1 := nsq_nn y
    refine Rat.not_le.1 fun hle => y_ne p y c r q hD hq hr (nsq_zero (by grind))
  have hbad : nsq y * E ≤ 0 := by
    refine never (q := q) (m := m) hq0 hq fun k => ?_
    have h1 := (hnext k).2
    have e : qsub (o (k + 1)) (o k) = qneg (qmul y (qev p (o k))) := by
      rw [hos]; unfold kst; apply Qi.ext' <;> simp only [qsub, qneg] <;> grind
    have e2 : nsq (qneg (qmul y (qev p (o k)))) = nsq y * nsq (qev p (o k)) := by
      rw [← nsq_mul]; simp only [nsq, qneg]; grind
    rw [e, e2, hev] at h1
    have h2 := qprod_far (gs := gs) (x := o k) (Rat.le_of_lt hdd) (hfar (o k) (hin k))
    rw [hE] at h2
    have h3 := Rat.mul_le_mul_of_nonneg_left h2 (Rat.le_of_lt hy)
    grind
  have := Rat.mul_pos hy hEp
  grind
end
end Go.Fil

/- What a sum of floats, a product of complex floats may lose; quotients, roots, magnitudes rounded up. No program is in sight. -/
namespace Go.Fil
open Go

theorem fabs_nb {x : Nat} (h : isNaN x = false) : Nb (fabs x) ∧ fabs x = x % 9223372036854775808 := by
  unfold fabs Nb
  rw [h, if_neg (by decide)]
  unfold isNaN at h
  simp at h
  exact ⟨by omega, rfl⟩
theorem fm_fabs {x : Nat} (h : isNaN x = false) : rv (fabs x) = fm x := by rw [(fabs_nb h).2]; rfl
theorem fin_fabs' {x : Nat} (h : isNaN x = false) (hf : fabs x < 9218868437227405312) : fin x = true := by
  rw [(fabs_nb h).2] at hf
  unfold fin; simpa using hf
theorem ue_word : rv 4368491638549381120 = ue := by
  rw [rv_at (j := 969) (kept := 4503599627370496) (by decide) (by decide) (.inr (Nat.le_refl _))]
  have : ((4503599627370496 : Nat) : Rat) = p2 52 := by rw [show (52 : Int) = ((52 : Nat) : Int) from rfl, p2_nat]
  rw [this, ← p2_add]; rfl
theorem ue4_word : rv 4377498837804122112 = 4 * ue := by
  rw [rv_at (j := 971) (kept := 4503599627370496) (by decide) (by decide) (.inr (Nat.le_refl _))]
  have : ((4503599627370496 : Nat) : Rat) = p2 52 := by rw [show (52 : Int) = ((52 : Nat) : Int) from rfl, p2_nat]
  rw [this, ← p2_add]
  have e : (52 : Int) + (-1074 + ((971 : Nat) : Int)) = -53 + 1 + 1 := by decide
  rw [e, p2_succ, p2_succ]
  unfold ue; grind
theorem ut_word : rv 16 = 32 * ut := by
  unfold rv
  rw [if_pos (by decide)]
  have : p2 (-1074) = 2 * p2 (-1075) := by rw [← p2_succ]; rfl
  rw [this]
  unfold ut
  have e : ((16 : Nat) : Rat) = 16 := rfl
  rw [e]; grind
/-- A product rounded up is above the product. -/
theorem mulup {x y : Nat} (hx : Nb x) (hy : y < 9218868437227405312) (hy0 : y ≠ 0) : Nb (fup (fop .mul x y)) ∧ (fup (fop .mul x y) < 9218868437227405312 → x < 9218868437227405312 ∧ rv x * rv y ≤ rv (fup (fop .mul x y))) := by
  rcases inf_case hx with h1 | h1
  · obtain ⟨m, p, h3, h4⟩ := mul_nb h1 hy
    rw [h3, h4]
    obtain ⟨_, h5, h6⟩ := mag_up m p
    exact ⟨h5, fun h => ⟨h1, h6 h⟩⟩
  · rw [inf_mul hx (Nat.le_of_lt hy) (by rw [h1]; decide) hy0 (.inl h1)]
    have := fup_nb (z := 9218868437227405312) (Nat.le_refl _)
    exact ⟨this.1, fun h => absurd (this.2 h).1 (Nat.lt_irrefl _)⟩
theorem fin_of_mod {x : Nat} (h : x % 9223372036854775808 < 9218868437227405312) : fin x = true := by unfold fin; simpa using h
theorem mod_fin {x : Nat} (h : fin x = true) : x % 9223372036854775808 < 9218868437227405312 := by unfold fin at h; simpa using h
theorem fv_pm (x : Nat) : fv x = rv (x % 9223372036854775808) ∨ fv x = -rv (x % 9223372036854775808) := by
  unfold fv
  rcases neg1_cases (decide (9223372036854775808 ≤ x)) with h | h <;> rw [h]
  · left; grind
  · right; grind
/-- ball.lost. -/
theorem lostS_ok {x y : Nat} (hx : fin x = true) (hxl : x < 18446744073709551616) (hy : fin y = true) (hyl : y < 18446744073709551616) :
    Nb (lostS x y) ∧ (fin (fop .add x y) = true → lostS x y < 9218868437227405312 → fv x + fv y - fv (fop .add x y) ≤ rv (lostS x y) ∧ fv (fop .add x y) - (fv x + fv y) ≤ rv (lostS x y)) := by
  have hrd := fop_add_rd hx hxl hy hyl
  obtain ⟨s, hs⟩ : ∃ s, fop .add x y = s := ⟨_, rfl⟩
  rw [hs] at hrd ⊢
  have hsl := hrd.rd.lt
  have hsn := hrd.rd.notNaN
  unfold lostS
  rw [hs, feq_fv hx hxl fin_zero (by decide), feq_fv hy hyl fin_zero (by decide), fv_zero]
  by_cases h1 : fv x = 0
  · rw [decide_eq_true h1, Bool.true_or, Bool.true_or, if_pos rfl, rv_zero]
    refine ⟨by unfold Nb; decide, fun _ _ => ?_⟩
    have := (hrd.rd.exact (mod_fin hy) (by rw [h1]; rcases fv_pm y with h | h <;> rw [h] <;> grind)).2
    rw [this]; grind
  · rw [decide_eq_false h1, Bool.false_or]
    by_cases h2 : fv y = 0
    · rw [decide_eq_true h2, Bool.true_or, if_pos rfl, rv_zero]
      refine ⟨by unfold Nb; decide, fun _ _ => ?_⟩
      have := (hrd.rd.exact (mod_fin hx) (by rw [h2]; rcases fv_pm x with h | h <;> rw [h] <;> grind)).2
      rw [this]; grind
    · rw [decide_eq_false h2, Bool.false_or]
      by_cases h3 : feq s 0 = true
      · rw [if_pos h3, rv_zero]
        refine ⟨by unfold Nb; decide, fun hf _ => ?_⟩
        rw [feq_fv hf hsl fin_zero (by decide), fv_zero] at h3
        have h4 := hrd.err hf
        have h5 : fv s = 0 := by simpa using h3
        have h6 := fm_sq s
        have h7 : fm s = 0 := by
          rw [h5, Rat.zero_mul] at h6
          rcases Rat.mul_eq_zero.1 h6.symm with h | h <;> exact h
        rw [h5, h7] at h4
        rw [h5]; grind
      · rw [if_neg h3]
        obtain ⟨h4, h5⟩ := mulup (x := fabs s) (y := 4368491638549381120) (fabs_nb hsn).1 (by decide) (by decide)
        refine ⟨h4, fun hf h => ?_⟩
        have h6 := (h5 h).2
        rw [ue_word, fm_fabs hsn] at h6
        have h7 := hrd.err hf
        grind
/-- ball.lostBoth. -/
theorem lostBothS_ok {a b c d : Nat} (ha : fin a = true) (hal : a < 18446744073709551616) (hb : fin b = true) (hbl : b < 18446744073709551616) (hc : fin c = true) (hcl : c < 18446744073709551616) (hd : fin d = true) (hdl : d < 18446744073709551616) :
    Nb (lostBothS a b c d) ∧ (fin (fop .add a c) = true → fin (fop .add b d) = true → lostBothS a b c d < 9218868437227405312 → Le ⟨fv a + fv c - fv (fop .add a c), fv b + fv d - fv (fop .add b d)⟩ (rv (lostBothS a b c d))) := by
  obtain ⟨h1, h2⟩ := lostS_ok ha hal hc hcl
  obtain ⟨h3, h4⟩ := lostS_ok hb hbl hd hdl
  unfold lostBothS
  obtain ⟨h5, h6⟩ := plusS_ok h1 h3
  refine ⟨h5, fun hf1 hf2 h => ?_⟩
  obtain ⟨h7, h8, h9⟩ := h6 h
  have h10 := h2 hf1 h7
  have h11 := h4 hf2 h8
  exact (Le.parts (by grind) (by grind) (by grind) (by grind)).mono h9
/-- What is not finite stays so. -/
theorem fin_of_sub {x y : Nat} (hx : isNaN x = false) (hy : isNaN y = false) (h : fin (fop .sub x y) = true) : fin x = true ∧ fin y = true := by
  have key : ∀ x, isNaN x = false → fin x = true ∨ ∃ s, Ieee.double.read x = .infinity s := by
    intro x hx
    by_cases hf : fin x = true
    · exact .inl hf
    · right
      have : x % 9223372036854775808 = 9218868437227405312 := by
        unfold fin at hf; unfold isNaN at hx; simp at hf hx; omega
      refine ⟨x / 9223372036854775808 % 2 == 1, ?_⟩
      unfold Ieee.Format.read
      simp only [sw_double, ir_double, bi_double, this]
      rw [if_neg (by decide), if_neg (by decide), if_pos trivial]
  have hn : fin qnan = false := by decide
  have hw : ∀ s, fin (Ieee.double.write (.infinity s)) = false := by decide
  have e : fop .sub x y = (Option.map Ieee.double.write ((Ieee.double.read x).sum (Ieee.double.read y).opposite)).getD qnan := rfl
  rw [e] at h
  rcases key x hx with h1 | ⟨s, h1⟩ <;> rcases key y hy with h2 | ⟨t, h2⟩
  · exact ⟨h1, h2⟩
  · exfalso
    rw [h2] at h
    have h0 := isNaN_read x
    cases hr : Ieee.double.read x with
    | number n m p =>
      rw [hr] at h
      have e2 : (Ieee.Datum.number n m p).sum (Ieee.Datum.infinity t).opposite = some (.infinity (!t)) := rfl
      rw [e2, Option.map_some, Option.getD_some, hw] at h
      exact absurd h (by decide)
    | infinity n =>
      rw [hr] at h
      have e2 : (Ieee.Datum.infinity n).sum (Ieee.Datum.infinity t).opposite = if n = !t then some (.infinity n) else none := rfl
      rw [e2] at h
      split at h
      · rw [Option.map_some, Option.getD_some, hw] at h; exact absurd h (by decide)
      · rw [Option.map_none, Option.getD_none, hn] at h; exact absurd h (by decide)
    | nan n f => rw [hr, hx] at h0; exact absurd (show true = false from h0) (by decide)
  · exfalso
    rw [h1] at h
    have h0 := isNaN_read y
    cases hr : Ieee.double.read y with
    | number n m p =>
      rw [hr] at h
      have e2 : (Ieee.Datum.infinity s).sum (Ieee.Datum.number n m p).opposite = some (.infinity s) := rfl
      rw [e2, Option.map_some, Option.getD_some, hw] at h
      exact absurd h (by decide)
    | infinity n =>
      rw [hr] at h
      have e2 : (Ieee.Datum.infinity s).sum (Ieee.Datum.infinity n).opposite = if s = !n then some (.infinity s) else none := rfl
      rw [e2] at h
      split at h
      · rw [Option.map_some, Option.getD_some, hw] at h; exact absurd h (by decide)
      · rw [Option.map_none, Option.getD_none, hn] at h; exact absurd h (by decide)
    | nan n f => rw [hr, hy] at h0; exact absurd (show true = false from h0) (by decide)
  · exfalso
    rw [h1, h2] at h
    have e2 : (Ieee.Datum.infinity s).sum (Ieee.Datum.infinity t).opposite = if s = !t then some (.infinity s) else none := rfl
    rw [e2] at h
    split at h
    · rw [Option.map_some, Option.getD_some, hw] at h; exact absurd h (by decide)
    · rw [Option.map_none, Option.getD_none, hn] at h; exact absurd h (by decide)
end Go.Fil

/- What a product of complex floats by parts may be away; quotients, roots and magnitudes rounded up. No program is in sight. -/
namespace Go.Fil
open Go

theorem ue_half : 2 * ue ≤ 1 := by
  have h1 : p2 (-53 + 1) ≤ p2 0 := p2_mono (by decide)
  rw [p2_succ, p2_zero] at h1
  exact h1
/-- One part of a product: its two products and their sum or difference. -/
theorem part_err {u v P Q R : Rat} {A B C : Rat} (hP1 : u - P ≤ A * ue + ut) (hP2 : P - u ≤ A * ue + ut) (hQ1 : v - Q ≤ B * ue + ut) (hQ2 : Q - v ≤ B * ue + ut)
    (hA1 : P ≤ A) (hA2 : -P ≤ A) (hB1 : Q ≤ B) (hB2 : -Q ≤ B) (hR1 : P + Q - R ≤ C * ue) (hR2 : R - (P + Q) ≤ C * ue) (hC : C = R ∨ C = -R) :
    u + v - R ≤ (A + B) * (4 * ue) + 2 * ut ∧ R - (u + v) ≤ (A + B) * (4 * ue) + 2 * ut := by
  have h1 := ue_half
  have h2 := ue_pos
  have h3 := ut_pos
  have hA0 : 0 ≤ A := by grind
  have hB0 : 0 ≤ B := by grind
  -- C (1 - ue) <= A + B
  have hCs : C * ue ≤ (A + B) * (2 * ue) := by
    have h4 : C ≤ A + B + C * ue := by
      rcases hC with h | h <;> grind
    have h5 : C ≤ 2 * (A + B) := by
      by_cases h6 : 0 ≤ C
      · have := Rat.mul_le_mul_of_nonneg_left h1 h6
        grind
      · grind
    have := Rat.mul_le_mul_of_nonneg_right h5 (Rat.le_of_lt h2)
    grind
  have h6 := Rat.mul_nonneg hA0 (Rat.le_of_lt h2)
  have h7 := Rat.mul_nonneg hB0 (Rat.le_of_lt h2)
  constructor <;> grind
theorem fm_or (x : Nat) : fm x = fv x ∨ fm x = -fv x := by
  unfold fm
  rcases fv_pm x with h | h <;> rw [h]
  · exact .inl rfl
  · right; grind
/-- ball.spoilt. -/
theorem spoiltS_ok {a b c d : Nat} (ha : fin a = true) (hal : a < 18446744073709551616) (hb : fin b = true) (hbl : b < 18446744073709551616) (hc : fin c = true) (hcl : c < 18446744073709551616) (hd : fin d = true) (hdl : d < 18446744073709551616) :
    Nb (spoiltS a b c d) ∧ (fin (mulRe a b c d) = true → fin (mulIm a b c d) = true → spoiltS a b c d < 9218868437227405312 →
      Le ⟨fv a * fv c - fv b * fv d - fv (mulRe a b c d), fv a * fv d + fv b * fv c - fv (mulIm a b c d)⟩ (rv (spoiltS a b c d))) := by
  have rac := fop_mul_rd ha hal hc hcl
  have rbd := fop_mul_rd hb hbl hd hdl
  have rad := fop_mul_rd ha hal hd hdl
  have rbc := fop_mul_rd hb hbl hc hcl
  have z0 : (0 : Nat) < 9218868437227405312 := by decide
  -- where all four products are 0, so is what is told
  have hzero : fv a * fv c = 0 → fv b * fv d = 0 → fv a * fv d = 0 → fv b * fv c = 0 → Le ⟨fv a * fv c - fv b * fv d - fv (mulRe a b c d), fv a * fv d + fv b * fv c - fv (mulIm a b c d)⟩ (rv 0) := by
    intro h1 h2 h3 h4
    have e1 := rac.exact z0 (by rw [h1, rv_zero]; exact .inl rfl)
    have e2 := rbd.exact z0 (by rw [h2, rv_zero]; exact .inl rfl)
    have e3 := rad.exact z0 (by rw [h3, rv_zero]; exact .inl rfl)
    have e4 := rbc.exact z0 (by rw [h4, rv_zero]; exact .inl rfl)
    have e5 := (fop_sub_rd e1.1 rac.lt e2.1 rbd.lt).rd.exact z0 (by rw [e1.2, e2.2, h1, h2, rv_zero]; left; grind)
    have e6 := (fop_add_rd e3.1 rad.lt e4.1 rbc.lt).rd.exact z0 (by rw [e3.2, e4.2, h3, h4, rv_zero]; left; grind)
    unfold mulRe mulIm
    rw [e5.2, e6.2, e1.2, e2.2, e3.2, e4.2, rv_zero]
    exact (Le.parts (x := _) (y := _) (r := 0) (s := 0) (by grind) (by grind) (by grind) (by grind)).mono (by grind)
  unfold spoiltS
  have hcz : ∀ {x y : Nat}, fin x = true → x < 18446744073709551616 → fin y = true → y < 18446744073709551616 → czero x y = true → fv x = 0 ∧ fv y = 0 := by
    intro x y hx hxl hy hyl h
    unfold czero at h
    rw [feq_fv hx hxl fin_zero (by decide), feq_fv hy hyl fin_zero (by decide), fv_zero] at h
    simpa using h
  by_cases h1 : (czero a b || czero c d) = true
  · rw [if_pos h1]
    refine ⟨by unfold Nb; decide, fun _ _ _ => ?_⟩
    rw [Bool.or_eq_true] at h1
    rcases h1 with h1 | h1
    · obtain ⟨e1, e2⟩ := hcz ha hal hb hbl h1
      exact hzero (by rw [e1, Rat.zero_mul]) (by rw [e2, Rat.zero_mul]) (by rw [e1, Rat.zero_mul]) (by rw [e2, Rat.zero_mul])
    · obtain ⟨e1, e2⟩ := hcz hc hcl hd hdl h1
      exact hzero (by rw [e1, Rat.mul_zero]) (by rw [e2, Rat.mul_zero]) (by rw [e2, Rat.mul_zero]) (by rw [e1, Rat.mul_zero])
  · rw [if_neg h1]
    clear h1 hzero hcz
    dsimp only
    have nac := fabs_nb rac.notNaN
    have nbd := fabs_nb rbd.notNaN
    have nad := fabs_nb rad.notNaN
    have nbc := fabs_nb rbc.notNaN
    obtain ⟨p1, p2'⟩ := plusS_ok nac.1 nbd.1
    obtain ⟨p3, p4⟩ := plusS_ok nad.1 nbc.1
    obtain ⟨p5, p6⟩ := plusS_ok p1 p3
    obtain ⟨p7, p8⟩ := mulup (y := 4377498837804122112) p5 (by decide) (by decide)
    obtain ⟨p9, p10⟩ := plusS_ok (y := 16) p7 (by unfold Nb; decide)
    refine ⟨p9, fun hf1 hf2 h => ?_⟩
    obtain ⟨q1, _, q2⟩ := p10 h
    obtain ⟨q3, q4⟩ := p8 q1
    obtain ⟨q5, q6, q7⟩ := p6 q3
    obtain ⟨q8, q9, q10⟩ := p2' q5
    obtain ⟨q11, q12, q13⟩ := p4 q6
    rw [ue4_word] at q4
    rw [ut_word] at q2
    rw [fm_fabs rac.notNaN, fm_fabs rbd.notNaN] at q10
    rw [fm_fabs rad.notNaN, fm_fabs rbc.notNaN] at q13
    unfold mulRe mulIm at *
    obtain ⟨f1, f2⟩ := fin_of_sub rac.notNaN rbd.notNaN hf1
    have f3 := fin_fabs' rad.notNaN q11
    have f4 := fin_fabs' rbc.notNaN q12
    have e1 := rac.err f1
    have e2 := rbd.err f2
    have e3 := rad.err f3
    have e4 := rbc.err f4
    have e5 := (fop_sub_rd f1 rac.lt f2 rbd.lt).err hf1
    have e6 := (fop_add_rd f3 rad.lt f4 rbc.lt).err hf2
    have a1 := fm_abs (fop .mul a c)
    have a2 := fm_abs (fop .mul b d)
    have a3 := fm_abs (fop .mul a d)
    have a4 := fm_abs (fop .mul b c)
    generalize fop .mul a c = P at *
    generalize fop .mul b d = Q at *
    generalize fop .mul a d = S at *
    generalize fop .mul b c = T at *
    have r1 := part_err (u := fv a * fv c) (v := -(fv b * fv d)) (P := fv P) (Q := -fv Q) (R := fv (fop .sub P Q)) (A := fm P) (B := fm Q) (C := fm (fop .sub P Q)) e1.1 e1.2 (by grind) (by grind) a1.1 a1.2 a2.2 (by grind) (by grind) (by grind) (fm_or _)
    have r2 := part_err (u := fv a * fv d) (v := fv b * fv c) (P := fv S) (Q := fv T) (R := fv (fop .add S T)) (A := fm S) (B := fm T) (C := fm (fop .add S T)) e3.1 e3.2 e4.1 e4.2 a3.1 a3.2 a4.1 a4.2 (by grind) (by grind) (fm_or _)
    refine (Le.parts (r := (fm P + fm Q) * (4 * ue) + 2 * ut) (s := (fm S + fm T) * (4 * ue) + 2 * ut) (by grind) (by grind) (by grind) (by grind)).mono ?_
    have hu := ue_pos
    have ht := ut_pos
    have s1 := Rat.mul_le_mul_of_nonneg_right (show fm P + fm Q + (fm S + fm T) ≤ _ from Rat.le_trans (by grind) q7) (show 0 ≤ 4 * ue by grind)
    grind
/-- Between two neighbours of w + 1/2 there is no float, where w is great. -/
theorem sticky_up {w : Nat} (hw : 9007199254740992 ≤ w) (E : Int) :
    Nb (Ieee.double.nearest false (2 * w + 1) E) ∧ Nb (fup (Ieee.double.nearest false (2 * w + 1) E)) ∧ (fup (Ieee.double.nearest false (2 * w + 1) E) < 9218868437227405312 → ((2 * (w + 1) : Nat) : Rat) * p2 E ≤ rv (fup (Ieee.double.nearest false (2 * w + 1) E))) := by
  obtain ⟨h1, h2, h3⟩ := mag_up (2 * w + 1) E
  refine ⟨h1, h2, fun h => ?_⟩
  have h4 := h3 h
  obtain ⟨h5, h6⟩ := (fup_nb h1).2 h
  obtain ⟨j, kept, hn, hk, hj, g1, _, _, _, _⟩ := nearest_spec false (m := 2 * w + 1) E (by omega)
  have e : ∀ r, Ieee.double.word false r = r := fun r => by unfold Ieee.Format.word; rw [if_neg (by decide)]
  rw [e] at hn
  have hlt : j * 4503599627370496 + kept < 9218868437227405312 := by omega
  rw [Nat.min_eq_left (by omega)] at hn
  rw [h6, hn] at h4 ⊢
  -- the unit is at least 2 to the power E + 1
  have hEj : E + 1 ≤ -1074 + (j : Int) := by
    refine Decidable.byContradiction fun hlt => ?_
    have u1 : p2 (-1074 + (j : Int)) ≤ p2 E := p2_mono (by omega)
    have u2 : ((kept : Nat) : Rat) ≤ ((9007199254740992 : Nat) : Rat) := by exact_mod_cast hk
    have u3 : ((9007199254740992 : Nat) : Rat) ≤ ((w : Nat) : Rat) := by exact_mod_cast hw
    have e3 : ((9007199254740992 : Nat) : Rat) = 9007199254740992 := rfl
    rw [e3] at u2 u3
    have u4 : 2 * (((2 * w + 1 : Nat) : Rat) * p2 E) ≤ (2 * 9007199254740992 + 1) * p2 E := by
      have := p2_pos (-1074 + (j : Int))
      have v1 := Rat.mul_le_mul_of_nonneg_right (show 2 * (kept : Rat) + 1 ≤ 2 * 9007199254740992 + 1 by grind) (Rat.le_of_lt this)
      have v2 := Rat.mul_le_mul_of_nonneg_left u1 (show (0 : Rat) ≤ 2 * 9007199254740992 + 1 by grind)
      grind
    have u5 : (2 * 9007199254740992 + 1 : Rat) < 2 * ((2 * w + 1 : Nat) : Rat) := by push_cast; grind
    have := Rat.mul_lt_mul_of_pos_right u5 (p2_pos E)
    grind
  have hnext : ∃ c : Nat, rv (j * 4503599627370496 + kept + 1) = (c : Rat) * p2 (-1074 + (j : Int)) := by
    rcases Nat.lt_or_ge kept 9007199254740992 with hh | hh
    · exact ⟨kept + 1, by rw [rv_step hh hj]; push_cast; rfl⟩
    · refine ⟨2 * 4503599627370497, ?_⟩
      have hke : kept = 9007199254740992 := by omega
      have e1 : j * 4503599627370496 + kept + 1 = (j + 1) * 4503599627370496 + 4503599627370497 := by omega
      rw [e1, rv_at (j := j + 1) (kept := 4503599627370497) rfl (by omega) (.inr (by omega))]
      rw [show -1074 + ((j + 1 : Nat) : Int) = -1074 + (j : Int) + 1 by omega, p2_succ, Rat.natCast_mul]
      have e4 : ((2 : Nat) : Rat) = 2 := rfl
      rw [e4]; grind
  obtain ⟨c, hc⟩ := hnext
  rw [hc] at h4 ⊢
  obtain ⟨i, hi⟩ : ∃ i : Nat, -1074 + (j : Int) = E + 1 + i := ⟨(-1074 + (j : Int) - (E + 1)).toNat, by omega⟩
  have hp : p2 (-1074 + (j : Int)) = ((2 ^ i : Nat) : Rat) * (2 * p2 E) := by
    rw [hi, Int.add_comm, p2_add, p2_nat, p2_succ]
  rw [hp] at h4 ⊢
  have hE := p2_pos E
  have h7 : ((2 * w + 1 : Nat) : Rat) ≤ ((2 * (c * 2 ^ i) : Nat) : Rat) := by
    refine Rat.le_of_mul_le_mul_right (c := p2 E) ?_ hE
    rw [Rat.natCast_mul 2, Rat.natCast_mul c]
    have e4 : ((2 : Nat) : Rat) = 2 := rfl
    rw [e4]
    grind
  have h8 : 2 * w + 1 ≤ 2 * (c * 2 ^ i) := by exact_mod_cast h7
  have h9 : ((2 * (w + 1) : Nat) : Rat) ≤ ((2 * (c * 2 ^ i) : Nat) : Rat) := by
    have : 2 * (w + 1) ≤ 2 * (c * 2 ^ i) := by omega
    exact_mod_cast this
  have h10 := Rat.mul_le_mul_of_nonneg_right h9 (Rat.le_of_lt hE)
  refine Rat.le_trans h10 ?_
  rw [Rat.natCast_mul 2, Rat.natCast_mul c]
  have e4 : ((2 : Nat) : Rat) = 2 := rfl
  rw [e4]
  grind
end Go.Fil

/- Quotients, roots and magnitudes rounded up. No program is in sight. -/
namespace Go.Fil
open Go

theorem rat_two : ((2 : Nat) : Rat) = 2 := rfl
theorem nat0 : ((0 : Nat) : Rat) = 0 := rfl
/-- A quotient rounded up. -/
theorem quo_up {x y : Nat} (hx : x < 9218868437227405312) (hy : y < 9218868437227405312) (hy0 : y ≠ 0) :
    Nb (fop .quo x y) ∧ Nb (fup (fop .quo x y)) ∧ (fup (fop .quo x y) < 9218868437227405312 → rv x ≤ rv (fup (fop .quo x y)) * rv y) := by
  obtain ⟨m, i, h1, h2, _⟩ := read_nb hx
  obtain ⟨n, j, h3, h4, _⟩ := read_nb hy
  have hn : n ≠ 0 := by
    rintro rfl
    have := rv_ne hy0
    rw [h4, nat0, Rat.zero_mul] at this
    exact absurd this (by decide)
  obtain ⟨more, hmore⟩ : ∃ more, 54 + n.log2 - m.log2 = more := ⟨_, rfl⟩
  obtain ⟨D, hD⟩ : ∃ D, m * 2 ^ more = D := ⟨_, rfl⟩
  have hq : fop .quo x y = Ieee.double.nearest false (2 * (D / n) + (D % n != 0).toNat) (i - j - more - 1) := by
    have e : fop .quo x y = (Option.map Ieee.double.write ((Ieee.double.read x).quotient (Ieee.double.fractionBits + 2) (Ieee.double.read y))).getD qnan := rfl
    rw [e, h1, h3, fb_double]
    have e2 : (Ieee.Datum.number false m i).quotient 54 (Ieee.Datum.number false n j) = if n = 0 then (if m = 0 then none else some (.infinity false)) else some (.number false (2 * ((m <<< (54 + n.log2 - m.log2)) / n) + ((m <<< (54 + n.log2 - m.log2)) % n != 0).toNat) (i - j - ((54 + n.log2 - m.log2 : Nat) : Int) - 1)) := rfl
    rw [e2, if_neg hn, hmore, Nat.shiftLeft_eq, hD, Option.map_some, Option.getD_some]
    rfl
  have hval : rv x = (D : Rat) * p2 (i - more) := by
    rw [h2, ← hD, Rat.natCast_mul, ← p2_nat, Rat.mul_assoc, ← p2_add]
    congr 2; omega
  have hE : p2 (i - more) = 2 * (p2 (i - j - more - 1) * p2 j) := by
    rw [← p2_add, ← p2_succ]; congr 1; omega
  have hpe := p2_pos (i - j - more - 1)
  have hpj := p2_pos j
  have hnn : (0 : Rat) ≤ (n : Rat) := by exact_mod_cast Nat.zero_le n
  have hdm := Nat.div_add_mod D n
  rw [hq]
  by_cases h0 : D % n = 0
  · have e0 : (D % n != 0).toNat = 0 := by rw [h0]; rfl
    rw [e0, Nat.add_zero]
    obtain ⟨g1, g2, g3⟩ := mag_up (2 * (D / n)) (i - j - more - 1)
    refine ⟨g1, g2, fun h => ?_⟩
    have g4 := g3 h
    rw [h4, hval, hE]
    have hDn : (D : Rat) = ((D / n : Nat) : Rat) * (n : Rat) := by
      have : D = D / n * n := by rw [h0] at hdm; rw [Nat.mul_comm]; omega
      exact_mod_cast this
    rw [hDn]
    have g5 := Rat.mul_le_mul_of_nonneg_right g4 (Rat.mul_nonneg hnn (Rat.le_of_lt hpj))
    rw [Rat.natCast_mul, rat_two] at g5
    grind
  · have e0 : (D % n != 0).toNat = 1 := by
      have : (D % n != 0) = true := by simpa using h0
      rw [this]; rfl
    rw [e0]
    have hm0 : m ≠ 0 := by
      rintro rfl
      rw [Nat.zero_mul] at hD
      rw [← hD, Nat.zero_mod] at h0
      exact h0 rfl
    have hw : 9007199254740992 ≤ D / n := by
      rw [Nat.le_div_iff_mul_le (by omega)]
      have l1 : 2 ^ m.log2 ≤ m := Nat.log2_self_le hm0
      have l2 : n < 2 ^ (n.log2 + 1) := Nat.lt_log2_self
      have l3 : 2 ^ m.log2 * 2 ^ more ≤ m * 2 ^ more := Nat.mul_le_mul_right _ l1
      rw [hD, ← Nat.pow_add] at l3
      have l4 : 2 ^ (53 + (n.log2 + 1)) ≤ 2 ^ (m.log2 + more) := Nat.pow_le_pow_right (by decide) (by omega)
      rw [Nat.pow_add 2 53] at l4
      have l5 : 9007199254740992 * n ≤ 2 ^ 53 * 2 ^ (n.log2 + 1) := Nat.mul_le_mul (by decide) (Nat.le_of_lt l2)
      exact Nat.le_trans l5 (Nat.le_trans l4 l3)
    obtain ⟨g1, g2, g3⟩ := sticky_up hw (i - j - more - 1)
    refine ⟨g1, g2, fun h => ?_⟩
    have g4 := g3 h
    rw [h4, hval, hE]
    have hDn : (D : Rat) ≤ ((D / n + 1 : Nat) : Rat) * (n : Rat) := by
      have : D ≤ (D / n + 1) * n := by
        have := Nat.mod_lt D (show 0 < n by omega)
        rw [Nat.add_mul, Nat.mul_comm]; omega
      exact_mod_cast this
    have g5 := Rat.mul_le_mul_of_nonneg_right g4 (Rat.mul_nonneg hnn (Rat.le_of_lt hpj))
    rw [Rat.natCast_mul, rat_two] at g5
    have g6 := Rat.mul_le_mul_of_nonneg_right hDn (show 0 ≤ 2 * (p2 (i - j - more - 1) * p2 j) by have := Rat.mul_nonneg (Rat.le_of_lt hpe) (Rat.le_of_lt hpj); grind)
    grind
/-- The whole root. -/
theorem rootFrom_spec (n : Nat) : ∀ todo root, root * root ≤ n → n < (root + 2 ^ todo) * (root + 2 ^ todo) → Ieee.Datum.rootFrom n todo root * Ieee.Datum.rootFrom n todo root ≤ n ∧ n < (Ieee.Datum.rootFrom n todo root + 1) * (Ieee.Datum.rootFrom n todo root + 1) := by
  intro todo
  induction todo with
  | zero => intro root h1 h2; exact ⟨h1, by simpa [Ieee.Datum.rootFrom] using h2⟩
  | succ k ih =>
    intro root h1 h2
    rw [Ieee.Datum.rootFrom]
    rw [Nat.shiftLeft_eq, Nat.one_mul]
    by_cases h : (root + 2 ^ k) * (root + 2 ^ k) ≤ n
    · rw [if_pos h]
      refine ih _ h ?_
      rw [Nat.add_assoc, ← Nat.mul_two, ← Nat.pow_succ]; exact h2
    · rw [if_neg h]
      exact ih _ h1 (by omega)
theorem fsqrt_inf : fsqrt 9218868437227405312 = 9218868437227405312 := by
  have e : fsqrt 9218868437227405312 = (Option.map Ieee.double.write ((Ieee.double.read 9218868437227405312).root (Ieee.double.fractionBits + 2))).getD qnan := rfl
  rw [e, read_inf]
  have e2 : (Ieee.Datum.infinity false).root (Ieee.double.fractionBits + 2) = some (.infinity false) := rfl
  rw [e2, Option.map_some, Option.getD_some]; exact write_inf
/-- A root rounded up. -/
theorem sqrt_up {x : Nat} (hx : Nb x) : Nb (fsqrt x) ∧ Nb (fup (fsqrt x)) ∧ (fup (fsqrt x) < 9218868437227405312 → x < 9218868437227405312 ∧ rv x ≤ rv (fup (fsqrt x)) * rv (fup (fsqrt x))) := by
  rcases inf_case hx with hlt | hinf
  · obtain ⟨m, i, h1, h2, _⟩ := read_nb hlt
    have e : fsqrt x = (Option.map Ieee.double.write ((Ieee.double.read x).root (Ieee.double.fractionBits + 2))).getD qnan := rfl
    by_cases hm : m = 0
    · have e2 : fsqrt x = Ieee.double.nearest false 0 i := by
        rw [e, h1, hm, fb_double]; rfl
      rw [e2]
      obtain ⟨g1, g2, _⟩ := mag_up 0 i
      refine ⟨g1, g2, fun h => ⟨hlt, ?_⟩⟩
      rw [h2, hm, nat0, Rat.zero_mul]
      exact Rat.mul_nonneg (rv_nonneg _) (rv_nonneg _)
    · obtain ⟨m0, hm0⟩ : ∃ m0, 2 * 54 - m.log2 = m0 := ⟨_, rfl⟩
      obtain ⟨more, hmore⟩ : ∃ more, m0 + ((i - (m0 : Int)) % 2).toNat = more := ⟨_, rfl⟩
      obtain ⟨n, hn⟩ : ∃ n, m * 2 ^ more = n := ⟨_, rfl⟩
      obtain ⟨w, hw⟩ : ∃ w, Ieee.Datum.rootFrom n (n.log2 / 2 + 1) 0 = w := ⟨_, rfl⟩
      obtain ⟨h, hh⟩ : ∃ h : Int, (i - more) / 2 = h := ⟨_, rfl⟩
      have e2 : fsqrt x = Ieee.double.nearest false (2 * w + (w * w != n).toNat) (h - 1) := by
        have e3 : (Ieee.Datum.number false m i).root 54 = if m = 0 then some (.number false m i) else if false = true then none else
            some (.number false (2 * Ieee.Datum.rootFrom (m <<< (2 * 54 - m.log2 + ((i - ((2 * 54 - m.log2 : Nat) : Int)) % 2).toNat)) ((m <<< (2 * 54 - m.log2 + ((i - ((2 * 54 - m.log2 : Nat) : Int)) % 2).toNat)).log2 / 2 + 1) 0 + (Ieee.Datum.rootFrom (m <<< (2 * 54 - m.log2 + ((i - ((2 * 54 - m.log2 : Nat) : Int)) % 2).toNat)) ((m <<< (2 * 54 - m.log2 + ((i - ((2 * 54 - m.log2 : Nat) : Int)) % 2).toNat)).log2 / 2 + 1) 0 * Ieee.Datum.rootFrom (m <<< (2 * 54 - m.log2 + ((i - ((2 * 54 - m.log2 : Nat) : Int)) % 2).toNat)) ((m <<< (2 * 54 - m.log2 + ((i - ((2 * 54 - m.log2 : Nat) : Int)) % 2).toNat)).log2 / 2 + 1) 0 != m <<< (2 * 54 - m.log2 + ((i - ((2 * 54 - m.log2 : Nat) : Int)) % 2).toNat)).toNat) ((i - ((2 * 54 - m.log2 + ((i - ((2 * 54 - m.log2 : Nat) : Int)) % 2).toNat : Nat) : Int)) / 2 - 1)) := rfl
        rw [e, h1, fb_double, e3, if_neg hm, if_neg (by decide), hm0, hmore, Nat.shiftLeft_eq, hn, hw, hh, Option.map_some, Option.getD_some]
        rfl
      have hih : i = (more : Int) + (h + h) := by omega
      have hval : rv x = (n : Rat) * (p2 h * p2 h) := by
        rw [h2, ← hn, Rat.natCast_mul, ← p2_nat, ← p2_add, Rat.mul_assoc, ← p2_add, ← hih]
      have hlog : n < (0 + 2 ^ (n.log2 / 2 + 1)) * (0 + 2 ^ (n.log2 / 2 + 1)) := by
        rw [Nat.zero_add, ← Nat.pow_add]
        exact Nat.lt_of_lt_of_le Nat.lt_log2_self (Nat.pow_le_pow_right (by decide) (by omega))
      obtain ⟨r1, r2⟩ := rootFrom_spec n (n.log2 / 2 + 1) 0 (by omega) hlog
      rw [hw] at r1 r2
      have hph : p2 h = 2 * p2 (h - 1) := by rw [← p2_succ]; congr 1; omega
      have hp0 := p2_pos h
      have hw0 : (0 : Rat) ≤ (w : Rat) := by exact_mod_cast Nat.zero_le w
      rw [e2]
      by_cases hww : w * w = n
      · have e0 : (w * w != n).toNat = 0 := by rw [hww]; simp
        rw [e0, Nat.add_zero]
        obtain ⟨g1, g2, g3⟩ := mag_up (2 * w) (h - 1)
        refine ⟨g1, g2, fun hf => ⟨hlt, ?_⟩⟩
        have g4 := g3 hf
        rw [Rat.natCast_mul, rat_two] at g4
        have g5 : (w : Rat) * p2 h ≤ rv (fup (Ieee.double.nearest false (2 * w) (h - 1))) := by rw [hph]; grind
        have g6 := sq_mono (Rat.mul_nonneg hw0 (Rat.le_of_lt hp0)) g5
        rw [hval, ← hww, Rat.natCast_mul]
        grind
      · have e0 : (w * w != n).toNat = 1 := by
          have : (w * w != n) = true := by simpa using hww
          rw [this]; rfl
        rw [e0]
        have hwb : 9007199254740992 ≤ w := by
          have l1 : 2 ^ m.log2 ≤ m := Nat.log2_self_le hm
          have l3 : 2 ^ m.log2 * 2 ^ more ≤ m * 2 ^ more := Nat.mul_le_mul_right _ l1
          rw [hn, ← Nat.pow_add] at l3
          have l4 : 2 ^ 108 ≤ 2 ^ (m.log2 + more) := Nat.pow_le_pow_right (by decide) (by omega)
          refine Decidable.byContradiction fun hlt => ?_
          have l5 : (w + 1) * (w + 1) ≤ 9007199254740992 * 9007199254740992 := Nat.mul_le_mul (by omega) (by omega)
          have l6 : (9007199254740992 * 9007199254740992 : Nat) ≤ 2 ^ 108 := by decide
          omega
        obtain ⟨g1, g2, g3⟩ := sticky_up hwb (h - 1)
        refine ⟨g1, g2, fun hf => ⟨hlt, ?_⟩⟩
        have g4 := g3 hf
        rw [Rat.natCast_mul, rat_two] at g4
        have hw1 : (0 : Rat) ≤ ((w + 1 : Nat) : Rat) := by exact_mod_cast Nat.zero_le _
        have g5 : ((w + 1 : Nat) : Rat) * p2 h ≤ rv (fup (Ieee.double.nearest false (2 * w + 1) (h - 1))) := by rw [hph]; grind
        have g6 := sq_mono (Rat.mul_nonneg hw1 (Rat.le_of_lt hp0)) g5
        have g7 : (n : Rat) ≤ ((w + 1 : Nat) : Rat) * ((w + 1 : Nat) : Rat) := by
          have : n ≤ (w + 1) * (w + 1) := by omega
          exact_mod_cast this
        have g8 := Rat.mul_le_mul_of_nonneg_right g7 (Rat.mul_nonneg (Rat.le_of_lt hp0) (Rat.le_of_lt hp0))
        rw [hval]
        grind
  · rw [hinf, fsqrt_inf]
    have := fup_nb (z := 9218868437227405312) (Nat.le_refl _)
    exact ⟨Nat.le_refl _, this.1, fun h => absurd (this.2 h).1 (Nat.lt_irrefl _)⟩
theorem rv_one : rv 4607182418800017408 = 1 := by
  rw [rv_at (j := 1022) (kept := 4503599627370496) (by decide) (by decide) (.inr (Nat.le_refl _))]
  have : ((4503599627370496 : Nat) : Rat) = p2 52 := by rw [show (52 : Int) = ((52 : Nat) : Int) from rfl, p2_nat]
  rw [this, ← p2_add]
  exact p2_zero
/-- A sum rounded up. -/
theorem addup {x y : Nat} (hx : Nb x) (hy : y < 9218868437227405312) : Nb (fup (fop .add y x)) ∧ (fup (fop .add y x) < 9218868437227405312 → x < 9218868437227405312 ∧ rv y + rv x ≤ rv (fup (fop .add y x))) := by
  rcases inf_case hx with h1 | h1
  · obtain ⟨m, p, h3, h4⟩ := add_nb hy h1
    rw [h3, h4]
    obtain ⟨_, h5, h6⟩ := mag_up m p
    exact ⟨h5, fun h => ⟨h1, h6 h⟩⟩
  · rw [inf_add (Nat.le_of_lt hy) hx (.inr h1)]
    have := fup_nb (z := 9218868437227405312) (Nat.le_refl _)
    exact ⟨this.1, fun h => absurd (this.2 h).1 (Nat.lt_irrefl _)⟩
/-- cplx.reach, rounded up. -/
theorem reachUp_ok {p q : Nat} (hp : p < 9218868437227405312) (hp0 : p ≠ 0) (hq : q < 9218868437227405312) :
    Nb (reachUp p q) ∧ (reachUp p q < 9218868437227405312 → rv p * rv p + rv q * rv q ≤ rv (reachUp p q) * rv (reachUp p q)) := by
  unfold reachUp
  dsimp only
  obtain ⟨_, t1, t2⟩ := quo_up hq hp hp0
  generalize fup (fop .quo q p) = t at *
  -- t squared
  have hu : Nb (fup (fop .mul t t)) ∧ (fup (fop .mul t t) < 9218868437227405312 → t < 9218868437227405312 ∧ rv t * rv t ≤ rv (fup (fop .mul t t))) := by
    rcases inf_case t1 with h1 | h1
    · obtain ⟨m, e, h3, h4⟩ := mul_nb h1 h1
      rw [h3, h4]
      obtain ⟨_, h5, h6⟩ := mag_up m e
      exact ⟨h5, fun h => ⟨h1, h6 h⟩⟩
    · rw [inf_mul t1 t1 (by rw [h1]; decide) (by rw [h1]; decide) (.inl h1)]
      have := fup_nb (z := 9218868437227405312) (Nat.le_refl _)
      exact ⟨this.1, fun h => absurd (this.2 h).1 (Nat.lt_irrefl _)⟩
  obtain ⟨u1, u2⟩ := hu
  generalize fup (fop .mul t t) = u at *
  obtain ⟨s1, s2⟩ := addup (y := fone) u1 (by decide)
  have h1 : rv fone = 1 := rv_one
  rw [h1] at s2
  generalize fup (fop .add fone u) = s at *
  obtain ⟨_, g1, g2⟩ := sqrt_up s1
  generalize fup (fsqrt s) = g at *
  have hr : Nb (fup (fop .mul p g)) ∧ (fup (fop .mul p g) < 9218868437227405312 → g < 9218868437227405312 ∧ rv p * rv g ≤ rv (fup (fop .mul p g))) := by
    rcases inf_case g1 with h1 | h1
    · obtain ⟨m, e, h3, h4⟩ := mul_nb hp h1
      rw [h3, h4]
      obtain ⟨_, h5, h6⟩ := mag_up m e
      exact ⟨h5, fun h => ⟨h1, h6 h⟩⟩
    · rw [inf_mul (Nat.le_of_lt hp) g1 hp0 (by rw [h1]; decide) (.inr h1)]
      have := fup_nb (z := 9218868437227405312) (Nat.le_refl _)
      exact ⟨this.1, fun h => absurd (this.2 h).1 (Nat.lt_irrefl _)⟩
  obtain ⟨r1, r2⟩ := hr
  refine ⟨r1, fun h => ?_⟩
  obtain ⟨a1, a2⟩ := r2 h
  obtain ⟨a3, a4⟩ := g2 a1
  obtain ⟨a5, a6⟩ := s2 a3
  obtain ⟨a7, a8⟩ := u2 a5
  have a9 := t2 a7
  have b1 := sq_mono (Rat.mul_nonneg (rv_nonneg p) (rv_nonneg g)) a2
  have b2 := sq_mono (rv_nonneg q) a9
  have b3 := Rat.mul_le_mul_of_nonneg_left (show 1 + rv t * rv t ≤ rv g * rv g by grind) (sq_nn (rv p))
  grind
/-- cplx.Hi. -/
theorem hiS_ok {a b : Nat} (ha : fin a = true) (hb : fin b = true) :
    Nb (hiS a b) ∧ (hiS a b < 9218868437227405312 → Le ⟨fv a, fv b⟩ (rv (hiS a b))) := by
  have na := fabs_nb (not_nan_of_fin ha)
  have nb := fabs_nb (not_nan_of_fin hb)
  have la := fin_nb na.1 (fin_fabs ha)
  have lb := fin_nb nb.1 (fin_fabs hb)
  have ea := fm_fabs (not_nan_of_fin ha)
  have eb := fm_fabs (not_nan_of_fin hb)
  have sa := fm_sq a
  have sb := fm_sq b
  have hpq : ∃ P Q, sizeP a b = P ∧ sizeQ a b = Q ∧ P < 9218868437227405312 ∧ Q < 9218868437227405312 ∧ rv Q ≤ rv P ∧ fv a * fv a + fv b * fv b = rv P * rv P + rv Q * rv Q := by
    have hf := flt_fv (fin_fabs ha) (by omega) (fin_fabs hb) (by omega)
    rw [nb_fv na.1, nb_fv nb.1] at hf
    unfold sizeP sizeQ
    rw [hf]
    by_cases h : rv (fabs a) < rv (fabs b)
    · rw [decide_eq_true h, if_pos rfl, if_pos rfl]
      exact ⟨_, _, rfl, rfl, lb, la, Rat.le_of_lt h, by rw [ea, eb, sa, sb]; grind⟩
    · rw [decide_eq_false h, if_neg (by decide), if_neg (by decide)]
      exact ⟨_, _, rfl, rfl, la, lb, Rat.not_lt.1 h, by rw [ea, eb, sa, sb]⟩
  obtain ⟨P, Q, hP, hQ, lP, lQ, hle, hsum⟩ := hpq
  unfold hiS
  rw [cfin_of ha hb, if_pos rfl, hP, hQ, feq_nb (Nat.le_of_lt lQ)]
  by_cases h0 : Q = 0
  · rw [decide_eq_true h0, if_pos rfl]
    refine ⟨Nat.le_of_lt lP, fun _ => ⟨rv_nonneg _, ?_⟩⟩
    show fv a * fv a + fv b * fv b ≤ _
    rw [hsum, h0, rv_zero]; grind
  · rw [decide_eq_false h0, if_neg (by decide)]
    have hP0 : P ≠ 0 := by
      rintro rfl
      rw [rv_zero] at hle
      have := rv_ne h0
      grind
    obtain ⟨g1, g2⟩ := reachUp_ok lP hP0 lQ
    refine ⟨g1, fun h => ⟨rv_nonneg _, ?_⟩⟩
    show fv a * fv a + fv b * fv b ≤ _
    rw [hsum]; exact g2 h
end Go.Fil

/- Balls reckoned by floats hold what they should hold, exactly: sums, products, polynomials. No program is in sight. -/
namespace Go.Fil
open Go

theorem order_inf_max : (FloatKind.f64.format.order 9218868437227405312 9218868437227405311 == some .gt) = true := by decide
theorem infB_inf {x : Nat} (h : x % 9223372036854775808 = 9218868437227405312) : infB x = true := by
  have hn : isNaN x = false := by unfold isNaN; simp; omega
  unfold infB fabs
  rw [hn, if_neg (by decide), h]
  exact order_inf_max
theorem fin_or (x : Nat) : fin x = true ∨ isNaN x = true ∨ x % 9223372036854775808 = 9218868437227405312 := by
  unfold fin isNaN
  simp only [decide_eq_true_eq]
  omega
theorem cfin_inv {a b : Nat} (h : cfin a b = true) : fin a = true ∧ fin b = true := by
  unfold cfin kindS at h
  constructor
  · rcases fin_or a with h1 | h1 | h1
    · exact h1
    · exfalso
      rw [h1] at h
      cases hb : infB a <;> cases hb' : infB b <;> simp [hb, hb'] at h
    · exfalso
      rw [infB_inf h1] at h
      simp at h
  · rcases fin_or b with h1 | h1 | h1
    · exact h1
    · exfalso
      rw [h1, Bool.or_true] at h
      cases hb : infB a <;> cases hb' : infB b <;> simp [hb, hb'] at h
    · exfalso
      rw [infB_inf h1, Bool.or_true] at h
      simp at h
theorem finB_inv {x : Nat} (h : finB x = true) : fin x = true := by
  unfold finB at h
  cases hn : isNaN (fop .sub x x)
  · have hx : isNaN x = false := by
      cases hx : isNaN x
      · rfl
      · unfold fop at hn
        rw [floatBits_nan_l _ _ hx] at hn
        exact absurd hn (by decide)
    rcases fin_or (fop .sub x x) with h1 | h1 | h1
    · exact (fin_of_sub hx hx h1).1
    · rw [hn] at h1; exact absurd h1 (by decide)
    · exfalso
      have hl := fop_lt .sub x x
      have : fop .sub x x = 9218868437227405312 ∨ fop .sub x x = 18442240474082181120 := by omega
      rcases this with h2 | h2 <;> rw [h2] at h <;> revert h <;> decide
  · rw [order_nan_l _ hn] at h
    exact absurd h (by decide)
theorem wholeS_whole : isWholeS wholeS = true := by decide

structure HBd (B : Bl) (x : Qi) : Prop where
  f1 : fin B.1 = true
  l1 : B.1 < 18446744073709551616
  f2 : fin B.2.1 = true
  l2 : B.2.1 < 18446744073709551616
  fr : B.2.2 < 9218868437227405312
  le : Le (qsub x ⟨fv B.1, fv B.2.1⟩) (rv B.2.2)
/-- The ball holds the number. -/
def HB (B : Bl) (x : Qi) : Prop := isWholeS B = false → HBd B x
theorem HB.whole (x : Qi) : HB wholeS x := fun h => absurd h (by rw [wholeS_whole]; decide)
theorem HB.told {a b r : Nat} {x : Qi} (ha : a < 18446744073709551616) (hb : b < 18446744073709551616) (hr : Nb r) (h : fin a = true → fin b = true → r < 9218868437227405312 → Le (qsub x ⟨fv a, fv b⟩) (rv r)) : HB (toldS a b r) x := by
  unfold toldS
  by_cases hc : (cfin a b && finB r) = true
  · rw [if_pos hc]
    rw [Bool.and_eq_true] at hc
    obtain ⟨h1, h2⟩ := cfin_inv hc.1
    have h3 := fin_nb hr (finB_inv hc.2)
    exact fun _ => ⟨h1, ha, h2, hb, h3, h h1 h2 h3⟩
  · rw [if_neg hc]
    exact HB.whole x
theorem HB.point {a b : Nat} (ha : a < 18446744073709551616) (hb : b < 18446744073709551616) : HB (pointS a b) ⟨fv a, fv b⟩ := by
  unfold pointS
  refine HB.told ha hb (by unfold Nb; decide) fun _ _ _ => ?_
  have e : qsub ⟨fv a, fv b⟩ ⟨fv a, fv b⟩ = q0 := by apply Qi.ext' <;> simp only [qsub, q0] <;> grind
  rw [e]; exact Le.zero (rv_nonneg _)
/-- The other sign. -/
theorem neg_word {x : Nat} (hx : x < 18446744073709551616) (h : isNaN x = false) : fneg x = if x < 9223372036854775808 then x + 9223372036854775808 else x - 9223372036854775808 := by
  unfold fneg
  rw [h, if_neg (by decide)]
  show x ^^^ 2 ^ 63 = _
  have h1 : (x ^^^ 2 ^ 63) % 2 ^ 63 = x % 2 ^ 63 := by rw [Nat.xor_mod_two_pow]; simp
  have h2 : (x ^^^ 2 ^ 63) / 2 ^ 63 = (x / 2 ^ 63) ^^^ 1 := by
    rw [Nat.xor_div_two_pow, Nat.div_self (by decide)]
  have h3 : x / 2 ^ 63 = 0 ∨ x / 2 ^ 63 = 1 := by omega
  have h4 := Nat.div_add_mod (x ^^^ 2 ^ 63) (2 ^ 63)
  rw [h1, h2] at h4
  rw [← h4]
  rcases h3 with h3 | h3 <;> rw [h3]
  · rw [if_pos (by omega)]
    show 2 ^ 63 * 1 + x % 2 ^ 63 = _
    omega
  · rw [if_neg (by omega)]
    show 2 ^ 63 * 0 + x % 2 ^ 63 = _
    omega
theorem fneg_ok {x : Nat} (hx : x < 18446744073709551616) (h : fin x = true) : fneg x < 18446744073709551616 ∧ fin (fneg x) = true ∧ fv (fneg x) = -fv x := by
  rw [neg_word hx (not_nan_of_fin h)]
  have h0 := mod_fin h
  by_cases hlt : x < 9223372036854775808
  · rw [if_pos hlt]
    refine ⟨by omega, by unfold fin; simp; omega, ?_⟩
    unfold fv
    rw [show (x + 9223372036854775808) % 9223372036854775808 = x % 9223372036854775808 by omega, decide_eq_true (by omega), decide_eq_false (by omega)]
    unfold neg1
    rw [if_pos rfl, if_neg (by decide)]; grind
  · rw [if_neg hlt]
    refine ⟨by omega, by unfold fin; simp; omega, ?_⟩
    unfold fv
    rw [show (x - 9223372036854775808) % 9223372036854775808 = x % 9223372036854775808 by omega, decide_eq_false (by omega), decide_eq_true (by omega)]
    unfold neg1
    rw [if_pos rfl, if_neg (by decide)]; grind
theorem fop_sub_neg {a c : Nat} (hc : fin c = true) (hcl : c < 18446744073709551616) : fop .sub a c = fop .add a (fneg c) := by
  have e1 : fop .sub a c = (Option.map Ieee.double.write ((Ieee.double.read a).sum (Ieee.double.read c).opposite)).getD qnan := rfl
  have e2 : fop .add a (fneg c) = (Option.map Ieee.double.write ((Ieee.double.read a).sum (Ieee.double.read (fneg c)))).getD qnan := rfl
  rw [e1, e2]
  obtain ⟨m, j, h1, _, h2, h3, h4, h5⟩ := read_fv hc hcl
  have hn := fneg_ok hcl hc
  obtain ⟨m', j', h1', _, h2', h3', h4', h5'⟩ := read_fv hn.2.1 hn.1
  have hm : fneg c % 9223372036854775808 = c % 9223372036854775808 := by
    rw [neg_word hcl (not_nan_of_fin hc)]
    split <;> omega
  have hs : decide (9223372036854775808 ≤ fneg c) = !decide (9223372036854775808 ≤ c) := by
    rw [neg_word hcl (not_nan_of_fin hc)]
    by_cases hlt : c < 9223372036854775808
    · rw [if_pos hlt, decide_eq_true (by omega), decide_eq_false (by omega)]; rfl
    · rw [if_neg hlt, decide_eq_false (by omega), decide_eq_true (by omega)]; rfl
  have hj : j' = j ∧ m' = m := by omega
  rw [h1', h1, hs, hj.1, hj.2]
  rfl
theorem HB.neg {A : Bl} {x : Qi} (h : HB A x) : HB (negS A) (qneg x) := by
  unfold negS
  by_cases hw : isWholeS A = true
  · rw [if_pos hw]; exact HB.whole _
  · rw [if_neg hw]
    obtain ⟨f1, l1, f2, l2, fr, le⟩ := h (by simpa using hw)
    obtain ⟨a1, a2, a3⟩ := fneg_ok l1 f1
    obtain ⟨b1, b2, b3⟩ := fneg_ok l2 f2
    refine fun _ => ⟨a2, a1, b2, b1, fr, ?_⟩
    dsimp only
    rw [a3, b3]
    have e : qsub (qneg x) ⟨-fv A.1, -fv A.2.1⟩ = qneg (qsub x ⟨fv A.1, fv A.2.1⟩) := by apply Qi.ext' <;> simp only [qsub, qneg] <;> grind
    rw [e]; exact le.neg
theorem not_or {a b : Bool} (h : ¬ (a || b) = true) : a = false ∧ b = false := by cases a <;> cases b <;> simp_all
theorem HB.add {A B : Bl} {x y : Qi} (hA : HB A x) (hB : HB B y) : HB (addS A B) (qadd x y) := by
  unfold addS
  by_cases hw : (isWholeS A || isWholeS B) = true
  · rw [if_pos hw]; exact HB.whole _
  · rw [if_neg hw]
    obtain ⟨w1, w2⟩ := not_or hw
    obtain ⟨f1, l1, f2, l2, fr, le⟩ := hA w1
    obtain ⟨g1, k1, g2, k2, gr, le'⟩ := hB w2
    obtain ⟨p1, p2'⟩ := plusS_ok (Nat.le_of_lt fr) (Nat.le_of_lt gr)
    obtain ⟨b1, b2⟩ := lostBothS_ok f1 l1 f2 l2 g1 k1 g2 k2
    obtain ⟨r1, r2⟩ := plusS_ok p1 b1
    refine HB.told (fop_lt _ _ _) (fop_lt _ _ _) r1 fun h1 h2 h3 => ?_
    obtain ⟨q1, q2, q3⟩ := r2 h3
    obtain ⟨_, _, q4⟩ := p2' q1
    have q5 := b2 h1 h2 q2
    have e : qsub (qadd x y) ⟨fv (fop .add A.1 B.1), fv (fop .add A.2.1 B.2.1)⟩ = qadd (qadd (qsub x ⟨fv A.1, fv A.2.1⟩) (qsub y ⟨fv B.1, fv B.2.1⟩)) ⟨fv A.1 + fv B.1 - fv (fop .add A.1 B.1), fv A.2.1 + fv B.2.1 - fv (fop .add A.2.1 B.2.1)⟩ := by
      apply Qi.ext' <;> simp only [qsub, qadd] <;> grind
    rw [e]
    exact ((le.add le').add q5).mono (by grind)
theorem HB.sub {A B : Bl} {x y : Qi} (hA : HB A x) (hB : HB B y) : HB (subS A B) (qsub x y) := by
  unfold subS
  by_cases hw : (isWholeS A || isWholeS B) = true
  · rw [if_pos hw]; exact HB.whole _
  · rw [if_neg hw]
    obtain ⟨w1, w2⟩ := not_or hw
    obtain ⟨f1, l1, f2, l2, fr, le⟩ := hA w1
    obtain ⟨g1, k1, g2, k2, gr, le'⟩ := hB w2
    obtain ⟨n1, n2, n3⟩ := fneg_ok k1 g1
    obtain ⟨n4, n5, n6⟩ := fneg_ok k2 g2
    obtain ⟨p1, p2'⟩ := plusS_ok (Nat.le_of_lt fr) (Nat.le_of_lt gr)
    obtain ⟨b1, b2⟩ := lostBothS_ok f1 l1 f2 l2 n2 n1 n5 n4
    obtain ⟨r1, r2⟩ := plusS_ok p1 b1
    refine HB.told (fop_lt _ _ _) (fop_lt _ _ _) r1 fun h1 h2 h3 => ?_
    obtain ⟨q1, q2, q3⟩ := r2 h3
    obtain ⟨_, _, q4⟩ := p2' q1
    rw [fop_sub_neg g1 k1] at h1 ⊢
    rw [fop_sub_neg g2 k2] at h2 ⊢
    have q5 := b2 h1 h2 q2
    rw [n3, n6] at q5
    have e : qsub (qsub x y) ⟨fv (fop .add A.1 (fneg B.1)), fv (fop .add A.2.1 (fneg B.2.1))⟩ = qadd (qsub (qsub x ⟨fv A.1, fv A.2.1⟩) (qsub y ⟨fv B.1, fv B.2.1⟩)) ⟨fv A.1 + -fv B.1 - fv (fop .add A.1 (fneg B.1)), fv A.2.1 + -fv B.2.1 - fv (fop .add A.2.1 (fneg B.2.1))⟩ := by
      apply Qi.ext' <;> simp only [qsub, qadd] <;> grind
    rw [e]
    exact ((le.sub le').add q5).mono (by grind)
theorem Le.nul {a : Qi} (h : Le a 0) : a = q0 := nsq_zero (by have := nsq_nn a; have := h.2; grind)
/-- A magnitude's bound times a radius. -/
theorem times_le {h r : Nat} {z u : Qi} (hh : Nb h) (hz : h < 9218868437227405312 → Le z (rv h)) (hr : r < 9218868437227405312) (hu : Le u (rv r)) (ht : timesS h r < 9218868437227405312) : Le (qmul z u) (rv (timesS h r)) := by
  obtain ⟨_, h2⟩ := timesS_ok hh (Nat.le_of_lt hr)
  obtain ⟨h3, h4⟩ := h2 ht
  rcases inf_case hh with h5 | h5
  · exact ((hz h5).mul hu).mono h4
  · have h6 : r = 0 := by
      subst h5
      rcases h3 with h3 | h3 | h3
      · exact absurd h3 (by decide)
      · exact h3
      · exact absurd h3.1 (Nat.lt_irrefl _)
    rw [h6, rv_zero] at hu
    rw [hu.nul]
    have e : qmul z q0 = q0 := by apply Qi.ext' <;> simp only [qmul, q0] <;> grind
    rw [e]; exact Le.zero (rv_nonneg _)
theorem HB.mul {A B : Bl} {x y : Qi} (hA : HB A x) (hB : HB B y) : HB (mulS A B) (qmul x y) := by
  unfold mulS
  by_cases hw : (isWholeS A || isWholeS B) = true
  · rw [if_pos hw]; exact HB.whole _
  · rw [if_neg hw]
    obtain ⟨w1, w2⟩ := not_or hw
    obtain ⟨f1, l1, f2, l2, fr, le⟩ := hA w1
    obtain ⟨g1, k1, g2, k2, gr, le'⟩ := hB w2
    obtain ⟨i1, i2⟩ := hiS_ok f1 f2
    obtain ⟨i3, i4⟩ := hiS_ok g1 g2
    have t1 := timesS_ok i1 (Nat.le_of_lt gr)
    have t2 := timesS_ok i3 (Nat.le_of_lt fr)
    have t3 := timesS_ok (Nat.le_of_lt fr) (Nat.le_of_lt gr)
    obtain ⟨s1, s2⟩ := spoiltS_ok f1 l1 f2 l2 g1 k1 g2 k2
    obtain ⟨u1, u2⟩ := plusS_ok t1.1 t2.1
    obtain ⟨u3, u4⟩ := plusS_ok t3.1 s1
    obtain ⟨u5, u6⟩ := plusS_ok u1 u3
    refine HB.told (fop_lt _ _ _) (fop_lt _ _ _) u5 fun h1 h2 h3 => ?_
    obtain ⟨v1, v2, v3⟩ := u6 h3
    obtain ⟨v4, v5, v6⟩ := u2 v1
    obtain ⟨v7, v8, v9⟩ := u4 v2
    have c1 := times_le i1 i2 gr le' v4
    have c2 := times_le i3 i4 fr le v5
    have c3 := (le.mul le').mono (t3.2 v7).2
    have c4 := s2 h1 h2 v8
    have e : qsub (qmul x y) ⟨fv (mulRe A.1 A.2.1 B.1 B.2.1), fv (mulIm A.1 A.2.1 B.1 B.2.1)⟩ =
        qadd (qadd (qmul ⟨fv A.1, fv A.2.1⟩ (qsub y ⟨fv B.1, fv B.2.1⟩)) (qmul ⟨fv B.1, fv B.2.1⟩ (qsub x ⟨fv A.1, fv A.2.1⟩)))
          (qadd (qmul (qsub x ⟨fv A.1, fv A.2.1⟩) (qsub y ⟨fv B.1, fv B.2.1⟩)) ⟨fv A.1 * fv B.1 - fv A.2.1 * fv B.2.1 - fv (mulRe A.1 A.2.1 B.1 B.2.1), fv A.1 * fv B.2.1 + fv A.2.1 * fv B.1 - fv (mulIm A.1 A.2.1 B.1 B.2.1)⟩) := by
      apply Qi.ext' <;> simp only [qsub, qadd, qmul] <;> grind
    rw [e]
    exact ((c1.add c2).add (c3.add c4)).mono (by grind)
/-- ball.Hi. -/
theorem bhiS_ok {A : Bl} {x : Qi} (h : HB A x) : Nb (bhiS A) ∧ (bhiS A < 9218868437227405312 → Le x (rv (bhiS A))) := by
  unfold bhiS
  by_cases hw : isWholeS A = true
  · rw [if_pos hw]
    exact ⟨Nat.le_refl _, fun h => absurd h (Nat.lt_irrefl _)⟩
  · rw [if_neg hw]
    obtain ⟨f1, l1, f2, l2, fr, le⟩ := h (by simpa using hw)
    obtain ⟨i1, i2⟩ := hiS_ok f1 f2
    obtain ⟨u1, u2⟩ := plusS_ok i1 (Nat.le_of_lt fr)
    refine ⟨u1, fun hlt => ?_⟩
    obtain ⟨v1, v2, v3⟩ := u2 hlt
    have e : x = qadd ⟨fv A.1, fv A.2.1⟩ (qsub x ⟨fv A.1, fv A.2.1⟩) := by apply Qi.ext' <;> simp only [qsub, qadd] <;> grind
    rw [e]
    exact ((i2 v1).add le).mono v3
end Go.Fil
