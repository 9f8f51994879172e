/- The contracts of cplx.Hi and of package ball's functions on numbers, at this translation. -/
import Derived.Test.YtmcihnpghcdnmaaCx
namespace Go.Proofs.Ytmcihnpghcdnmaa
open Go.RowKit Go.Fil
attribute [local irreducible] fop fsqrt fup fabs fneg pick

/-- cplx.Kind's answer, in the two cases that its callers ask. -/
theorem kind_fin {a b : Nat} (h : cfin a b = true) (w : World) : Calls Try.prog 27 #[.complex .f64 a b] w fun e w' => e = .returned (.int .u8 0) ∧ w = w' := by
  have h0 : kindS a b = 0 := by simpa [cfin] using h
  have := kind_any a b w
  rw [h0] at this
  exact this
/-- A number that is not 0, under a name. -/
theorem kind_not {a b : Nat} (h : cfin a b = false) (w : World) : Calls Try.prog 27 #[.complex .f64 a b] w fun e w' => ∃ k : Int, (k == 0) = false ∧ e = .returned (.int .u8 k) ∧ w = w' := by
  have h0 : ¬ kindS a b = 0 := by simpa [cfin] using h
  exact (kind_any a b w).mono fun e w' ⟨he, hw⟩ => ⟨_, by rw [beq_eq_false_iff_ne]; omega, he, hw⟩

theorem hi_any (a b : Nat) (w : World) : Calls Try.prog 10 #[.complex .f64 a b] w (RF (hiS a b) w) := by
  cases hc : cfin a b
  · have e1 : hiS a b = 9218868437227405312 := by unfold hiS; rw [hc]; rfl
    have e2 : pick 9218868437227405312 0 = 9218868437227405312 := pick_of (by decide) 0
    rw [e1]
    clear e1
    go_enter Try.func10, Try.ntmps10
    go_wp2_with (first
      | (go_at_call 27; refine (kind_not hc _).mono ?_; rintro e w' ⟨k, hk, rfl, rfl⟩)
      | (go_at_call 28; refine (inf1_any _).mono ?_; rintro e w' ⟨rfl, rfl⟩))
    go_ret
    exact ⟨0, 0, by rw [e2]; rfl, rfl⟩
  · cases hz : FloatKind.f64.format.order (sizeQ a b) 0 == some .eq
    · have e1 : hiS a b = reachUp (sizeP a b) (sizeQ a b) := by unfold hiS feq; rw [hc, hz]; rfl
      rw [e1]
      clear e1
      go_enter Try.func10, Try.ntmps10
      go_wp2_with (first
        | (go_at_call 27; refine (kind_fin hc _).mono ?_; rintro e w' ⟨rfl, rfl⟩)
        | (go_at_call 29; refine (sizes_any _ _ _).mono ?_; rintro e w' ⟨s, t, rfl, rfl⟩)
        | (go_at_call 30; refine (reach_any _ _ _).mono ?_; rintro e w' ⟨s, n, rfl, rfl⟩))
      go_ret
      exact ⟨_, _, rfl, rfl⟩
    · have e1 : hiS a b = sizeP a b := by unfold hiS feq; rw [hc, hz]; rfl
      rw [e1]
      clear e1
      go_enter Try.func10, Try.ntmps10
      go_wp2_with (first
        | (go_at_call 27; refine (kind_fin hc _).mono ?_; rintro e w' ⟨rfl, rfl⟩)
        | (go_at_call 29; refine (sizes_any _ _ _).mono ?_; rintro e w' ⟨s, t, rfl, rfl⟩))
      go_ret
      exact ⟨_, 0, rfl, rfl⟩
theorem plus_any (x y : Nat) (w : World) : Calls Try.prog 43 #[.float .f64 x, .float .f64 y] w (RF (plusS x y) w) := by
  cases hx : FloatKind.f64.format.order x 0 == some .eq
  · cases hy : FloatKind.f64.format.order y 0 == some .eq
    · have e1 : plusS x y = fup (fop .add x y) := by unfold plusS feq; rw [hx, hy]; rfl
      rw [e1]
      clear e1
      go_enter Try.func43, Try.ntmps43
      go_wp2_with (go_at_call 31; refine (up_any _ (by with_reducible exact NB.pick (NB_fop _ _ _) _) _).mono ?_; rintro e w' ⟨s, rfl, rfl⟩)
      go_ret
      exact ⟨_, _, rfl, rfl⟩
    · have e1 : plusS x y = x := by unfold plusS feq; rw [hx, hy]; rfl
      rw [e1]
      clear e1
      go_enter Try.func43, Try.ntmps43
      go_wp2
      go_ret
      exact ⟨x, 0, by rw [pick_self]; rfl, rfl⟩
  · have e1 : plusS x y = y := by unfold plusS feq; rw [hx]; rfl
    rw [e1]
    clear e1
    go_enter Try.func43, Try.ntmps43
    go_wp2
    go_ret
    exact ⟨y, 0, by rw [pick_self]; rfl, rfl⟩
theorem times_any (x y : Nat) (w : World) : Calls Try.prog 44 #[.float .f64 x, .float .f64 y] w (RF (timesS x y) w) := by
  have e2 : pick 0 0 = 0 := pick_of (by decide) 0
  cases hx : FloatKind.f64.format.order x 0 == some .eq
  · cases hy : FloatKind.f64.format.order y 0 == some .eq
    · have e1 : timesS x y = fup (fop .mul x y) := by unfold timesS feq; rw [hx, hy]; rfl
      rw [e1]
      clear e1 e2
      go_enter Try.func44, Try.ntmps44
      go_wp2_with (go_at_call 31; refine (up_any _ (by with_reducible exact NB.pick (NB_fop _ _ _) _) _).mono ?_; rintro e w' ⟨s, rfl, rfl⟩)
      go_ret
      exact ⟨_, _, rfl, rfl⟩
    · have e1 : timesS x y = 0 := by unfold timesS feq; rw [hx, hy]; rfl
      rw [e1]
      clear e1
      go_enter Try.func44, Try.ntmps44
      go_wp2
      go_ret
      exact ⟨0, 0, by rw [e2]; rfl, rfl⟩
  · have e1 : timesS x y = 0 := by unfold timesS feq; rw [hx]; rfl
    rw [e1]
    clear e1
    go_enter Try.func44, Try.ntmps44
    go_wp2
    go_ret
    exact ⟨0, 0, by rw [e2]; rfl, rfl⟩
theorem lost_any (x y : Nat) (w : World) : Calls Try.prog 67 #[.float .f64 x, .float .f64 y] w (RF (lostS x y) w) := by
  have e2 : pick 0 0 = 0 := pick_of (by decide) 0
  cases hx : FloatKind.f64.format.order x 0 == some .eq
  · cases hy : FloatKind.f64.format.order y 0 == some .eq
    · cases hs : FloatKind.f64.format.order (fop .add x y) 0 == some .eq
      · have e1 : lostS x y = fup (fop .mul (fabs (fop .add x y)) 4368491638549381120) := by unfold lostS feq; rw [hx, hy, hs]; rfl
        rw [e1]
        clear e1 e2
        go_enter Try.func67, Try.ntmps67
        go_wp2_with (first
          | (go_at_call 31; refine (up_any _ (by with_reducible exact NB.pick (NB_fop _ _ _) _) _).mono ?_; rintro e w' ⟨s, rfl, rfl⟩)
          | (go_at_call 32; refine (abs_any _ _).mono ?_; rintro e w' ⟨s, rfl, rfl⟩))
        go_ret
        exact ⟨_, _, rfl, rfl⟩
      · have e1 : lostS x y = 0 := by unfold lostS feq; rw [hx, hy, hs]; rfl
        rw [e1]
        clear e1
        go_enter Try.func67, Try.ntmps67
        go_wp2
        go_ret
        exact ⟨0, _, by rw [e2]; rfl, rfl⟩
    · have e1 : lostS x y = 0 := by unfold lostS feq; rw [hx, hy]; rfl
      rw [e1]
      clear e1
      go_enter Try.func67, Try.ntmps67
      go_wp2
      go_ret
      exact ⟨0, _, by rw [e2]; rfl, rfl⟩
  · have e1 : lostS x y = 0 := by unfold lostS feq; rw [hx]; rfl
    rw [e1]
    clear e1
    go_enter Try.func67, Try.ntmps67
    go_wp2
    go_ret
    exact ⟨0, _, by rw [e2]; rfl, rfl⟩
theorem lostBoth_any (a b c d : Nat) (w : World) : Calls Try.prog 47 #[.complex .f64 a b, .complex .f64 c d] w (RF (lostBothS a b c d) w) := by
  unfold lostBothS
  go_enter Try.func47, Try.ntmps47
  go_wp2_with (first
    | (go_at_call 67; refine (lost_any _ _ _).mono ?_; rintro e w' ⟨s, n, rfl, rfl⟩)
    | (go_at_call 43; refine (plus_any _ _ _).mono ?_; rintro e w' ⟨s, n, rfl, rfl⟩))
  go_ret
  exact ⟨_, _, rfl, rfl⟩
theorem spoilt_none (a b c d : Nat) (h : czero a b = true ∨ czero c d = true) (w : World) : Calls Try.prog 45 #[.complex .f64 a b, .complex .f64 c d] w (RF (spoiltS a b c d) w) := by
  have e2 : pick 0 0 = 0 := pick_of (by decide) 0
  have e1 : spoiltS a b c d = 0 := by unfold spoiltS; rcases h with h | h <;> simp [h]
  rw [e1]
  clear e1
  unfold czero feq at h
  cases h1 : (FloatKind.f64.format.order a 0 == some .eq && FloatKind.f64.format.order b 0 == some .eq)
  · rw [h1] at h
    have h2 : (FloatKind.f64.format.order c 0 == some .eq && FloatKind.f64.format.order d 0 == some .eq) = true := by simpa using h
    clear h
    go_enter Try.func45, Try.ntmps45
    go_wp2
    go_ret
    exact ⟨0, 0, by rw [e2]; rfl, rfl⟩
  · clear h
    go_enter Try.func45, Try.ntmps45
    go_wp2
    go_ret
    exact ⟨0, 0, by rw [e2]; rfl, rfl⟩
theorem spoilt_some (a b c d : Nat) (h1 : czero a b = false) (h2 : czero c d = false) (w : World) : Calls Try.prog 45 #[.complex .f64 a b, .complex .f64 c d] w (RF (spoiltS a b c d) w) := by
  have e1 : spoiltS a b c d = plusS (fup (fop .mul (plusS (plusS (fabs (fop .mul a c)) (fabs (fop .mul b d))) (plusS (fabs (fop .mul a d)) (fabs (fop .mul b c)))) 4377498837804122112)) 16 := by unfold spoiltS; rw [h1, h2]; rfl
  rw [e1]
  clear e1
  unfold czero feq at h1 h2
  go_enter Try.func45, Try.ntmps45
  go_wp2_with (first
    | (go_at_call 31; refine (up_any _ (by with_reducible exact NB.pick (NB_fop _ _ _) _) _).mono ?_; rintro e w' ⟨s, rfl, rfl⟩)
    | (go_at_call 32; refine (abs_any _ _).mono ?_; rintro e w' ⟨s, rfl, rfl⟩)
    | (go_at_call 43; refine (plus_any _ _ _).mono ?_; rintro e w' ⟨s, n, rfl, rfl⟩))
  go_ret
  exact ⟨_, _, rfl, rfl⟩
theorem spoilt_any (a b c d : Nat) (w : World) : Calls Try.prog 45 #[.complex .f64 a b, .complex .f64 c d] w (RF (spoiltS a b c d) w) := by
  cases h1 : czero a b
  · cases h2 : czero c d
    · exact spoilt_some a b c d h1 h2 w
    · exact spoilt_none a b c d (.inr h2) w
  · exact spoilt_none a b c d (.inl h1) w
theorem bfinite_any (a b : Nat) (w : World) : Calls Try.prog 61 #[.complex .f64 a b] w fun e w' => e = .returned (.bool (cfin a b)) ∧ w = w' := by
  cases hc : cfin a b
  · go_enter Try.func61, Try.ntmps61
    go_wp2_with (go_at_call 27; refine (kind_not hc _).mono ?_; rintro e w' ⟨k, hk, rfl, rfl⟩)
    go_ret
    exact ⟨rfl, rfl⟩
  · go_enter Try.func61, Try.ntmps61
    go_wp2_with (go_at_call 27; refine (kind_fin hc _).mono ?_; rintro e w' ⟨rfl, rfl⟩)
    go_ret
    exact ⟨rfl, rfl⟩
end Go.Proofs.Ytmcihnpghcdnmaa
