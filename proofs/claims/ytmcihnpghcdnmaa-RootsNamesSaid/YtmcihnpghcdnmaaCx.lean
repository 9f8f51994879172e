/- The contracts of package cplx, and of package ball's functions on numbers, at this translation. -/
import Derived.Test.YtmcihnpghcdnmaaMa
namespace Go.Proofs.Ytmcihnpghcdnmaa
open Go.RowKit Go.Fil
attribute [local irreducible] fop fsqrt fup fabs fneg pick

theorem cmul_any (a b c d : Nat) (w : World) : Calls Try.prog 12 #[.complex .f64 a b, .complex .f64 c d] w (RC (mulRe a b c d) (mulIm a b c d) w) := by
  unfold mulRe mulIm
  go_enter Try.func12, Try.ntmps12
  go_wp2
  go_ret
  exact ⟨_, _, _, rfl, rfl⟩
theorem cadd_any (a b c d : Nat) (w : World) : Calls Try.prog 58 #[.complex .f64 a b, .complex .f64 c d] w (RC (fop .add a c) (fop .add b d) w) := by
  go_enter Try.func58, Try.ntmps58
  go_wp2
  go_ret
  exact ⟨_, _, _, rfl, rfl⟩
theorem csub_any (a b c d : Nat) (w : World) : Calls Try.prog 17 #[.complex .f64 a b, .complex .f64 c d] w (RC (fop .sub a c) (fop .sub b d) w) := by
  go_enter Try.func17, Try.ntmps17
  go_wp2
  go_ret
  exact ⟨_, _, _, rfl, rfl⟩
theorem cscale_any (a b c : Nat) (w : World) : Calls Try.prog 59 #[.complex .f64 a b, .float .f64 c] w (RC (fop .mul a c) (fop .mul b c) w) := by
  go_enter Try.func59, Try.ntmps59
  go_wp2
  go_ret
  exact ⟨_, _, _, rfl, rfl⟩
theorem cneg_any (a b : Nat) (w : World) : Calls Try.prog 42 #[.complex .f64 a b] w fun e w' => ∃ s t, e = .returned (.complex .f64 (pick (fneg a) s) (pick (fneg b) t)) ∧ w = w' := by
  go_enter Try.func42, Try.ntmps42
  go_wp2
  go_ret
  exact ⟨_, _, rfl, rfl⟩
theorem cquo_any (a b c d : Nat) (w : World) : Calls Try.prog 16 #[.complex .f64 a b, .complex .f64 c d] w (RC (quoRe a b c d) (quoIm a b c d) w) := by
  cases hb : (FloatKind.f64.format.order (fabs c) (fabs d) == some .gt || FloatKind.f64.format.order (fabs c) (fabs d) == some .eq)
  · have e1 : quoRe a b c d = fop .quo (fop .add (fop .mul a (fop .quo c d)) b) (fop .add d (fop .mul c (fop .quo c d))) := by unfold quoRe quoBig fge; rw [hb]; rfl
    have e2 : quoIm a b c d = fop .quo (fop .sub (fop .mul b (fop .quo c d)) a) (fop .add d (fop .mul c (fop .quo c d))) := by unfold quoIm quoBig fge; rw [hb]; rfl
    rw [e1, e2]
    clear e1 e2
    go_enter Try.func16, Try.ntmps16
    go_wp2_with (go_at_call 32; refine (abs_any _ _).mono ?_; rintro e w' ⟨s, rfl, rfl⟩)
    go_ret
    exact ⟨_, _, _, rfl, rfl⟩
  · have e1 : quoRe a b c d = fop .quo (fop .add a (fop .mul b (fop .quo d c))) (fop .add c (fop .mul d (fop .quo d c))) := by unfold quoRe quoBig fge; rw [hb]; rfl
    have e2 : quoIm a b c d = fop .quo (fop .sub b (fop .mul a (fop .quo d c))) (fop .add c (fop .mul d (fop .quo d c))) := by unfold quoIm quoBig fge; rw [hb]; rfl
    rw [e1, e2]
    clear e1 e2
    go_enter Try.func16, Try.ntmps16
    go_wp2_with (go_at_call 32; refine (abs_any _ _).mono ?_; rintro e w' ⟨s, rfl, rfl⟩)
    go_ret
    exact ⟨_, _, _, rfl, rfl⟩
theorem csame_any (a b c d : Nat) (w : World) : Calls Try.prog 60 #[.complex .f64 a b, .complex .f64 c d] w fun e w' =>
    e = .returned (.bool (likeB a c && likeB b d)) ∧ w = w' := by
  cases h1 : likeB a c
  all_goals
    go_enter Try.func60, Try.ntmps60
    go_wp2_with (go_at_call 69; refine (like_any _ _ _).mono ?_; rintro e w' ⟨rfl, rfl⟩)
    go_ret
    exact ⟨rfl, rfl⟩
/-- Two floats. -/
def RFF (X Y : Nat) (w : World) (e : Ending) (w' : World) : Prop := ∃ s t, e = .returned (.tuple #[.float .f64 (pick X s), .float .f64 (pick Y t)]) ∧ w = w'
theorem sizes_any (a b : Nat) (w : World) : Calls Try.prog 29 #[.complex .f64 a b] w (RFF (sizeP a b) (sizeQ a b) w) := by
  cases hb : (FloatKind.f64.format.order (fabs a) (fabs b) == some .lt)
  · have e1 : sizeP a b = fabs a := by unfold sizeP flt; rw [hb]; rfl
    have e2 : sizeQ a b = fabs b := by unfold sizeQ flt; rw [hb]; rfl
    rw [e1, e2]
    clear e1 e2
    go_enter Try.func29, Try.ntmps29
    go_wp2_with (go_at_call 32; refine (abs_any _ _).mono ?_; rintro e w' ⟨s, rfl, rfl⟩)
    go_ret2
    exact ⟨_, _, rfl, rfl⟩
  · have e1 : sizeP a b = fabs b := by unfold sizeP flt; rw [hb]; rfl
    have e2 : sizeQ a b = fabs a := by unfold sizeQ flt; rw [hb]; rfl
    rw [e1, e2]
    clear e1 e2
    go_enter Try.func29, Try.ntmps29
    go_wp2_with (go_at_call 32; refine (abs_any _ _).mono ?_; rintro e w' ⟨s, rfl, rfl⟩)
    go_ret2
    exact ⟨_, _, rfl, rfl⟩
theorem reach_any (p q : Nat) (w : World) : Calls Try.prog 30 #[.float .f64 p, .float .f64 q, .func (.func 31) #[] #[]] w (RF (reachUp p q) w) := by
  unfold reachUp fone
  go_enter Try.func30, Try.ntmps30
  go_wp2_with (first
    | (go_at_call 31; refine (up_any _ (by first | with_reducible exact NB.pick (NB_fop _ _ _) _ | with_reducible exact NB.pick (NB_fsqrt _) _) _).mono ?_; rintro e w' ⟨s, rfl, rfl⟩)
    | (go_at_call 53; refine (sqrt_any _ _).mono ?_; rintro e w' ⟨s, n, rfl, rfl⟩))
  go_ret
  exact ⟨_, _, rfl, rfl⟩
end Go.Proofs.Ytmcihnpghcdnmaa
