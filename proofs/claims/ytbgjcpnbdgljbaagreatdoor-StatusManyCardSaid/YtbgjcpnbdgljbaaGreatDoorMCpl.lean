/- The contracts of math's small functions, of package bits and of cplx.Kind, at this translation. -/
import Derived.Test.YtbgjcpnbdgljbaaGreatDoorProg
import Derived.Test.YtbgjcpnbdgljbaaGreatDoorMFlo
import Derived.WalkKit
import Derived.WalkLawsBesides
import Derived.WalkSpells
import Derived.Outline
import Derived.Laws.Externs
namespace Go.Proofs.YtbgjcpnbdgljbaaGreatDoor
open Go.RowKit Go.Fil

/-- What a function that only reckons answers: a float; a complex number; the world has drawn some NaNs at most. -/
def RF (X : Nat) (w : World) (e : Ending) (w' : World) : Prop := ∃ s n, e = .returned (.float .f64 (pick X s)) ∧ w.drewN n = w'
def RC (X Y : Nat) (w : World) (e : Ending) (w' : World) : Prop := ∃ s t n, e = .returned (.complex .f64 (pick X s) (pick Y t)) ∧ w.drewN n = w'

@[go_sem] theorem run_store_float (P : Program) (w : World) (a : Addr) (m : Mode) (k : FloatKind) (b : Nat) : (store a (.float k b) m).run P w = stored P w a (.float k b) m := run_store P w a _ m rfl
@[go_sem] theorem run_store_complex (P : Program) (w : World) (a : Addr) (m : Mode) (k : FloatKind) (x y : Nat) : (store a (.complex k x y) m).run P w = stored P w a (.complex k x y) m := run_store P w a _ m rfl
theorem run_f64bits (b : Nat) (w : World) : (callFunc 103 #[.float .f64 b]).run Tryz.prog w = .ok (.value (.int .u64 b)) w :=
  run_callFunc_extern Tryz.func103 (by kernel_rfl) (by kernel_rfl) (by kernel_rfl) (e := Extern.MathFloatBits.float64bits) (by kernel_rfl) _ w
theorem run_f64from (n : Int) (w : World) : (callFunc 213 #[.int .u64 n]).run Tryz.prog w = .ok (.value (.float .f64 n.toNat)) w :=
  run_callFunc_extern Tryz.func213 (by kernel_rfl) (by kernel_rfl) (by kernel_rfl) (e := Extern.MathFloatBits.float64frombits) (by kernel_rfl) _ w
theorem run_fsqrt (x : Nat) (w : World) : (callFunc 241 #[.float .f64 x]).run Tryz.prog w = .ok (.value (.float .f64 (pick (fsqrt x) (nanTape w x x)))) (w.drewN (sd x)) := by
  rw [run_callFunc_extern Tryz.func241 (by kernel_rfl) (by kernel_rfl) (by kernel_rfl) (e := Extern.MathSqrt.sqrt) (by kernel_rfl) _ w, run_sqrt]; rfl

theorem abs_any (x : Nat) (w : World) : Calls Tryz.prog 165 #[.float .f64 x] w fun e w' => ∃ s, e = .returned (.float .f64 (pick (fabs x) s)) ∧ w = w' := by
  have h1 := run_f64bits
  have h2 := run_f64from
  have h3 := abs_bits x
  go_enter Tryz.func165, Tryz.ntmps165
  go_wp2
  go_ret
  exact ⟨x % 9223372036854775808, by rw [abs_pick]; congr 2, rfl⟩
theorem inf1_any (w : World) : Calls Tryz.prog 167 #[.int .i64 1] w fun e w' => e = .returned (.float .f64 9218868437227405312) ∧ w = w' := by
  have h2 := run_f64from
  go_enter Tryz.func167, Tryz.ntmps167
  go_wp2
  go_ret
  exact ⟨rfl, rfl⟩
theorem isinf0_any (x : Nat) (w : World) : Calls Tryz.prog 102 #[.float .f64 x, .int .i64 0] w fun e w' => e = .returned (.bool (infB x)) ∧ w = w' := by
  go_enter Tryz.func102, Tryz.ntmps102
  go_wp2_with (go_at_call 165; refine (abs_any _ _).mono ?_; rintro e w' ⟨s, rfl, rfl⟩)
  go_ret
  exact ⟨rfl, rfl⟩
theorem isinf1_any (x : Nat) (w : World) : Calls Tryz.prog 102 #[.float .f64 x, .int .i64 1] w fun e w' => e = .returned (.bool (pinfB x)) ∧ w = w' := by
  go_enter Tryz.func102, Tryz.ntmps102
  go_wp2
  go_ret
  exact ⟨rfl, rfl⟩
theorem sqrt_any (x : Nat) (w : World) : Calls Tryz.prog 214 #[.float .f64 x] w fun e w' => ∃ s n, e = .returned (.float .f64 (pick (fsqrt x) s)) ∧ w.drewN n = w' := by
  have h1 := run_fsqrt
  go_enter Tryz.func214, Tryz.ntmps214
  go_wp2
  go_ret
  exact ⟨_, _, rfl, rfl⟩
theorem finite_any (x : Nat) (w : World) : Calls Tryz.prog 180 #[.float .f64 x] w fun e w' => ∃ n, e = .returned (.bool (finB x)) ∧ w.drewN n = w' := by
  go_enter Tryz.func180, Tryz.ntmps180
  go_wp2
  go_ret
  exact ⟨_, rfl, rfl⟩
theorem nan_any (x : Nat) (w : World) : Calls Tryz.prog 164 #[.float .f64 x] w fun e w' => e = .returned (.bool (isNaN x)) ∧ w = w' := by
  go_enter Tryz.func164, Tryz.ntmps164
  go_wp2
  go_ret
  exact ⟨rfl, rfl⟩
theorem infinite_any (x : Nat) (w : World) : Calls Tryz.prog 163 #[.float .f64 x] w fun e w' => e = .returned (.bool (infB x)) ∧ w = w' := by
  go_enter Tryz.func163, Tryz.ntmps163
  go_wp2_with (go_at_call 102; refine (isinf0_any _ _).mono ?_; rintro e w' ⟨rfl, rfl⟩)
  go_ret
  exact ⟨rfl, rfl⟩
theorem kind_any (a b : Nat) (w : World) : Calls Tryz.prog 100 #[.complex .f64 a b] w fun e w' => e = .returned (.int .u8 (kindS a b : Int)) ∧ w = w' := by
  unfold kindS
  cases h1 : infB a <;> cases h2 : infB b <;> cases h3 : isNaN a <;> cases h4 : isNaN b
  all_goals
    go_enter Tryz.func100, Tryz.ntmps100
    go_wp2_with (first | (go_at_call 163; refine (infinite_any _ _).mono ?_; rintro e w' ⟨rfl, rfl⟩) | (go_at_call 164; refine (nan_any _ _).mono ?_; rintro e w' ⟨rfl, rfl⟩))
    go_ret
    exact ⟨rfl, rfl⟩
theorem ret_eq {v u : Value} (h : v = u) : Ending.returned v = Ending.returned u := by rw [h]
theorem signbit_any (x : Nat) (w : World) : Calls Tryz.prog 185 #[.float .f64 x] w fun e w' => e = .returned (.bool (signB x)) ∧ w = w' := by
  have h1 := run_f64bits
  go_enter Tryz.func185, Tryz.ntmps185
  go_wp2
  go_ret
  refine ⟨ret_eq (v := .bool (decide (wrap64 (x : Int) < 0))) ?_, rfl⟩
  have : decide (wrap64 (x : Int) < 0) = signB x := by
    unfold signB wrap64
    rw [Bool.eq_iff_iff, decide_eq_true_eq, decide_eq_true_eq]
    omega
  rw [this]
theorem like_any (x y : Nat) (w : World) : Calls Tryz.prog 221 #[.float .f64 x, .float .f64 y] w fun e w' => e = .returned (.bool (likeB x y)) ∧ w = w' := by
  have hb := run_f64bits
  unfold likeB
  by_cases hxy : x = y
  · subst hxy
    go_enter Tryz.func221, Tryz.ntmps221
    go_wp2
    go_ret
    exact ⟨ret_eq (v := .bool true) (by simp), rfl⟩
  · have hne : ((x : Int) == (y : Int)) = false := by
      rw [beq_eq_false_iff_ne]; omega
    have hne' : (x == y) = false := by simpa using hxy
    rw [hne']
    clear hxy hne'
    cases h1 : isNaN x <;> cases h2 : isNaN y
    all_goals
      go_enter Tryz.func221, Tryz.ntmps221
      go_wp2
      go_ret
      exact ⟨rfl, rfl⟩
theorem up_nan (x : Nat) (hx : isNaN x = true) (w : World) : Calls Tryz.prog 170 #[.float .f64 x] w fun e w' => e = .returned (.float .f64 x) ∧ w = w' := by
  have h1 := run_f64bits
  have h2 := run_f64from
  go_enter Tryz.func170, Tryz.ntmps170
  go_wp2_with (go_at_call 102; refine (isinf1_any _ _).mono ?_; rintro e w' ⟨rfl, rfl⟩)
  go_ret
  exact ⟨rfl, rfl⟩
theorem up_num (x : Nat) (hn : isNaN x = false) (hx : x < 18446744073709551616) (w : World) : Calls Tryz.prog 170 #[.float .f64 x] w fun e w' => e = .returned (.float .f64 (fup x)) ∧ w = w' := by
  have h1 := run_f64bits
  have h2 := run_f64from
  have h3 := sign_bits x hx
  unfold fup
  rw [hn]
  cases hp : FloatKind.f64.format.order x 9218868437227405311 == some .gt
  · cases hz : FloatKind.f64.format.order x 0 == some .eq
    · by_cases hs : 9223372036854775808 ≤ x
      · rw [if_pos hs] at h3
        have hw : ((x : Int) - 1).toNat = x - 1 := by omega
        go_enter Tryz.func170, Tryz.ntmps170
        go_wp2_with (go_at_call 102; refine (isinf1_any _ _).mono ?_; unfold pinfB; rintro e w' ⟨rfl, rfl⟩)
        go_ret
        exact ⟨rfl, rfl⟩
      · rw [if_neg hs] at h3
        go_enter Tryz.func170, Tryz.ntmps170
        go_wp2_with (go_at_call 102; refine (isinf1_any _ _).mono ?_; unfold pinfB; rintro e w' ⟨rfl, rfl⟩)
        go_ret
        exact ⟨rfl, rfl⟩
    · go_enter Tryz.func170, Tryz.ntmps170
      go_wp2_with (go_at_call 102; refine (isinf1_any _ _).mono ?_; unfold pinfB; rintro e w' ⟨rfl, rfl⟩)
      go_ret
      exact ⟨rfl, rfl⟩
  · go_enter Tryz.func170, Tryz.ntmps170
    go_wp2_with (go_at_call 102; refine (isinf1_any _ _).mono ?_; unfold pinfB; rintro e w' ⟨rfl, rfl⟩)
    go_ret
    exact ⟨rfl, rfl⟩
theorem up_any (x : Nat) (hx : NB x) (w : World) : Calls Tryz.prog 170 #[.float .f64 x] w fun e w' => ∃ s, e = .returned (.float .f64 (pick (fup x) s)) ∧ w = w' := by
  cases hn : isNaN x
  · rcases hx with hx | hx
    · rw [hn] at hx; cases hx
    · exact (up_num x hn hx w).mono fun e w' ⟨he, hw⟩ => ⟨fup x, by rw [pick_self]; exact he, hw⟩
  · exact (up_nan x hn w).mono fun e w' ⟨he, hw⟩ => ⟨x, by rw [fup, if_pos hn, pick_nan isNaN_qnan hn]; exact he, hw⟩
end Go.Proofs.YtbgjcpnbdgljbaaGreatDoor

/- The contracts of package cplx, and of package ball's functions on numbers, at this translation. -/
namespace Go.Proofs.YtbgjcpnbdgljbaaGreatDoor
open Go.RowKit Go.Fil
attribute [local irreducible] fop fsqrt fup fabs fneg pick

theorem cmul_any (a b c d : Nat) (w : World) : Calls Tryz.prog 45 #[.complex .f64 a b, .complex .f64 c d] w (RC (mulRe a b c d) (mulIm a b c d) w) := by
  unfold mulRe mulIm
  go_enter Tryz.func45, Tryz.ntmps45
  go_wp2
  go_ret
  exact ⟨_, _, _, rfl, rfl⟩
theorem cadd_any (a b c d : Nat) (w : World) : Calls Tryz.prog 38 #[.complex .f64 a b, .complex .f64 c d] w (RC (fop .add a c) (fop .add b d) w) := by
  go_enter Tryz.func38, Tryz.ntmps38
  go_wp2
  go_ret
  exact ⟨_, _, _, rfl, rfl⟩
theorem csub_any (a b c d : Nat) (w : World) : Calls Tryz.prog 110 #[.complex .f64 a b, .complex .f64 c d] w (RC (fop .sub a c) (fop .sub b d) w) := by
  go_enter Tryz.func110, Tryz.ntmps110
  go_wp2
  go_ret
  exact ⟨_, _, _, rfl, rfl⟩
theorem cscale_any (a b c : Nat) (w : World) : Calls Tryz.prog 215 #[.complex .f64 a b, .float .f64 c] w (RC (fop .mul a c) (fop .mul b c) w) := by
  go_enter Tryz.func215, Tryz.ntmps215
  go_wp2
  go_ret
  exact ⟨_, _, _, rfl, rfl⟩
theorem cneg_any (a b : Nat) (w : World) : Calls Tryz.prog 176 #[.complex .f64 a b] w fun e w' => ∃ s t, e = .returned (.complex .f64 (pick (fneg a) s) (pick (fneg b) t)) ∧ w = w' := by
  go_enter Tryz.func176, Tryz.ntmps176
  go_wp2
  go_ret
  exact ⟨_, _, rfl, rfl⟩
theorem cquo_any (a b c d : Nat) (w : World) : Calls Tryz.prog 109 #[.complex .f64 a b, .complex .f64 c d] w (RC (quoRe a b c d) (quoIm a b c d) w) := by
  cases hb : (FloatKind.f64.format.order (fabs c) (fabs d) == some .gt || FloatKind.f64.format.order (fabs c) (fabs d) == some .eq)
  · have e1 : quoRe a b c d = fop .quo (fop .add (fop .mul a (fop .quo c d)) b) (fop .add d (fop .mul c (fop .quo c d))) := by unfold quoRe quoBig fge; rw [hb]; rfl
    have e2 : quoIm a b c d = fop .quo (fop .sub (fop .mul b (fop .quo c d)) a) (fop .add d (fop .mul c (fop .quo c d))) := by unfold quoIm quoBig fge; rw [hb]; rfl
    rw [e1, e2]
    clear e1 e2
    go_enter Tryz.func109, Tryz.ntmps109
    go_wp2_with (go_at_call 165; refine (abs_any _ _).mono ?_; rintro e w' ⟨s, rfl, rfl⟩)
    go_ret
    exact ⟨_, _, _, rfl, rfl⟩
  · have e1 : quoRe a b c d = fop .quo (fop .add a (fop .mul b (fop .quo d c))) (fop .add c (fop .mul d (fop .quo d c))) := by unfold quoRe quoBig fge; rw [hb]; rfl
    have e2 : quoIm a b c d = fop .quo (fop .sub b (fop .mul a (fop .quo d c))) (fop .add c (fop .mul d (fop .quo d c))) := by unfold quoIm quoBig fge; rw [hb]; rfl
    rw [e1, e2]
    clear e1 e2
    go_enter Tryz.func109, Tryz.ntmps109
    go_wp2_with (go_at_call 165; refine (abs_any _ _).mono ?_; rintro e w' ⟨s, rfl, rfl⟩)
    go_ret
    exact ⟨_, _, _, rfl, rfl⟩
theorem csame_any (a b c d : Nat) (w : World) : Calls Tryz.prog 183 #[.complex .f64 a b, .complex .f64 c d] w fun e w' =>
    e = .returned (.bool (likeB a c && likeB b d)) ∧ w = w' := by
  cases h1 : likeB a c
  all_goals
    go_enter Tryz.func183, Tryz.ntmps183
    go_wp2_with (go_at_call 221; refine (like_any _ _ _).mono ?_; rintro e w' ⟨rfl, rfl⟩)
    go_ret
    exact ⟨rfl, rfl⟩
/-- Two floats. -/
def RFF (X Y : Nat) (w : World) (e : Ending) (w' : World) : Prop := ∃ s t, e = .returned (.tuple #[.float .f64 (pick X s), .float .f64 (pick Y t)]) ∧ w = w'
theorem sizes_any (a b : Nat) (w : World) : Calls Tryz.prog 168 #[.complex .f64 a b] w (RFF (sizeP a b) (sizeQ a b) w) := by
  cases hb : (FloatKind.f64.format.order (fabs a) (fabs b) == some .lt)
  · have e1 : sizeP a b = fabs a := by unfold sizeP flt; rw [hb]; rfl
    have e2 : sizeQ a b = fabs b := by unfold sizeQ flt; rw [hb]; rfl
    rw [e1, e2]
    clear e1 e2
    go_enter Tryz.func168, Tryz.ntmps168
    go_wp2_with (go_at_call 165; refine (abs_any _ _).mono ?_; rintro e w' ⟨s, rfl, rfl⟩)
    go_ret2
    exact ⟨_, _, rfl, rfl⟩
  · have e1 : sizeP a b = fabs b := by unfold sizeP flt; rw [hb]; rfl
    have e2 : sizeQ a b = fabs a := by unfold sizeQ flt; rw [hb]; rfl
    rw [e1, e2]
    clear e1 e2
    go_enter Tryz.func168, Tryz.ntmps168
    go_wp2_with (go_at_call 165; refine (abs_any _ _).mono ?_; rintro e w' ⟨s, rfl, rfl⟩)
    go_ret2
    exact ⟨_, _, rfl, rfl⟩
theorem reach_any (p q : Nat) (w : World) : Calls Tryz.prog 169 #[.float .f64 p, .float .f64 q, .func (.func 170) #[] #[]] w (RF (reachUp p q) w) := by
  unfold reachUp fone
  go_enter Tryz.func169, Tryz.ntmps169
  go_wp2_with (first
    | (go_at_call 170; refine (up_any _ (by first | with_reducible exact NB.pick (NB_fop _ _ _) _ | with_reducible exact NB.pick (NB_fsqrt _) _) _).mono ?_; rintro e w' ⟨s, rfl, rfl⟩)
    | (go_at_call 214; refine (sqrt_any _ _).mono ?_; rintro e w' ⟨s, n, rfl, rfl⟩))
  go_ret
  exact ⟨_, _, rfl, rfl⟩
end Go.Proofs.YtbgjcpnbdgljbaaGreatDoor

/- The contracts of cplx.Hi and of package ball's functions on numbers, at this translation. -/
namespace Go.Proofs.YtbgjcpnbdgljbaaGreatDoor
open Go.RowKit Go.Fil
attribute [local irreducible] fop fsqrt fup fabs fneg pick

/-- cplx.Kind's answer, in the two cases that its callers ask. -/
theorem kind_fin {a b : Nat} (h : cfin a b = true) (w : World) : Calls Tryz.prog 100 #[.complex .f64 a b] w fun e w' => e = .returned (.int .u8 0) ∧ w = w' := by
  have h0 : kindS a b = 0 := by simpa [cfin] using h
  have := kind_any a b w
  rw [h0] at this
  exact this
/-- A number that is not 0, under a name. -/
theorem kind_not {a b : Nat} (h : cfin a b = false) (w : World) : Calls Tryz.prog 100 #[.complex .f64 a b] w fun e w' => ∃ k : Int, (k == 0) = false ∧ e = .returned (.int .u8 k) ∧ w = w' := by
  have h0 : ¬ kindS a b = 0 := by simpa [cfin] using h
  exact (kind_any a b w).mono fun e w' ⟨he, hw⟩ => ⟨_, by rw [beq_eq_false_iff_ne]; omega, he, hw⟩

theorem hi_any (a b : Nat) (w : World) : Calls Tryz.prog 106 #[.complex .f64 a b] w (RF (hiS a b) w) := by
  cases hc : cfin a b
  · have e1 : hiS a b = 9218868437227405312 := by unfold hiS; rw [hc]; rfl
    have e2 : pick 9218868437227405312 0 = 9218868437227405312 := pick_of (by decide) 0
    rw [e1]
    clear e1
    go_enter Tryz.func106, Tryz.ntmps106
    go_wp2_with (first
      | (go_at_call 100; refine (kind_not hc _).mono ?_; rintro e w' ⟨k, hk, rfl, rfl⟩)
      | (go_at_call 167; refine (inf1_any _).mono ?_; rintro e w' ⟨rfl, rfl⟩))
    go_ret
    exact ⟨0, 0, by rw [e2]; rfl, rfl⟩
  · cases hz : FloatKind.f64.format.order (sizeQ a b) 0 == some .eq
    · have e1 : hiS a b = reachUp (sizeP a b) (sizeQ a b) := by unfold hiS feq; rw [hc, hz]; rfl
      rw [e1]
      clear e1
      go_enter Tryz.func106, Tryz.ntmps106
      go_wp2_with (first
        | (go_at_call 100; refine (kind_fin hc _).mono ?_; rintro e w' ⟨rfl, rfl⟩)
        | (go_at_call 168; refine (sizes_any _ _ _).mono ?_; rintro e w' ⟨s, t, rfl, rfl⟩)
        | (go_at_call 169; refine (reach_any _ _ _).mono ?_; rintro e w' ⟨s, n, rfl, rfl⟩))
      go_ret
      exact ⟨_, _, rfl, rfl⟩
    · have e1 : hiS a b = sizeP a b := by unfold hiS feq; rw [hc, hz]; rfl
      rw [e1]
      clear e1
      go_enter Tryz.func106, Tryz.ntmps106
      go_wp2_with (first
        | (go_at_call 100; refine (kind_fin hc _).mono ?_; rintro e w' ⟨rfl, rfl⟩)
        | (go_at_call 168; refine (sizes_any _ _ _).mono ?_; rintro e w' ⟨s, t, rfl, rfl⟩))
      go_ret
      exact ⟨_, 0, rfl, rfl⟩
theorem plus_any (x y : Nat) (w : World) : Calls Tryz.prog 177 #[.float .f64 x, .float .f64 y] w (RF (plusS x y) w) := by
  cases hx : FloatKind.f64.format.order x 0 == some .eq
  · cases hy : FloatKind.f64.format.order y 0 == some .eq
    · have e1 : plusS x y = fup (fop .add x y) := by unfold plusS feq; rw [hx, hy]; rfl
      rw [e1]
      clear e1
      go_enter Tryz.func177, Tryz.ntmps177
      go_wp2_with (go_at_call 170; refine (up_any _ (by with_reducible exact NB.pick (NB_fop _ _ _) _) _).mono ?_; rintro e w' ⟨s, rfl, rfl⟩)
      go_ret
      exact ⟨_, _, rfl, rfl⟩
    · have e1 : plusS x y = x := by unfold plusS feq; rw [hx, hy]; rfl
      rw [e1]
      clear e1
      go_enter Tryz.func177, Tryz.ntmps177
      go_wp2
      go_ret
      exact ⟨x, 0, by rw [pick_self]; rfl, rfl⟩
  · have e1 : plusS x y = y := by unfold plusS feq; rw [hx]; rfl
    rw [e1]
    clear e1
    go_enter Tryz.func177, Tryz.ntmps177
    go_wp2
    go_ret
    exact ⟨y, 0, by rw [pick_self]; rfl, rfl⟩
theorem times_any (x y : Nat) (w : World) : Calls Tryz.prog 178 #[.float .f64 x, .float .f64 y] w (RF (timesS x y) w) := by
  have e2 : pick 0 0 = 0 := pick_of (by decide) 0
  cases hx : FloatKind.f64.format.order x 0 == some .eq
  · cases hy : FloatKind.f64.format.order y 0 == some .eq
    · have e1 : timesS x y = fup (fop .mul x y) := by unfold timesS feq; rw [hx, hy]; rfl
      rw [e1]
      clear e1 e2
      go_enter Tryz.func178, Tryz.ntmps178
      go_wp2_with (go_at_call 170; refine (up_any _ (by with_reducible exact NB.pick (NB_fop _ _ _) _) _).mono ?_; rintro e w' ⟨s, rfl, rfl⟩)
      go_ret
      exact ⟨_, _, rfl, rfl⟩
    · have e1 : timesS x y = 0 := by unfold timesS feq; rw [hx, hy]; rfl
      rw [e1]
      clear e1
      go_enter Tryz.func178, Tryz.ntmps178
      go_wp2
      go_ret
      exact ⟨0, 0, by rw [e2]; rfl, rfl⟩
  · have e1 : timesS x y = 0 := by unfold timesS feq; rw [hx]; rfl
    rw [e1]
    clear e1
    go_enter Tryz.func178, Tryz.ntmps178
    go_wp2
    go_ret
    exact ⟨0, 0, by rw [e2]; rfl, rfl⟩
theorem lost_any (x y : Nat) (w : World) : Calls Tryz.prog 220 #[.float .f64 x, .float .f64 y] w (RF (lostS x y) w) := by
  have e2 : pick 0 0 = 0 := pick_of (by decide) 0
  cases hx : FloatKind.f64.format.order x 0 == some .eq
  · cases hy : FloatKind.f64.format.order y 0 == some .eq
    · cases hs : FloatKind.f64.format.order (fop .add x y) 0 == some .eq
      · have e1 : lostS x y = fup (fop .mul (fabs (fop .add x y)) 4368491638549381120) := by unfold lostS feq; rw [hx, hy, hs]; rfl
        rw [e1]
        clear e1 e2
        go_enter Tryz.func220, Tryz.ntmps220
        go_wp2_with (first
          | (go_at_call 170; refine (up_any _ (by with_reducible exact NB.pick (NB_fop _ _ _) _) _).mono ?_; rintro e w' ⟨s, rfl, rfl⟩)
          | (go_at_call 165; refine (abs_any _ _).mono ?_; rintro e w' ⟨s, rfl, rfl⟩))
        go_ret
        exact ⟨_, _, rfl, rfl⟩
      · have e1 : lostS x y = 0 := by unfold lostS feq; rw [hx, hy, hs]; rfl
        rw [e1]
        clear e1
        go_enter Tryz.func220, Tryz.ntmps220
        go_wp2
        go_ret
        exact ⟨0, _, by rw [e2]; rfl, rfl⟩
    · have e1 : lostS x y = 0 := by unfold lostS feq; rw [hx, hy]; rfl
      rw [e1]
      clear e1
      go_enter Tryz.func220, Tryz.ntmps220
      go_wp2
      go_ret
      exact ⟨0, _, by rw [e2]; rfl, rfl⟩
  · have e1 : lostS x y = 0 := by unfold lostS feq; rw [hx]; rfl
    rw [e1]
    clear e1
    go_enter Tryz.func220, Tryz.ntmps220
    go_wp2
    go_ret
    exact ⟨0, _, by rw [e2]; rfl, rfl⟩
theorem lostBoth_any (a b c d : Nat) (w : World) : Calls Tryz.prog 181 #[.complex .f64 a b, .complex .f64 c d] w (RF (lostBothS a b c d) w) := by
  unfold lostBothS
  go_enter Tryz.func181, Tryz.ntmps181
  go_wp2_with (first
    | (go_at_call 220; refine (lost_any _ _ _).mono ?_; rintro e w' ⟨s, n, rfl, rfl⟩)
    | (go_at_call 177; refine (plus_any _ _ _).mono ?_; rintro e w' ⟨s, n, rfl, rfl⟩))
  go_ret
  exact ⟨_, _, rfl, rfl⟩
theorem spoilt_none (a b c d : Nat) (h : czero a b = true ∨ czero c d = true) (w : World) : Calls Tryz.prog 179 #[.complex .f64 a b, .complex .f64 c d] w (RF (spoiltS a b c d) w) := by
  have e2 : pick 0 0 = 0 := pick_of (by decide) 0
  have e1 : spoiltS a b c d = 0 := by unfold spoiltS; rcases h with h | h <;> simp [h]
  rw [e1]
  clear e1
  unfold czero feq at h
  cases h1 : (FloatKind.f64.format.order a 0 == some .eq && FloatKind.f64.format.order b 0 == some .eq)
  · rw [h1] at h
    have h2 : (FloatKind.f64.format.order c 0 == some .eq && FloatKind.f64.format.order d 0 == some .eq) = true := by simpa using h
    clear h
    go_enter Tryz.func179, Tryz.ntmps179
    go_wp2
    go_ret
    exact ⟨0, 0, by rw [e2]; rfl, rfl⟩
  · clear h
    go_enter Tryz.func179, Tryz.ntmps179
    go_wp2
    go_ret
    exact ⟨0, 0, by rw [e2]; rfl, rfl⟩
theorem spoilt_some (a b c d : Nat) (h1 : czero a b = false) (h2 : czero c d = false) (w : World) : Calls Tryz.prog 179 #[.complex .f64 a b, .complex .f64 c d] w (RF (spoiltS a b c d) w) := by
  have e1 : spoiltS a b c d = plusS (fup (fop .mul (plusS (plusS (fabs (fop .mul a c)) (fabs (fop .mul b d))) (plusS (fabs (fop .mul a d)) (fabs (fop .mul b c)))) 4377498837804122112)) 16 := by unfold spoiltS; rw [h1, h2]; rfl
  rw [e1]
  clear e1
  unfold czero feq at h1 h2
  go_enter Tryz.func179, Tryz.ntmps179
  go_wp2_with (first
    | (go_at_call 170; refine (up_any _ (by with_reducible exact NB.pick (NB_fop _ _ _) _) _).mono ?_; rintro e w' ⟨s, rfl, rfl⟩)
    | (go_at_call 165; refine (abs_any _ _).mono ?_; rintro e w' ⟨s, rfl, rfl⟩)
    | (go_at_call 177; refine (plus_any _ _ _).mono ?_; rintro e w' ⟨s, n, rfl, rfl⟩))
  go_ret
  exact ⟨_, _, rfl, rfl⟩
theorem spoilt_any (a b c d : Nat) (w : World) : Calls Tryz.prog 179 #[.complex .f64 a b, .complex .f64 c d] w (RF (spoiltS a b c d) w) := by
  cases h1 : czero a b
  · cases h2 : czero c d
    · exact spoilt_some a b c d h1 h2 w
    · exact spoilt_none a b c d (.inr h2) w
  · exact spoilt_none a b c d (.inl h1) w
theorem bfinite_any (a b : Nat) (w : World) : Calls Tryz.prog 184 #[.complex .f64 a b] w fun e w' => e = .returned (.bool (cfin a b)) ∧ w = w' := by
  cases hc : cfin a b
  · go_enter Tryz.func184, Tryz.ntmps184
    go_wp2_with (go_at_call 100; refine (kind_not hc _).mono ?_; rintro e w' ⟨k, hk, rfl, rfl⟩)
    go_ret
    exact ⟨rfl, rfl⟩
  · go_enter Tryz.func184, Tryz.ntmps184
    go_wp2_with (go_at_call 100; refine (kind_fin hc _).mono ?_; rintro e w' ⟨rfl, rfl⟩)
    go_ret
    exact ⟨rfl, rfl⟩
end Go.Proofs.YtbgjcpnbdgljbaaGreatDoor
