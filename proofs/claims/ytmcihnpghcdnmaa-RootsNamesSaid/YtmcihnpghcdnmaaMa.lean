/- The contracts of math's small functions, of package bits and of cplx.Kind, at this translation. -/
import Derived.Test.YtmcihnpghcdnmaaProg
import Derived.Test.YtmcihnpghcdnmaaSp
import Derived.WalkKit
import Derived.WalkLawsBesides
import Derived.WalkSpells
import Derived.Outline
import Derived.Laws.Externs
namespace Go.Proofs.Ytmcihnpghcdnmaa
open Go.RowKit Go.Fil

/-- What a function that only reckons answers: a float; a complex number; the world has drawn some NaNs at most. -/
def RF (X : Nat) (w : World) (e : Ending) (w' : World) : Prop := ∃ s n, e = .returned (.float .f64 (pick X s)) ∧ w.drewN n = w'
def RC (X Y : Nat) (w : World) (e : Ending) (w' : World) : Prop := ∃ s t n, e = .returned (.complex .f64 (pick X s) (pick Y t)) ∧ w.drewN n = w'

@[go_sem] theorem run_store_float (P : Program) (w : World) (a : Addr) (m : Mode) (k : FloatKind) (b : Nat) : (store a (.float k b) m).run P w = stored P w a (.float k b) m := run_store P w a _ m rfl
@[go_sem] theorem run_store_complex (P : Program) (w : World) (a : Addr) (m : Mode) (k : FloatKind) (x y : Nat) : (store a (.complex k x y) m).run P w = stored P w a (.complex k x y) m := run_store P w a _ m rfl
theorem run_f64bits (b : Nat) (w : World) : (callFunc 54 #[.float .f64 b]).run Try.prog w = .ok (.value (.int .u64 b)) w :=
  run_callFunc_extern Try.func54 (by kernel_rfl) (by kernel_rfl) (by kernel_rfl) (e := Extern.MathFloatBits.float64bits) (by kernel_rfl) _ w
theorem run_f64from (n : Int) (w : World) : (callFunc 52 #[.int .u64 n]).run Try.prog w = .ok (.value (.float .f64 n.toNat)) w :=
  run_callFunc_extern Try.func52 (by kernel_rfl) (by kernel_rfl) (by kernel_rfl) (e := Extern.MathFloatBits.float64frombits) (by kernel_rfl) _ w
theorem run_fsqrt (x : Nat) (w : World) : (callFunc 68 #[.float .f64 x]).run Try.prog w = .ok (.value (.float .f64 (pick (fsqrt x) (nanTape w x x)))) (w.drewN (sd x)) := by
  rw [run_callFunc_extern Try.func68 (by kernel_rfl) (by kernel_rfl) (by kernel_rfl) (e := Extern.MathSqrt.sqrt) (by kernel_rfl) _ w, run_sqrt]; rfl

theorem abs_any (x : Nat) (w : World) : Calls Try.prog 32 #[.float .f64 x] w fun e w' => ∃ s, e = .returned (.float .f64 (pick (fabs x) s)) ∧ w = w' := by
  have h1 := run_f64bits
  have h2 := run_f64from
  have h3 := abs_bits x
  go_enter Try.func32, Try.ntmps32
  go_wp2
  go_ret
  exact ⟨x % 9223372036854775808, by rw [abs_pick]; congr 2, rfl⟩
theorem inf1_any (w : World) : Calls Try.prog 28 #[.int .i64 1] w fun e w' => e = .returned (.float .f64 9218868437227405312) ∧ w = w' := by
  have h2 := run_f64from
  go_enter Try.func28, Try.ntmps28
  go_wp2
  go_ret
  exact ⟨rfl, rfl⟩
theorem isinf0_any (x : Nat) (w : World) : Calls Try.prog 11 #[.float .f64 x, .int .i64 0] w fun e w' => e = .returned (.bool (infB x)) ∧ w = w' := by
  go_enter Try.func11, Try.ntmps11
  go_wp2_with (go_at_call 32; refine (abs_any _ _).mono ?_; rintro e w' ⟨s, rfl, rfl⟩)
  go_ret
  exact ⟨rfl, rfl⟩
theorem isinf1_any (x : Nat) (w : World) : Calls Try.prog 11 #[.float .f64 x, .int .i64 1] w fun e w' => e = .returned (.bool (pinfB x)) ∧ w = w' := by
  go_enter Try.func11, Try.ntmps11
  go_wp2
  go_ret
  exact ⟨rfl, rfl⟩
theorem sqrt_any (x : Nat) (w : World) : Calls Try.prog 53 #[.float .f64 x] w fun e w' => ∃ s n, e = .returned (.float .f64 (pick (fsqrt x) s)) ∧ w.drewN n = w' := by
  have h1 := run_fsqrt
  go_enter Try.func53, Try.ntmps53
  go_wp2
  go_ret
  exact ⟨_, _, rfl, rfl⟩
theorem finite_any (x : Nat) (w : World) : Calls Try.prog 46 #[.float .f64 x] w fun e w' => ∃ n, e = .returned (.bool (finB x)) ∧ w.drewN n = w' := by
  go_enter Try.func46, Try.ntmps46
  go_wp2
  go_ret
  exact ⟨_, rfl, rfl⟩
theorem nan_any (x : Nat) (w : World) : Calls Try.prog 51 #[.float .f64 x] w fun e w' => e = .returned (.bool (isNaN x)) ∧ w = w' := by
  go_enter Try.func51, Try.ntmps51
  go_wp2
  go_ret
  exact ⟨rfl, rfl⟩
theorem infinite_any (x : Nat) (w : World) : Calls Try.prog 50 #[.float .f64 x] w fun e w' => e = .returned (.bool (infB x)) ∧ w = w' := by
  go_enter Try.func50, Try.ntmps50
  go_wp2_with (go_at_call 11; refine (isinf0_any _ _).mono ?_; rintro e w' ⟨rfl, rfl⟩)
  go_ret
  exact ⟨rfl, rfl⟩
theorem kind_any (a b : Nat) (w : World) : Calls Try.prog 27 #[.complex .f64 a b] w fun e w' => e = .returned (.int .u8 (kindS a b : Int)) ∧ w = w' := by
  unfold kindS
  cases h1 : infB a <;> cases h2 : infB b <;> cases h3 : isNaN a <;> cases h4 : isNaN b
  all_goals
    go_enter Try.func27, Try.ntmps27
    go_wp2_with (first | (go_at_call 50; refine (infinite_any _ _).mono ?_; rintro e w' ⟨rfl, rfl⟩) | (go_at_call 51; refine (nan_any _ _).mono ?_; rintro e w' ⟨rfl, rfl⟩))
    go_ret
    exact ⟨rfl, rfl⟩
theorem ret_eq {v u : Value} (h : v = u) : Ending.returned v = Ending.returned u := by rw [h]
theorem signbit_any (x : Nat) (w : World) : Calls Try.prog 62 #[.float .f64 x] w fun e w' => e = .returned (.bool (signB x)) ∧ w = w' := by
  have h1 := run_f64bits
  go_enter Try.func62, Try.ntmps62
  go_wp2
  go_ret
  refine ⟨ret_eq (v := .bool (decide (wrap64 (x : Int) < 0))) ?_, rfl⟩
  have : decide (wrap64 (x : Int) < 0) = signB x := by
    unfold signB wrap64
    rw [Bool.eq_iff_iff, decide_eq_true_eq, decide_eq_true_eq]
    omega
  rw [this]
theorem like_any (x y : Nat) (w : World) : Calls Try.prog 69 #[.float .f64 x, .float .f64 y] w fun e w' => e = .returned (.bool (likeB x y)) ∧ w = w' := by
  have hb := run_f64bits
  unfold likeB
  by_cases hxy : x = y
  · subst hxy
    go_enter Try.func69, Try.ntmps69
    go_wp2
    go_ret
    exact ⟨ret_eq (v := .bool true) (by simp), rfl⟩
  · have hne : ((x : Int) == (y : Int)) = false := by
      rw [beq_eq_false_iff_ne]; omega
    have hne' : (x == y) = false := by simpa using hxy
    rw [hne']
    clear hxy hne'
    cases h1 : isNaN x <;> cases h2 : isNaN y
    all_goals
      go_enter Try.func69, Try.ntmps69
      go_wp2
      go_ret
      exact ⟨rfl, rfl⟩
theorem up_nan (x : Nat) (hx : isNaN x = true) (w : World) : Calls Try.prog 31 #[.float .f64 x] w fun e w' => e = .returned (.float .f64 x) ∧ w = w' := by
  have h1 := run_f64bits
  have h2 := run_f64from
  go_enter Try.func31, Try.ntmps31
  go_wp2_with (go_at_call 11; refine (isinf1_any _ _).mono ?_; rintro e w' ⟨rfl, rfl⟩)
  go_ret
  exact ⟨rfl, rfl⟩
theorem up_num (x : Nat) (hn : isNaN x = false) (hx : x < 18446744073709551616) (w : World) : Calls Try.prog 31 #[.float .f64 x] w fun e w' => e = .returned (.float .f64 (fup x)) ∧ w = w' := by
  have h1 := run_f64bits
  have h2 := run_f64from
  have h3 := sign_bits x hx
  unfold fup
  rw [hn]
  cases hp : FloatKind.f64.format.order x 9218868437227405311 == some .gt
  · cases hz : FloatKind.f64.format.order x 0 == some .eq
    · by_cases hs : 9223372036854775808 ≤ x
      · rw [if_pos hs] at h3
        have hw : ((x : Int) - 1).toNat = x - 1 := by omega
        go_enter Try.func31, Try.ntmps31
        go_wp2_with (go_at_call 11; refine (isinf1_any _ _).mono ?_; unfold pinfB; rintro e w' ⟨rfl, rfl⟩)
        go_ret
        exact ⟨rfl, rfl⟩
      · rw [if_neg hs] at h3
        go_enter Try.func31, Try.ntmps31
        go_wp2_with (go_at_call 11; refine (isinf1_any _ _).mono ?_; unfold pinfB; rintro e w' ⟨rfl, rfl⟩)
        go_ret
        exact ⟨rfl, rfl⟩
    · go_enter Try.func31, Try.ntmps31
      go_wp2_with (go_at_call 11; refine (isinf1_any _ _).mono ?_; unfold pinfB; rintro e w' ⟨rfl, rfl⟩)
      go_ret
      exact ⟨rfl, rfl⟩
  · go_enter Try.func31, Try.ntmps31
    go_wp2_with (go_at_call 11; refine (isinf1_any _ _).mono ?_; unfold pinfB; rintro e w' ⟨rfl, rfl⟩)
    go_ret
    exact ⟨rfl, rfl⟩
theorem up_any (x : Nat) (hx : NB x) (w : World) : Calls Try.prog 31 #[.float .f64 x] w fun e w' => ∃ s, e = .returned (.float .f64 (pick (fup x) s)) ∧ w = w' := by
  cases hn : isNaN x
  · rcases hx with hx | hx
    · rw [hn] at hx; cases hx
    · exact (up_num x hn hx w).mono fun e w' ⟨he, hw⟩ => ⟨fup x, by rw [pick_self]; exact he, hw⟩
  · exact (up_nan x hn w).mono fun e w' ⟨he, hw⟩ => ⟨x, by rw [fup, if_pos hn, pick_nan isNaN_qnan hn]; exact he, hw⟩
end Go.Proofs.Ytmcihnpghcdnmaa
