/- The builtin max on floats, as a total function; no program is in sight. -/
import Derived.Test.YtbgjcpnbdgljbaaGreatDoorMSeq
namespace Go.Fil
open Go
def fmax (x y : Nat) : Nat :=
  match FloatKind.f64.format.order x y with
  | none => qnan
  | some .lt => y
  | some .gt => x
  | some .eq => if (FloatKind.f64.decode x).neg then y else x
def maxTape (w : World) (x y : Nat) : Nat := (Question.nanMinMax .f64 true x y).cut (w.tape w.drawn (.nanMinMax .f64 true x y))
def md (x y : Nat) : Nat := if (FloatKind.f64.format.order x y).isSome then 0 else 1
theorem maxTape_nan (w : World) (x y : Nat) : isNaN (maxTape w x y) = true := by
  have h : ∀ t : Nat, isNaN (t % 2 * 9223372036854775808 + 9218868437227405312 + 1 + t / 2 % 4503599627370495) = true := by
    intro t
    have h1 : t % 2 < 2 := Nat.mod_lt _ (by decide)
    have h2 : t / 2 % 4503599627370495 < 4503599627370495 := Nat.mod_lt _ (by decide)
    generalize t % 2 = s at h1 ⊢
    generalize t / 2 % 4503599627370495 = m at h2 ⊢
    unfold isNaN
    rw [decide_eq_true_eq]; omega
  exact h _
theorem order_nan {x y : Nat} {o : Ordering} (h : FloatKind.f64.format.order x y = some o) : isNaN x = false ∧ isNaN y = false := by
  constructor
  · cases hx : isNaN x
    · rfl
    · rw [order_nan_l y hx] at h; cases h
  · cases hy : isNaN y
    · rfl
    · rw [order_nan_r x hy] at h; cases h
theorem fmax_notNaN {x y : Nat} {o : Ordering} (h : FloatKind.f64.format.order x y = some o) : isNaN (fmax x y) = false := by
  obtain ⟨h1, h2⟩ := order_nan h
  unfold fmax; rw [h]
  cases o <;> dsimp only
  · exact h2
  · split <;> assumption
  · exact h1
@[simp, go_sem] theorem fmax_pick_l (X s Y : Nat) : fmax (pick X s) Y = fmax X Y := by
  cases h : FloatKind.f64.format.order X Y with
  | none => unfold fmax; rw [order_pick_l, h]
  | some o => rw [pick_of (order_nan h).1]
@[simp, go_sem] theorem fmax_pick_r (X Y s : Nat) : fmax X (pick Y s) = fmax X Y := by
  cases h : FloatKind.f64.format.order X Y with
  | none => unfold fmax; rw [order_pick_r, h]
  | some o => rw [pick_of (order_nan h).2]
section
variable {P : Program} (w : World)
theorem run_max2_float (x y : Nat) : (Builtin.max2 (.float .f64 x) (.float .f64 y)).run P w = .ok (.float .f64 (pick (fmax x y) (maxTape w x y))) (w.drewN (md x y)) := by
  cases h : FloatKind.f64.format.order x y with
  | none =>
    have e : pick (fmax x y) (maxTape w x y) = maxTape w x y := by
      unfold fmax; rw [h]; exact pick_nan isNaN_qnan (maxTape_nan w x y)
    rw [e]
    simp [Builtin.max2, h, md, maxTape, Question.forced, World.drew_is_drewN]
  | some o =>
    rw [pick_of (fmax_notNaN h)]
    cases o <;> simp [Builtin.max2, h, md, fmax, World.drewN_zero]
@[go_sem] theorem run_max_float2 (ts : Array TypeId) (t : TypeId) (x y : Nat) : (Builtin.max_ ts t #[.float .f64 x, .float .f64 y]).run P w = .ok (.float .f64 (pick (fmax x y) (maxTape w x y))) (w.drewN (md x y)) := by
  have h := run_max2_float (P := P) w x y
  simp [Builtin.max_, h]
@[go_sem] theorem run_max_float3 (ts : Array TypeId) (t : TypeId) (x y z : Nat) : (Builtin.max_ ts t #[.float .f64 x, .float .f64 y, .float .f64 z]).run P w =
    .ok (.float .f64 (pick (fmax (fmax x y) z) (maxTape (w.drewN (md x y)) (pick (fmax x y) (maxTape w x y)) z))) ((w.drewN (md x y)).drewN (md (pick (fmax x y) (maxTape w x y)) z)) := by
  have h := run_max2_float (P := P) w x y
  have h2 := run_max2_float (P := P) (w.drewN (md x y)) (pick (fmax x y) (maxTape w x y)) z
  rw [fmax_pick_l] at h2
  simp [Builtin.max_, h, h2]
theorem run_farith (op : BinOp) (hop : op = .add ∨ op = .sub ∨ op = .mul ∨ op = .quo) (a b : Nat) :
    (Op.floatArith op .f64 a b).run P w = .ok (.float .f64 (pick (fop op a b) (nanTape w a b))) (w.drewN (fd op a b)) := by
  have h := run_fop (P := P) w op hop 0 a b
  rcases hop with rfl | rfl | rfl | rfl <;> simpa [binOp] using h
@[go_sem] theorem run_csub (t : TypeId) (a b c d : Nat) : (binOp .sub t (.complex .f64 a b) (.complex .f64 c d)).run P w =
    .ok (.complex .f64 (pick (fop .sub a c) (nanTape w a c)) (pick (fop .sub b d) (nanTape (w.drewN (fd .sub a c)) b d))) ((w.drewN (fd .sub a c)).drewN (fd .sub b d)) := by
  have h1 := run_farith (P := P) w .sub (by simp) a c
  have h2 := run_farith (P := P) (w.drewN (fd .sub a c)) .sub (by simp) b d
  simp [binOp, Op.complexOp, Op.Complex.arith, h1, h2]
end
theorem sub_notNaN {a b : Nat} (ha : fin a = true) (hb : fin b = true) : isNaN (fop .sub a b) = false := by
  obtain ⟨s, m, e, h1⟩ := read_fin ha
  obtain ⟨t, n, f, h2⟩ := read_fin hb
  have h : (floatBits .sub .f64 a b).isSome = true := by
    simp only [floatBits, FloatKind.format, Ieee.Format.sub, h1, h2, Ieee.Datum.opposite, Ieee.Datum.sum, Option.map_some, Option.isSome_some]
  obtain ⟨r, h⟩ := Option.isSome_iff_exists.1 h
  exact fop_some h
theorem order_eq_self {x : Nat} (h : isNaN x = false) : (FloatKind.f64.format.order x x == some .eq) = true := by
  rw [order_self, h]; rfl
end Go.Fil
