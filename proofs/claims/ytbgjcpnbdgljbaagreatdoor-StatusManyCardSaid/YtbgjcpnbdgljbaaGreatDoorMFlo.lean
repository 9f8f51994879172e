/- Floats by their bits: sums, products, quotients as total functions (a NaN is any NaN), and how the model's run reaches them. No program is in sight. -/
import Derived.Laws.FloatArith
import Derived.Laws.Cover3
import Derived.Deep.Draws
import Derived.KernelRfl
import Derived.Laws.BitsAllLaws
namespace Go.Fil
open Go

/-- Is it a NaN? -/
def isNaN (x : Nat) : Bool := decide (9218868437227405312 < x % 9223372036854775808)
/-- One NaN, which stands for all. -/
def qnan : Nat := 9221120237041090561
def nanOf (s : Nat) : Nat := if isNaN s then s else qnan
/-- X, if it is no NaN; else any NaN (s says which). -/
def pick (X s : Nat) : Nat := if isNaN X then nanOf s else X

theorem isNaN_qnan : isNaN qnan = true := by decide
theorem isNaN_nanOf (s : Nat) : isNaN (nanOf s) = true := by
  unfold nanOf; split
  · assumption
  · exact isNaN_qnan
theorem isNaN_pick (X s : Nat) : isNaN (pick X s) = isNaN X := by
  unfold pick; split
  · rename_i h; rw [isNaN_nanOf, h]
  · rfl
theorem pick_of {X : Nat} (h : isNaN X = false) (s : Nat) : pick X s = X := by simp [pick, h]
theorem pick_self (X : Nat) : pick X X = X := by
  unfold pick nanOf; split
  · simp
  · rfl
theorem pick_nan {X r : Nat} (hX : isNaN X = true) (hr : isNaN r = true) : pick X r = r := by
  simp [pick, nanOf, hX, hr]
/-- A float of 64 bits, or a NaN. -/
def NB (x : Nat) : Prop := isNaN x = true ∨ x < 18446744073709551616
theorem NB.pick {X : Nat} (h : NB X) (s : Nat) : NB (pick X s) := by
  rcases h with h | h
  · exact .inl (by rw [isNaN_pick]; exact h)
  · cases hX : isNaN X
    · rw [pick_of hX]; exact .inr h
    · exact .inl (by rw [isNaN_pick]; exact hX)

theorem sw_double : Ieee.double.signWeight = 9223372036854775808 := by decide
theorem ir_double : Ieee.double.infRung = 9218868437227405312 := by decide
theorem bi_double : Ieee.double.binade = 4503599627370496 := by decide

theorem isNaN_read (x : Nat) : (Ieee.double.read x).isNaN = isNaN x := by
  unfold Ieee.Format.read isNaN
  simp only [sw_double, ir_double, bi_double]
  split
  · simp [Ieee.Datum.isNaN]; omega
  · split
    · simp [Ieee.Datum.isNaN]; omega
    · split
      · simp [Ieee.Datum.isNaN]; omega
      · simp [Ieee.Datum.isNaN]; omega
theorem read_of_nan {x : Nat} (h : isNaN x = true) : ∃ n f, Ieee.double.read x = .nan n f := by
  rw [← isNaN_read] at h
  cases hr : Ieee.double.read x with
  | nan n f => exact ⟨n, f, rfl⟩
  | infinity n => simp [hr, Ieee.Datum.isNaN] at h
  | number n m p => simp [hr, Ieee.Datum.isNaN] at h

/-- What an operation gives, by bits; qnan for any NaN. -/
def fop (op : BinOp) (a b : Nat) : Nat := (floatBits op .f64 a b).getD qnan

theorem floatBits_nan_l (op : BinOp) {a : Nat} (b : Nat) (h : isNaN a = true) : floatBits op .f64 a b = none := by
  obtain ⟨n, f, hr⟩ := read_of_nan h
  cases op <;> simp [floatBits, FloatKind.format, Ieee.Format.add, Ieee.Format.sub, Ieee.Format.mul, Ieee.Format.div, hr, Ieee.Datum.sum, Ieee.Datum.product, Ieee.Datum.quotient]
theorem floatBits_nan_r (op : BinOp) (a : Nat) {b : Nat} (h : isNaN b = true) : floatBits op .f64 a b = none := by
  obtain ⟨n, f, hr⟩ := read_of_nan h
  cases op <;> cases ha : Ieee.double.read a <;> simp [floatBits, FloatKind.format, Ieee.Format.add, Ieee.Format.sub, Ieee.Format.mul, Ieee.Format.div, hr, ha, Ieee.Datum.sum, Ieee.Datum.product, Ieee.Datum.quotient, Ieee.Datum.opposite]
theorem order_nan_l {a : Nat} (b : Nat) (h : isNaN a = true) : FloatKind.f64.format.order a b = none := by
  obtain ⟨n, f, hr⟩ := read_of_nan h
  simp [FloatKind.format, Ieee.Format.order, hr, Ieee.Datum.order]
theorem order_nan_r (a : Nat) {b : Nat} (h : isNaN b = true) : FloatKind.f64.format.order a b = none := by
  obtain ⟨n, f, hr⟩ := read_of_nan h
  cases ha : Ieee.double.read a <;> simp [FloatKind.format, Ieee.Format.order, hr, ha, Ieee.Datum.order]

@[simp, go_sem] theorem fop_pick_l (op : BinOp) (X s b : Nat) : fop op (pick X s) b = fop op X b := by
  by_cases h : isNaN X = true
  · rw [fop, fop, floatBits_nan_l op b h, floatBits_nan_l op b (by rw [isNaN_pick]; exact h)]
  · rw [pick_of (by simpa using h)]
@[simp, go_sem] theorem fop_pick_r (op : BinOp) (a X s : Nat) : fop op a (pick X s) = fop op a X := by
  by_cases h : isNaN X = true
  · rw [fop, fop, floatBits_nan_r op a h, floatBits_nan_r op a (by rw [isNaN_pick]; exact h)]
  · rw [pick_of (by simpa using h)]
@[simp, go_sem] theorem order_pick_l (X s b : Nat) : FloatKind.f64.format.order (pick X s) b = FloatKind.f64.format.order X b := by
  by_cases h : isNaN X = true
  · rw [order_nan_l b h, order_nan_l b (by rw [isNaN_pick]; exact h)]
  · rw [pick_of (by simpa using h)]
@[simp, go_sem] theorem order_pick_r (a X s : Nat) : FloatKind.f64.format.order a (pick X s) = FloatKind.f64.format.order a X := by
  by_cases h : isNaN X = true
  · rw [order_nan_r a h, order_nan_r a (by rw [isNaN_pick]; exact h)]
  · rw [pick_of (by simpa using h)]
@[simp, go_sem] theorem pick_pick (X s t : Nat) : pick (pick X s) t = pick X t := by
  by_cases h : isNaN X = true
  · simp [pick, isNaN_nanOf, h]
  · have h' : isNaN X = false := by simpa using h
    rw [pick_of h' s, pick_of h' t]

/-- What a word written by the format is never: a NaN (but of a NaN). -/
theorem isNaN_word (n : Bool) {r : Nat} (h : r ≤ 9218868437227405312) : isNaN (Ieee.double.word n r) = false := by
  unfold Ieee.Format.word isNaN
  simp only [sw_double]
  split <;> simp <;> omega
theorem isNaN_nearest (n : Bool) (m : Nat) (p : Int) : isNaN (Ieee.double.nearest n m p) = false := by
  unfold Ieee.Format.nearest
  dsimp only
  split
  · exact isNaN_word n (Nat.zero_le _)
  · refine isNaN_word n ?_
    have := Nat.min_le_right ((max (p + (m.log2 : Int) - (Ieee.double.fractionBits : Int)) Ieee.double.leastPlace - Ieee.double.leastPlace).toNat * Ieee.double.binade + Ieee.Toward.even.cut n (m <<< (p - max (p + (m.log2 : Int) - (Ieee.double.fractionBits : Int)) Ieee.double.leastPlace).toNat) (max (p + (m.log2 : Int) - (Ieee.double.fractionBits : Int)) Ieee.double.leastPlace - p).toNat) Ieee.double.infRung
    rw [ir_double] at this
    exact this
theorem isNaN_write {d : Ieee.Datum} (h : d.isNaN = false) : isNaN (Ieee.double.write d) = false := by
  cases d with
  | nan n f => simp [Ieee.Datum.isNaN] at h
  | infinity n => exact isNaN_word n (by rw [ir_double]; exact Nat.le_refl _)
  | number n m p => exact isNaN_nearest n m p
theorem sum_notNaN {x y d : Ieee.Datum} (h : x.sum y = some d) : d.isNaN = false := by
  cases x <;> cases y <;> simp [Ieee.Datum.sum] at h <;> first | (subst h; rfl) | (obtain ⟨_, h⟩ := h; subst h; rfl)
theorem product_notNaN {x y d : Ieee.Datum} (h : x.product y = some d) : d.isNaN = false := by
  cases x <;> cases y <;> simp [Ieee.Datum.product] at h <;> first | (subst h; rfl) | (obtain ⟨_, h⟩ := h; subst h; rfl)
theorem quotient_notNaN {n : Nat} {x y d : Ieee.Datum} (h : x.quotient n y = some d) : d.isNaN = false := by
  cases x <;> cases y <;> simp [Ieee.Datum.quotient] at h
  all_goals first
    | (subst h; rfl)
    | (repeat' split at h) <;> simp_all <;> (subst h; rfl)
theorem floatBits_notNaN {op : BinOp} {a b r : Nat} (h : floatBits op .f64 a b = some r) : isNaN r = false := by
  cases op <;> simp [floatBits, FloatKind.format, Ieee.Format.add, Ieee.Format.sub, Ieee.Format.mul, Ieee.Format.div] at h
  · obtain ⟨d, hd, rfl⟩ := h; exact isNaN_write (sum_notNaN hd)
  · obtain ⟨d, hd, rfl⟩ := h; exact isNaN_write (sum_notNaN hd)
  · obtain ⟨d, hd, rfl⟩ := h; exact isNaN_write (product_notNaN hd)
  · obtain ⟨d, hd, rfl⟩ := h; exact isNaN_write (quotient_notNaN hd)
theorem fop_lt (op : BinOp) (a b : Nat) : fop op a b < 18446744073709551616 := by
  unfold fop
  cases h : floatBits op .f64 a b with
  | none => exact (by decide : qnan < 18446744073709551616)
  | some r => have := floatBits_wf h; simpa [Lit.wf] using this

/-- How many draws an operation takes; which NaN the tape gives. -/
def fd (op : BinOp) (a b : Nat) : Nat := if (floatBits op .f64 a b).isSome then 0 else 1
def nanTape (w : World) (a b : Nat) : Nat := (Question.nanBits .f64 a b).cut (w.tape w.drawn (.nanBits .f64 a b))
theorem nanTape_nan (w : World) (a b : Nat) : isNaN (nanTape w a b) = true ∧ nanTape w a b < 18446744073709551616 := by
  have h : ∀ t : Nat, isNaN (t % 2 * 9223372036854775808 + 9218868437227405312 + 1 + t / 2 % 4503599627370495) = true ∧ t % 2 * 9223372036854775808 + 9218868437227405312 + 1 + t / 2 % 4503599627370495 < 18446744073709551616 := by
    intro t
    have h1 : t % 2 < 2 := Nat.mod_lt _ (by decide)
    have h2 : t / 2 % 4503599627370495 < 4503599627370495 := Nat.mod_lt _ (by decide)
    generalize t % 2 = s at h1 ⊢
    generalize t / 2 % 4503599627370495 = m at h2 ⊢
    unfold isNaN
    constructor
    · rw [decide_eq_true_eq]; omega
    · omega
  exact h _

section
variable {P : Program} (w : World)
theorem run_fop (op : BinOp) (hop : op = .add ∨ op = .sub ∨ op = .mul ∨ op = .quo) (t : TypeId) (a b : Nat) :
    (binOp op t (.float .f64 a) (.float .f64 b)).run P w = .ok (.float .f64 (pick (fop op a b) (nanTape w a b))) (w.drewN (fd op a b)) := by
  cases h : floatBits op .f64 a b with
  | some r =>
    rw [run_float_arith w op t .f64 a b r h]
    simp [fop, fd, h, pick_of (floatBits_notNaN h), World.drewN_zero]
  | none =>
    have hn := nanTape_nan w a b
    have e : pick (fop op a b) (nanTape w a b) = nanTape w a b := by
      rw [fop, h]; exact pick_nan isNaN_qnan hn.1
    rw [e]
    rcases hop with rfl | rfl | rfl | rfl <;> simp [floatBits] at h <;>
      simp [binOp, Op.floatArith, h, fd, floatBits, nanTape, Question.forced, World.drew_is_drewN]
@[go_sem] theorem run_fadd (t : TypeId) (a b : Nat) : (binOp .add t (.float .f64 a) (.float .f64 b)).run P w = .ok (.float .f64 (pick (fop .add a b) (nanTape w a b))) (w.drewN (fd .add a b)) := run_fop w .add (by simp) t a b
@[go_sem] theorem run_fsub (t : TypeId) (a b : Nat) : (binOp .sub t (.float .f64 a) (.float .f64 b)).run P w = .ok (.float .f64 (pick (fop .sub a b) (nanTape w a b))) (w.drewN (fd .sub a b)) := run_fop w .sub (by simp) t a b
@[go_sem] theorem run_fmul (t : TypeId) (a b : Nat) : (binOp .mul t (.float .f64 a) (.float .f64 b)).run P w = .ok (.float .f64 (pick (fop .mul a b) (nanTape w a b))) (w.drewN (fd .mul a b)) := run_fop w .mul (by simp) t a b
@[go_sem] theorem run_fquo (t : TypeId) (a b : Nat) : (binOp .quo t (.float .f64 a) (.float .f64 b)).run P w = .ok (.float .f64 (pick (fop .quo a b) (nanTape w a b))) (w.drewN (fd .quo a b)) := run_fop w .quo (by simp) t a b
end

theorem order_self (x : Nat) : FloatKind.f64.format.order x x = if isNaN x then none else some .eq := by
  cases h : isNaN x
  · rw [← isNaN_read] at h
    simp only [FloatKind.format, Ieee.Format.order]
    cases hr : Ieee.double.read x with
    | nan n f => simp [hr, Ieee.Datum.isNaN] at h
    | infinity n => simp [Ieee.Datum.order]
    | number n m p => simp [Ieee.Datum.order]
  · rw [order_nan_l x h]; rfl
@[simp, go_sem] theorem order_self_ne (x : Nat) : (FloatKind.f64.format.order x x != some .eq) = isNaN x := by
  rw [order_self]; cases isNaN x <;> rfl

/-- Finite; one of the two infinities. -/
def fin (x : Nat) : Bool := decide (x % 9223372036854775808 < 9218868437227405312)
def isInf (x : Nat) : Bool := decide (x % 9223372036854775808 = 9218868437227405312)
@[simp, go_sem] theorem isNaN_pick' (X s : Nat) : isNaN (pick X s) = isNaN X := isNaN_pick X s
theorem not_nan_of_fin {x : Nat} (h : fin x = true) : isNaN x = false := by
  unfold fin at h; unfold isNaN; simp at h ⊢; omega
@[simp, go_sem] theorem fin_pick (X s : Nat) : fin (pick X s) = fin X := by
  cases h : isNaN X
  · rw [pick_of h]
  · have h1 := isNaN_pick X s
    rw [h] at h1
    have : ∀ y, isNaN y = true → fin y = false := by
      intro y hy; unfold isNaN at hy; unfold fin; simp at hy ⊢; omega
    rw [this _ h1, this _ h]
@[simp, go_sem] theorem isInf_pick (X s : Nat) : isInf (pick X s) = isInf X := by
  cases h : isNaN X
  · rw [pick_of h]
  · have h1 := isNaN_pick X s
    rw [h] at h1
    have : ∀ y, isNaN y = true → isInf y = false := by
      intro y hy; unfold isNaN at hy; unfold isInf; simp at hy ⊢; omega
    rw [this _ h1, this _ h]

/-- The magnitude; the next float above, below. -/
def fabs (x : Nat) : Nat := if isNaN x then qnan else x % 9223372036854775808
def fup (x : Nat) : Nat :=
  if isNaN x then qnan else if FloatKind.f64.format.order x 9218868437227405311 == some .gt then x else if FloatKind.f64.format.order x 0 == some .eq then 1 else if 9223372036854775808 ≤ x then x - 1 else x + 1
def fdown (x : Nat) : Nat :=
  if isNaN x then qnan else if FloatKind.f64.format.order x 18442240474082181119 == some .lt then x else if FloatKind.f64.format.order x 0 == some .eq then 9223372036854775809 else if 9223372036854775808 ≤ x then x + 1 else x - 1
def fneg (x : Nat) : Nat := if isNaN x then qnan else Op.negFloat .f64 x
def fsqrt (x : Nat) : Nat := (Ieee.double.sqrt x).getD qnan
@[simp, go_sem] theorem fabs_pick (X s : Nat) : fabs (pick X s) = fabs X := by
  cases h : isNaN X
  · rw [pick_of h]
  · simp [fabs, h]
@[simp, go_sem] theorem fup_pick (X s : Nat) : fup (pick X s) = fup X := by
  cases h : isNaN X
  · rw [pick_of h]
  · simp [fup, h]
@[simp, go_sem] theorem fdown_pick (X s : Nat) : fdown (pick X s) = fdown X := by
  cases h : isNaN X
  · rw [pick_of h]
  · simp [fdown, h]
@[simp, go_sem] theorem fneg_pick (X s : Nat) : fneg (pick X s) = fneg X := by
  cases h : isNaN X
  · rw [pick_of h]
  · simp [fneg, h]
theorem sqrt_nan {x : Nat} (h : isNaN x = true) : Ieee.double.sqrt x = none := by
  obtain ⟨n, f, hr⟩ := read_of_nan h
  simp [Ieee.Format.sqrt, hr, Ieee.Datum.root]
@[simp, go_sem] theorem fsqrt_pick (X s : Nat) : fsqrt (pick X s) = fsqrt X := by
  cases h : isNaN X
  · rw [pick_of h]
  · unfold fsqrt; rw [sqrt_nan h, sqrt_nan (by rw [isNaN_pick]; exact h)]
/-- A value that is X, or any NaN if X is one. -/
theorem as_pick {X r : Nat} (h : isNaN X = false → r = X) (hn : isNaN X = true → isNaN r = true) : pick X r = r := by
  cases hX : isNaN X
  · rw [pick_of hX]; exact (h hX).symm
  · rw [pick_nan hX (hn hX)]
theorem NB_fop (op : BinOp) (a b : Nat) : NB (fop op a b) := .inr (fop_lt op a b)
theorem fsqrt_lt (x : Nat) : fsqrt x < 18446744073709551616 := by
  unfold fsqrt
  cases h : Ieee.double.sqrt x with
  | none => exact (by decide : qnan < 18446744073709551616)
  | some r => exact Ieee.double.sqrt_lt h
theorem NB_fsqrt (x : Nat) : NB (fsqrt x) := .inr (fsqrt_lt x)
theorem root_notNaN {n : Nat} {x d : Ieee.Datum} (h : x.root n = some d) : d.isNaN = false := by
  cases x <;> simp [Ieee.Datum.root] at h
  all_goals first
    | (obtain ⟨_, h⟩ := h; subst h; rfl)
    | (repeat' split at h) <;> simp_all <;> (subst h; rfl)
theorem sqrt_notNaN {x r : Nat} (h : Ieee.double.sqrt x = some r) : isNaN r = false := by
  simp [Ieee.Format.sqrt] at h
  obtain ⟨d, hd, rfl⟩ := h
  exact isNaN_write (root_notNaN hd)
theorem isNaN_neg (x : Nat) : isNaN (Op.negFloat .f64 x) = isNaN x := by
  have h : Op.negFloat .f64 x % 9223372036854775808 = x % 9223372036854775808 := by
    show (x ^^^ 2 ^ 63) % 2 ^ 63 = x % 2 ^ 63
    rw [Nat.xor_mod_two_pow]; simp
  unfold isNaN; rw [h]
theorem neg_pick (x : Nat) : pick (fneg x) (Op.negFloat .f64 x) = Op.negFloat .f64 x := by
  cases h : isNaN x
  · simp [fneg, h, pick_of, isNaN_neg]
  · exact pick_nan (by simp [fneg, h, isNaN_qnan]) (by rw [isNaN_neg, h])
section
variable {P : Program} (w : World)
@[go_sem] theorem run_fneg (x : Nat) : (Op.unary .neg (.float .f64 x)).run P w = .ok (.float .f64 (pick (fneg x) (Op.negFloat .f64 x))) w := by
  rw [neg_pick]; rfl
def sd (x : Nat) : Nat := if (Ieee.double.sqrt x).isSome then 0 else 1
theorem run_sqrt (x : Nat) : (Extern.MathSqrt.sqrt #[.float .f64 x]).run P w = .ok (.float .f64 (pick (fsqrt x) (nanTape w x x))) (w.drewN (sd x)) := by
  change Sem.run P (match FloatKind.f64.format.sqrt x with
    | some r => pure (Value.float .f64 r)
    | none => do pure (Value.float .f64 (← choose (.nanBits .f64 x x)))) w = _
  cases h : Ieee.double.sqrt x with
  | some r => simp [FloatKind.format, h, fsqrt, sd, pick_of (sqrt_notNaN h), World.drewN_zero]
  | none =>
    have hn := nanTape_nan w x x
    have e : pick (fsqrt x) (nanTape w x x) = nanTape w x x := by
      rw [fsqrt, h]; exact pick_nan isNaN_qnan hn.1
    rw [e]
    simp [FloatKind.format, h, sd, nanTape, Question.forced, World.drew_is_drewN]
end

/-! Bits of 64-bit words. -/
theorem ofInt_mod (x : Nat) : BitVec.ofInt 64 (x : Int) = BitVec.ofInt 64 ((x % 18446744073709551616 : Nat) : Int) := by
  rw [BitVec.ofInt_natCast, BitVec.ofInt_natCast]
  apply BitVec.eq_of_toNat_eq
  simp
theorem abs_bits (x : Nat) : bits .andNot .u64 (x : Int) 9223372036854775808 = ((x % 9223372036854775808 : Nat) : Int) := by
  have h : bits .andNot .u64 (x : Int) 9223372036854775808 = bits .andNot .u64 ((x % 18446744073709551616 : Nat) : Int) ((9223372036854775808 : Nat) : Int) := by
    unfold bits; rw [show IntKind.u64.bits = 64 from rfl, ofInt_mod]; rfl
  rw [h, u64_andNot_nat _ _ (Nat.mod_lt _ (by decide)) (by decide)]
  have : (x % 18446744073709551616) &&& (18446744073709551615 - 9223372036854775808) = x % 9223372036854775808 := by
    rw [show 18446744073709551615 - 9223372036854775808 = 2 ^ 63 - 1 by decide, Nat.and_two_pow_sub_one_eq_mod]; omega
  rw [this]
theorem sign_bits (x : Nat) (hx : x < 18446744073709551616) : bits .and .u64 (x : Int) 9223372036854775808 = if 9223372036854775808 ≤ x then 9223372036854775808 else 0 := by
  have h := u64_and_nat x 9223372036854775808 hx (by decide)
  have e : ((9223372036854775808 : Nat) : Int) = 9223372036854775808 := rfl
  rw [e] at h
  rw [h, show (9223372036854775808 : Nat) = 2 ^ 63 by decide, nat_bit]
  split
  · rename_i h1
    have : x / 2 ^ 63 % 2 = 1 := by omega
    rw [this]; rfl
  · rename_i h1
    have : x / 2 ^ 63 % 2 = 0 := by omega
    rw [this]; rfl
/-- The magnitude's word, as a float that may be a NaN. -/
theorem abs_pick (x : Nat) : pick (fabs x) (x % 9223372036854775808) = x % 9223372036854775808 := by
  have h : isNaN (x % 9223372036854775808) = isNaN x := by unfold isNaN; rw [Nat.mod_mod]
  refine as_pick (fun hX => ?_) (fun hX => ?_)
  · have hx : isNaN x = false := by
      cases h0 : isNaN x
      · rfl
      · simp [fabs, h0, isNaN_qnan] at hX
    simp [fabs, hx]
  · cases h0 : isNaN x
    · simp [fabs, h0, h] at hX
    · rw [h, h0]
end Go.Fil

/- What the program's functions on floats, complex numbers and balls compute, as plain functions of the bits. -/
namespace Go.Fil
open Go

/-! comparisons -/
def feq (a b : Nat) : Bool := FloatKind.f64.format.order a b == some .eq
def flt (a b : Nat) : Bool := FloatKind.f64.format.order a b == some .lt
def fgt (a b : Nat) : Bool := FloatKind.f64.format.order a b == some .gt
def fle (a b : Nat) : Bool := FloatKind.f64.format.order a b == some .lt || FloatKind.f64.format.order a b == some .eq
def fge (a b : Nat) : Bool := FloatKind.f64.format.order a b == some .gt || FloatKind.f64.format.order a b == some .eq

/-! math.IsInf(x, 0), math.IsInf(x, 1), bits.Finite, cplx.Kind -/
def infB (x : Nat) : Bool := FloatKind.f64.format.order (fabs x) 9218868437227405311 == some .gt
def pinfB (x : Nat) : Bool := FloatKind.f64.format.order x 9218868437227405311 == some .gt
def finB (x : Nat) : Bool := FloatKind.f64.format.order (fop .sub x x) 0 == some .eq
def kindS (a b : Nat) : Nat := if infB a || infB b then 1 else if isNaN a || isNaN b then 2 else 0
def cfin (a b : Nat) : Bool := kindS a b == 0
def signB (x : Nat) : Bool := decide (9223372036854775808 ≤ x % 18446744073709551616)
section
variable (X Y s t : Nat)
@[simp, go_sem] theorem infB_pick : infB (pick X s) = infB X := by simp [infB]
@[simp, go_sem] theorem pinfB_pick : pinfB (pick X s) = pinfB X := by simp [pinfB]
@[simp, go_sem] theorem finB_pick : finB (pick X s) = finB X := by simp [finB]
@[simp, go_sem] theorem kindS_pick_l : kindS (pick X s) Y = kindS X Y := by simp [kindS]
@[simp, go_sem] theorem kindS_pick_r : kindS X (pick Y s) = kindS X Y := by simp [kindS]
@[simp, go_sem] theorem cfin_pick_l : cfin (pick X s) Y = cfin X Y := by simp [cfin]
@[simp, go_sem] theorem cfin_pick_r : cfin X (pick Y s) = cfin X Y := by simp [cfin]
end

/-! package cplx -/
def mulRe (a b c d : Nat) : Nat := fop .sub (fop .mul a c) (fop .mul b d)
def mulIm (a b c d : Nat) : Nat := fop .add (fop .mul a d) (fop .mul b c)
def quoBig (c d : Nat) : Bool := fge (fabs c) (fabs d)
def quoRe (a b c d : Nat) : Nat :=
  if quoBig c d then
    let t := fop .quo d c
    fop .quo (fop .add a (fop .mul b t)) (fop .add c (fop .mul d t))
  else
    let t := fop .quo c d
    fop .quo (fop .add (fop .mul a t) b) (fop .add d (fop .mul c t))
def quoIm (a b c d : Nat) : Nat :=
  if quoBig c d then
    let t := fop .quo d c
    fop .quo (fop .sub b (fop .mul a t)) (fop .add c (fop .mul d t))
  else
    let t := fop .quo c d
    fop .quo (fop .sub (fop .mul b t) a) (fop .add d (fop .mul c t))
def sizeP (a b : Nat) : Nat := if flt (fabs a) (fabs b) then fabs b else fabs a
def sizeQ (a b : Nat) : Nat := if flt (fabs a) (fabs b) then fabs a else fabs b
/-- Of 1, by bits. -/
def fone : Nat := 4607182418800017408
def reachUp (p q : Nat) : Nat :=
  let t := fup (fop .quo q p)
  fup (fop .mul p (fup (fsqrt (fup (fop .add fone (fup (fop .mul t t)))))))
def hiS (a b : Nat) : Nat :=
  if cfin a b then (if feq (sizeQ a b) 0 then sizeP a b else reachUp (sizeP a b) (sizeQ a b)) else 9218868437227405312

/-! package ball: numbers -/
def plusS (x y : Nat) : Nat := if feq x 0 then y else if feq y 0 then x else fup (fop .add x y)
def timesS (x y : Nat) : Nat := if feq x 0 || feq y 0 then 0 else fup (fop .mul x y)
def lostS (x y : Nat) : Nat :=
  if feq x 0 || feq y 0 || feq (fop .add x y) 0 then 0 else fup (fop .mul (fabs (fop .add x y)) 4368491638549381120)
def lostBothS (a b c d : Nat) : Nat := plusS (lostS a c) (lostS b d)
def czero (a b : Nat) : Bool := feq a 0 && feq b 0
def spoiltS (a b c d : Nat) : Nat :=
  if czero a b || czero c d then 0 else
  let one := plusS (fabs (fop .mul a c)) (fabs (fop .mul b d))
  let two := plusS (fabs (fop .mul a d)) (fabs (fop .mul b c))
  plusS (fup (fop .mul (plusS one two) 4377498837804122112)) 16

/-! package ball: a ball is a centre's two parts and a radius -/
abbrev Bl := Nat × Nat × Nat
def wholeS : Bl := (0, 0, 9218868437227405312)
def toldS (a b r : Nat) : Bl := if cfin a b && finB r then (a, b, r) else wholeS
/-- The bits that cplx.Same compares: of a NaN none. -/
def likeB (x y : Nat) : Bool := (x == y) || (isNaN x && isNaN y)
def mayS (B : Bl) : Bool := if pinfB B.2.2 then likeB B.1 0 && likeB B.2.1 0 else cfin B.1 B.2.1 && (finB B.2.2 && !signB B.2.2)
def isWholeS (B : Bl) : Bool := !mayS B || pinfB B.2.2
def pointS (a b : Nat) : Bl := toldS a b 0
def negS (B : Bl) : Bl := if isWholeS B then wholeS else (fneg B.1, fneg B.2.1, B.2.2)
def addS (A B : Bl) : Bl :=
  if isWholeS A || isWholeS B then wholeS else
  toldS (fop .add A.1 B.1) (fop .add A.2.1 B.2.1) (plusS (plusS A.2.2 B.2.2) (lostBothS A.1 A.2.1 B.1 B.2.1))
def subS (A B : Bl) : Bl :=
  if isWholeS A || isWholeS B then wholeS else
  toldS (fop .sub A.1 B.1) (fop .sub A.2.1 B.2.1) (plusS (plusS A.2.2 B.2.2) (lostBothS A.1 A.2.1 (fneg B.1) (fneg B.2.1)))
def mulS (A B : Bl) : Bl :=
  if isWholeS A || isWholeS B then wholeS else
  toldS (mulRe A.1 A.2.1 B.1 B.2.1) (mulIm A.1 A.2.1 B.1 B.2.1)
    (plusS (plusS (timesS (hiS A.1 A.2.1) B.2.2) (timesS (hiS B.1 B.2.1) A.2.2)) (plusS (timesS A.2.2 B.2.2) (spoiltS A.1 A.2.1 B.1 B.2.1)))
def bhiS (A : Bl) : Nat := if isWholeS A then 9218868437227405312 else plusS (hiS A.1 A.2.1) A.2.2

/-! What stands in a NaN's place does not matter. -/
section
variable (X Y Z W s t u : Nat)
@[simp, go_sem] theorem feq_pick_l : feq (pick X s) Y = feq X Y := by simp [feq]
@[simp, go_sem] theorem feq_pick_r : feq X (pick Y s) = feq X Y := by simp [feq]
@[simp, go_sem] theorem flt_pick_l : flt (pick X s) Y = flt X Y := by simp [flt]
@[simp, go_sem] theorem flt_pick_r : flt X (pick Y s) = flt X Y := by simp [flt]
@[simp, go_sem] theorem fgt_pick_l : fgt (pick X s) Y = fgt X Y := by simp [fgt]
@[simp, go_sem] theorem fgt_pick_r : fgt X (pick Y s) = fgt X Y := by simp [fgt]
@[simp, go_sem] theorem reachUp_pick_l : reachUp (pick X s) Y = reachUp X Y := by simp [reachUp]
@[simp, go_sem] theorem reachUp_pick_r : reachUp X (pick Y s) = reachUp X Y := by simp [reachUp]
@[simp, go_sem] theorem sizeP_pick_l : sizeP (pick X s) Y = sizeP X Y := by simp [sizeP]
@[simp, go_sem] theorem sizeP_pick_r : sizeP X (pick Y s) = sizeP X Y := by simp [sizeP]
@[simp, go_sem] theorem sizeQ_pick_l : sizeQ (pick X s) Y = sizeQ X Y := by simp [sizeQ]
@[simp, go_sem] theorem sizeQ_pick_r : sizeQ X (pick Y s) = sizeQ X Y := by simp [sizeQ]
@[simp, go_sem] theorem hiS_pick_l : hiS (pick X s) Y = hiS X Y := by simp [hiS]
@[simp, go_sem] theorem hiS_pick_r : hiS X (pick Y s) = hiS X Y := by simp [hiS]
@[simp, go_sem] theorem mulRe_pick1 : mulRe (pick X s) Y Z W = mulRe X Y Z W := by simp [mulRe]
@[simp, go_sem] theorem mulRe_pick2 : mulRe X (pick Y s) Z W = mulRe X Y Z W := by simp [mulRe]
@[simp, go_sem] theorem mulRe_pick3 : mulRe X Y (pick Z s) W = mulRe X Y Z W := by simp [mulRe]
@[simp, go_sem] theorem mulRe_pick4 : mulRe X Y Z (pick W s) = mulRe X Y Z W := by simp [mulRe]
@[simp, go_sem] theorem mulIm_pick1 : mulIm (pick X s) Y Z W = mulIm X Y Z W := by simp [mulIm]
@[simp, go_sem] theorem mulIm_pick2 : mulIm X (pick Y s) Z W = mulIm X Y Z W := by simp [mulIm]
@[simp, go_sem] theorem mulIm_pick3 : mulIm X Y (pick Z s) W = mulIm X Y Z W := by simp [mulIm]
@[simp, go_sem] theorem mulIm_pick4 : mulIm X Y Z (pick W s) = mulIm X Y Z W := by simp [mulIm]
@[simp, go_sem] theorem quoBig_pick_l : quoBig (pick X s) Y = quoBig X Y := by simp [quoBig, fge]
@[simp, go_sem] theorem quoBig_pick_r : quoBig X (pick Y s) = quoBig X Y := by simp [quoBig, fge]
@[simp, go_sem] theorem quoRe_pick1 : quoRe (pick X s) Y Z W = quoRe X Y Z W := by simp [quoRe]
@[simp, go_sem] theorem quoRe_pick2 : quoRe X (pick Y s) Z W = quoRe X Y Z W := by simp [quoRe]
@[simp, go_sem] theorem quoRe_pick3 : quoRe X Y (pick Z s) W = quoRe X Y Z W := by simp [quoRe]
@[simp, go_sem] theorem quoRe_pick4 : quoRe X Y Z (pick W s) = quoRe X Y Z W := by simp [quoRe]
@[simp, go_sem] theorem quoIm_pick1 : quoIm (pick X s) Y Z W = quoIm X Y Z W := by simp [quoIm]
@[simp, go_sem] theorem quoIm_pick2 : quoIm X (pick Y s) Z W = quoIm X Y Z W := by simp [quoIm]
@[simp, go_sem] theorem quoIm_pick3 : quoIm X Y (pick Z s) W = quoIm X Y Z W := by simp [quoIm]
@[simp, go_sem] theorem quoIm_pick4 : quoIm X Y Z (pick W s) = quoIm X Y Z W := by simp [quoIm]
@[simp, go_sem] theorem plusS_pick_l : pick (plusS (pick X s) Y) t = pick (plusS X Y) t := by
  simp only [plusS, feq_pick_l, fop_pick_l]
  split
  · rfl
  · split
    · exact pick_pick X s t
    · rfl
@[simp, go_sem] theorem plusS_pick_r : pick (plusS X (pick Y s)) t = pick (plusS X Y) t := by
  simp only [plusS, feq_pick_l, fop_pick_r]
  split
  · exact pick_pick Y s t
  · rfl
@[simp, go_sem] theorem timesS_pick_l : timesS (pick X s) Y = timesS X Y := by simp [timesS]
@[simp, go_sem] theorem timesS_pick_r : timesS X (pick Y s) = timesS X Y := by simp [timesS]
@[simp, go_sem] theorem lostS_pick_l : lostS (pick X s) Y = lostS X Y := by simp [lostS]
@[simp, go_sem] theorem lostS_pick_r : lostS X (pick Y s) = lostS X Y := by simp [lostS]
@[simp, go_sem] theorem lostBothS_pick1 : lostBothS (pick X s) Y Z W = lostBothS X Y Z W := by simp [lostBothS]
@[simp, go_sem] theorem lostBothS_pick2 : lostBothS X (pick Y s) Z W = lostBothS X Y Z W := by simp [lostBothS]
@[simp, go_sem] theorem lostBothS_pick3 : lostBothS X Y (pick Z s) W = lostBothS X Y Z W := by simp [lostBothS]
@[simp, go_sem] theorem lostBothS_pick4 : lostBothS X Y Z (pick W s) = lostBothS X Y Z W := by simp [lostBothS]
@[simp, go_sem] theorem czero_pick_l : czero (pick X s) Y = czero X Y := by simp [czero]
@[simp, go_sem] theorem czero_pick_r : czero X (pick Y s) = czero X Y := by simp [czero]
@[simp, go_sem] theorem spoiltS_pick1 : spoiltS (pick X s) Y Z W = spoiltS X Y Z W := by simp [spoiltS]
@[simp, go_sem] theorem spoiltS_pick2 : spoiltS X (pick Y s) Z W = spoiltS X Y Z W := by simp [spoiltS]
@[simp, go_sem] theorem spoiltS_pick3 : spoiltS X Y (pick Z s) W = spoiltS X Y Z W := by simp [spoiltS]
@[simp, go_sem] theorem spoiltS_pick4 : spoiltS X Y Z (pick W s) = spoiltS X Y Z W := by simp [spoiltS]
end
theorem cfin_nan {a b : Nat} (h : cfin a b = true) : isNaN a = false ∧ isNaN b = false := by
  unfold cfin kindS at h
  cases h1 : isNaN a <;> cases h2 : isNaN b <;> cases h3 : infB a <;> cases h4 : infB b <;> simp_all
theorem finB_nan {r : Nat} (h : finB r = true) : isNaN r = false := by
  cases h1 : isNaN r
  · rfl
  · have h0 : fop .sub r r = qnan := by unfold fop; rw [floatBits_nan_l _ _ h1]; rfl
    unfold finB at h
    rw [h0, order_nan_l 0 isNaN_qnan] at h
    cases h
theorem toldS_pick (X Y R s t u : Nat) : toldS (pick X s) (pick Y t) (pick R u) = toldS X Y R := by
  unfold toldS
  simp only [cfin_pick_l, cfin_pick_r, finB_pick]
  split
  · rename_i h
    simp only [Bool.and_eq_true] at h
    rw [pick_of (cfin_nan h.1).1, pick_of (cfin_nan h.1).2, pick_of (finB_nan h.2)]
  · rfl
@[simp, go_sem] theorem toldS_pick1 (X Y R s : Nat) : toldS (pick X s) Y R = toldS X Y R := by
  unfold toldS
  simp only [cfin_pick_l]
  split
  · rename_i h
    simp only [Bool.and_eq_true] at h
    rw [pick_of (cfin_nan h.1).1]
  · rfl
@[simp, go_sem] theorem toldS_pick2 (X Y R s : Nat) : toldS X (pick Y s) R = toldS X Y R := by
  unfold toldS
  simp only [cfin_pick_r]
  split
  · rename_i h
    simp only [Bool.and_eq_true] at h
    rw [pick_of (cfin_nan h.1).2]
  · rfl
@[simp, go_sem] theorem toldS_pick3 (X Y R s : Nat) : toldS X Y (pick R s) = toldS X Y R := by
  unfold toldS
  simp only [finB_pick]
  split
  · rename_i h
    simp only [Bool.and_eq_true] at h
    rw [pick_of (finB_nan h.2)]
  · rfl
theorem not_whole {a b r : Nat} (h : isWholeS (a, b, r) = false) : cfin a b = true ∧ finB r = true ∧ signB r = false := by
  unfold isWholeS mayS at h
  cases h1 : pinfB r
  · simp [h1] at h; exact h
  · simp [h1] at h
theorem not_whole_nan {a b r : Nat} (h : isWholeS (a, b, r) = false) : isNaN a = false ∧ isNaN b = false ∧ isNaN r = false := by
  obtain ⟨h1, h2, _⟩ := not_whole h
  exact ⟨(cfin_nan h1).1, (cfin_nan h1).2, finB_nan h2⟩
theorem isNaN_fneg (x : Nat) : isNaN (fneg x) = isNaN x := by
  cases h : isNaN x
  · simp [fneg, h, isNaN_neg]
  · simp [fneg, h, isNaN_qnan]
def contractsS (M S : Bl) (r : Nat) : Nat × Bool :=
  if !finB r || fle r 0 || !flt (bhiS S) fone || fgt (plusS (bhiS M) (timesS (bhiS S) r)) r then (0, false) else (bhiS S, true)
end Go.Fil
