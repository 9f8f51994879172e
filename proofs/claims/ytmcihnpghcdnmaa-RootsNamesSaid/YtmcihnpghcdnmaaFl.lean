/- Floats by their bits: sums, products, quotients as total functions (a NaN is any NaN), and how the model's run reaches them. No program is in sight. -/
import Derived.Laws.FloatArith
import Derived.Laws.Cover3
import Derived.Deep.Draws
import Derived.KernelRfl
import Derived.Laws.BitsAllLaws
namespace Go.Fil
open Go

/-- Is it a NaN? -/
def isNaN (x : Nat) : Bool := decide (9218868437227405312 < x % 9223372036854775808)
/-- One NaN, which stands for all. -/
def qnan : Nat := 9221120237041090561
def nanOf (s : Nat) : Nat := if isNaN s then s else qnan
/-- X, if it is no NaN; else any NaN (s says which). -/
def pick (X s : Nat) : Nat := if isNaN X then nanOf s else X

theorem isNaN_qnan : isNaN qnan = true := by decide
theorem isNaN_nanOf (s : Nat) : isNaN (nanOf s) = true := by
  unfold nanOf; split
  · assumption
  · exact isNaN_qnan
theorem isNaN_pick (X s : Nat) : isNaN (pick X s) = isNaN X := by
  unfold pick; split
  · rename_i h; rw [isNaN_nanOf, h]
  · rfl
theorem pick_of {X : Nat} (h : isNaN X = false) (s : Nat) : pick X s = X := by simp [pick, h]
theorem pick_self (X : Nat) : pick X X = X := by
  unfold pick nanOf; split
  · simp
  · rfl
theorem pick_nan {X r : Nat} (hX : isNaN X = true) (hr : isNaN r = true) : pick X r = r := by
  simp [pick, nanOf, hX, hr]
/-- A float of 64 bits, or a NaN. -/
def NB (x : Nat) : Prop := isNaN x = true ∨ x < 18446744073709551616
theorem NB.pick {X : Nat} (h : NB X) (s : Nat) : NB (pick X s) := by
  rcases h with h | h
  · exact .inl (by rw [isNaN_pick]; exact h)
  · cases hX : isNaN X
    · rw [pick_of hX]; exact .inr h
    · exact .inl (by rw [isNaN_pick]; exact hX)

theorem sw_double : Ieee.double.signWeight = 9223372036854775808 := by decide
theorem ir_double : Ieee.double.infRung = 9218868437227405312 := by decide
theorem bi_double : Ieee.double.binade = 4503599627370496 := by decide

theorem isNaN_read (x : Nat) : (Ieee.double.read x).isNaN = isNaN x := by
  unfold Ieee.Format.read isNaN
  simp only [sw_double, ir_double, bi_double]
  split
  · simp [Ieee.Datum.isNaN]; omega
  · split
    · simp [Ieee.Datum.isNaN]; omega
    · split
      · simp [Ieee.Datum.isNaN]; omega
      · simp [Ieee.Datum.isNaN]; omega
theorem read_of_nan {x : Nat} (h : isNaN x = true) : ∃ n f, Ieee.double.read x = .nan n f := by
  rw [← isNaN_read] at h
  cases hr : Ieee.double.read x with
  | nan n f => exact ⟨n, f, rfl⟩
  | infinity n => simp [hr, Ieee.Datum.isNaN] at h
  | number n m p => simp [hr, Ieee.Datum.isNaN] at h

/-- What an operation gives, by bits; qnan for any NaN. -/
def fop (op : BinOp) (a b : Nat) : Nat := (floatBits op .f64 a b).getD qnan

theorem floatBits_nan_l (op : BinOp) {a : Nat} (b : Nat) (h : isNaN a = true) : floatBits op .f64 a b = none := by
  obtain ⟨n, f, hr⟩ := read_of_nan h
  cases op <;> simp [floatBits, FloatKind.format, Ieee.Format.add, Ieee.Format.sub, Ieee.Format.mul, Ieee.Format.div, hr, Ieee.Datum.sum, Ieee.Datum.product, Ieee.Datum.quotient]
theorem floatBits_nan_r (op : BinOp) (a : Nat) {b : Nat} (h : isNaN b = true) : floatBits op .f64 a b = none := by
  obtain ⟨n, f, hr⟩ := read_of_nan h
  cases op <;> cases ha : Ieee.double.read a <;> simp [floatBits, FloatKind.format, Ieee.Format.add, Ieee.Format.sub, Ieee.Format.mul, Ieee.Format.div, hr, ha, Ieee.Datum.sum, Ieee.Datum.product, Ieee.Datum.quotient, Ieee.Datum.opposite]
theorem order_nan_l {a : Nat} (b : Nat) (h : isNaN a = true) : FloatKind.f64.format.order a b = none := by
  obtain ⟨n, f, hr⟩ := read_of_nan h
  simp [FloatKind.format, Ieee.Format.order, hr, Ieee.Datum.order]
theorem order_nan_r (a : Nat) {b : Nat} (h : isNaN b = true) : FloatKind.f64.format.order a b = none := by
  obtain ⟨n, f, hr⟩ := read_of_nan h
  cases ha : Ieee.double.read a <;> simp [FloatKind.format, Ieee.Format.order, hr, ha, Ieee.Datum.order]

@[simp, go_sem] theorem fop_pick_l (op : BinOp) (X s b : Nat) : fop op (pick X s) b = fop op X b := by
  by_cases h : isNaN X = true
  · rw [fop, fop, floatBits_nan_l op b h, floatBits_nan_l op b (by rw [isNaN_pick]; exact h)]
  · rw [pick_of (by simpa using h)]
@[simp, go_sem] theorem fop_pick_r (op : BinOp) (a X s : Nat) : fop op a (pick X s) = fop op a X := by
  by_cases h : isNaN X = true
  · rw [fop, fop, floatBits_nan_r op a h, floatBits_nan_r op a (by rw [isNaN_pick]; exact h)]
  · rw [pick_of (by simpa using h)]
@[simp, go_sem] theorem order_pick_l (X s b : Nat) : FloatKind.f64.format.order (pick X s) b = FloatKind.f64.format.order X b := by
  by_cases h : isNaN X = true
  · rw [order_nan_l b h, order_nan_l b (by rw [isNaN_pick]; exact h)]
  · rw [pick_of (by simpa using h)]
@[simp, go_sem] theorem order_pick_r (a X s : Nat) : FloatKind.f64.format.order a (pick X s) = FloatKind.f64.format.order a X := by
  by_cases h : isNaN X = true
  · rw [order_nan_r a h, order_nan_r a (by rw [isNaN_pick]; exact h)]
  · rw [pick_of (by simpa using h)]
@[simp, go_sem] theorem pick_pick (X s t : Nat) : pick (pick X s) t = pick X t := by
  by_cases h : isNaN X = true
  · simp [pick, isNaN_nanOf, h]
  · have h' : isNaN X = false := by simpa using h
    rw [pick_of h' s, pick_of h' t]

/-- What a word written by the format is never: a NaN (but of a NaN). -/
theorem isNaN_word (n : Bool) {r : Nat} (h : r ≤ 9218868437227405312) : isNaN (Ieee.double.word n r) = false := by
  unfold Ieee.Format.word isNaN
  simp only [sw_double]
  split <;> simp <;> omega
theorem isNaN_nearest (n : Bool) (m : Nat) (p : Int) : isNaN (Ieee.double.nearest n m p) = false := by
  unfold Ieee.Format.nearest
  dsimp only
  split
  · exact isNaN_word n (Nat.zero_le _)
  · refine isNaN_word n ?_
    have := Nat.min_le_right ((max (p + (m.log2 : Int) - (Ieee.double.fractionBits : Int)) Ieee.double.leastPlace - Ieee.double.leastPlace).toNat * Ieee.double.binade + Ieee.Toward.even.cut n (m <<< (p - max (p + (m.log2 : Int) - (Ieee.double.fractionBits : Int)) Ieee.double.leastPlace).toNat) (max (p + (m.log2 : Int) - (Ieee.double.fractionBits : Int)) Ieee.double.leastPlace - p).toNat) Ieee.double.infRung
    rw [ir_double] at this
    exact this
theorem isNaN_write {d : Ieee.Datum} (h : d.isNaN = false) : isNaN (Ieee.double.write d) = false := by
  cases d with
  | nan n f => simp [Ieee.Datum.isNaN] at h
  | infinity n => exact isNaN_word n (by rw [ir_double]; exact Nat.le_refl _)
  | number n m p => exact isNaN_nearest n m p
theorem sum_notNaN {x y d : Ieee.Datum} (h : x.sum y = some d) : d.isNaN = false := by
  cases x <;> cases y <;> simp [Ieee.Datum.sum] at h <;> first | (subst h; rfl) | (obtain ⟨_, h⟩ := h; subst h; rfl)
theorem product_notNaN {x y d : Ieee.Datum} (h : x.product y = some d) : d.isNaN = false := by
  cases x <;> cases y <;> simp [Ieee.Datum.product] at h <;> first | (subst h; rfl) | (obtain ⟨_, h⟩ := h; subst h; rfl)
theorem quotient_notNaN {n : Nat} {x y d : Ieee.Datum} (h : x.quotient n y = some d) : d.isNaN = false := by
  cases x <;> cases y <;> simp [Ieee.Datum.quotient] at h
  all_goals first
    | (subst h; rfl)
    | (repeat' split at h) <;> simp_all <;> (subst h; rfl)
theorem floatBits_notNaN {op : BinOp} {a b r : Nat} (h : floatBits op .f64 a b = some r) : isNaN r = false := by
  cases op <;> simp [floatBits, FloatKind.format, Ieee.Format.add, Ieee.Format.sub, Ieee.Format.mul, Ieee.Format.div] at h
  · obtain ⟨d, hd, rfl⟩ := h; exact isNaN_write (sum_notNaN hd)
  · obtain ⟨d, hd, rfl⟩ := h; exact isNaN_write (sum_notNaN hd)
  · obtain ⟨d, hd, rfl⟩ := h; exact isNaN_write (product_notNaN hd)
  · obtain ⟨d, hd, rfl⟩ := h; exact isNaN_write (quotient_notNaN hd)
theorem fop_lt (op : BinOp) (a b : Nat) : fop op a b < 18446744073709551616 := by
  unfold fop
  cases h : floatBits op .f64 a b with
  | none => exact (by decide : qnan < 18446744073709551616)
  | some r => have := floatBits_wf h; simpa [Lit.wf] using this

/-- How many draws an operation takes; which NaN the tape gives. -/
def fd (op : BinOp) (a b : Nat) : Nat := if (floatBits op .f64 a b).isSome then 0 else 1
def nanTape (w : World) (a b : Nat) : Nat := (Question.nanBits .f64 a b).cut (w.tape w.drawn (.nanBits .f64 a b))
theorem nanTape_nan (w : World) (a b : Nat) : isNaN (nanTape w a b) = true ∧ nanTape w a b < 18446744073709551616 := by
  have h : ∀ t : Nat, isNaN (t % 2 * 9223372036854775808 + 9218868437227405312 + 1 + t / 2 % 4503599627370495) = true ∧ t % 2 * 9223372036854775808 + 9218868437227405312 + 1 + t / 2 % 4503599627370495 < 18446744073709551616 := by
    intro t
    have h1 : t % 2 < 2 := Nat.mod_lt _ (by decide)
    have h2 : t / 2 % 4503599627370495 < 4503599627370495 := Nat.mod_lt _ (by decide)
    generalize t % 2 = s at h1 ⊢
    generalize t / 2 % 4503599627370495 = m at h2 ⊢
    unfold isNaN
    constructor
    · rw [decide_eq_true_eq]; omega
    · omega
  exact h _

section
variable {P : Program} (w : World)
theorem run_fop (op : BinOp) (hop : op = .add ∨ op = .sub ∨ op = .mul ∨ op = .quo) (t : TypeId) (a b : Nat) :
    (binOp op t (.float .f64 a) (.float .f64 b)).run P w = .ok (.float .f64 (pick (fop op a b) (nanTape w a b))) (w.drewN (fd op a b)) := by
  cases h : floatBits op .f64 a b with
  | some r =>
    rw [run_float_arith w op t .f64 a b r h]
    simp [fop, fd, h, pick_of (floatBits_notNaN h), World.drewN_zero]
  | none =>
    have hn := nanTape_nan w a b
    have e : pick (fop op a b) (nanTape w a b) = nanTape w a b := by
      rw [fop, h]; exact pick_nan isNaN_qnan hn.1
    rw [e]
    rcases hop with rfl | rfl | rfl | rfl <;> simp [floatBits] at h <;>
      simp [binOp, Op.floatArith, h, fd, floatBits, nanTape, Question.forced, World.drew_is_drewN]
@[go_sem] theorem run_fadd (t : TypeId) (a b : Nat) : (binOp .add t (.float .f64 a) (.float .f64 b)).run P w = .ok (.float .f64 (pick (fop .add a b) (nanTape w a b))) (w.drewN (fd .add a b)) := run_fop w .add (by simp) t a b
@[go_sem] theorem run_fsub (t : TypeId) (a b : Nat) : (binOp .sub t (.float .f64 a) (.float .f64 b)).run P w = .ok (.float .f64 (pick (fop .sub a b) (nanTape w a b))) (w.drewN (fd .sub a b)) := run_fop w .sub (by simp) t a b
@[go_sem] theorem run_fmul (t : TypeId) (a b : Nat) : (binOp .mul t (.float .f64 a) (.float .f64 b)).run P w = .ok (.float .f64 (pick (fop .mul a b) (nanTape w a b))) (w.drewN (fd .mul a b)) := run_fop w .mul (by simp) t a b
@[go_sem] theorem run_fquo (t : TypeId) (a b : Nat) : (binOp .quo t (.float .f64 a) (.float .f64 b)).run P w = .ok (.float .f64 (pick (fop .quo a b) (nanTape w a b))) (w.drewN (fd .quo a b)) := run_fop w .quo (by simp) t a b
end

theorem order_self (x : Nat) : FloatKind.f64.format.order x x = if isNaN x then none else some .eq := by
  cases h : isNaN x
  · rw [← isNaN_read] at h
    simp only [FloatKind.format, Ieee.Format.order]
    cases hr : Ieee.double.read x with
    | nan n f => simp [hr, Ieee.Datum.isNaN] at h
    | infinity n => simp [Ieee.Datum.order]
    | number n m p => simp [Ieee.Datum.order]
  · rw [order_nan_l x h]; rfl
@[simp, go_sem] theorem order_self_ne (x : Nat) : (FloatKind.f64.format.order x x != some .eq) = isNaN x := by
  rw [order_self]; cases isNaN x <;> rfl

/-- Finite; one of the two infinities. -/
def fin (x : Nat) : Bool := decide (x % 9223372036854775808 < 9218868437227405312)
def isInf (x : Nat) : Bool := decide (x % 9223372036854775808 = 9218868437227405312)
@[simp, go_sem] theorem isNaN_pick' (X s : Nat) : isNaN (pick X s) = isNaN X := isNaN_pick X s
theorem not_nan_of_fin {x : Nat} (h : fin x = true) : isNaN x = false := by
  unfold fin at h; unfold isNaN; simp at h ⊢; omega
@[simp, go_sem] theorem fin_pick (X s : Nat) : fin (pick X s) = fin X := by
  cases h : isNaN X
  · rw [pick_of h]
  · have h1 := isNaN_pick X s
    rw [h] at h1
    have : ∀ y, isNaN y = true → fin y = false := by
      intro y hy; unfold isNaN at hy; unfold fin; simp at hy ⊢; omega
    rw [this _ h1, this _ h]
@[simp, go_sem] theorem isInf_pick (X s : Nat) : isInf (pick X s) = isInf X := by
  cases h : isNaN X
  · rw [pick_of h]
  · have h1 := isNaN_pick X s
    rw [h] at h1
    have : ∀ y, isNaN y = true → isInf y = false := by
      intro y hy; unfold isNaN at hy; unfold isInf; simp at hy ⊢; omega
    rw [this _ h1, this _ h]

/-- The magnitude; the next float above, below. -/
def fabs (x : Nat) : Nat := if isNaN x then qnan else x % 9223372036854775808
def fup (x : Nat) : Nat :=
  if isNaN x then qnan else if FloatKind.f64.format.order x 9218868437227405311 == some .gt then x else if FloatKind.f64.format.order x 0 == some .eq then 1 else if 9223372036854775808 ≤ x then x - 1 else x + 1
def fdown (x : Nat) : Nat :=
  if isNaN x then qnan else if FloatKind.f64.format.order x 18442240474082181119 == some .lt then x else if FloatKind.f64.format.order x 0 == some .eq then 9223372036854775809 else if 9223372036854775808 ≤ x then x + 1 else x - 1
def fneg (x : Nat) : Nat := if isNaN x then qnan else Op.negFloat .f64 x
def fsqrt (x : Nat) : Nat := (Ieee.double.sqrt x).getD qnan
@[simp, go_sem] theorem fabs_pick (X s : Nat) : fabs (pick X s) = fabs X := by
  cases h : isNaN X
  · rw [pick_of h]
  · simp [fabs, h]
@[simp, go_sem] theorem fup_pick (X s : Nat) : fup (pick X s) = fup X := by
  cases h : isNaN X
  · rw [pick_of h]
  · simp [fup, h]
@[simp, go_sem] theorem fdown_pick (X s : Nat) : fdown (pick X s) = fdown X := by
  cases h : isNaN X
  · rw [pick_of h]
  · simp [fdown, h]
@[simp, go_sem] theorem fneg_pick (X s : Nat) : fneg (pick X s) = fneg X := by
  cases h : isNaN X
  · rw [pick_of h]
  · simp [fneg, h]
theorem sqrt_nan {x : Nat} (h : isNaN x = true) : Ieee.double.sqrt x = none := by
  obtain ⟨n, f, hr⟩ := read_of_nan h
  simp [Ieee.Format.sqrt, hr, Ieee.Datum.root]
@[simp, go_sem] theorem fsqrt_pick (X s : Nat) : fsqrt (pick X s) = fsqrt X := by
  cases h : isNaN X
  · rw [pick_of h]
  · unfold fsqrt; rw [sqrt_nan h, sqrt_nan (by rw [isNaN_pick]; exact h)]
/-- A value that is X, or any NaN if X is one. -/
theorem as_pick {X r : Nat} (h : isNaN X = false → r = X) (hn : isNaN X = true → isNaN r = true) : pick X r = r := by
  cases hX : isNaN X
  · rw [pick_of hX]; exact (h hX).symm
  · rw [pick_nan hX (hn hX)]
theorem NB_fop (op : BinOp) (a b : Nat) : NB (fop op a b) := .inr (fop_lt op a b)
theorem fsqrt_lt (x : Nat) : fsqrt x < 18446744073709551616 := by
  unfold fsqrt
  cases h : Ieee.double.sqrt x with
  | none => exact (by decide : qnan < 18446744073709551616)
  | some r => exact Ieee.double.sqrt_lt h
theorem NB_fsqrt (x : Nat) : NB (fsqrt x) := .inr (fsqrt_lt x)
theorem root_notNaN {n : Nat} {x d : Ieee.Datum} (h : x.root n = some d) : d.isNaN = false := by
  cases x <;> simp [Ieee.Datum.root] at h
  all_goals first
    | (obtain ⟨_, h⟩ := h; subst h; rfl)
    | (repeat' split at h) <;> simp_all <;> (subst h; rfl)
theorem sqrt_notNaN {x r : Nat} (h : Ieee.double.sqrt x = some r) : isNaN r = false := by
  simp [Ieee.Format.sqrt] at h
  obtain ⟨d, hd, rfl⟩ := h
  exact isNaN_write (root_notNaN hd)
theorem isNaN_neg (x : Nat) : isNaN (Op.negFloat .f64 x) = isNaN x := by
  have h : Op.negFloat .f64 x % 9223372036854775808 = x % 9223372036854775808 := by
    show (x ^^^ 2 ^ 63) % 2 ^ 63 = x % 2 ^ 63
    rw [Nat.xor_mod_two_pow]; simp
  unfold isNaN; rw [h]
theorem neg_pick (x : Nat) : pick (fneg x) (Op.negFloat .f64 x) = Op.negFloat .f64 x := by
  cases h : isNaN x
  · simp [fneg, h, pick_of, isNaN_neg]
  · exact pick_nan (by simp [fneg, h, isNaN_qnan]) (by rw [isNaN_neg, h])
section
variable {P : Program} (w : World)
@[go_sem] theorem run_fneg (x : Nat) : (Op.unary .neg (.float .f64 x)).run P w = .ok (.float .f64 (pick (fneg x) (Op.negFloat .f64 x))) w := by
  rw [neg_pick]; rfl
def sd (x : Nat) : Nat := if (Ieee.double.sqrt x).isSome then 0 else 1
theorem run_sqrt (x : Nat) : (Extern.MathSqrt.sqrt #[.float .f64 x]).run P w = .ok (.float .f64 (pick (fsqrt x) (nanTape w x x))) (w.drewN (sd x)) := by
  change Sem.run P (match FloatKind.f64.format.sqrt x with
    | some r => pure (Value.float .f64 r)
    | none => do pure (Value.float .f64 (← choose (.nanBits .f64 x x)))) w = _
  cases h : Ieee.double.sqrt x with
  | some r => simp [FloatKind.format, h, fsqrt, sd, pick_of (sqrt_notNaN h), World.drewN_zero]
  | none =>
    have hn := nanTape_nan w x x
    have e : pick (fsqrt x) (nanTape w x x) = nanTape w x x := by
      rw [fsqrt, h]; exact pick_nan isNaN_qnan hn.1
    rw [e]
    simp [FloatKind.format, h, sd, nanTape, Question.forced, World.drew_is_drewN]
end

/-! Bits of 64-bit words. -/
theorem ofInt_mod (x : Nat) : BitVec.ofInt 64 (x : Int) = BitVec.ofInt 64 ((x % 18446744073709551616 : Nat) : Int) := by
  rw [BitVec.ofInt_natCast, BitVec.ofInt_natCast]
  apply BitVec.eq_of_toNat_eq
  simp
theorem abs_bits (x : Nat) : bits .andNot .u64 (x : Int) 9223372036854775808 = ((x % 9223372036854775808 : Nat) : Int) := by
  have h : bits .andNot .u64 (x : Int) 9223372036854775808 = bits .andNot .u64 ((x % 18446744073709551616 : Nat) : Int) ((9223372036854775808 : Nat) : Int) := by
    unfold bits; rw [show IntKind.u64.bits = 64 from rfl, ofInt_mod]; rfl
  rw [h, u64_andNot_nat _ _ (Nat.mod_lt _ (by decide)) (by decide)]
  have : (x % 18446744073709551616) &&& (18446744073709551615 - 9223372036854775808) = x % 9223372036854775808 := by
    rw [show 18446744073709551615 - 9223372036854775808 = 2 ^ 63 - 1 by decide, Nat.and_two_pow_sub_one_eq_mod]; omega
  rw [this]
theorem sign_bits (x : Nat) (hx : x < 18446744073709551616) : bits .and .u64 (x : Int) 9223372036854775808 = if 9223372036854775808 ≤ x then 9223372036854775808 else 0 := by
  have h := u64_and_nat x 9223372036854775808 hx (by decide)
  have e : ((9223372036854775808 : Nat) : Int) = 9223372036854775808 := rfl
  rw [e] at h
  rw [h, show (9223372036854775808 : Nat) = 2 ^ 63 by decide, nat_bit]
  split
  · rename_i h1
    have : x / 2 ^ 63 % 2 = 1 := by omega
    rw [this]; rfl
  · rename_i h1
    have : x / 2 ^ 63 % 2 = 0 := by omega
    rw [this]; rfl
/-- The magnitude's word, as a float that may be a NaN. -/
theorem abs_pick (x : Nat) : pick (fabs x) (x % 9223372036854775808) = x % 9223372036854775808 := by
  have h : isNaN (x % 9223372036854775808) = isNaN x := by unfold isNaN; rw [Nat.mod_mod]
  refine as_pick (fun hX => ?_) (fun hX => ?_)
  · have hx : isNaN x = false := by
      cases h0 : isNaN x
      · rfl
      · simp [fabs, h0, isNaN_qnan] at hX
    simp [fabs, hx]
  · cases h0 : isNaN x
    · simp [fabs, h0, h] at hX
    · rw [h, h0]
end Go.Fil
