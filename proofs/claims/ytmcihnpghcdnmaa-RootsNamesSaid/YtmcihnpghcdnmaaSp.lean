/- What the program's functions on floats, complex numbers and balls compute, as plain functions of the bits. -/
import Derived.Test.YtmcihnpghcdnmaaFl
namespace Go.Fil
open Go

/-! comparisons -/
def feq (a b : Nat) : Bool := FloatKind.f64.format.order a b == some .eq
def flt (a b : Nat) : Bool := FloatKind.f64.format.order a b == some .lt
def fgt (a b : Nat) : Bool := FloatKind.f64.format.order a b == some .gt
def fle (a b : Nat) : Bool := FloatKind.f64.format.order a b == some .lt || FloatKind.f64.format.order a b == some .eq
def fge (a b : Nat) : Bool := FloatKind.f64.format.order a b == some .gt || FloatKind.f64.format.order a b == some .eq

/-! math.IsInf(x, 0), math.IsInf(x, 1), bits.Finite, cplx.Kind -/
def infB (x : Nat) : Bool := FloatKind.f64.format.order (fabs x) 9218868437227405311 == some .gt
def pinfB (x : Nat) : Bool := FloatKind.f64.format.order x 9218868437227405311 == some .gt
def finB (x : Nat) : Bool := FloatKind.f64.format.order (fop .sub x x) 0 == some .eq
def kindS (a b : Nat) : Nat := if infB a || infB b then 1 else if isNaN a || isNaN b then 2 else 0
def cfin (a b : Nat) : Bool := kindS a b == 0
def signB (x : Nat) : Bool := decide (9223372036854775808 ≤ x % 18446744073709551616)
section
variable (X Y s t : Nat)
@[simp, go_sem] theorem infB_pick : infB (pick X s) = infB X := by simp [infB]
@[simp, go_sem] theorem pinfB_pick : pinfB (pick X s) = pinfB X := by simp [pinfB]
@[simp, go_sem] theorem finB_pick : finB (pick X s) = finB X := by simp [finB]
@[simp, go_sem] theorem kindS_pick_l : kindS (pick X s) Y = kindS X Y := by simp [kindS]
@[simp, go_sem] theorem kindS_pick_r : kindS X (pick Y s) = kindS X Y := by simp [kindS]
@[simp, go_sem] theorem cfin_pick_l : cfin (pick X s) Y = cfin X Y := by simp [cfin]
@[simp, go_sem] theorem cfin_pick_r : cfin X (pick Y s) = cfin X Y := by simp [cfin]
end

/-! package cplx -/
def mulRe (a b c d : Nat) : Nat := fop .sub (fop .mul a c) (fop .mul b d)
def mulIm (a b c d : Nat) : Nat := fop .add (fop .mul a d) (fop .mul b c)
def quoBig (c d : Nat) : Bool := fge (fabs c) (fabs d)
def quoRe (a b c d : Nat) : Nat :=
  if quoBig c d then
    let t := fop .quo d c
    fop .quo (fop .add a (fop .mul b t)) (fop .add c (fop .mul d t))
  else
    let t := fop .quo c d
    fop .quo (fop .add (fop .mul a t) b) (fop .add d (fop .mul c t))
def quoIm (a b c d : Nat) : Nat :=
  if quoBig c d then
    let t := fop .quo d c
    fop .quo (fop .sub b (fop .mul a t)) (fop .add c (fop .mul d t))
  else
    let t := fop .quo c d
    fop .quo (fop .sub (fop .mul b t) a) (fop .add d (fop .mul c t))
def sizeP (a b : Nat) : Nat := if flt (fabs a) (fabs b) then fabs b else fabs a
def sizeQ (a b : Nat) : Nat := if flt (fabs a) (fabs b) then fabs a else fabs b
/-- Of 1, by bits. -/
def fone : Nat := 4607182418800017408
def reachUp (p q : Nat) : Nat :=
  let t := fup (fop .quo q p)
  fup (fop .mul p (fup (fsqrt (fup (fop .add fone (fup (fop .mul t t)))))))
def hiS (a b : Nat) : Nat :=
  if cfin a b then (if feq (sizeQ a b) 0 then sizeP a b else reachUp (sizeP a b) (sizeQ a b)) else 9218868437227405312

/-! package ball: numbers -/
def plusS (x y : Nat) : Nat := if feq x 0 then y else if feq y 0 then x else fup (fop .add x y)
def timesS (x y : Nat) : Nat := if feq x 0 || feq y 0 then 0 else fup (fop .mul x y)
def lostS (x y : Nat) : Nat :=
  if feq x 0 || feq y 0 || feq (fop .add x y) 0 then 0 else fup (fop .mul (fabs (fop .add x y)) 4368491638549381120)
def lostBothS (a b c d : Nat) : Nat := plusS (lostS a c) (lostS b d)
def czero (a b : Nat) : Bool := feq a 0 && feq b 0
def spoiltS (a b c d : Nat) : Nat :=
  if czero a b || czero c d then 0 else
  let one := plusS (fabs (fop .mul a c)) (fabs (fop .mul b d))
  let two := plusS (fabs (fop .mul a d)) (fabs (fop .mul b c))
  plusS (fup (fop .mul (plusS one two) 4377498837804122112)) 16

/-! package ball: a ball is a centre's two parts and a radius -/
abbrev Bl := Nat × Nat × Nat
def wholeS : Bl := (0, 0, 9218868437227405312)
def toldS (a b r : Nat) : Bl := if cfin a b && finB r then (a, b, r) else wholeS
/-- The bits that cplx.Same compares: of a NaN none. -/
def likeB (x y : Nat) : Bool := (x == y) || (isNaN x && isNaN y)
def mayS (B : Bl) : Bool := if pinfB B.2.2 then likeB B.1 0 && likeB B.2.1 0 else cfin B.1 B.2.1 && (finB B.2.2 && !signB B.2.2)
def isWholeS (B : Bl) : Bool := !mayS B || pinfB B.2.2
def pointS (a b : Nat) : Bl := toldS a b 0
def negS (B : Bl) : Bl := if isWholeS B then wholeS else (fneg B.1, fneg B.2.1, B.2.2)
def addS (A B : Bl) : Bl :=
  if isWholeS A || isWholeS B then wholeS else
  toldS (fop .add A.1 B.1) (fop .add A.2.1 B.2.1) (plusS (plusS A.2.2 B.2.2) (lostBothS A.1 A.2.1 B.1 B.2.1))
def subS (A B : Bl) : Bl :=
  if isWholeS A || isWholeS B then wholeS else
  toldS (fop .sub A.1 B.1) (fop .sub A.2.1 B.2.1) (plusS (plusS A.2.2 B.2.2) (lostBothS A.1 A.2.1 (fneg B.1) (fneg B.2.1)))
def mulS (A B : Bl) : Bl :=
  if isWholeS A || isWholeS B then wholeS else
  toldS (mulRe A.1 A.2.1 B.1 B.2.1) (mulIm A.1 A.2.1 B.1 B.2.1)
    (plusS (plusS (timesS (hiS A.1 A.2.1) B.2.2) (timesS (hiS B.1 B.2.1) A.2.2)) (plusS (timesS A.2.2 B.2.2) (spoiltS A.1 A.2.1 B.1 B.2.1)))
def bhiS (A : Bl) : Nat := if isWholeS A then 9218868437227405312 else plusS (hiS A.1 A.2.1) A.2.2

/-! What stands in a NaN's place does not matter. -/
section
variable (X Y Z W s t u : Nat)
@[simp, go_sem] theorem feq_pick_l : feq (pick X s) Y = feq X Y := by simp [feq]
@[simp, go_sem] theorem feq_pick_r : feq X (pick Y s) = feq X Y := by simp [feq]
@[simp, go_sem] theorem flt_pick_l : flt (pick X s) Y = flt X Y := by simp [flt]
@[simp, go_sem] theorem flt_pick_r : flt X (pick Y s) = flt X Y := by simp [flt]
@[simp, go_sem] theorem fgt_pick_l : fgt (pick X s) Y = fgt X Y := by simp [fgt]
@[simp, go_sem] theorem fgt_pick_r : fgt X (pick Y s) = fgt X Y := by simp [fgt]
@[simp, go_sem] theorem reachUp_pick_l : reachUp (pick X s) Y = reachUp X Y := by simp [reachUp]
@[simp, go_sem] theorem reachUp_pick_r : reachUp X (pick Y s) = reachUp X Y := by simp [reachUp]
@[simp, go_sem] theorem sizeP_pick_l : sizeP (pick X s) Y = sizeP X Y := by simp [sizeP]
@[simp, go_sem] theorem sizeP_pick_r : sizeP X (pick Y s) = sizeP X Y := by simp [sizeP]
@[simp, go_sem] theorem sizeQ_pick_l : sizeQ (pick X s) Y = sizeQ X Y := by simp [sizeQ]
@[simp, go_sem] theorem sizeQ_pick_r : sizeQ X (pick Y s) = sizeQ X Y := by simp [sizeQ]
@[simp, go_sem] theorem hiS_pick_l : hiS (pick X s) Y = hiS X Y := by simp [hiS]
@[simp, go_sem] theorem hiS_pick_r : hiS X (pick Y s) = hiS X Y := by simp [hiS]
@[simp, go_sem] theorem mulRe_pick1 : mulRe (pick X s) Y Z W = mulRe X Y Z W := by simp [mulRe]
@[simp, go_sem] theorem mulRe_pick2 : mulRe X (pick Y s) Z W = mulRe X Y Z W := by simp [mulRe]
@[simp, go_sem] theorem mulRe_pick3 : mulRe X Y (pick Z s) W = mulRe X Y Z W := by simp [mulRe]
@[simp, go_sem] theorem mulRe_pick4 : mulRe X Y Z (pick W s) = mulRe X Y Z W := by simp [mulRe]
@[simp, go_sem] theorem mulIm_pick1 : mulIm (pick X s) Y Z W = mulIm X Y Z W := by simp [mulIm]
@[simp, go_sem] theorem mulIm_pick2 : mulIm X (pick Y s) Z W = mulIm X Y Z W := by simp [mulIm]
@[simp, go_sem] theorem mulIm_pick3 : mulIm X Y (pick Z s) W = mulIm X Y Z W := by simp [mulIm]
@[simp, go_sem] theorem mulIm_pick4 : mulIm X Y Z (pick W s) = mulIm X Y Z W := by simp [mulIm]
@[simp, go_sem] theorem quoBig_pick_l : quoBig (pick X s) Y = quoBig X Y := by simp [quoBig, fge]
@[simp, go_sem] theorem quoBig_pick_r : quoBig X (pick Y s) = quoBig X Y := by simp [quoBig, fge]
@[simp, go_sem] theorem quoRe_pick1 : quoRe (pick X s) Y Z W = quoRe X Y Z W := by simp [quoRe]
@[simp, go_sem] theorem quoRe_pick2 : quoRe X (pick Y s) Z W = quoRe X Y Z W := by simp [quoRe]
@[simp, go_sem] theorem quoRe_pick3 : quoRe X Y (pick Z s) W = quoRe X Y Z W := by simp [quoRe]
@[simp, go_sem] theorem quoRe_pick4 : quoRe X Y Z (pick W s) = quoRe X Y Z W := by simp [quoRe]
@[simp, go_sem] theorem quoIm_pick1 : quoIm (pick X s) Y Z W = quoIm X Y Z W := by simp [quoIm]
@[simp, go_sem] theorem quoIm_pick2 : quoIm X (pick Y s) Z W = quoIm X Y Z W := by simp [quoIm]
@[simp, go_sem] theorem quoIm_pick3 : quoIm X Y (pick Z s) W = quoIm X Y Z W := by simp [quoIm]
@[simp, go_sem] theorem quoIm_pick4 : quoIm X Y Z (pick W s) = quoIm X Y Z W := by simp [quoIm]
@[simp, go_sem] theorem plusS_pick_l : pick (plusS (pick X s) Y) t = pick (plusS X Y) t := by
  simp only [plusS, feq_pick_l, fop_pick_l]
  split
  · rfl
  · split
    · exact pick_pick X s t
    · rfl
@[simp, go_sem] theorem plusS_pick_r : pick (plusS X (pick Y s)) t = pick (plusS X Y) t := by
  simp only [plusS, feq_pick_l, fop_pick_r]
  split
  · exact pick_pick Y s t
  · rfl
@[simp, go_sem] theorem timesS_pick_l : timesS (pick X s) Y = timesS X Y := by simp [timesS]
@[simp, go_sem] theorem timesS_pick_r : timesS X (pick Y s) = timesS X Y := by simp [timesS]
@[simp, go_sem] theorem lostS_pick_l : lostS (pick X s) Y = lostS X Y := by simp [lostS]
@[simp, go_sem] theorem lostS_pick_r : lostS X (pick Y s) = lostS X Y := by simp [lostS]
@[simp, go_sem] theorem lostBothS_pick1 : lostBothS (pick X s) Y Z W = lostBothS X Y Z W := by simp [lostBothS]
@[simp, go_sem] theorem lostBothS_pick2 : lostBothS X (pick Y s) Z W = lostBothS X Y Z W := by simp [lostBothS]
@[simp, go_sem] theorem lostBothS_pick3 : lostBothS X Y (pick Z s) W = lostBothS X Y Z W := by simp [lostBothS]
@[simp, go_sem] theorem lostBothS_pick4 : lostBothS X Y Z (pick W s) = lostBothS X Y Z W := by simp [lostBothS]
@[simp, go_sem] theorem czero_pick_l : czero (pick X s) Y = czero X Y := by simp [czero]
@[simp, go_sem] theorem czero_pick_r : czero X (pick Y s) = czero X Y := by simp [czero]
@[simp, go_sem] theorem spoiltS_pick1 : spoiltS (pick X s) Y Z W = spoiltS X Y Z W := by simp [spoiltS]
@[simp, go_sem] theorem spoiltS_pick2 : spoiltS X (pick Y s) Z W = spoiltS X Y Z W := by simp [spoiltS]
@[simp, go_sem] theorem spoiltS_pick3 : spoiltS X Y (pick Z s) W = spoiltS X Y Z W := by simp [spoiltS]
@[simp, go_sem] theorem spoiltS_pick4 : spoiltS X Y Z (pick W s) = spoiltS X Y Z W := by simp [spoiltS]
end
theorem cfin_nan {a b : Nat} (h : cfin a b = true) : isNaN a = false ∧ isNaN b = false := by
  unfold cfin kindS at h
  cases h1 : isNaN a <;> cases h2 : isNaN b <;> cases h3 : infB a <;> cases h4 : infB b <;> simp_all
theorem finB_nan {r : Nat} (h : finB r = true) : isNaN r = false := by
  cases h1 : isNaN r
  · rfl
  · have h0 : fop .sub r r = qnan := by unfold fop; rw [floatBits_nan_l _ _ h1]; rfl
    unfold finB at h
    rw [h0, order_nan_l 0 isNaN_qnan] at h
    cases h
theorem toldS_pick (X Y R s t u : Nat) : toldS (pick X s) (pick Y t) (pick R u) = toldS X Y R := by
  unfold toldS
  simp only [cfin_pick_l, cfin_pick_r, finB_pick]
  split
  · rename_i h
    simp only [Bool.and_eq_true] at h
    rw [pick_of (cfin_nan h.1).1, pick_of (cfin_nan h.1).2, pick_of (finB_nan h.2)]
  · rfl
@[simp, go_sem] theorem toldS_pick1 (X Y R s : Nat) : toldS (pick X s) Y R = toldS X Y R := by
  unfold toldS
  simp only [cfin_pick_l]
  split
  · rename_i h
    simp only [Bool.and_eq_true] at h
    rw [pick_of (cfin_nan h.1).1]
  · rfl
@[simp, go_sem] theorem toldS_pick2 (X Y R s : Nat) : toldS X (pick Y s) R = toldS X Y R := by
  unfold toldS
  simp only [cfin_pick_r]
  split
  · rename_i h
    simp only [Bool.and_eq_true] at h
    rw [pick_of (cfin_nan h.1).2]
  · rfl
@[simp, go_sem] theorem toldS_pick3 (X Y R s : Nat) : toldS X Y (pick R s) = toldS X Y R := by
  unfold toldS
  simp only [finB_pick]
  split
  · rename_i h
    simp only [Bool.and_eq_true] at h
    rw [pick_of (finB_nan h.2)]
  · rfl
theorem not_whole {a b r : Nat} (h : isWholeS (a, b, r) = false) : cfin a b = true ∧ finB r = true ∧ signB r = false := by
  unfold isWholeS mayS at h
  cases h1 : pinfB r
  · simp [h1] at h; exact h
  · simp [h1] at h
theorem not_whole_nan {a b r : Nat} (h : isWholeS (a, b, r) = false) : isNaN a = false ∧ isNaN b = false ∧ isNaN r = false := by
  obtain ⟨h1, h2, _⟩ := not_whole h
  exact ⟨(cfin_nan h1).1, (cfin_nan h1).2, finB_nan h2⟩
theorem isNaN_fneg (x : Nat) : isNaN (fneg x) = isNaN x := by
  cases h : isNaN x
  · simp [fneg, h, isNaN_neg]
  · simp [fneg, h, isNaN_qnan]
def contractsS (M S : Bl) (r : Nat) : Nat × Bool :=
  if !finB r || fle r 0 || !flt (bhiS S) fone || fgt (plusS (bhiS M) (timesS (bhiS S) r)) r then (0, false) else (bhiS S, true)
end Go.Fil
