/- What package poly computes by floats, as plain functions of the bits. -/
import Derived.Test.YtbgjcpnbdgljbaaGreatDoorMFlo
namespace Go.Fil
open Go

abbrev Cc := Nat × Nat
/-- The coefficient at a place. -/
def nth (ps : List Cc) (k : Nat) : Cc := ps.getD k (0, 0)
theorem nth_eq {ps : List Cc} {k : Nat} (hk : k < ps.length) : nth ps k = ps[k] := by
  unfold nth; rw [List.getD_eq_getElem?_getD, List.getElem?_eq_getElem hk]; rfl
def czeroC (c : Cc) : Bool := czero c.1 c.2
/-- poly.Check. -/
def allfin (ps : List Cc) : Bool := ps.all fun c => cfin c.1 c.2
def lastzero (ps : List Cc) : Bool := decide (0 < ps.length) && czeroC (nth ps (ps.length - 1))
def checkS (ps : List Cc) : Bool := decide (ps.length ≤ 17) && (!lastzero ps && allfin ps)
/-- An error's number: OK or ErrArg. -/
def errS (ok : Bool) : Int := if ok then 0 else 2
/-- poly.at: from the highest coefficient down. -/
def hornS (z s c : Cc) : Cc := (fop .add (mulRe s.1 s.2 z.1 z.2) c.1, fop .add (mulIm s.1 s.2 z.1 z.2) c.2)
def atS (z : Cc) : List Cc → Cc
  | [] => (0, 0)
  | [c] => c
  | c :: d :: r => hornS z (atS z (d :: r)) c

/-- All coefficients ahead of place k are finite. -/
def FinTo (ps : List Cc) (k : Nat) : Prop := ∀ j, j < k → cfin (nth ps j).1 (nth ps j).2 = true
theorem FinTo.zero (ps : List Cc) : FinTo ps 0 := fun _ h => absurd h (Nat.not_lt_zero _)
theorem FinTo.next {ps : List Cc} {k : Nat} (h : FinTo ps k) (hc : cfin (nth ps k).1 (nth ps k).2 = true) : FinTo ps (k + 1) := fun j hlt => by
  rcases Nat.lt_or_ge j k with h1 | h1
  · exact h j h1
  · have : j = k := by omega
    subst this; exact hc
theorem FinTo.all {ps : List Cc} {n : Nat} (h : FinTo ps n) (hn : ps.length = n) : allfin ps = true := by
  unfold allfin
  rw [List.all_eq_true]
  intro c hc
  obtain ⟨k, hk, rfl⟩ := List.getElem_of_mem hc
  have := h k (by omega)
  rwa [nth_eq hk] at this
theorem allfin_not {ps : List Cc} {k : Nat} (hk : k < ps.length) (h : cfin (nth ps k).1 (nth ps k).2 = false) : allfin ps = false := by
  unfold allfin
  rw [List.all_eq_false]
  exact ⟨_, List.getElem_mem hk, by rw [nth_eq hk] at h; simp [h]⟩
/-- The Horner sum of the coefficients from place k on. -/
def atFrom (z : Cc) (ps : List Cc) (k : Nat) : Cc := atS z (ps.drop k)
theorem atFrom_last {z : Cc} {ps : List Cc} {n : Nat} (hn : ps.length = n + 1) : atFrom z ps n = nth ps n := by
  unfold atFrom
  rw [List.drop_eq_getElem_cons (by omega), List.drop_of_length_le (by omega), nth_eq (by omega)]
  rfl
theorem atFrom_step {z : Cc} {ps : List Cc} {k : Nat} (hk : k + 1 < ps.length) : atFrom z ps k = hornS z (atFrom z ps (k + 1)) (nth ps k) := by
  unfold atFrom
  rw [List.drop_eq_getElem_cons (by omega : k < ps.length), List.drop_eq_getElem_cons hk, nth_eq (by omega)]
  rfl
end Go.Fil

/- Finite floats: what is written of a finite product is no NaN. -/
namespace Go.Fil
open Go
theorem read_fin {x : Nat} (h : fin x = true) : ∃ s m e, Ieee.double.read x = .number s m e := by
  unfold fin at h
  rw [decide_eq_true_eq] at h
  unfold Ieee.Format.read
  simp only [sw_double, ir_double, bi_double]
  split
  · exact ⟨_, _, _, rfl⟩
  · exact ⟨_, _, _, rfl⟩
theorem fin_of {x : Nat} (hn : isNaN x = false) (hi : infB x = false) : fin x = true := by
  unfold fin
  rw [decide_eq_true_eq]
  have h1 : x % 9223372036854775808 ≤ 9218868437227405312 := by unfold isNaN at hn; simp at hn; exact hn
  rcases Nat.lt_or_ge (x % 9223372036854775808) 9218868437227405312 with h | h
  · exact h
  · have h2 : x % 9223372036854775808 = 9218868437227405312 := by omega
    have h3 : fabs x = 9218868437227405312 := by unfold fabs; rw [hn]; exact h2
    unfold infB at hi
    rw [h3] at hi
    exact absurd hi (by decide)
theorem cfin_fin {a b : Nat} (h : cfin a b = true) : fin a = true ∧ fin b = true := by
  have hn := cfin_nan h
  unfold cfin kindS at h
  cases h3 : infB a <;> cases h4 : infB b <;> simp [h3, h4] at h
  exact ⟨fin_of hn.1 h3, fin_of hn.2 h4⟩
theorem fop_some {op : BinOp} {a b r : Nat} (h : floatBits op .f64 a b = some r) : isNaN (fop op a b) = false := by
  unfold fop; rw [h]; exact floatBits_notNaN h
theorem mul_notNaN {a b : Nat} (ha : fin a = true) (hb : fin b = true) : isNaN (fop .mul a b) = false := by
  obtain ⟨s, m, e, h1⟩ := read_fin ha
  obtain ⟨t, n, f, h2⟩ := read_fin hb
  refine fop_some (op := .mul) (r := Ieee.double.write (.number (s ^^ t) (m * n) (e + f))) ?_
  simp only [floatBits, FloatKind.format, Ieee.Format.mul, h1, h2, Ieee.Datum.product, Option.map_some]
theorem add_notNaN {a b : Nat} (ha : fin a = true) (hb : fin b = true) : isNaN (fop .add a b) = false := by
  obtain ⟨s, m, e, h1⟩ := read_fin ha
  obtain ⟨t, n, f, h2⟩ := read_fin hb
  have h : (floatBits .add .f64 a b).isSome = true := by
    simp only [floatBits, FloatKind.format, Ieee.Format.add, h1, h2, Ieee.Datum.sum, Option.map_some, Option.isSome_some]
  obtain ⟨r, h⟩ := Option.isSome_iff_exists.1 h
  exact fop_some h
/-- A small whole number as a float. -/
def fi (k : Nat) : Nat := floatOfInt .f64 (k : Int)
theorem fi_fin : ∀ k, k < 17 → fin (fi k) = true := by decide
/-- poly.steep: the derivative's coefficients by floats; of the first k places. -/
def scaleC (c : Cc) (k : Nat) : Cc := (fop .mul c.1 (fi k), fop .mul c.2 (fi k))
def steepTo (ps : List Cc) (k : Nat) : List Cc := (List.range (k - 1)).map fun j => scaleC (nth ps (j + 1)) (j + 1)
def steepS (ps : List Cc) : List Cc := steepTo ps ps.length
theorem steepTo_next (ps : List Cc) {k : Nat} (hk : 1 ≤ k) : steepTo ps (k + 1) = steepTo ps k ++ [scaleC (nth ps k) k] := by
  unfold steepTo
  obtain ⟨j, rfl⟩ : ∃ j, k = j + 1 := ⟨k - 1, by omega⟩
  rw [show j + 1 + 1 - 1 = (j + 1 - 1) + 1 by omega, List.range_succ, List.map_append]
  rfl
theorem steepTo_length (ps : List Cc) (k : Nat) : (steepTo ps k).length = k - 1 := by simp [steepTo]
theorem scaleC_pick {ps : List Cc} (h : allfin ps = true) {k : Nat} (hk : k < ps.length) (hk17 : k < 17) (s t : Nat) :
    (pick (fop .mul (nth ps k).1 (fi k)) s, pick (fop .mul (nth ps k).2 (fi k)) t) = scaleC (nth ps k) k := by
  have hc : cfin (nth ps k).1 (nth ps k).2 = true := by
    unfold allfin at h
    rw [List.all_eq_true] at h
    rw [nth_eq hk]; exact h _ (List.getElem_mem hk)
  obtain ⟨f1, f2⟩ := cfin_fin hc
  have f3 := fi_fin k hk17
  unfold scaleC
  rw [pick_of (mul_notNaN f1 f3), pick_of (mul_notNaN f2 f3)]
end Go.Fil

/- What package poly computes on balls, as plain functions of the bits. -/
namespace Go.Fil
open Go
/-- The ball at a place. -/
def nthB (l : List Bl) (k : Nat) : Bl := l.getD k (0, 0, 0)
theorem nthB_eq {l : List Bl} {k : Nat} (hk : k < l.length) : nthB l k = l[k] := by
  unfold nthB; rw [List.getD_eq_getElem?_getD, List.getElem?_eq_getElem hk]; rfl
/-- poly.on: from the highest coefficient down. -/
def hornB (z s c : Bl) : Bl := addS (mulS s z) c
def onS (z : Bl) : List Bl → Bl
  | [] => pointS 0 0
  | [c] => c
  | c :: d :: r => hornB z (onS z (d :: r)) c
def onFrom (z : Bl) (l : List Bl) (k : Nat) : Bl := onS z (l.drop k)
theorem onFrom_last {z : Bl} {l : List Bl} {n : Nat} (hn : l.length = n + 1) : onFrom z l n = nthB l n := by
  unfold onFrom
  rw [List.drop_eq_getElem_cons (by omega), List.drop_of_length_le (by omega), nthB_eq (by omega)]
  rfl
theorem onFrom_step {z : Bl} {l : List Bl} {k : Nat} (hk : k + 1 < l.length) : onFrom z l k = hornB z (onFrom z l (k + 1)) (nthB l k) := by
  unfold onFrom
  rw [List.drop_eq_getElem_cons (by omega : k < l.length), List.drop_eq_getElem_cons hk, nthB_eq (by omega)]
  rfl
/-- poly.points, of the first k places. -/
def pointsTo (ps : List Cc) (k : Nat) : List Bl := (List.range k).map fun j => pointS (nth ps j).1 (nth ps j).2
def pointsS (ps : List Cc) : List Bl := pointsTo ps ps.length
theorem pointsTo_next (ps : List Cc) (k : Nat) : pointsTo ps (k + 1) = pointsTo ps k ++ [pointS (nth ps k).1 (nth ps k).2] := by
  unfold pointsTo; rw [List.range_succ, List.map_append]; rfl
theorem pointsTo_length (ps : List Cc) (k : Nat) : (pointsTo ps k).length = k := by simp [pointsTo]
/-- poly.SlopeOn's coefficients, of the first k places. -/
def slopeB (ps : List Cc) (k : Nat) : Bl := mulS (pointS (fi k) 0) (pointS (nth ps k).1 (nth ps k).2)
def slopesTo (ps : List Cc) (k : Nat) : List Bl := (List.range (k - 1)).map fun j => slopeB ps (j + 1)
def slopesS (ps : List Cc) : List Bl := slopesTo ps ps.length
theorem slopesTo_next (ps : List Cc) {k : Nat} (hk : 1 ≤ k) : slopesTo ps (k + 1) = slopesTo ps k ++ [slopeB ps k] := by
  unfold slopesTo
  obtain ⟨j, rfl⟩ : ∃ j, k = j + 1 := ⟨k - 1, by omega⟩
  rw [show j + 1 + 1 - 1 = (j + 1 - 1) + 1 by omega, List.range_succ, List.map_append]
  rfl
theorem slopesTo_length (ps : List Cc) (k : Nat) : (slopesTo ps k).length = k - 1 := by simp [slopesTo]
/-- The cells of balls. -/
def bcells (l : List Bl) : List Value := l.flatMap fun b => [Value.complex .f64 b.1 b.2.1, Value.float .f64 b.2.2]
theorem bcells_append (l m : List Bl) : bcells (l ++ m) = bcells l ++ bcells m := by simp [bcells]
theorem bcells_length (l : List Bl) : (bcells l).length = l.length * 2 := by
  induction l with
  | nil => rfl
  | cons b l ih => simp [bcells] at *; omega
theorem bcells_at {l : List Bl} {k : Nat} (hk : k < l.length) :
    (bcells l)[k * 2]? = some (.complex .f64 (nthB l k).1 (nthB l k).2.1) ∧ (bcells l)[k * 2 + 1]? = some (.float .f64 (nthB l k).2.2) := by
  induction l generalizing k with
  | nil => simp at hk
  | cons b l ih =>
    have hc : bcells (b :: l) = Value.complex .f64 b.1 b.2.1 :: Value.float .f64 b.2.2 :: bcells l := rfl
    cases k with
    | zero => rw [hc]; exact ⟨rfl, rfl⟩
    | succ k =>
      have h := ih (k := k) (by simpa using hk)
      have e : nthB (b :: l) (k + 1) = nthB l k := rfl
      rw [hc, e, show (k + 1) * 2 = k * 2 + 1 + 1 by omega, show k * 2 + 1 + 1 + 1 = (k * 2 + 1) + 1 + 1 by omega]
      simpa using h
end Go.Fil
