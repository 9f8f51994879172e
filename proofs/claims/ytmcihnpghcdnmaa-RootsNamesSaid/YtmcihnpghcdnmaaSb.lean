/- What package poly computes on balls, as plain functions of the bits. -/
import Derived.Test.YtmcihnpghcdnmaaFn
namespace Go.Fil
open Go
/-- The ball at a place. -/
def nthB (l : List Bl) (k : Nat) : Bl := l.getD k (0, 0, 0)
theorem nthB_eq {l : List Bl} {k : Nat} (hk : k < l.length) : nthB l k = l[k] := by
  unfold nthB; rw [List.getD_eq_getElem?_getD, List.getElem?_eq_getElem hk]; rfl
/-- poly.on: from the highest coefficient down. -/
def hornB (z s c : Bl) : Bl := addS (mulS s z) c
def onS (z : Bl) : List Bl → Bl
  | [] => pointS 0 0
  | [c] => c
  | c :: d :: r => hornB z (onS z (d :: r)) c
def onFrom (z : Bl) (l : List Bl) (k : Nat) : Bl := onS z (l.drop k)
theorem onFrom_last {z : Bl} {l : List Bl} {n : Nat} (hn : l.length = n + 1) : onFrom z l n = nthB l n := by
  unfold onFrom
  rw [List.drop_eq_getElem_cons (by omega), List.drop_of_length_le (by omega), nthB_eq (by omega)]
  rfl
theorem onFrom_step {z : Bl} {l : List Bl} {k : Nat} (hk : k + 1 < l.length) : onFrom z l k = hornB z (onFrom z l (k + 1)) (nthB l k) := by
  unfold onFrom
  rw [List.drop_eq_getElem_cons (by omega : k < l.length), List.drop_eq_getElem_cons hk, nthB_eq (by omega)]
  rfl
/-- poly.points, of the first k places. -/
def pointsTo (ps : List Cc) (k : Nat) : List Bl := (List.range k).map fun j => pointS (nth ps j).1 (nth ps j).2
def pointsS (ps : List Cc) : List Bl := pointsTo ps ps.length
theorem pointsTo_next (ps : List Cc) (k : Nat) : pointsTo ps (k + 1) = pointsTo ps k ++ [pointS (nth ps k).1 (nth ps k).2] := by
  unfold pointsTo; rw [List.range_succ, List.map_append]; rfl
theorem pointsTo_length (ps : List Cc) (k : Nat) : (pointsTo ps k).length = k := by simp [pointsTo]
/-- poly.SlopeOn's coefficients, of the first k places. -/
def slopeB (ps : List Cc) (k : Nat) : Bl := mulS (pointS (fi k) 0) (pointS (nth ps k).1 (nth ps k).2)
def slopesTo (ps : List Cc) (k : Nat) : List Bl := (List.range (k - 1)).map fun j => slopeB ps (j + 1)
def slopesS (ps : List Cc) : List Bl := slopesTo ps ps.length
theorem slopesTo_next (ps : List Cc) {k : Nat} (hk : 1 ≤ k) : slopesTo ps (k + 1) = slopesTo ps k ++ [slopeB ps k] := by
  unfold slopesTo
  obtain ⟨j, rfl⟩ : ∃ j, k = j + 1 := ⟨k - 1, by omega⟩
  rw [show j + 1 + 1 - 1 = (j + 1 - 1) + 1 by omega, List.range_succ, List.map_append]
  rfl
theorem slopesTo_length (ps : List Cc) (k : Nat) : (slopesTo ps k).length = k - 1 := by simp [slopesTo]
/-- The cells of balls. -/
def bcells (l : List Bl) : List Value := l.flatMap fun b => [Value.complex .f64 b.1 b.2.1, Value.float .f64 b.2.2]
theorem bcells_append (l m : List Bl) : bcells (l ++ m) = bcells l ++ bcells m := by simp [bcells]
theorem bcells_length (l : List Bl) : (bcells l).length = l.length * 2 := by
  induction l with
  | nil => rfl
  | cons b l ih => simp [bcells] at *; omega
theorem bcells_at {l : List Bl} {k : Nat} (hk : k < l.length) :
    (bcells l)[k * 2]? = some (.complex .f64 (nthB l k).1 (nthB l k).2.1) ∧ (bcells l)[k * 2 + 1]? = some (.float .f64 (nthB l k).2.2) := by
  induction l generalizing k with
  | nil => simp at hk
  | cons b l ih =>
    have hc : bcells (b :: l) = Value.complex .f64 b.1 b.2.1 :: Value.float .f64 b.2.2 :: bcells l := rfl
    cases k with
    | zero => rw [hc]; exact ⟨rfl, rfl⟩
    | succ k =>
      have h := ih (k := k) (by simpa using hk)
      have e : nthB (b :: l) (k + 1) = nthB l k := rfl
      rw [hc, e, show (k + 1) * 2 = k * 2 + 1 + 1 by omega, show k * 2 + 1 + 1 + 1 = (k * 2 + 1) + 1 + 1 by omega]
      simpa using h
end Go.Fil
