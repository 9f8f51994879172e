/- What package poly computes by floats, as plain functions of the bits. -/
import Derived.Test.YtmcihnpghcdnmaaSp
namespace Go.Fil
open Go

abbrev Cc := Nat × Nat
/-- The coefficient at a place. -/
def nth (ps : List Cc) (k : Nat) : Cc := ps.getD k (0, 0)
theorem nth_eq {ps : List Cc} {k : Nat} (hk : k < ps.length) : nth ps k = ps[k] := by
  unfold nth; rw [List.getD_eq_getElem?_getD, List.getElem?_eq_getElem hk]; rfl
def czeroC (c : Cc) : Bool := czero c.1 c.2
/-- poly.Check. -/
def allfin (ps : List Cc) : Bool := ps.all fun c => cfin c.1 c.2
def lastzero (ps : List Cc) : Bool := decide (0 < ps.length) && czeroC (nth ps (ps.length - 1))
def checkS (ps : List Cc) : Bool := decide (ps.length ≤ 17) && (!lastzero ps && allfin ps)
/-- An error's number: OK or ErrArg. -/
def errS (ok : Bool) : Int := if ok then 0 else 2
/-- poly.at: from the highest coefficient down. -/
def hornS (z s c : Cc) : Cc := (fop .add (mulRe s.1 s.2 z.1 z.2) c.1, fop .add (mulIm s.1 s.2 z.1 z.2) c.2)
def atS (z : Cc) : List Cc → Cc
  | [] => (0, 0)
  | [c] => c
  | c :: d :: r => hornS z (atS z (d :: r)) c

/-- All coefficients ahead of place k are finite. -/
def FinTo (ps : List Cc) (k : Nat) : Prop := ∀ j, j < k → cfin (nth ps j).1 (nth ps j).2 = true
theorem FinTo.zero (ps : List Cc) : FinTo ps 0 := fun _ h => absurd h (Nat.not_lt_zero _)
theorem FinTo.next {ps : List Cc} {k : Nat} (h : FinTo ps k) (hc : cfin (nth ps k).1 (nth ps k).2 = true) : FinTo ps (k + 1) := fun j hlt => by
  rcases Nat.lt_or_ge j k with h1 | h1
  · exact h j h1
  · have : j = k := by omega
    subst this; exact hc
theorem FinTo.all {ps : List Cc} {n : Nat} (h : FinTo ps n) (hn : ps.length = n) : allfin ps = true := by
  unfold allfin
  rw [List.all_eq_true]
  intro c hc
  obtain ⟨k, hk, rfl⟩ := List.getElem_of_mem hc
  have := h k (by omega)
  rwa [nth_eq hk] at this
theorem allfin_not {ps : List Cc} {k : Nat} (hk : k < ps.length) (h : cfin (nth ps k).1 (nth ps k).2 = false) : allfin ps = false := by
  unfold allfin
  rw [List.all_eq_false]
  exact ⟨_, List.getElem_mem hk, by rw [nth_eq hk] at h; simp [h]⟩
/-- The Horner sum of the coefficients from place k on. -/
def atFrom (z : Cc) (ps : List Cc) (k : Nat) : Cc := atS z (ps.drop k)
theorem atFrom_last {z : Cc} {ps : List Cc} {n : Nat} (hn : ps.length = n + 1) : atFrom z ps n = nth ps n := by
  unfold atFrom
  rw [List.drop_eq_getElem_cons (by omega), List.drop_of_length_le (by omega), nth_eq (by omega)]
  rfl
theorem atFrom_step {z : Cc} {ps : List Cc} {k : Nat} (hk : k + 1 < ps.length) : atFrom z ps k = hornS z (atFrom z ps (k + 1)) (nth ps k) := by
  unfold atFrom
  rw [List.drop_eq_getElem_cons (by omega : k < ps.length), List.drop_eq_getElem_cons hk, nth_eq (by omega)]
  rfl
end Go.Fil
