/- Finite floats: what is written of a finite product is no NaN. -/
import Derived.Test.YtmcihnpghcdnmaaSq
namespace Go.Fil
open Go
theorem read_fin {x : Nat} (h : fin x = true) : ∃ s m e, Ieee.double.read x = .number s m e := by
  unfold fin at h
  rw [decide_eq_true_eq] at h
  unfold Ieee.Format.read
  simp only [sw_double, ir_double, bi_double]
  split
  · exact ⟨_, _, _, rfl⟩
  · exact ⟨_, _, _, rfl⟩
theorem fin_of {x : Nat} (hn : isNaN x = false) (hi : infB x = false) : fin x = true := by
  unfold fin
  rw [decide_eq_true_eq]
  have h1 : x % 9223372036854775808 ≤ 9218868437227405312 := by unfold isNaN at hn; simp at hn; exact hn
  rcases Nat.lt_or_ge (x % 9223372036854775808) 9218868437227405312 with h | h
  · exact h
  · have h2 : x % 9223372036854775808 = 9218868437227405312 := by omega
    have h3 : fabs x = 9218868437227405312 := by unfold fabs; rw [hn]; exact h2
    unfold infB at hi
    rw [h3] at hi
    exact absurd hi (by decide)
theorem cfin_fin {a b : Nat} (h : cfin a b = true) : fin a = true ∧ fin b = true := by
  have hn := cfin_nan h
  unfold cfin kindS at h
  cases h3 : infB a <;> cases h4 : infB b <;> simp [h3, h4] at h
  exact ⟨fin_of hn.1 h3, fin_of hn.2 h4⟩
theorem fop_some {op : BinOp} {a b r : Nat} (h : floatBits op .f64 a b = some r) : isNaN (fop op a b) = false := by
  unfold fop; rw [h]; exact floatBits_notNaN h
theorem mul_notNaN {a b : Nat} (ha : fin a = true) (hb : fin b = true) : isNaN (fop .mul a b) = false := by
  obtain ⟨s, m, e, h1⟩ := read_fin ha
  obtain ⟨t, n, f, h2⟩ := read_fin hb
  refine fop_some (op := .mul) (r := Ieee.double.write (.number (s ^^ t) (m * n) (e + f))) ?_
  simp only [floatBits, FloatKind.format, Ieee.Format.mul, h1, h2, Ieee.Datum.product, Option.map_some]
theorem add_notNaN {a b : Nat} (ha : fin a = true) (hb : fin b = true) : isNaN (fop .add a b) = false := by
  obtain ⟨s, m, e, h1⟩ := read_fin ha
  obtain ⟨t, n, f, h2⟩ := read_fin hb
  have h : (floatBits .add .f64 a b).isSome = true := by
    simp only [floatBits, FloatKind.format, Ieee.Format.add, h1, h2, Ieee.Datum.sum, Option.map_some, Option.isSome_some]
  obtain ⟨r, h⟩ := Option.isSome_iff_exists.1 h
  exact fop_some h
/-- A small whole number as a float. -/
def fi (k : Nat) : Nat := floatOfInt .f64 (k : Int)
theorem fi_fin : ∀ k, k < 17 → fin (fi k) = true := by decide
/-- poly.steep: the derivative's coefficients by floats; of the first k places. -/
def scaleC (c : Cc) (k : Nat) : Cc := (fop .mul c.1 (fi k), fop .mul c.2 (fi k))
def steepTo (ps : List Cc) (k : Nat) : List Cc := (List.range (k - 1)).map fun j => scaleC (nth ps (j + 1)) (j + 1)
def steepS (ps : List Cc) : List Cc := steepTo ps ps.length
theorem steepTo_next (ps : List Cc) {k : Nat} (hk : 1 ≤ k) : steepTo ps (k + 1) = steepTo ps k ++ [scaleC (nth ps k) k] := by
  unfold steepTo
  obtain ⟨j, rfl⟩ : ∃ j, k = j + 1 := ⟨k - 1, by omega⟩
  rw [show j + 1 + 1 - 1 = (j + 1 - 1) + 1 by omega, List.range_succ, List.map_append]
  rfl
theorem steepTo_length (ps : List Cc) (k : Nat) : (steepTo ps k).length = k - 1 := by simp [steepTo]
theorem scaleC_pick {ps : List Cc} (h : allfin ps = true) {k : Nat} (hk : k < ps.length) (hk17 : k < 17) (s t : Nat) :
    (pick (fop .mul (nth ps k).1 (fi k)) s, pick (fop .mul (nth ps k).2 (fi k)) t) = scaleC (nth ps k) k := by
  have hc : cfin (nth ps k).1 (nth ps k).2 = true := by
    unfold allfin at h
    rw [List.all_eq_true] at h
    rw [nth_eq hk]; exact h _ (List.getElem_mem hk)
  obtain ⟨f1, f2⟩ := cfin_fin hc
  have f3 := fi_fin k hk17
  unfold scaleC
  rw [pick_of (mul_notNaN f1 f3), pick_of (mul_notNaN f2 f3)]
end Go.Fil
