/- Whole numbers by their digits to the base 2^32, lowest first. No program is in sight. -/
import Derived.KernelRfl
namespace Go.Fil
open Go
/-- The value of digits; the digits of a value. -/
def val : List Nat → Nat
  | [] => 0
  | d :: r => d + 4294967296 * val r
def dig (n : Nat) : List Nat := if n = 0 then [] else (n % 4294967296) :: dig (n / 4294967296)
termination_by n
decreasing_by omega
def dok (l : List Nat) : Prop := ∀ d ∈ l, d < 4294967296
theorem dig_zero : dig 0 = [] := by rw [dig]; simp
theorem dig_pos {n : Nat} (h : n ≠ 0) : dig n = (n % 4294967296) :: dig (n / 4294967296) := by rw [dig]; simp [h]
theorem val_dig (n : Nat) : val (dig n) = n := by
  induction n using Nat.strongRecOn with
  | _ n ih =>
    by_cases h : n = 0
    · subst h; rw [dig_zero]; rfl
    · rw [dig_pos h, val, ih _ (by omega)]; omega
theorem dig_ok (n : Nat) : dok (dig n) := by
  induction n using Nat.strongRecOn with
  | _ n ih =>
    by_cases h : n = 0
    · subst h; rw [dig_zero]; intro d hd; cases hd
    · rw [dig_pos h]; intro d hd
      rcases List.mem_cons.1 hd with rfl | hd
      · omega
      · exact ih _ (by omega) d hd
theorem dok_cons {d : Nat} {r : List Nat} (h : dok (d :: r)) : d < 4294967296 ∧ dok r := ⟨h d (by simp), fun e he => h e (by simp [he])⟩
theorem dok_append {l m : List Nat} (h : dok l) (k : dok m) : dok (l ++ m) := by
  intro d hd; rcases List.mem_append.1 hd with hd | hd
  · exact h d hd
  · exact k d hd
theorem dok_take {l : List Nat} (h : dok l) (k : Nat) : dok (l.take k) := fun d hd => h d (List.mem_of_mem_take hd)
theorem dok_drop {l : List Nat} (h : dok l) (k : Nat) : dok (l.drop k) := fun d hd => h d (List.mem_of_mem_drop hd)
theorem val_append (l m : List Nat) : val (l ++ m) = val l + 4294967296 ^ l.length * val m := by
  induction l with
  | nil => simp [val]
  | cons d r ih =>
    rw [List.cons_append, val, ih, val, List.length_cons, Nat.pow_succ, Nat.mul_add, ← Nat.mul_assoc, Nat.mul_comm (4294967296 ^ r.length) 4294967296, Nat.add_assoc]
theorem val_lt {l : List Nat} (h : dok l) : val l < 4294967296 ^ l.length := by
  induction l with
  | nil => simp [val]
  | cons d r ih =>
    have ⟨hd, hr⟩ := dok_cons h
    have := ih hr
    rw [val, List.length_cons, Nat.pow_succ]
    omega
/-- Without zeros at the high end. -/
def noz (l : List Nat) : Prop := ∀ d, l.getLast? = some d → d ≠ 0
theorem noz_tail {d : Nat} {r : List Nat} (h : noz (d :: r)) : noz r := by
  intro e he
  refine h e ?_
  rw [List.getLast?_cons, he]; rfl
theorem dig_noz (n : Nat) : noz (dig n) := by
  induction n using Nat.strongRecOn with
  | _ n ih =>
    by_cases h : n = 0
    · subst h; rw [dig_zero]; intro d hd; cases hd
    · rw [dig_pos h]; intro d hd
      by_cases h2 : n / 4294967296 = 0
      · rw [h2, dig_zero] at hd; simp at hd; omega
      · rw [List.getLast?_cons] at hd
        cases hl : (dig (n / 4294967296)).getLast? with
        | none => rw [dig_pos h2] at hl; simp at hl
        | some e => rw [hl] at hd; simp at hd; subst hd; exact ih _ (by omega) _ hl
theorem dig_val {l : List Nat} (h : dok l) (c : noz l) : dig (val l) = l := by
  induction l with
  | nil => exact dig_zero
  | cons d r ih =>
    have ⟨hd, hr⟩ := dok_cons h
    have hne : val (d :: r) ≠ 0 := by
      cases r with
      | nil => have := c d rfl; rw [val, val]; omega
      | cons e r' =>
        intro h0
        have hr0 : val (e :: r') = 0 := by rw [val] at h0; omega
        have := ih hr (noz_tail c)
        rw [hr0, dig_zero] at this
        cases this
    rw [dig_pos hne, val]
    have e1 : (d + 4294967296 * val r) % 4294967296 = d := by omega
    have e2 : (d + 4294967296 * val r) / 4294967296 = val r := by omega
    rw [e1, e2]
    cases r with
    | nil => rw [val, dig_zero]
    | cons e r' => rw [ih hr (noz_tail c)]
theorem noz_nil : noz [] := fun d hd => by cases hd
theorem noz_snoc {l : List Nat} {d : Nat} (h : d ≠ 0) : noz (l ++ [d]) := by
  intro e he; rw [List.getLast?_append] at he; simp at he; omega
/-- One more digit at the high end. -/
theorem val_snoc (l : List Nat) (d : Nat) : val (l ++ [d]) = val l + 4294967296 ^ l.length * d := by
  rw [val_append]; simp [val]
theorem val_take_succ {l : List Nat} {k : Nat} {d : Nat} (h : l[k]? = some d) : val (l.take (k + 1)) = val (l.take k) + 4294967296 ^ k * d := by
  have hk : k < l.length := (List.getElem?_eq_some_iff.1 h).1
  rw [List.take_add_one, h]
  rw [Option.toList_some, val_snoc, List.length_take, Nat.min_eq_left (Nat.le_of_lt hk)]
theorem val_zeros (k : Nat) : val (List.replicate k 0) = 0 := by
  induction k with
  | zero => rfl
  | succ k ih => rw [List.replicate_succ, val, ih]
theorem dok_zeros (k : Nat) : dok (List.replicate k 0) := fun d hd => by rw [List.eq_of_mem_replicate hd]; decide
theorem dig_length_lt (n : Nat) : n < 4294967296 ^ (dig n).length := by
  have := val_lt (dig_ok n); rwa [val_dig] at this
theorem dig_length_le {n k : Nat} (h : n < 4294967296 ^ k) : (dig n).length ≤ k := by
  induction k generalizing n with
  | zero =>
    have : n = 0 := by simpa using h
    subst this; rw [dig_zero]; simp
  | succ k ih =>
    by_cases h0 : n = 0
    · subst h0; rw [dig_zero]; simp
    · rw [dig_pos h0, List.length_cons]
      have : n / 4294967296 < 4294967296 ^ k := by
        rw [Nat.div_lt_iff_lt_mul (by decide), ← Nat.pow_succ]; exact h
      have := ih this
      omega
theorem dig_length_pos {n : Nat} (h : n ≠ 0) : 0 < (dig n).length := by rw [dig_pos h]; simp
/-- A digit by its place; beyond the end it is 0. -/
def nd (l : List Nat) (i : Nat) : Nat := l.getD i 0
theorem nd_eq {l : List Nat} {i : Nat} (h : i < l.length) : nd l i = l[i] := by
  unfold nd; rw [List.getD_eq_getElem?_getD, List.getElem?_eq_getElem h]; rfl
theorem nd_some {l : List Nat} {i : Nat} (h : i < l.length) : l[i]? = some (nd l i) := by rw [nd_eq h]; exact List.getElem?_eq_getElem h
theorem nd_out {l : List Nat} {i : Nat} (h : l.length ≤ i) : nd l i = 0 := by
  unfold nd; rw [List.getD_eq_getElem?_getD, List.getElem?_eq_none h]; rfl
theorem nd_lt {l : List Nat} (h : dok l) (i : Nat) : nd l i < 4294967296 := by
  by_cases hi : i < l.length
  · rw [nd_eq hi]; exact h _ (List.getElem_mem hi)
  · rw [nd_out (by omega)]; decide
theorem val_take_nd (l : List Nat) (i : Nat) : val (l.take (i + 1)) = val (l.take i) + 4294967296 ^ i * nd l i := by
  by_cases hi : i < l.length
  · exact val_take_succ (nd_some hi)
  · rw [nd_out (by omega), List.take_of_length_le (by omega), List.take_of_length_le (by omega)]; simp
theorem nd_set (l : List Nat) (j d i : Nat) : nd (l.set j d) i = if j = i ∧ j < l.length then d else nd l i := by
  unfold nd
  rw [List.getD_eq_getElem?_getD, List.getD_eq_getElem?_getD, List.getElem?_set]
  by_cases h : j = i
  · subst h
    by_cases h2 : j < l.length
    · simp [h2]
    · simp [h2]
  · simp [h]
theorem nd_set_ne (l : List Nat) {j i : Nat} (d : Nat) (h : j ≠ i) : nd (l.set j d) i = nd l i := by rw [nd_set, if_neg (fun hh => h hh.1)]
theorem dok_set {l : List Nat} (h : dok l) {d : Nat} (hd : d < 4294967296) (j : Nat) : dok (l.set j d) := by
  intro e he
  rcases List.mem_or_eq_of_mem_set he with he | rfl
  · exact h e he
  · exact hd
theorem val_set {l : List Nat} {j : Nat} (d : Nat) (h : j < l.length) : val (l.set j d) + 4294967296 ^ j * nd l j = val l + 4294967296 ^ j * d := by
  induction l generalizing j with
  | nil => simp at h
  | cons a r ih =>
    cases j with
    | zero => simp [val, nd]; omega
    | succ j =>
      have := ih (j := j) (by simpa using h)
      have e : nd (a :: r) (j + 1) = nd r j := rfl
      rw [List.set_cons_succ, val, val, e, Nat.pow_succ, Nat.mul_comm (4294967296 ^ j) 4294967296, Nat.mul_assoc, Nat.mul_assoc]
      omega
theorem val_cons_div (a : Nat) (r : List Nat) (h : a < 4294967296) : val (a :: r) / 4294967296 = val r ∧ val (a :: r) % 4294967296 = a := by
  rw [val]; omega
/-- A digit out of the value. -/
theorem nd_val {l : List Nat} (h : dok l) (i : Nat) : nd l i = val l / 4294967296 ^ i % 4294967296 := by
  induction l generalizing i with
  | nil => simp [nd, val]
  | cons a r ih =>
    have ⟨ha, hr⟩ := dok_cons h
    have ⟨e1, e2⟩ := val_cons_div a r ha
    cases i with
    | zero => rw [Nat.pow_zero, Nat.div_one, e2]; rfl
    | succ i =>
      rw [Nat.pow_succ, Nat.mul_comm, ← Nat.div_div_eq_div_mul, e1]
      exact ih hr i
theorem nd_dig (n i : Nat) : nd (dig n) i = n / 4294967296 ^ i % 4294967296 := by rw [nd_val (dig_ok n), val_dig]
/-- The value out of the digits. -/
theorem val_of_nd {l : List Nat} {n : Nat} (hl : n < 4294967296 ^ l.length) (h : ∀ i, i < l.length → nd l i = n / 4294967296 ^ i % 4294967296) : val l = n := by
  induction l generalizing n with
  | nil => simp at hl; simp [val, hl]
  | cons a r ih =>
    have h0 := h 0 (by simp)
    rw [Nat.pow_zero, Nat.div_one] at h0
    have h0' : a = n % 4294967296 := h0
    have : val r = n / 4294967296 := by
      refine ih ?_ (fun i hi => ?_)
      · rw [Nat.div_lt_iff_lt_mul (by decide), ← Nat.pow_succ]; simpa using hl
      · have := h (i + 1) (by simpa using hi)
        rw [Nat.pow_succ, Nat.mul_comm, ← Nat.div_div_eq_div_mul] at this
        exact this
    rw [val, this, h0']; omega
theorem val_drop {l : List Nat} (h : dok l) (k : Nat) : val (l.drop k) = val l / 4294967296 ^ k := by
  induction l generalizing k with
  | nil => simp [val]
  | cons a r ih =>
    have ⟨ha, hr⟩ := dok_cons h
    cases k with
    | zero => simp
    | succ k =>
      rw [List.drop_succ_cons, ih hr, Nat.pow_succ, Nat.mul_comm, ← Nat.div_div_eq_div_mul, (val_cons_div a r ha).1]
/-- What stands in an empty row of n digits. -/
theorem nd_zeros (k i : Nat) : nd (List.replicate k 0) i = 0 := by
  unfold nd
  rw [List.getD_eq_getElem?_getD, List.getElem?_replicate]
  split <;> rfl
/-- Digits cut at a place behind which there are only zeros. -/
theorem take_dig {l : List Nat} (h : dok l) {k : Nat} (hv : val (l.take k) = val l) (hk : k = 0 ∨ nd l (k - 1) ≠ 0) (hkl : k ≤ l.length) : l.take k = dig (val l) := by
  rw [← hv]
  refine (dig_val (dok_take h k) ?_).symm
  cases k with
  | zero => simp; exact noz_nil
  | succ j =>
    have hj : j < l.length := by omega
    rw [List.take_add_one, nd_some hj, Option.toList_some]
    refine noz_snoc ?_
    rcases hk with hk | hk
    · exact absurd hk (by omega)
    · simpa using hk
end Go.Fil

/- Steps of the sums and products of whole numbers, digit by digit. No program is in sight. -/
namespace Go.Fil
open Go
theorem plus_step {out : List Nat} {i c X s : Nat} (hv : val out + 4294967296 ^ i * c = X) (h0 : nd out i = 0) (hi : i < out.length) (t : Nat) (hs : s = c + t) :
    val (out.set i (s % 4294967296)) + 4294967296 ^ (i + 1) * (s / 4294967296) = X + 4294967296 ^ i * t := by
  have h1 := val_set (s % 4294967296) hi
  rw [h0, Nat.mul_zero, Nat.add_zero] at h1
  have h2 : 4294967296 ^ i * (s % 4294967296) + 4294967296 ^ (i + 1) * (s / 4294967296) = 4294967296 ^ i * s := by
    rw [Nat.pow_succ, Nat.mul_assoc, ← Nat.mul_add, Nat.mod_add_div]
  have h3 : 4294967296 ^ i * s = 4294967296 ^ i * c + 4294967296 ^ i * t := by rw [hs, Nat.mul_add]
  omega
theorem less_step_no {out : List Nat} {i c X Y a b : Nat} (hv : val out + Y = X + 4294967296 ^ i * c) (h0 : nd out i = 0) (hi : i < out.length) (h : c + b ≤ a) :
    val (out.set i (a - c - b)) + (Y + 4294967296 ^ i * b) = X + 4294967296 ^ i * a := by
  have h1 := val_set (a - c - b) hi
  rw [h0, Nat.mul_zero, Nat.add_zero] at h1
  have h2 : 4294967296 ^ i * a = 4294967296 ^ i * (a - c - b) + 4294967296 ^ i * c + 4294967296 ^ i * b := by
    rw [← Nat.mul_add, ← Nat.mul_add]; congr 1; omega
  omega
theorem less_step_yes {out : List Nat} {i c X Y a b : Nat} (hv : val out + Y = X + 4294967296 ^ i * c) (h0 : nd out i = 0) (hi : i < out.length) (h : a < c + b) (hb : c + b ≤ a + 4294967296) :
    val (out.set i (a + 4294967296 - c - b)) + (Y + 4294967296 ^ i * b) = X + 4294967296 ^ i * a + 4294967296 ^ (i + 1) := by
  have h1 := val_set (a + 4294967296 - c - b) hi
  rw [h0, Nat.mul_zero, Nat.add_zero] at h1
  have h2 : 4294967296 ^ i * (a + 4294967296) = 4294967296 ^ i * (a + 4294967296 - c - b) + 4294967296 ^ i * c + 4294967296 ^ i * b := by
    rw [← Nat.mul_add, ← Nat.mul_add]; congr 1; omega
  rw [Nat.mul_add, ← Nat.pow_succ] at h2
  omega
theorem times_step {out : List Nat} {j c X s : Nat} (hv : val out + 4294967296 ^ j * c = X) (hj : j < out.length) (t : Nat) (hs : s = c + (t + nd out j)) :
    val (out.set j (s % 4294967296)) + 4294967296 ^ (j + 1) * (s / 4294967296) = X + 4294967296 ^ j * t := by
  have h1 := val_set (s % 4294967296) hj
  have h2 : 4294967296 ^ j * (s % 4294967296) + 4294967296 ^ (j + 1) * (s / 4294967296) = 4294967296 ^ j * s := by
    rw [Nat.pow_succ, Nat.mul_assoc, ← Nat.mul_add, Nat.mod_add_div]
  have h3 : 4294967296 ^ j * s = 4294967296 ^ j * c + (4294967296 ^ j * t + 4294967296 ^ j * nd out j) := by rw [hs, Nat.mul_add, Nat.mul_add]
  omega
theorem or_add {x m r : Nat} (hx : x < 2 ^ r) : x ||| (m * 2 ^ r) = x + m * 2 ^ r := by
  have h := Nat.shiftLeft_add_eq_or_of_lt hx m
  rw [Nat.shiftLeft_eq] at h
  rw [Nat.or_comm, ← h, Nat.add_comm]
/-- One digit shifted to the left, laid over what came out of the digit ahead. -/
theorem left_step {out : List Nat} {j r x X : Nat} (hr : r < 32) (hx : x < 4294967296) (hv : val out = X) (h0 : nd out j < 2 ^ r) (h1 : nd out (j + 1) = 0) (hj : j + 1 < out.length) :
    val ((out.set j (nd out j ||| (x * 2 ^ r % 4294967296))).set (j + 1) (x * 2 ^ r / 4294967296)) = X + 4294967296 ^ j * (x * 2 ^ r) ∧ x * 2 ^ r / 4294967296 < 2 ^ r := by
  have hd : x * 2 ^ r % 4294967296 = (x % 2 ^ (32 - r)) * 2 ^ r := by
    have : (4294967296 : Nat) = 2 ^ (32 - r) * 2 ^ r := by rw [← Nat.pow_add, show 32 - r + r = 32 by omega]
    rw [this, Nat.mul_mod_mul_right]
  have ho : nd out j ||| (x * 2 ^ r % 4294967296) = nd out j + x * 2 ^ r % 4294967296 := by rw [hd]; exact or_add h0
  rw [ho]
  have a1 := val_set (nd out j + x * 2 ^ r % 4294967296) (show j < out.length by omega)
  have a2 := val_set (l := out.set j (nd out j + x * 2 ^ r % 4294967296)) (x * 2 ^ r / 4294967296) (show j + 1 < _ by simpa using hj)
  rw [nd_set_ne _ _ (by omega), h1, Nat.mul_zero, Nat.add_zero] at a2
  have h2 : 4294967296 ^ j * (x * 2 ^ r % 4294967296) + 4294967296 ^ (j + 1) * (x * 2 ^ r / 4294967296) = 4294967296 ^ j * (x * 2 ^ r) := by
    rw [Nat.pow_succ, Nat.mul_assoc, ← Nat.mul_add, Nat.mod_add_div]
  rw [Nat.mul_add] at a1
  refine ⟨by omega, ?_⟩
  rw [Nat.div_lt_iff_lt_mul (by decide), Nat.mul_comm (2 ^ r)]
  exact Nat.mul_lt_mul_of_pos_right hx (Nat.two_pow_pos r)
/-- One digit shifted to the right. -/
theorem right_step {n i r : Nat} (hr : r < 32) :
    (n / 4294967296 ^ i % 4294967296 + 4294967296 * (n / 4294967296 ^ (i + 1) % 4294967296)) / 2 ^ r % 4294967296 = n / 2 ^ r / 4294967296 ^ i % 4294967296 := by
  have e1 : n / 4294967296 ^ (i + 1) = n / 4294967296 ^ i / 4294967296 := by rw [Nat.pow_succ, Nat.div_div_eq_div_mul]
  have e2 : n / 2 ^ r / 4294967296 ^ i = n / 4294967296 ^ i / 2 ^ r := by rw [Nat.div_div_eq_div_mul, Nat.div_div_eq_div_mul, Nat.mul_comm]
  rw [e1, e2]
  generalize n / 4294967296 ^ i = m
  have e3 : m % 4294967296 + 4294967296 * (m / 4294967296 % 4294967296) = m % 18446744073709551616 := by omega
  rw [e3]
  have e4 : (18446744073709551616 : Nat) = 2 ^ r * 2 ^ (64 - r) := by rw [← Nat.pow_add, show r + (64 - r) = 64 by omega]
  rw [e4, Nat.mod_mul_right_div_self]
  have e5 : (2 : Nat) ^ (64 - r) = 4294967296 * 2 ^ (32 - r) := by
    rw [show (4294967296 : Nat) = 2 ^ 32 from rfl, ← Nat.pow_add, show 32 + (32 - r) = 64 - r by omega]
  rw [e5, Nat.mod_mul_right_mod]
/-- Comparing from the high end. -/
theorem cmp_lt {l m : List Nat} (hl : dok l) {i : Nat} (hd : l.drop (i + 1) = m.drop (i + 1)) (hi : i < l.length) (hi2 : i < m.length) (h : nd l i < nd m i) : val l < val m := by
  have e1 : val l = val (l.take (i + 1)) + 4294967296 ^ (i + 1) * val (l.drop (i + 1)) := by
    conv => lhs; rw [← List.take_append_drop (i + 1) l, val_append, List.length_take, Nat.min_eq_left (by omega)]
  have e2 : val m = val (m.take (i + 1)) + 4294967296 ^ (i + 1) * val (m.drop (i + 1)) := by
    conv => lhs; rw [← List.take_append_drop (i + 1) m, val_append, List.length_take, Nat.min_eq_left (by omega)]
  rw [e1, e2, hd, val_take_nd, val_take_nd]
  have b1 := val_lt (dok_take hl i)
  rw [List.length_take, Nat.min_eq_left (by omega)] at b1
  have b2 : 4294967296 ^ i * (nd l i + 1) ≤ 4294967296 ^ i * nd m i := Nat.mul_le_mul_left _ h
  rw [Nat.mul_add] at b2
  omega
/-- Fewer digits, a lesser number. -/
theorem dig_len_lt {a b : Nat} (h : (dig a).length < (dig b).length) : a < b := by
  rcases Nat.lt_or_ge a b with hab | hab
  · exact hab
  · have h1 : b < 4294967296 ^ (dig a).length := Nat.lt_of_le_of_lt hab (dig_length_lt a)
    have := dig_length_le h1
    omega
theorem dig_inj {a b : Nat} (h : dig a = dig b) : a = b := by rw [← val_dig a, ← val_dig b, h]
end Go.Fil

/- How often 2 divides a whole number, how long it is, by its digits. No program is in sight. -/
namespace Go.Fil
open Go
def tz (n : Nat) : Nat := if n = 0 then 0 else if n % 2 = 1 then 0 else tz (n / 2) + 1
termination_by n
decreasing_by omega
def od (n : Nat) : Nat := n / 2 ^ tz n
theorem tz_zero : tz 0 = 0 := by rw [tz]; simp
theorem tz_odd {n : Nat} (h : n % 2 = 1) : tz n = 0 := by rw [tz]; simp [h]
theorem tz_even {n : Nat} (h0 : n ≠ 0) (h : n % 2 = 0) : tz n = tz (n / 2) + 1 := by rw [tz]; simp [h, h0]
theorem tz_mul (n : Nat) : 2 ^ tz n * od n = n := by
  induction n using Nat.strongRecOn with
  | _ n ih =>
    unfold od
    by_cases h0 : n = 0
    · subst h0; simp
    · by_cases h : n % 2 = 1
      · rw [tz_odd h]; simp
      · have hev : n % 2 = 0 := by omega
        have := ih (n / 2) (by omega)
        unfold od at this
        rw [tz_even h0 hev, Nat.pow_succ, Nat.mul_comm (2 ^ tz (n / 2)) 2, ← Nat.div_div_eq_div_mul, Nat.mul_assoc, this]
        omega
theorem od_odd {n : Nat} (h0 : n ≠ 0) : od n % 2 = 1 := by
  induction n using Nat.strongRecOn with
  | _ n ih =>
    unfold od
    by_cases h : n % 2 = 1
    · rw [tz_odd h]; simpa using h
    · have hev : n % 2 = 0 := by omega
      have := ih (n / 2) (by omega) (by omega)
      unfold od at this
      rw [tz_even h0 hev, Nat.pow_succ, Nat.mul_comm (2 ^ tz (n / 2)) 2, ← Nat.div_div_eq_div_mul]
      exact this
theorem od_pos {n : Nat} (h0 : n ≠ 0) : 0 < od n := by have := od_odd h0; omega
theorem tz_of {m : Nat} (hm : m % 2 = 1) (k : Nat) : tz (2 ^ k * m) = k := by
  induction k with
  | zero => simpa using tz_odd hm
  | succ k ih =>
    have hp : 0 < 2 ^ k * m := Nat.mul_pos (Nat.two_pow_pos k) (by omega)
    have e : 2 ^ (k + 1) * m = 2 * (2 ^ k * m) := by rw [Nat.pow_succ, Nat.mul_comm (2 ^ k) 2, Nat.mul_assoc]
    rw [e, tz_even (by omega) (by omega), Nat.mul_div_cancel_left _ (by decide), ih]
theorem od_of {m : Nat} (hm : m % 2 = 1) (k : Nat) : od (2 ^ k * m) = m := by
  unfold od; rw [tz_of hm, Nat.mul_div_cancel_left _ (Nat.two_pow_pos k)]
theorem tz_shift {n : Nat} (h0 : n ≠ 0) (k : Nat) : tz (2 ^ k * n) = k + tz n := by
  conv => lhs; rw [← tz_mul n, ← Nat.mul_assoc, ← Nat.pow_add]
  exact tz_of (od_odd h0) _
theorem od_shift {n : Nat} (h0 : n ≠ 0) (k : Nat) : od (2 ^ k * n) = od n := by
  conv => lhs; rw [← tz_mul n, ← Nat.mul_assoc, ← Nat.pow_add]
  exact od_of (od_odd h0) _
theorem od_le (n : Nat) : od n ≤ n := Nat.div_le_self _ _
/-- The first digit that is not 0 tells it. -/
theorem tz_low {l : List Nat} (h : dok l) {i : Nat} (h0 : val (l.take i) = 0) (hi : nd l i ≠ 0) : tz (val l) = 32 * i + tz (nd l i) := by
  have hil : i < l.length := by
    rcases Nat.lt_or_ge i l.length with hh | hh
    · exact hh
    · exact absurd (nd_out hh) hi
  have e1 : val l = val (l.take i) + 4294967296 ^ i * val (l.drop i) := by
    conv => lhs; rw [← List.take_append_drop i l, val_append, List.length_take, Nat.min_eq_left (by omega)]
  have e2 : l.drop i = nd l i :: l.drop (i + 1) := by rw [nd_eq hil]; exact List.drop_eq_getElem_cons hil
  rw [e1, h0, Nat.zero_add, e2, val]
  have hd := nd_lt h i
  generalize nd l i = d at hi hd
  generalize val (l.drop (i + 1)) = r
  have e3 : (4294967296 : Nat) ^ i = 2 ^ (32 * i) := by rw [Nat.pow_mul]
  have ht : tz d < 32 := by
    have h1 := tz_mul d
    have h2 := od_pos hi
    rcases Nat.lt_or_ge (tz d) 32 with hh | hh
    · exact hh
    · have : 2 ^ 32 ≤ 2 ^ tz d := Nat.pow_le_pow_right (by decide) hh
      have h3 : 2 ^ 32 * 1 ≤ 2 ^ tz d * od d := Nat.mul_le_mul this h2
      omega
  have e4 : d + 4294967296 * r = 2 ^ tz d * (od d + 2 ^ (32 - tz d) * r) := by
    rw [Nat.mul_add, tz_mul, ← Nat.mul_assoc, ← Nat.pow_add, show tz d + (32 - tz d) = 32 by omega]
  have hodd : (od d + 2 ^ (32 - tz d) * r) % 2 = 1 := by
    have h1 := od_odd hi
    have h2 : 2 ^ (32 - tz d) * r = 2 * (2 ^ (31 - tz d) * r) := by
      rw [show 32 - tz d = 31 - tz d + 1 by omega, Nat.pow_succ, Nat.mul_comm (2 ^ (31 - tz d)) 2, Nat.mul_assoc]
    omega
  rw [e4, e3, ← Nat.mul_assoc, ← Nat.pow_add, tz_of hodd]
/-- How many bits a number has. -/
def bl (n : Nat) : Nat := if n = 0 then 0 else n.log2 + 1
theorem bl_lt (n : Nat) : n < 2 ^ bl n := by
  unfold bl
  split
  · rename_i h; subst h; decide
  · exact Nat.lt_log2_self
theorem bl_le {n : Nat} (h : n ≠ 0) : 2 ^ (bl n - 1) ≤ n := by
  unfold bl; rw [if_neg h, Nat.add_sub_cancel]; exact Nat.log2_self_le h
theorem bl_eq {n k : Nat} (h1 : 2 ^ k ≤ n) (h2 : n < 2 ^ (k + 1)) : bl n = k + 1 := by
  have h0 : n ≠ 0 := by have := Nat.two_pow_pos k; omega
  unfold bl; rw [if_neg h0, (Nat.log2_eq_iff h0).2 ⟨h1, h2⟩]
/-- The highest digit tells it. -/
theorem bl_top {l : List Nat} (h : dok l) {k : Nat} (hl : l.length = k + 1) (ht : nd l k ≠ 0) : bl (val l) = 32 * k + bl (nd l k) := by
  have e1 : val l = val (l.take k) + 4294967296 ^ k * nd l k := by
    have := val_take_nd l k
    rwa [List.take_of_length_le (by omega)] at this
  have b1 := val_lt (dok_take h k)
  rw [List.length_take, Nat.min_eq_left (by omega)] at b1
  have e3 : (4294967296 : Nat) ^ k = 2 ^ (32 * k) := by rw [Nat.pow_mul]
  rw [e3] at e1 b1
  generalize nd l k = d at ht e1
  obtain ⟨j, hj⟩ : ∃ j, bl d = j + 1 := ⟨d.log2, by unfold bl; rw [if_neg ht]⟩
  have c1 := bl_le ht
  have c2 := bl_lt d
  rw [hj] at c1 c2
  rw [hj, ← Nat.add_assoc]
  refine bl_eq ?_ ?_
  · rw [e1, Nat.pow_add]
    have := Nat.mul_le_mul_left (2 ^ (32 * k)) c1
    rw [Nat.add_sub_cancel] at this
    omega
  · have : 2 ^ (32 * k) * (d + 1) ≤ 2 ^ (32 * k) * 2 ^ (j + 1) := Nat.mul_le_mul_left _ c2
    rw [← Nat.pow_add, Nat.mul_add] at this
    rw [Nat.add_assoc, e1]
    omega
theorem bl_mul_pow {n : Nat} (h : n ≠ 0) (k : Nat) : bl (2 ^ k * n) = k + bl n := by
  obtain ⟨j, hj⟩ : ∃ j, bl n = j + 1 := ⟨n.log2, by unfold bl; rw [if_neg h]⟩
  have c1 := bl_le h
  have c2 := bl_lt n
  rw [hj] at c1 c2
  rw [hj, ← Nat.add_assoc]
  refine bl_eq ?_ ?_
  · rw [Nat.pow_add]; exact Nat.mul_le_mul_left _ c1
  · rw [Nat.add_assoc, Nat.pow_add]; exact Nat.mul_lt_mul_of_pos_left c2 (Nat.two_pow_pos k)
end Go.Fil

/- Whole numbers by their digits to the base 256, lowest first. No program is in sight. -/
namespace Go.Fil
open Go
/-- The value of digits; the digits of a value. -/
def bval : List Nat → Nat
  | [] => 0
  | d :: r => d + 256 * bval r
def bdig (n : Nat) : List Nat := if n = 0 then [] else (n % 256) :: bdig (n / 256)
termination_by n
decreasing_by omega
def bdok (l : List Nat) : Prop := ∀ d ∈ l, d < 256
theorem bdig_zero : bdig 0 = [] := by rw [bdig]; simp
theorem bdig_pos {n : Nat} (h : n ≠ 0) : bdig n = (n % 256) :: bdig (n / 256) := by rw [bdig]; simp [h]
theorem bval_dig (n : Nat) : bval (bdig n) = n := by
  induction n using Nat.strongRecOn with
  | _ n ih =>
    by_cases h : n = 0
    · subst h; rw [bdig_zero]; rfl
    · rw [bdig_pos h, bval, ih _ (by omega)]; omega
theorem bdig_ok (n : Nat) : bdok (bdig n) := by
  induction n using Nat.strongRecOn with
  | _ n ih =>
    by_cases h : n = 0
    · subst h; rw [bdig_zero]; intro d hd; cases hd
    · rw [bdig_pos h]; intro d hd
      rcases List.mem_cons.1 hd with rfl | hd
      · omega
      · exact ih _ (by omega) d hd
theorem bdok_cons {d : Nat} {r : List Nat} (h : bdok (d :: r)) : d < 256 ∧ bdok r := ⟨h d (by simp), fun e he => h e (by simp [he])⟩
theorem bdok_append {l m : List Nat} (h : bdok l) (k : bdok m) : bdok (l ++ m) := by
  intro d hd; rcases List.mem_append.1 hd with hd | hd
  · exact h d hd
  · exact k d hd
theorem bdok_take {l : List Nat} (h : bdok l) (k : Nat) : bdok (l.take k) := fun d hd => h d (List.mem_of_mem_take hd)
theorem bdok_drop {l : List Nat} (h : bdok l) (k : Nat) : bdok (l.drop k) := fun d hd => h d (List.mem_of_mem_drop hd)
theorem bval_append (l m : List Nat) : bval (l ++ m) = bval l + 256 ^ l.length * bval m := by
  induction l with
  | nil => simp [bval]
  | cons d r ih =>
    rw [List.cons_append, bval, ih, bval, List.length_cons, Nat.pow_succ, Nat.mul_add, ← Nat.mul_assoc, Nat.mul_comm (256 ^ r.length) 256, Nat.add_assoc]
theorem bval_lt {l : List Nat} (h : bdok l) : bval l < 256 ^ l.length := by
  induction l with
  | nil => simp [bval]
  | cons d r ih =>
    have ⟨hd, hr⟩ := bdok_cons h
    have := ih hr
    rw [bval, List.length_cons, Nat.pow_succ]
    omega
/-- Without zeros at the high end. -/
def bnoz (l : List Nat) : Prop := ∀ d, l.getLast? = some d → d ≠ 0
theorem bnoz_tail {d : Nat} {r : List Nat} (h : bnoz (d :: r)) : bnoz r := by
  intro e he
  refine h e ?_
  rw [List.getLast?_cons, he]; rfl
theorem bdig_noz (n : Nat) : bnoz (bdig n) := by
  induction n using Nat.strongRecOn with
  | _ n ih =>
    by_cases h : n = 0
    · subst h; rw [bdig_zero]; intro d hd; cases hd
    · rw [bdig_pos h]; intro d hd
      by_cases h2 : n / 256 = 0
      · rw [h2, bdig_zero] at hd; simp at hd; omega
      · rw [List.getLast?_cons] at hd
        cases hl : (bdig (n / 256)).getLast? with
        | none => rw [bdig_pos h2] at hl; simp at hl
        | some e => rw [hl] at hd; simp at hd; subst hd; exact ih _ (by omega) _ hl
theorem bdig_val {l : List Nat} (h : bdok l) (c : bnoz l) : bdig (bval l) = l := by
  induction l with
  | nil => exact bdig_zero
  | cons d r ih =>
    have ⟨hd, hr⟩ := bdok_cons h
    have hne : bval (d :: r) ≠ 0 := by
      cases r with
      | nil => have := c d rfl; rw [bval, bval]; omega
      | cons e r' =>
        intro h0
        have hr0 : bval (e :: r') = 0 := by rw [bval] at h0; omega
        have := ih hr (bnoz_tail c)
        rw [hr0, bdig_zero] at this
        cases this
    rw [bdig_pos hne, bval]
    have e1 : (d + 256 * bval r) % 256 = d := by omega
    have e2 : (d + 256 * bval r) / 256 = bval r := by omega
    rw [e1, e2]
    cases r with
    | nil => rw [bval, bdig_zero]
    | cons e r' => rw [ih hr (bnoz_tail c)]
theorem bnoz_nil : bnoz [] := fun d hd => by cases hd
theorem bnoz_snoc {l : List Nat} {d : Nat} (h : d ≠ 0) : bnoz (l ++ [d]) := by
  intro e he; rw [List.getLast?_append] at he; simp at he; omega
/-- One more digit at the high end. -/
theorem bval_snoc (l : List Nat) (d : Nat) : bval (l ++ [d]) = bval l + 256 ^ l.length * d := by
  rw [bval_append]; simp [bval]
theorem bval_take_succ {l : List Nat} {k : Nat} {d : Nat} (h : l[k]? = some d) : bval (l.take (k + 1)) = bval (l.take k) + 256 ^ k * d := by
  have hk : k < l.length := (List.getElem?_eq_some_iff.1 h).1
  rw [List.take_add_one, h]
  rw [Option.toList_some, bval_snoc, List.length_take, Nat.min_eq_left (Nat.le_of_lt hk)]
theorem bval_zeros (k : Nat) : bval (List.replicate k 0) = 0 := by
  induction k with
  | zero => rfl
  | succ k ih => rw [List.replicate_succ, bval, ih]
theorem bdok_zeros (k : Nat) : bdok (List.replicate k 0) := fun d hd => by rw [List.eq_of_mem_replicate hd]; decide
theorem bdig_length_lt (n : Nat) : n < 256 ^ (bdig n).length := by
  have := bval_lt (bdig_ok n); rwa [bval_dig] at this
theorem bdig_length_le {n k : Nat} (h : n < 256 ^ k) : (bdig n).length ≤ k := by
  induction k generalizing n with
  | zero =>
    have : n = 0 := by simpa using h
    subst this; rw [bdig_zero]; simp
  | succ k ih =>
    by_cases h0 : n = 0
    · subst h0; rw [bdig_zero]; simp
    · rw [bdig_pos h0, List.length_cons]
      have : n / 256 < 256 ^ k := by
        rw [Nat.div_lt_iff_lt_mul (by decide), ← Nat.pow_succ]; exact h
      have := ih this
      omega
theorem bdig_length_pos {n : Nat} (h : n ≠ 0) : 0 < (bdig n).length := by rw [bdig_pos h]; simp
/-- A digit by its place; beyond the end it is 0. -/
def bnd (l : List Nat) (i : Nat) : Nat := l.getD i 0
theorem bnd_eq {l : List Nat} {i : Nat} (h : i < l.length) : bnd l i = l[i] := by
  unfold bnd; rw [List.getD_eq_getElem?_getD, List.getElem?_eq_getElem h]; rfl
theorem bnd_some {l : List Nat} {i : Nat} (h : i < l.length) : l[i]? = some (bnd l i) := by rw [bnd_eq h]; exact List.getElem?_eq_getElem h
theorem bnd_out {l : List Nat} {i : Nat} (h : l.length ≤ i) : bnd l i = 0 := by
  unfold bnd; rw [List.getD_eq_getElem?_getD, List.getElem?_eq_none h]; rfl
theorem bnd_lt {l : List Nat} (h : bdok l) (i : Nat) : bnd l i < 256 := by
  by_cases hi : i < l.length
  · rw [bnd_eq hi]; exact h _ (List.getElem_mem hi)
  · rw [bnd_out (by omega)]; decide
theorem bval_take_nd (l : List Nat) (i : Nat) : bval (l.take (i + 1)) = bval (l.take i) + 256 ^ i * bnd l i := by
  by_cases hi : i < l.length
  · exact bval_take_succ (bnd_some hi)
  · rw [bnd_out (by omega), List.take_of_length_le (by omega), List.take_of_length_le (by omega)]; simp
theorem bnd_set (l : List Nat) (j d i : Nat) : bnd (l.set j d) i = if j = i ∧ j < l.length then d else bnd l i := by
  unfold bnd
  rw [List.getD_eq_getElem?_getD, List.getD_eq_getElem?_getD, List.getElem?_set]
  by_cases h : j = i
  · subst h
    by_cases h2 : j < l.length
    · simp [h2]
    · simp [h2]
  · simp [h]
theorem bnd_set_ne (l : List Nat) {j i : Nat} (d : Nat) (h : j ≠ i) : bnd (l.set j d) i = bnd l i := by rw [bnd_set, if_neg (fun hh => h hh.1)]
theorem bdok_set {l : List Nat} (h : bdok l) {d : Nat} (hd : d < 256) (j : Nat) : bdok (l.set j d) := by
  intro e he
  rcases List.mem_or_eq_of_mem_set he with he | rfl
  · exact h e he
  · exact hd
theorem bval_set {l : List Nat} {j : Nat} (d : Nat) (h : j < l.length) : bval (l.set j d) + 256 ^ j * bnd l j = bval l + 256 ^ j * d := by
  induction l generalizing j with
  | nil => simp at h
  | cons a r ih =>
    cases j with
    | zero => simp [bval, bnd]; omega
    | succ j =>
      have := ih (j := j) (by simpa using h)
      have e : bnd (a :: r) (j + 1) = bnd r j := rfl
      rw [List.set_cons_succ, bval, bval, e, Nat.pow_succ, Nat.mul_comm (256 ^ j) 256, Nat.mul_assoc, Nat.mul_assoc]
      omega
theorem bval_cons_div (a : Nat) (r : List Nat) (h : a < 256) : bval (a :: r) / 256 = bval r ∧ bval (a :: r) % 256 = a := by
  rw [bval]; omega
/-- A digit out of the value. -/
theorem bnd_val {l : List Nat} (h : bdok l) (i : Nat) : bnd l i = bval l / 256 ^ i % 256 := by
  induction l generalizing i with
  | nil => simp [bnd, bval]
  | cons a r ih =>
    have ⟨ha, hr⟩ := bdok_cons h
    have ⟨e1, e2⟩ := bval_cons_div a r ha
    cases i with
    | zero => rw [Nat.pow_zero, Nat.div_one, e2]; rfl
    | succ i =>
      rw [Nat.pow_succ, Nat.mul_comm, ← Nat.div_div_eq_div_mul, e1]
      exact ih hr i
theorem bnd_dig (n i : Nat) : bnd (bdig n) i = n / 256 ^ i % 256 := by rw [bnd_val (bdig_ok n), bval_dig]
/-- The value out of the digits. -/
theorem bval_of_nd {l : List Nat} {n : Nat} (hl : n < 256 ^ l.length) (h : ∀ i, i < l.length → bnd l i = n / 256 ^ i % 256) : bval l = n := by
  induction l generalizing n with
  | nil => simp at hl; simp [bval, hl]
  | cons a r ih =>
    have h0 := h 0 (by simp)
    rw [Nat.pow_zero, Nat.div_one] at h0
    have h0' : a = n % 256 := h0
    have : bval r = n / 256 := by
      refine ih ?_ (fun i hi => ?_)
      · rw [Nat.div_lt_iff_lt_mul (by decide), ← Nat.pow_succ]; simpa using hl
      · have := h (i + 1) (by simpa using hi)
        rw [Nat.pow_succ, Nat.mul_comm, ← Nat.div_div_eq_div_mul] at this
        exact this
    rw [bval, this, h0']; omega
theorem bval_drop {l : List Nat} (h : bdok l) (k : Nat) : bval (l.drop k) = bval l / 256 ^ k := by
  induction l generalizing k with
  | nil => simp [bval]
  | cons a r ih =>
    have ⟨ha, hr⟩ := bdok_cons h
    cases k with
    | zero => simp
    | succ k =>
      rw [List.drop_succ_cons, ih hr, Nat.pow_succ, Nat.mul_comm, ← Nat.div_div_eq_div_mul, (bval_cons_div a r ha).1]
/-- What stands in an empty row of n digits. -/
theorem bnd_zeros (k i : Nat) : bnd (List.replicate k 0) i = 0 := by
  unfold bnd
  rw [List.getD_eq_getElem?_getD, List.getElem?_replicate]
  split <;> rfl
/-- Digits cut at a place behind which there are only zeros. -/
theorem btake_dig {l : List Nat} (h : bdok l) {k : Nat} (hv : bval (l.take k) = bval l) (hk : k = 0 ∨ bnd l (k - 1) ≠ 0) (hkl : k ≤ l.length) : l.take k = bdig (bval l) := by
  rw [← hv]
  refine (bdig_val (bdok_take h k) ?_).symm
  cases k with
  | zero => simp; exact bnoz_nil
  | succ j =>
    have hj : j < l.length := by omega
    rw [List.take_add_one, bnd_some hj, Option.toList_some]
    refine bnoz_snoc ?_
    rcases hk with hk | hk
    · exact absurd hk (by omega)
    · simpa using hk
end Go.Fil

/- Dyads: exact numbers m times 2 to the power e, in lowest form: m odd, or 0 with e 0. No program is in sight. -/
namespace Go.Fil
open Go

theorem bl_le_of_lt {a k : Nat} (h : a < 2 ^ k) : bl a ≤ k := by
  by_cases h0 : a = 0
  · subst h0; simp [bl]
  · have h1 := bl_le h0
    rcases Nat.lt_or_ge k (bl a) with hh | hh
    · have := Nat.pow_le_pow_right (show 0 < 2 by decide) (show k ≤ bl a - 1 by omega)
      omega
    · exact hh
theorem lt_of_bl_le {a k : Nat} (h : bl a ≤ k) : a < 2 ^ k := Nat.lt_of_lt_of_le (bl_lt a) (Nat.pow_le_pow_right (by decide) h)
theorem bl_mono {a b : Nat} (h : a ≤ b) : bl a ≤ bl b := bl_le_of_lt (Nat.lt_of_le_of_lt h (bl_lt b))
theorem bl_mul (a b : Nat) : bl (a * b) ≤ bl a + bl b := by
  refine bl_le_of_lt ?_
  rw [Nat.pow_add]
  exact Nat.mul_lt_mul'' (bl_lt a) (bl_lt b)
theorem bl_add (a b : Nat) : bl (a + b) ≤ max (bl a) (bl b) + 1 := by
  refine bl_le_of_lt ?_
  have h1 : a < 2 ^ max (bl a) (bl b) := lt_of_bl_le (Nat.le_max_left _ _)
  have h2 : b < 2 ^ max (bl a) (bl b) := lt_of_bl_le (Nat.le_max_right _ _)
  rw [Nat.pow_succ]; omega
theorem bl_shl (a k : Nat) : bl (a * 2 ^ k) ≤ bl a + k := by
  refine bl_le_of_lt ?_
  rw [Nat.pow_add]
  exact Nat.mul_lt_mul_of_pos_right (bl_lt a) (Nat.two_pow_pos k)
theorem bl_od (a : Nat) : bl (od a) ≤ bl a := bl_mono (od_le a)
theorem dig_length_bl (a : Nat) : (dig a).length ≤ bl a :=
  dig_length_le (Nat.lt_of_lt_of_le (bl_lt a) (Nat.pow_le_pow_left (by decide) _))
theorem tz_bl (a : Nat) : tz a ≤ bl a := by
  by_cases h0 : a = 0
  · subst h0; simp [tz_zero]
  · have h1 := tz_mul a
    have h2 := od_pos h0
    have h3 : 2 ^ tz a * 1 ≤ 2 ^ tz a * od a := Nat.mul_le_mul_left _ h2
    rcases Nat.lt_or_ge (bl a) (tz a) with hh | hh
    · have h4 := bl_lt a
      have h5 := Nat.pow_le_pow_right (show 0 < 2 by decide) (Nat.le_of_lt hh)
      omega
    · exact hh

/-- A whole number without its factors 2. -/
def odI (n : Int) : Int := n.sign * (od n.natAbs : Int)
theorem odI_tz (n : Int) : odI n * 2 ^ tz n.natAbs = n := by
  unfold odI
  have h : ((2 ^ tz n.natAbs * od n.natAbs : Nat) : Int) = (n.natAbs : Int) := by rw [tz_mul]
  rw [Int.mul_assoc, Int.mul_comm (od n.natAbs : Int)]
  rw [Int.natCast_mul, Int.natCast_pow] at h
  rw [show ((2 : Nat) : Int) = 2 from rfl] at h
  rw [h, Int.sign_mul_natAbs]
theorem odI_natAbs (n : Int) : (odI n).natAbs = od n.natAbs := by
  unfold odI
  by_cases h0 : n = 0
  · subst h0; simp [od]
  · rw [Int.natAbs_mul, Int.natAbs_sign_of_ne_zero h0]; simp
theorem odI_neg_iff (n : Int) : odI n < 0 ↔ n < 0 := by
  unfold odI
  rcases Int.lt_trichotomy n 0 with h | h | h
  · have := od_pos (n := n.natAbs) (by omega)
    rw [Int.sign_eq_neg_one_of_neg h]; omega
  · subst h; simp
  · rw [Int.sign_eq_one_of_pos h]; omega
theorem odI_zero : odI 0 = 0 := by simp [odI]
theorem odI_ne {n : Int} (h : n ≠ 0) : odI n ≠ 0 := fun h1 => by
  have := odI_tz n
  rw [h1] at this; omega

/-- m times 2 to the power e. -/
structure Dya where
  m : Int
  e : Int
theorem Dya.ext' {a b : Dya} (h : a.m = b.m) (k : a.e = b.e) : a = b := by cases a; cases b; simp_all
def Dya.zero : Dya := ⟨0, 0⟩
def mkD (n e : Int) : Dya := if n = 0 then ⟨0, 0⟩ else ⟨odI n, e + (tz n.natAbs : Int)⟩
/-- It is small enough. -/
def fitD (d : Dya) : Prop := bl d.m.natAbs ≤ 131072 ∧ -1048576 ≤ d.e ∧ d.e ≤ 1048576
instance (d : Dya) : Decidable (fitD d) := by unfold fitD; exact inferInstance
def okD (d : Dya) : Prop := (d.m = 0 ∧ d.e = 0) ∨ (d.m.natAbs % 2 = 1 ∧ fitD d)
instance (d : Dya) : Decidable (okD d) := by unfold okD; exact inferInstance
theorem mkD_zero (e : Int) : mkD 0 e = ⟨0, 0⟩ := by simp [mkD]
theorem mkD_m (n e : Int) : (mkD n e).m = odI n := by
  unfold mkD; split
  · rename_i h; subst h; rw [odI_zero]
  · rfl
theorem mkD_e {n : Int} (h : n ≠ 0) (e : Int) : (mkD n e).e = e + (tz n.natAbs : Int) := by simp [mkD, h]
theorem mkD_m0 (n e : Int) : (mkD n e).m = 0 ↔ n = 0 := by
  rw [mkD_m]
  constructor
  · intro h
    rcases Decidable.em (n = 0) with h0 | h0
    · exact h0
    · exact absurd h (odI_ne h0)
  · rintro rfl; exact odI_zero
theorem okD_mk {n e : Int} (h : fitD (mkD n e)) : okD (mkD n e) := by
  by_cases h0 : n = 0
  · subst h0; left; simp [mkD]
  · right
    refine ⟨?_, h⟩
    rw [mkD_m, odI_natAbs]
    exact od_odd (by omega)
theorem okD.fit {d : Dya} (h : okD d) : fitD d := by
  rcases h with ⟨h1, h2⟩ | ⟨_, h⟩
  · unfold fitD; rw [h1, h2]; simp [bl]
  · exact h
/-- Bounds that are easily met. -/
theorem fit_mk {n e : Int} {k : Nat} (hn : bl n.natAbs ≤ k) (hk : k ≤ 131072) (h1 : -1048576 ≤ e) (h2 : e + k ≤ 1048576) : fitD (mkD n e) := by
  unfold fitD
  rw [mkD_m, odI_natAbs]
  have h3 := bl_od n.natAbs
  have h4 := tz_bl n.natAbs
  by_cases h0 : n = 0
  · subst h0; rw [mkD_zero]; simp [bl, od]
  · rw [mkD_e h0]
    exact ⟨by omega, by omega, by omega⟩
theorem tz_shiftI {n : Int} (h0 : n ≠ 0) (k : Nat) : tz (n * 2 ^ k).natAbs = k + tz n.natAbs := by
  rw [Int.natAbs_mul, Int.natAbs_pow, Nat.mul_comm]
  exact tz_shift (by omega) k
theorem odI_shift (n : Int) (k : Nat) : odI (n * 2 ^ k) = odI n := by
  by_cases h0 : n = 0
  · subst h0; simp
  · have hp : (0 : Int) < 2 ^ k := Int.pow_pos (by decide)
    unfold odI
    rw [Int.sign_mul, Int.sign_eq_one_of_pos hp, Int.mul_one, Int.natAbs_mul, Int.natAbs_pow, Nat.mul_comm]
    congr 2
    exact od_shift (n := n.natAbs) (by omega) k
theorem mkD_shift (n e : Int) (k : Nat) : mkD (n * 2 ^ k) e = mkD n (e + k) := by
  by_cases h0 : n = 0
  · subst h0; simp [mkD]
  · have hp : (0 : Int) < 2 ^ k := Int.pow_pos (by decide)
    have h1 : n * 2 ^ k ≠ 0 := Int.mul_ne_zero h0 (by omega)
    unfold mkD
    rw [if_neg h0, if_neg h1, odI_shift, tz_shiftI h0]
    congr 1; omega
theorem mkD_self {d : Dya} (h : okD d) : mkD d.m d.e = d := by
  rcases h with ⟨h1, h2⟩ | ⟨h1, _⟩
  · rw [h1, mkD_zero]; exact Dya.ext' h1.symm h2.symm
  · have h0 : d.m ≠ 0 := by intro h; rw [h] at h1; simp at h1
    have ht : tz d.m.natAbs = 0 := tz_odd h1
    refine Dya.ext' ?_ ?_
    · rw [mkD_m]
      have := odI_tz d.m
      rw [ht] at this; simpa using this
    · rw [mkD_e h0, ht]; simp
theorem shl_pow {n : Int} {a b : Nat} : n * 2 ^ a * 2 ^ b = n * 2 ^ (a + b) := by rw [Int.mul_assoc, ← Int.pow_add]
/-- One number, one dyad. -/
theorem mkD_inj {n k e : Int} (h : mkD n e = mkD k e) : n = k := by
  have hm : odI n = odI k := by rw [← mkD_m n e, ← mkD_m k e, h]
  by_cases h0 : n = 0
  · subst h0
    rw [odI_zero] at hm
    rcases Decidable.em (k = 0) with hk | hk
    · exact hk.symm
    · exact absurd hm.symm (odI_ne hk)
  · have hk : k ≠ 0 := by rintro rfl; rw [odI_zero] at hm; exact odI_ne h0 hm
    have he : tz n.natAbs = tz k.natAbs := by
      have := congrArg Dya.e h
      rw [mkD_e h0, mkD_e hk] at this; omega
    rw [← odI_tz n, ← odI_tz k, hm, he]
/-- The sum; the product. -/
def sumN (a b : Dya) : Int := a.m * 2 ^ (a.e - min a.e b.e).toNat + b.m * 2 ^ (b.e - min a.e b.e).toNat
def addD (a b : Dya) : Dya := if a.m = 0 then b else if b.m = 0 then a else mkD (sumN a b) (min a.e b.e)
def mulD (a b : Dya) : Dya := mkD (a.m * b.m) (a.e + b.e)
def negD (a : Dya) : Dya := ⟨-a.m, a.e⟩
theorem negD_mk (n e : Int) : negD (mkD n e) = mkD (-n) e := by
  by_cases h0 : n = 0
  · subst h0; simp [mkD, negD]
  · unfold negD mkD
    rw [if_neg h0, if_neg (show -n ≠ 0 by omega)]
    simp only [odI, Int.sign_neg, Int.natAbs_neg]
    congr 1; rw [Int.neg_mul]
theorem okD_neg {d : Dya} (h : okD d) : okD (negD d) := by
  unfold okD fitD negD at *
  simp only [Int.natAbs_neg]
  rcases h with ⟨h1, h2⟩ | h
  · exact .inl ⟨by simp [h1], h2⟩
  · exact .inr h
/-- A dyad's number at a power that is low enough. -/
theorem mkD_at {n e : Int} (h0 : n ≠ 0) : (mkD n e).m * 2 ^ ((mkD n e).e - e).toNat = n := by
  rw [mkD_m, mkD_e h0]
  have : (e + (tz n.natAbs : Int) - e).toNat = tz n.natAbs := by omega
  rw [this, odI_tz]
theorem addD_mk (n k e : Int) : addD (mkD n e) (mkD k e) = mkD (n + k) e := by
  by_cases h0 : n = 0
  · subst h0
    unfold addD
    rw [if_pos (by rw [mkD_m0])]; simp
  · by_cases hk : k = 0
    · subst hk
      unfold addD
      rw [if_neg (by rw [mkD_m0]; exact h0), if_pos (by rw [mkD_m0])]; simp
    · unfold addD
      rw [if_neg (by rw [mkD_m0]; exact h0), if_neg (by rw [mkD_m0]; exact hk)]
      have e1 := mkD_e h0 e
      have e2 := mkD_e hk e
      have m1 := mkD_at (e := e) h0
      have m2 := mkD_at (e := e) hk
      generalize mkD n e = a at *
      generalize mkD k e = b at *
      obtain ⟨j, hj⟩ : ∃ j : Nat, min a.e b.e = e + j := ⟨(min a.e b.e - e).toNat, by omega⟩
      have : mkD (n + k) e = mkD (sumN a b * 2 ^ j) e := by
        congr 1
        unfold sumN
        rw [Int.add_mul, shl_pow, shl_pow]
        have s1 : (a.e - min a.e b.e).toNat + j = (a.e - e).toNat := by omega
        have s2 : (b.e - min a.e b.e).toNat + j = (b.e - e).toNat := by omega
        rw [s1, s2, m1, m2]
      rw [this, mkD_shift, hj]
theorem mulD_mk (n k e f : Int) : mulD (mkD n e) (mkD k f) = mkD (n * k) (e + f) := by
  unfold mulD
  by_cases h0 : n = 0
  · subst h0; rw [mkD_zero]; simp [mkD]
  · by_cases hk : k = 0
    · subst hk; rw [mkD_zero]; simp [mkD]
    · rw [mkD_m, mkD_m, mkD_e h0, mkD_e hk]
      have : n * k = odI n * odI k * 2 ^ (tz n.natAbs + tz k.natAbs) := by
        conv => lhs; rw [← odI_tz n, ← odI_tz k]
        rw [Int.pow_add]; ac_rfl
      rw [this, mkD_shift]
      congr 1; omega
end Go.Fil

/- A number's bytes, the highest first, and its digits. No program is in sight. -/
namespace Go.Fil
open Go

/-- A number's bytes, the highest first. -/
def bbs (n : Nat) : List Nat := (bdig n).reverse
def bstr (l : List Nat) : ByteArray := ⟨(l.map fun d => UInt8.ofNat d).toArray⟩
def natS (n : Nat) : ByteArray := bstr (bbs n)
theorem bstr_size (l : List Nat) : (bstr l).size = l.length := by simp [bstr, ByteArray.size]
theorem bdig_length (a : Nat) : (bdig a).length = (bl a + 7) / 8 := by
  by_cases h0 : a = 0
  · subst h0; rw [bdig_zero]; simp [bl]
  · have h1 : (bdig a).length ≤ (bl a + 7) / 8 := by
      refine bdig_length_le (Nat.lt_of_lt_of_le (bl_lt a) ?_)
      rw [show (256 : Nat) = 2 ^ 8 from rfl, ← Nat.pow_mul]
      exact Nat.pow_le_pow_right (by decide) (by omega)
    have h2 := bdig_length_lt a
    rw [show (256 : Nat) = 2 ^ 8 from rfl, ← Nat.pow_mul] at h2
    have h3 := bl_le_of_lt h2
    omega
theorem bbs_length (a : Nat) : (bbs a).length = (bl a + 7) / 8 := by rw [bbs, List.length_reverse, bdig_length]
theorem natS_size (a : Nat) : (natS a).size = (bl a + 7) / 8 := by rw [natS, bstr_size, bbs_length]
theorem bbs_ok (a : Nat) : ∀ d ∈ bbs a, d < 256 := fun d hd => bdig_ok a d (by simpa [bbs] using hd)
theorem bbs_val (a : Nat) : bval (bbs a).reverse = a := by rw [bbs, List.reverse_reverse, bval_dig]
theorem bbs_zero : bbs 0 = [] := by rw [bbs, bdig_zero]; rfl
theorem pow256 (q : Nat) : (4294967296 : Nat) ^ q = 256 ^ (4 * q) := by rw [Nat.pow_mul]
theorem two256 (r : Nat) : (2 : Nat) ^ (8 * r) = 256 ^ r := by rw [Nat.pow_mul]
theorem setbytes_step {os : List Nat} {k c X : Nat} (hdo : dok os) (hv : val os = 256 ^ (k + 1) * X) (hc : c < 256) (hk : k / 4 < os.length) :
    val (os.set (k / 4) (nd os (k / 4) ||| (c * 2 ^ (8 * (k % 4))))) = 256 ^ k * (c + 256 * X) ∧ (nd os (k / 4) ||| (c * 2 ^ (8 * (k % 4)))) < 4294967296 := by
  obtain ⟨q, hq⟩ : ∃ q, k / 4 = q := ⟨_, rfl⟩
  obtain ⟨r, hr⟩ : ∃ r, k % 4 = r := ⟨_, rfl⟩
  have hk2 : k = 4 * q + r := by omega
  have hr4 : r < 4 := by omega
  rw [hq] at hk
  rw [hq, hr]
  have hnd : nd os q = 256 ^ (r + 1) * (X % 256 ^ (3 - r)) := by
    rw [nd_val hdo, hv, pow256, hk2, show 4 * q + r + 1 = 4 * q + (r + 1) by omega, Nat.pow_add, Nat.mul_assoc, Nat.mul_div_cancel_left _ (Nat.pow_pos (by decide))]
    have e : (4294967296 : Nat) = 256 ^ (r + 1) * 256 ^ (3 - r) := by rw [← Nat.pow_add, show r + 1 + (3 - r) = 4 by omega]
    rw [e, Nat.mul_mod_mul_left]
  have hcr : c * 2 ^ (8 * r) < 2 ^ (8 * (r + 1)) := by
    rw [two256, two256, Nat.pow_succ, Nat.mul_comm]
    exact Nat.mul_lt_mul_of_pos_left hc (Nat.pow_pos (by decide))
  have hor : (nd os q ||| (c * 2 ^ (8 * r))) = nd os q + c * 2 ^ (8 * r) := by
    rw [Nat.or_comm, hnd, ← two256, Nat.mul_comm (2 ^ (8 * (r + 1))), or_add hcr, Nat.add_comm]
  have hlt : (nd os q ||| (c * 2 ^ (8 * r))) < 4294967296 := by
    have h1 := nd_lt hdo q
    have h2 : c * 2 ^ (8 * r) < 2 ^ 32 := Nat.lt_of_lt_of_le hcr (Nat.pow_le_pow_right (by decide) (by omega))
    exact Nat.or_lt_two_pow (n := 32) h1 h2
  refine ⟨?_, hlt⟩
  rw [hor]
  have h3 := val_set (nd os q + c * 2 ^ (8 * r)) (show q < os.length by omega)
  rw [Nat.mul_add] at h3
  have e1 : 4294967296 ^ q * (c * 2 ^ (8 * r)) = 256 ^ k * c := by
    rw [pow256, two256, hk2, Nat.pow_add, Nat.mul_comm c, Nat.mul_assoc]
  have e2 : 256 ^ k * (c + 256 * X) = 256 ^ k * c + val os := by
    rw [hv, Nat.mul_add, Nat.pow_succ, Nat.mul_assoc]
  omega
theorem byte_of_dig (a i : Nat) : nd (dig a) (i / 4) / 2 ^ (8 * (i % 4)) % 256 = bnd (bdig a) i := by
  obtain ⟨q, hq⟩ : ∃ q, i / 4 = q := ⟨_, rfl⟩
  obtain ⟨r, hr⟩ : ∃ r, i % 4 = r := ⟨_, rfl⟩
  have hk2 : i = 4 * q + r := by omega
  have hr4 : r < 4 := by omega
  rw [hq, hr, nd_dig, bnd_dig, pow256, two256, hk2, Nat.pow_add, ← Nat.div_div_eq_div_mul]
  generalize a / 256 ^ (4 * q) = x
  have e : (4294967296 : Nat) = 256 ^ r * (256 * 256 ^ (3 - r)) := by
    rw [← Nat.pow_succ', ← Nat.pow_add, show r + (3 - r + 1) = 4 by omega]
  rw [e, Nat.mod_mul_right_div_self, Nat.mod_mul_right_mod]
/-- One byte more. -/
theorem bval_take_rev {l : List Nat} {i : Nat} (h : i < l.length) : bval (l.take (i + 1)).reverse = bnd l i + 256 * bval (l.take i).reverse := by
  rw [List.take_succ_eq_append_getElem h, List.reverse_append, List.reverse_singleton, List.singleton_append, bval, bnd_eq h]
theorem rev_get (a : Nat) {i : Nat} (h : i < (bbs a).length) : bnd (bbs a) ((bbs a).length - 1 - i) = bnd (bdig a) i := by
  have hl : (bbs a).length = (bdig a).length := by rw [bbs, List.length_reverse]
  rw [bnd_eq (by omega), bnd_eq (by omega)]
  unfold bbs
  rw [List.getElem_reverse]
  congr 1
  simp only [List.length_reverse]
  rw [hl] at h
  omega
end Go.Fil

/- A number's bytes as a string: its first and its last byte. No program is in sight. -/
namespace Go.Fil
open Go
theorem bstr_get (l : List Nat) (hl : ∀ d ∈ l, d < 256) {i : Nat} (h : i < (bstr l).size) : ((bstr l)[i]).toNat = bnd l i := by
  have h1 : i < l.length := by rw [bstr_size] at h; exact h
  have h2 := hl l[i] (List.getElem_mem h1)
  rw [bnd_eq h1]
  have e : (bstr l)[i] = UInt8.ofNat l[i] := by
    show (bstr l).data[i] = _
    simp [bstr]
  rw [e, UInt8.toNat_ofNat']
  omega
theorem natS_get (n : Nat) {i : Nat} (h : i < (natS n).size) : ((natS n)[i]).toNat = bnd (bbs n) i := bstr_get (bbs n) (bbs_ok n) h
theorem bbs_first {n : Nat} (h : n ≠ 0) : bnd (bbs n) 0 ≠ 0 := by
  have hp := bdig_length_pos h
  have hl : (bbs n).length = (bdig n).length := by rw [bbs, List.length_reverse]
  have h1 := rev_get n (i := (bdig n).length - 1) (by omega)
  rw [hl, show (bdig n).length - 1 - ((bdig n).length - 1) = 0 by omega] at h1
  rw [h1]
  exact bdig_noz n _ (by rw [List.getLast?_eq_getElem?]; exact bnd_some (by omega))
theorem bbs_last {n : Nat} (h : n ≠ 0) : bnd (bbs n) ((bbs n).length - 1) = n % 256 := by
  have hp := bdig_length_pos h
  have hl : (bbs n).length = (bdig n).length := by rw [bbs, List.length_reverse]
  have h1 := rev_get n (i := 0) (by omega)
  rw [Nat.sub_zero] at h1
  rw [h1, bnd_dig]
  simp
theorem natS_zero : natS 0 = ⟨#[]⟩ := by rw [natS, bbs_zero]; rfl
theorem natS_pos {n : Nat} (h : n ≠ 0) : 0 < (natS n).size := by
  rw [natS, bstr_size, bbs, List.length_reverse]
  exact bdig_length_pos h
theorem natS_list (n : Nat) : (natS n).data.toList = (bbs n).map fun d => UInt8.ofNat d := by simp [natS, bstr]
end Go.Fil
