/- RootsEach's plain law: what the told balls hold. No program is in sight. -/
import Derived.Test.YtbgjcpnbdgljbaaGreatDoorMVal
import Derived.Test.YtbgjcpnbdgljbaaGreatDoorMHga
import Derived.Test.YtbgjcpnbdgljbaaGreatDoorMVpl
import Derived.Test.YtbgjcpnbdgljbaaGreatDoorMGwh
import Derived.Test.YtbgjcpnbdgljbaaGreatDoorMHpr
import Derived.Test.YtbgjcpnbdgljbaaGreatDoorMUfg
import Derived.Test.YtbgjcpnbdgljbaaGreatDoorMCtr
import Derived.Deep.DeepCutAuto
namespace Go.Proofs.YtbgjcpnbdgljbaaGreatDoor
open Go.RowKit Go.Fil

/-- Does a ball hold a number that is a whole one over 16? -/
def hold (B : Bl) (G : Zi) : Bool := holdsR B.1 B.2.1 B.2.2 (sd G.re 4) (sd G.im 4)
theorem dv_zq (G : Zi) : (⟨dv (sd G.re 4), dv (sd G.im 4)⟩ : Qi) = zq 4 G := by
  unfold sd
  rw [dv_mk, dv_mk]; rfl
theorem hold_le {B : Bl} {G : Zi} (hr : B.2.2 < 9218868437227405312) : hold B G = true ↔ Le (qsub (zq 4 G) (qof (B.1, B.2.1))) (rv B.2.2) := by
  unfold hold
  rw [holdsR_le hr, dv_zq]
theorem count_zq (l : List Zi) (G : Zi) : (l.map (zq 4)).count (zq 4 G) = l.count G := by
  induction l with
  | nil => rfl
  | cons a l ih =>
    rw [List.map_cons, List.count_cons, List.count_cons, ih]
    congr 1
    by_cases h : a = G
    · subst h; simp
    · have : zq 4 a ≠ zq 4 G := fun k => h (zq_inj k)
      simp [h, this]
theorem count_two {l : List Zi} {j k : Nat} (hjk : j < k) (hk : k < l.length) {G : Zi} (h1 : nthZ l j = G) (h2 : nthZ l k = G) : 2 ≤ l.count G := by
  have e : l = l.take k ++ l.drop k := (List.take_append_drop k l).symm
  rw [e, List.count_append]
  have a1 : G ∈ l.take k := by
    rw [← h1, nthZ_eq (by omega)]
    exact List.mem_take_iff_getElem.2 ⟨j, by omega, rfl⟩
  have a2 : G ∈ l.drop k := by
    rw [← h2, nthZ_eq hk, List.drop_eq_getElem_cons hk]
    exact List.mem_cons_self
  have b1 := List.count_pos_iff.2 a1
  have b2 := List.count_pos_iff.2 a2
  omega
/-- The polynomial of the factors. -/
structure Fac (ps : List Cc) (l : List Zi) : Prop where
  ws : Ws ps
  len : ps.length ≤ 1000
  made : qcs ps = qmake (l.reverse.map (zq 4))
section
variable {ps : List Cc} {l : List Zi} (hF : Fac ps l) {B : Bl} (hB : BOk ps B)
include hF hB
theorem told_three : (∃ k, k < l.length ∧ hold B (nthZ l k) = true) ∧ (∀ j k, j < l.length → k < l.length → hold B (nthZ l j) = true → hold B (nthZ l k) = true → j = k) ∧ ∀ k, k < l.length → hold B (nthZ l k) = true → l.count (nthZ l k) = 1 := by
  have hp := hB.parts
  obtain ⟨hf, hr, a, b, ha, hb, hc⟩ := hB
  have hr' : B.2.2 < 9218868437227405312 := hp.2.2.2.1
  obtain ⟨c1, c2, c3⟩ := cert_one hF.ws hF.len ha hb hf.2.1 hf.2.2 hr hc (l.reverse.map (zq 4)) (fun z => by rw [hF.made, qmake_ev]) (fun z => by rw [hF.made, qmake_der])
  have hm : ∀ k, k < l.length → zq 4 (nthZ l k) ∈ l.reverse.map (zq 4) := fun k hk => by
    rw [List.mem_map]
    exact ⟨nthZ l k, by rw [List.mem_reverse, nthZ_eq hk]; exact List.getElem_mem hk, rfl⟩
  have hcnt : ∀ k, k < l.length → hold B (nthZ l k) = true → l.count (nthZ l k) = 1 := fun k hk h => by
    have := c3 _ (hm k hk) ((hold_le hr').1 h)
    rw [count_zq, List.count_reverse] at this
    exact this
  refine ⟨?_, ?_, hcnt⟩
  · obtain ⟨g, hg, hl⟩ := c1
    rw [List.mem_map] at hg
    obtain ⟨G, hG, rfl⟩ := hg
    rw [List.mem_reverse, List.mem_iff_getElem] at hG
    obtain ⟨k, hk, rfl⟩ := hG
    refine ⟨k, hk, ?_⟩
    rw [nthZ_eq hk]
    exact (hold_le hr').2 hl
  · intro j k hj hk h1 h2
    have e := zq_inj (c2 _ (hm j hj) _ (hm k hk) ((hold_le hr').1 h1) ((hold_le hr').1 h2))
    rcases Nat.lt_trichotomy j k with h | h | h
    · have := count_two h hk rfl e.symm
      have := hcnt j hj h1
      omega
    · exact h
    · have := count_two h hj rfl e
      have := hcnt k hk h2
      omega
/-- How many of the g a ball holds: one. -/
theorem told_count : l.countP (hold B) = 1 := by
  obtain ⟨⟨k, hk, h⟩, h2, _⟩ := told_three hF hB
  rw [← List.take_append_drop k l, List.countP_append, List.drop_eq_getElem_cons hk, List.countP_cons]
  have e1 : (l.take k).countP (hold B) = 0 := by
    rw [List.countP_eq_zero]
    intro G hG hh
    obtain ⟨j, hj, rfl⟩ := List.mem_take_iff_getElem.1 hG
    have : j = k := h2 j k (by omega) hk (by rw [nthZ_eq (by omega)]; exact hh) h
    omega
  have e2 : (l.drop (k + 1)).countP (hold B) = 0 := by
    rw [List.countP_eq_zero]
    intro G hG hh
    obtain ⟨j, hj, rfl⟩ := List.mem_drop_iff_getElem.1 hG
    have : k + 1 + j = k := h2 (k + 1 + j) k (by omega) hk (by rw [nthZ_eq (by omega)]; exact hh) h
    omega
  rw [nthZ_eq hk] at h
  rw [e1, e2, if_pos h]
omit hF in
/-- No two of the told balls hold one of the g. -/
theorem told_apart {C : Bl} (hC : BOk ps C) (hap : apartR B.1 B.2.1 B.2.2 C.1 C.2.1 C.2.2 = true) {G : Zi} (h1 : hold B G = true) (h2 : hold C G = true) : False := by
  have h3 := apart_not hB.parts.2.2.2.1 hC.parts.2.2.2.1 ((hold_le hB.parts.2.2.2.1).1 h1) ((hold_le hC.parts.2.2.2.1).1 h2)
  rw [hap] at h3
  cases h3
end
end Go.Proofs.YtbgjcpnbdgljbaaGreatDoor

/- What product's coefficients are good for, and roots as they lie in memory. No program is in sight. -/
namespace Go.Proofs.YtbgjcpnbdgljbaaGreatDoor
open Go.RowKit Go.Fil Go.Shelf

theorem fv_neg_part {x : Nat} (h : ¬ x < 9223372036854775808) (hx : x < 18446744073709551616) : fv x = -rv (x - 9223372036854775808) := by
  unfold fv
  rw [decide_eq_true (show 9223372036854775808 ≤ x by omega), show x % 9223372036854775808 = x - 9223372036854775808 by omega]
  show -1 * rv _ = _
  grind
theorem fone_of {x : Nat} (hx : x < 18446744073709551616) (h : fv x = 1) : x = fone := by
  by_cases h1 : x < 9223372036854775808
  · rw [fv_small h1] at h
    exact rv_inj (h.trans rv_one.symm)
  · rw [fv_neg_part h1 hx] at h
    generalize x - 9223372036854775808 = y at h
    have := rv_nonneg y
    grind
theorem zero_of {x : Nat} (hx : x < 18446744073709551616) (h : fv x = 0) : x = 0 ∨ x = 9223372036854775808 := by
  by_cases h1 : x < 9223372036854775808
  · rw [fv_small h1] at h
    exact .inl (rv_inj (h.trans rv_zero.symm))
  · rw [fv_neg_part h1 hx] at h
    obtain ⟨y, hy⟩ : ∃ y, x - 9223372036854775808 = y := ⟨_, rfl⟩
    rw [hy] at h
    have h2 : rv y = rv 0 := by rw [rv_zero]; grind
    have := rv_inj h2
    exact .inr (by omega)
/-- The coefficients that product answers. -/
structure PrOk (ps : List Cc) (L : List Zi) : Prop where
  len : ps.length = L.length + 1
  at' : ∀ k, k < L.length + 1 → FW (nth ps k) ∧ qof (nth ps k) = zq (4 * (L.length - k)) (nthZ (zmake L.reverse) k)
theorem fw_fin {c : Cc} (h : FW c) : fin c.1 = true ∧ fin c.2 = true := cfin_fin h.1
section
variable {ps : List Cc} {L : List Zi} (hL : Small L) (h : PrOk ps L)
include h
theorem PrOk.top : (nth ps L.length).1 = fone ∧ ((nth ps L.length).2 = 0 ∨ (nth ps L.length).2 = 9223372036854775808) := by
  obtain ⟨h1, h2⟩ := h.at' L.length (by omega)
  have hz : nthZ (zmake L.reverse) L.length = zr 1 := by
    have := zmake_last L.reverse
    rw [List.length_reverse] at this
    exact this
  rw [hz, Nat.sub_self] at h2
  have e1 : fv (nth ps L.length).1 = ((1 : Int) : Rat) * p2 0 := congrArg Qi.re h2
  have e2 : fv (nth ps L.length).2 = ((0 : Int) : Rat) * p2 0 := congrArg Qi.im h2
  refine ⟨fone_of h1.2.1 ?_, zero_of h1.2.2 ?_⟩
  · rw [e1, p2_zero, Rat.mul_one]; rfl
  · rw [e2, p2_zero, Rat.mul_one]; rfl
include hL
theorem PrOk.fac : Fac ps L := by
  refine ⟨fun k hk => ?_, ?_, ?_⟩
  · have := (h.at' k (by have := h.len; omega)).1
    exact ⟨this.2.1, this.2.2⟩
  · have := h.len; have := hL.1; omega
  · rw [← scl_make]
    have hl : (scl (zmake L.reverse)).length = L.length + 1 := by rw [scl_length, zmake_length, List.length_reverse]
    refine List.ext_getElem (by rw [qcs_length, hl, h.len]) fun k h1 h2 => ?_
    rw [qcs_length, h.len] at h1
    have a1 : (qcs ps)[k] = nthQ (qcs ps) k := by
      unfold nthQ
      rw [List.getD_eq_getElem?_getD, List.getElem?_eq_getElem (by rw [qcs_length, h.len]; exact h1)]; rfl
    have a2 : (scl (zmake L.reverse))[k] = nthQ (scl (zmake L.reverse)) k := by
      unfold nthQ
      rw [List.getD_eq_getElem?_getD, List.getElem?_eq_getElem h2]; rfl
    rw [a1, a2, qcs_at (by rw [h.len]; exact h1), (h.at' k h1).2, scl_at _ (by rw [zmake_length, List.length_reverse]; exact h1), zmake_length, List.length_reverse, Nat.add_sub_cancel]
    rfl
theorem PrOk.check : checkS ps = true := by
  unfold checkS
  have h1 : allfin ps = true := FinTo.all (n := L.length + 1) (fun j hj => (h.at' j hj).1.1) h.len
  have h2 : lastzero ps = false := by
    unfold lastzero
    rw [h.len, Nat.add_sub_cancel]
    obtain ⟨t1, t2⟩ := h.top
    unfold czeroC
    rw [t1]
    rcases t2 with t2 | t2 <;> rw [t2] <;> simp <;> decide +kernel
  rw [h1, h2]
  have := hL.1
  have := h.len
  simp; omega
theorem PrOk.small {k : Nat} (hk : k < L.length) : Bf (nth ps k).1 (rv 8660422083433463808) ∧ Bf (nth ps k).2 (rv 8660422083433463808) := by
  obtain ⟨h1, h2⟩ := h.at' k (by omega)
  obtain ⟨f1, f2⟩ := fw_fin h1
  have hc := hL.coef L.length k
  rw [List.take_length] at hc
  have hp : p2 (-((4 * (L.length - k) : Nat) : Int)) ≤ 1 := by
    rw [← p2_zero]
    exact p2_mono (by omega)
  have hp0 := p2_pos (-((4 * (L.length - k) : Nat) : Int))
  have hbig : (((2 ^ 90 : Nat) : Int) : Rat) ≤ rv 8660422083433463808 := by decide +kernel
  have key : ∀ (x : Nat) (m : Int), m.natAbs < 2 ^ 90 → fv x = (m : Rat) * p2 (-((4 * (L.length - k) : Nat) : Int)) → fm x ≤ rv 8660422083433463808 := by
    intro x m hm hx
    generalize p2 (-((4 * (L.length - k) : Nat) : Int)) = q at *
    have i1 : m ≤ ((2 ^ 90 : Nat) : Int) := by omega
    have i2 : -m ≤ ((2 ^ 90 : Nat) : Int) := by omega
    have j1 : (m : Rat) ≤ (((2 ^ 90 : Nat) : Int) : Rat) := by exact_mod_cast i1
    have j2 : ((-m : Int) : Rat) ≤ (((2 ^ 90 : Nat) : Int) : Rat) := by exact_mod_cast i2
    rw [Rat.intCast_neg] at j2
    have j0 : (0 : Rat) ≤ (((2 ^ 90 : Nat) : Int) : Rat) := by exact_mod_cast (Int.natCast_nonneg _)
    generalize (((2 ^ 90 : Nat) : Int) : Rat) = B at *
    have k1 : (m : Rat) * q ≤ B * 1 := by
      by_cases hs : (0 : Rat) ≤ (m : Rat)
      · exact mul_mono hs (by grind) j1 hp
      · have : (m : Rat) * q ≤ 0 := by
          have := Rat.mul_nonneg (show (0 : Rat) ≤ -(m : Rat) by grind) (show (0 : Rat) ≤ q by grind)
          grind
        grind
    have k2 : -((m : Rat) * q) ≤ B * 1 := by
      by_cases hs : (0 : Rat) ≤ -(m : Rat)
      · have := mul_mono hs (show (0 : Rat) ≤ q by grind) j2 hp
        grind
      · have := Rat.mul_nonneg (show (0 : Rat) ≤ (m : Rat) by grind) (show (0 : Rat) ≤ q by grind)
        grind
    rcases fm_or x with e | e <;> rw [e, hx] <;> grind
  have hn : (nthZ (zmake L.reverse) k).re.natAbs < 2 ^ 90 ∧ (nthZ (zmake L.reverse) k).im.natAbs < 2 ^ 90 := by
    unfold Go.Fil.zn at hc
    omega
  exact ⟨⟨f1, h1.2.1, key _ _ hn.1 (congrArg Qi.re h2)⟩, ⟨f2, h1.2.2, key _ _ hn.2 (congrArg Qi.im h2)⟩⟩
theorem PrOk.spiral : ∀ k, k < L.length → FW (startZ (startR ps L.length) k) := by
  refine spiral_ok (by have := hL.1; omega) ?_ (fun k hk => h.small hL hk)
  obtain ⟨t1, t2⟩ := h.top
  rw [t1]
  rcases t2 with t2 | t2 <;> rw [t2] <;> decide +kernel
end
/-- A root's ball, as it lies in memory. -/
def rB (R : Rt) : Bl := match R.o with
  | none => (0, 0, 0)
  | some r => (R.z.1, R.z.2, r)
theorem rcell_eq (R : Rt) : rcell R = [.complex .f64 R.z.1 R.z.2, .bool R.o.isSome, .complex .f64 (rB R).1 (rB R).2.1, .float .f64 (rB R).2.2] := by
  unfold rcell rB
  cases R.o <;> rfl
def nthR (l : List Rt) (k : Nat) : Rt := l.getD k ⟨(0, 0), none⟩
theorem nthR_eq {l : List Rt} {k : Nat} (hk : k < l.length) : nthR l k = l[k] := by
  unfold nthR; rw [List.getD_eq_getElem?_getD, List.getElem?_eq_getElem hk]; rfl
theorem rcells_at {l : List Rt} {k : Nat} (hk : k < l.length) {j : Nat} (hj : j < 4) : (rcells l)[k * 4 + j]? = (rcell (nthR l k))[j]? := by
  induction l generalizing k with
  | nil => simp at hk
  | cons b l ih =>
    have hc : rcells (b :: l) = rcell b ++ rcells l := rfl
    have hg : (rcell b).length = 4 := rcell_len b
    rw [hc]
    cases k with
    | zero =>
      rw [List.getElem?_append_left (by omega)]
      simp only [Nat.zero_mul, Nat.zero_add]; rfl
    | succ k =>
      have h := ih (k := k) (by simpa using hk)
      have e : nthR (b :: l) (k + 1) = nthR l k := rfl
      rw [List.getElem?_append_right (by omega), hg, e, show (k + 1) * 4 + j - 4 = k * 4 + j by omega]
      exact h
theorem Seq.rat {w : World} {B : Nat} {A : Option Addr} {l : List Rt} (h : Seq w B A (rcells l)) {k : Nat} (hk : k < l.length) :
    ∃ b o, A = some ⟨b, o, none⟩ ∧ b < B ∧ w.cell? ⟨b, o + k * 4 + 1, none⟩ = some (.bool (nthR l k).o.isSome) ∧ w.cell? ⟨b, o + k * 4 + 2, none⟩ = some (.complex .f64 (rB (nthR l k)).1 (rB (nthR l k)).2.1) ∧ w.cell? ⟨b, o + k * 4 + 3, none⟩ = some (.float .f64 (rB (nthR l k)).2.2) := by
  have hz : ∀ j, j < 4 → (rcells l)[k * 4 + j]? = (rcell (nthR l k))[j]? := fun j hj => rcells_at hk hj
  rw [rcell_eq] at hz
  rcases h with h | ⟨b, o, hA, hb, hc⟩
  · have := hz 0 (by decide)
    rw [h] at this; simp at this
  · exact ⟨b, o, hA, hb, hc (k * 4 + 1) _ (hz 1 (by decide)), hc (k * 4 + 2) _ (hz 2 (by decide)), hc (k * 4 + 3) _ (hz 3 (by decide))⟩
theorem seq_of_own4 {w : World} {base e n : Nat} {v : Value} {xs : List Value} (h : w.ownsRow base e 4 v n xs) : ∃ A c, v = .slice A n c ∧ Seq w w.heap.size A xs := by
  rcases n with _ | n
  · have hx : xs = [] := List.eq_nil_of_length_eq_zero (by simpa using h.1)
    rcases h.2 with ⟨rfl, _⟩ | ⟨g, cap, cur, rfl, _⟩
    · exact ⟨none, 0, rfl, .inl hx⟩
    · exact ⟨_, cap, rfl, .inl hx⟩
  · obtain ⟨g, cap, hv, _, hlt⟩ := World.ownsRow.form h (by omega)
    subst hv
    refine ⟨_, cap, rfl, .inr ⟨g, 0, rfl, hlt, fun k u hu => ?_⟩⟩
    have := h.cells (g := g) rfl k u hu
    rw [Addr.add_lit] at this
    exact this
/-- The told balls ahead of a place. -/
def tB (rs : List Rt) (i : Nat) : List Bl := toldB (rs.take i)
theorem tB_none {rs : List Rt} {i : Nat} (hi : i < rs.length) (h : (nthR rs i).o = none) : tB rs (i + 1) = tB rs i := by
  unfold tB toldB
  rw [List.take_succ_eq_append_getElem hi, List.filterMap_append]
  rw [nthR_eq hi] at h
  simp [h]
theorem tB_some {rs : List Rt} {i : Nat} (hi : i < rs.length) (h : (nthR rs i).o.isSome = true) : tB rs (i + 1) = tB rs i ++ [rB (nthR rs i)] := by
  unfold tB toldB
  rw [List.take_succ_eq_append_getElem hi, List.filterMap_append]
  rw [nthR_eq hi] at h ⊢
  obtain ⟨r, hr⟩ := Option.isSome_iff_exists.1 h
  simp [hr, rB]
theorem tB_all (rs : List Rt) : tB rs rs.length = toldB rs := by unfold tB; rw [List.take_length]
theorem rB_mem {rs : List Rt} {i : Nat} (hi : i < rs.length) (h : (nthR rs i).o.isSome = true) : rB (nthR rs i) ∈ toldB rs := by
  have h1 := tB_some hi h
  unfold tB toldB at h1
  have h2 : toldB rs = (tB rs i ++ [rB (nthR rs i)]) ++ toldB (rs.drop (i + 1)) := by
    unfold tB toldB
    rw [← h1, ← List.filterMap_append, List.take_append_drop]
  rw [h2]
  simp
theorem tB_mem {rs : List Rt} {i : Nat} {B : Bl} (h : B ∈ tB rs i) : B ∈ toldB rs := by
  unfold tB toldB at h
  unfold toldB
  rw [← List.take_append_drop i rs, List.filterMap_append, List.mem_append]
  exact .inl h
theorem tB_apart {rs : List Rt} (ha : Aps (toldB rs)) {i : Nat} (hi : i < rs.length) (h : (nthR rs i).o.isSome = true) {C : Bl} (hC : C ∈ tB rs i) : apartR (rB (nthR rs i)).1 (rB (nthR rs i)).2.1 (rB (nthR rs i)).2.2 C.1 C.2.1 C.2.2 = true := by
  have h1 := tB_some hi h
  unfold tB toldB at h1 hC
  unfold Aps toldB at ha
  rw [← List.take_append_drop (i + 1) rs, List.filterMap_append, h1, List.append_assoc, List.pairwise_append] at ha
  exact ha.2.2 C hC _ (by simp)
theorem tB_below {rs : List Rt} {k i : Nat} (hki : k < i) (hi : i ≤ rs.length) (h : (nthR rs k).o.isSome = true) : rB (nthR rs k) ∈ tB rs i := by
  have h1 := rB_mem (rs := rs.take i) (i := k) (by rw [List.length_take]; omega) (by rw [nthR_eq (by rw [List.length_take]; omega), List.getElem_take, ← nthR_eq (by omega)]; exact h)
  rw [nthR_eq (by rw [List.length_take]; omega), List.getElem_take, ← nthR_eq (by omega)] at h1
  exact h1
theorem tB_len (rs : List Rt) (i : Nat) : (tB rs i).length ≤ i := by
  have := toldB_len (rs.take i)
  rw [List.length_take] at this
  unfold tB
  omega
/-- How often a number stands in a list of exact ones. -/
theorem gz_inj {a b : Zi} {e : Nat} (h : gz a e = gz b e) : a = b := by
  unfold gz sd at h
  injection h with h1 h2
  exact Zi.ext' (mkD_inj h1) (mkD_inj h2)
end Go.Proofs.YtbgjcpnbdgljbaaGreatDoor

/- RootsEach of filigreelaw16: its walk. -/
namespace Go.Proofs.YtbgjcpnbdgljbaaGreatDoor
open Go.RowKit Go.Fil Go.Shelf
attribute [local irreducible] fop fsqrt fup fabs fneg pick fmax floatOfInt

theorem gl_count (L : List Zi) (G : Zi) : (gl L).count (gz G 4) = L.count G := by
  induction L with
  | nil => rfl
  | cons a L ih =>
    show (gz a 4 :: gl L).count _ = _
    rw [List.count_cons, List.count_cons, ih]
    congr 1
    by_cases h : a = G
    · subst h; simp
    · have : gz a 4 ≠ gz G 4 := fun k => h (gz_inj k)
      simp [h, this]
theorem gl_len (L : List Zi) : (gl L).length = L.length := by simp [gl]
theorem gl_append (L M : List Zi) : gl (L ++ M) = gl L ++ gl M := by simp [gl]
/-- Does a told ball hold a number? -/
theorem holds_g {ps : List Cc} {B : Bl} (hB : BOk ps B) {G : Zi} (h1 : -128 ≤ G.re ∧ G.re ≤ 127 ∧ -128 ≤ G.im ∧ G.im ≤ 127) (w : World) (hT : Tab64 w) :
    Calls Tryz.prog 26 #[.agg #[.complex .f64 B.1 B.2.1, .float .f64 B.2.2], ge (gz G 4)] w (RY (hold B G) w) := by
  obtain ⟨b1, b2, b3, b4, b5, b6⟩ := hB.parts
  have hz : Zb 9 G := Zb.of (by unfold Go.Fil.zn; omega)
  have key : ∀ n : Int, bl n.natAbs ≤ 9 → Sz (sd n 4).m (sd n 4).e 1100 := by
    intro n hn
    have h1 := sd_e n 4
    have h2 : bl (sd n 4).m.natAbs ≤ bl n.natAbs := by
      unfold sd
      rw [mkD_m, odI_natAbs]
      exact bl_od _
    exact ⟨by omega, by omega, by omega⟩
  exact holds_any B.1 B.2.1 B.2.2 (sd G.re 4) (sd G.im 4) b2 hB.1.2.1 b3 hB.1.2.2 b5 hB.2.1 b1 b6 (sd_ok (by have := hz.1; omega) (by decide)) (sd_ok (by have := hz.2; omega) (by decide)) (key _ hz.1) (key _ hz.2) w hT
attribute [local irreducible] ge
theorem Seq.prs_take {w : World} {B : Nat} {A : Option Addr} {L : List Zi} (h : Seq w B A (prs L)) (k : Nat) : Seq w B A (prs (L.take k)) := by
  have e : prs L = prs (L.take k) ++ prs (L.drop k) := by
    unfold prs
    rw [← List.flatMap_append, List.take_append_drop]
  rcases h with h | ⟨b, o, hA, hb, hc⟩
  · rw [e] at h
    exact .inl (List.append_eq_nil_iff.1 h).1
  · refine .inr ⟨b, o, hA, hb, fun j v hj => hc j v ?_⟩
    rw [e, List.getElem?_append_left (List.getElem?_eq_some_iff.1 hj).1]
    exact hj
/-- What is held so far: each of the told balls ahead holds it. -/
def Held (rs : List Rt) (q : Nat) (hs : List Zi) : Prop := hs.length ≤ q ∧ ∀ G ∈ hs, ∃ B ∈ tB rs q, hold B G = true
theorem Held.none {rs : List Rt} {q : Nat} {hs : List Zi} (h : Held rs q hs) (hq : q < rs.length) (ho : (nthR rs q).o.isSome = false) : Held rs (q + 1) hs := by
  refine ⟨by have := h.1; omega, fun G hG => ?_⟩
  rw [tB_none hq (by simpa using ho)]
  exact h.2 G hG
section
variable {ps : List Cc} {L : List Zi} {rs : List Rt} {q : Nat} {hs : List Zi} (hF : Fac ps L) (hR : RsOk ps rs) (hq : q < rs.length) (ho : (nthR rs q).o.isSome = true) (h : Held rs q hs)
include hF hR hq ho h
theorem Held.some : Held rs (q + 1) (hs ++ L.filter (hold (rB (nthR rs q)))) := by
  have hB := hR.ok _ (rB_mem hq ho)
  have hc := told_count hF hB
  refine ⟨?_, fun G hG => ?_⟩
  · rw [List.length_append, ← List.countP_eq_length_filter, hc]
    have := h.1; omega
  · rw [tB_some hq ho]
    rcases List.mem_append.1 hG with h1 | h1
    · obtain ⟨B, hB, hh⟩ := h.2 G h1
      exact ⟨B, List.mem_append_left _ hB, hh⟩
    · exact ⟨_, List.mem_append_right _ (List.mem_singleton.2 rfl), (List.mem_filter.1 h1).2⟩
/-- A number that the ball holds has not been held. -/
theorem Held.fresh {j : Nat} (hj : j < L.length) (hh : hold (rB (nthR rs q)) (nthZ L j) = true) : (hs ++ (L.take j).filter (hold (rB (nthR rs q)))).count (nthZ L j) = 0 := by
  have hB := hR.ok _ (rB_mem hq ho)
  rw [List.count_eq_zero]
  intro hm
  rcases List.mem_append.1 hm with h1 | h1
  · obtain ⟨C, hC, hc⟩ := h.2 _ h1
    exact told_apart hB (hR.ok _ (tB_mem hC)) (tB_apart hR.ap hq ho hC) hh hc
  · have h2 := (List.mem_filter.1 h1).1
    obtain ⟨k, hk, e⟩ := List.mem_take_iff_getElem.1 h2
    have hk2 : k < j := by omega
    rw [← nthZ_eq (by omega)] at e
    have := (told_three hF hB).2.1 k j (by omega) hj (by rw [e]; exact hh) hh
    omega
end
theorem fil_take {L : List Zi} {j : Nat} (hj : j < L.length) (p : Zi → Bool) : (L.take (j + 1)).filter p = (L.take j).filter p ++ if p (nthZ L j) then [nthZ L j] else [] := by
  rw [List.take_succ_eq_append_getElem hj, List.filter_append, nthZ_eq hj]
  congr 1
  by_cases h : p L[j] = true <;> simp [h]
theorem cnt_take {L : List Zi} {j : Nat} (hj : j < L.length) (p : Zi → Bool) : (L.take (j + 1)).countP p = (L.take j).countP p + if p (nthZ L j) then 1 else 0 := by
  rw [List.take_succ_eq_append_getElem hj, List.countP_append, nthZ_eq hj]
  congr 1
  by_cases h : p L[j] = true <;> simp [h]
theorem ball_ne0 (w : World) : (binOp .neq 57 (.agg #[.complex .f64 0 0, .float .f64 0]) (.agg #[.complex .f64 0 0, .float .f64 0])).run Tryz.prog w = .ok (.bool false) w := by kernel_rfl
set_option maxRecDepth 100000 in
set_option maxHeartbeats 12800000 in
theorem rootsEach_any (A : Option Addr) (n cap : Nat) (L : List Zi) (hn : L.length = n) (hcap : n ≤ cap) (hm : n ≤ 9223372036854775807) (hr : ∀ G ∈ L, -128 ≤ G.re ∧ G.re ≤ 127 ∧ -128 ≤ G.im ∧ G.im ≤ 127) (w : World) (hs : Seq w w.heap.size A (prs L)) (hT : Tab w) (hT64 : Tab64 w) :
    Calls Tryz.prog 4 #[.slice A n cap] w fun e w' => e = .returned (.bool true) ∧ Below w.heap.size w w' := by
  obtain ⟨i0, hi, hz0, hz1, hz2⟩ := info_parts Tryz.infoG
  have HS := Lib.hid hs
  have HT := Lib.hid hT
  have HT64 := Lib.hid hT64
  have HN := Lib.hid hn
  have HR := Lib.hid hr
  clear hs hT hT64 hn hr
  go_enter Tryz.func4, Tryz.ntmps4
  go_upto_if 17 with fail
  go_cut [0] (fun v wx => ∃ (m c : Nat) (M : List Zi), v = .slice A m c ∧ M.length = m ∧ Small M ∧ Seq w w.heap.size A (prs M) ∧ w = wx)
  case first =>
    by_cases h10 : 10 < n
    · have h10' : (10 : Int) < (n : Int) := by omega
      have hc10 : 10 ≤ cap := by omega
      go_wp2
      go_meet
      case rel => exact ⟨10, cap, L.take 10, rfl, by rw [List.length_take]; have := HN.out; omega, ⟨by rw [List.length_take]; omega, fun G hG => HR.out G (List.mem_of_mem_take hG)⟩, HS.out.prs_take 10, rfl⟩
    · have h10' : ¬ (10 : Int) < (n : Int) := by omega
      go_wp2
      go_meet
      case rel => exact ⟨n, cap, L, rfl, HN.out, ⟨by have := HN.out; omega, HR.out⟩, HS.out, rfl⟩
  case rest =>
    obtain ⟨m, c, M, rfl, hml, hsm, hsq, rfl⟩ := hcut
    have HML := Lib.hid hml
    have HSM := Lib.hid hsm
    have HSQ := Lib.hid hsq
    have hm10 : m ≤ 10 := by have := hsm.1; omega
    clear hml hsm hsq HS HN HR hm hcap
    go_wp2_with fail
    refine (product_any A m c M HML.out HSM.out w HSQ.out HT.out).mono ?_
    rintro e w1 ⟨hor, hb1⟩
    have HB1 := Lib.hid hb1
    clear hb1
    rcases hor with rfl | ⟨v1, v2, ps, rfl, hpl, hpk, ho1, ho2⟩
    · go_wp2_with fail
      refine (lives_any _).mono ?_
      rintro e w2 ⟨rfl, hb2⟩
      have HB2 := Lib.hid (HB1.out.trans (hb2.mono HB1.out.size))
      clear hb2
      go_wp2
      go_ret
      exact ⟨rfl, HB2.out⟩
    · obtain ⟨A3, c3, rfl, hs3⟩ := seq_of_own ho1
      obtain ⟨A4, c4, rfl, hs4⟩ := seq_of_own6 ho2
      have hc3 := own_cap ho1
      have hok : PrOk ps M := ⟨hpl, hpk⟩
      have HFA := Lib.hid (hok.fac HSM.out)
      have HAL := Lib.hid (all_any A3 m c3 ps (by rw [hpl, HML.out]) (by rw [← HML.out]; exact hc3) (by omega) w1 (by exact hs3) (hok.check HSM.out) (by have := hok.spiral HSM.out; rw [HML.out] at this; exact this) (tab64_below HT64.out HB1.out))
      have HS4 := Lib.hid hs4
      rw [HML.out] at hpl hpk ho1 ho2 hc3 ⊢
      clear hpk ho1 hs3 hs4 hok
      go_wp2_with fail
      (with_reducible refine HAL.out.mono ?_)
      rintro e w3 ⟨v, rs, rfl, hrl, hrs, hown, hb3⟩
      obtain ⟨A5, c5, rfl, hs5⟩ := seq_of_own4 hown
      have HB3 := Lib.hid hb3
      have HS5 := Lib.hid hs5
      have HRL := Lib.hid hrl
      have HRS := Lib.hid hrs
      have HS43 := Lib.hid ((HS4.out.below hb3 (Nat.le_refl _)).more hb3.size)
      have s3 := hb3.size
      clear hb3 hs5 hrl hrs hown HAL
      go_wp2
      go_loopw [9, 10, 11] (fun t h i wz => ∃ (q : Nat) (v9 : Value) (hs : List Zi), v9 = h ∧ q ≤ m ∧ i = .int .i64 q ∧ t = .int .i64 (((tB rs q).length : Nat) : Int) ∧ Held rs q hs ∧ wz.ownsRow w3.heap.size 31 6 v9 hs.length (ecs (gl hs)) ∧ Below w3.heap.size w3 wz) (fun _ _ i _ => m - (intOf i).toNat)
      case atStart => exact ⟨0, _, [], rfl, Nat.zero_le _, rfl, rfl, ⟨Nat.zero_le _, by simp⟩, World.ownsRow_nil _ _ _ _, Below.refl _ _⟩
      case round =>
        obtain ⟨q, v9, hs, hv9, hq, rfl, rfl, hh, hoh, hbr⟩ := hrel
        subst hv9
        have HH := Lib.hid hh
        have HOH := Lib.hid hoh
        have HBR := Lib.hid hbr
        have sr := hbr.size
        have htl := tB_len rs q
        clear hh hoh hbr
        by_cases hqm : q < m
        · obtain ⟨b, o, hA5, hb, cc1, cc2, cc3⟩ := HS5.out.rat (k := q) (by have := HRL.out; omega)
          subst hA5
          have hqr : q < rs.length := by have := HRL.out; omega
          have q0 : (0 : Int) ≤ (q : Int) := by omega
          have q1 : (q : Int) < (m : Int) := by omega
          have q2 : (q : Int) ≤ 10 := by omega
          have m2 : (m : Int) ≤ 10 := by omega
          have t2 : (((tB rs q).length : Nat) : Int) ≤ 10 := by omega
          have CC1 := Lib.hid cc1
          have CC2 := Lib.hid cc2
          have CC3 := Lib.hid cc3
          have hblt : b < wr.heap.size := by omega
          clear cc1 cc2 cc3
          by_cases ho : (nthR rs q).o.isSome = true
          · have hBK := HRS.out.ok _ (rB_mem hqr ho)
            have HBK := Lib.hid hBK
            have H3 := Lib.hid (told_three HFA.out hBK)
            have HCN := Lib.hid (told_count HFA.out hBK)
            have HFR := Lib.hid (fun j hj hh => HH.out.fresh HFA.out HRS.out hqr ho (j := j) hj hh)
            have HSO := Lib.hid (HH.out.some HFA.out HRS.out hqr ho)
            have HTB := Lib.hid (show (tB rs (q + 1)).length = (tB rs q).length + 1 by rw [tB_some hqr ho, List.length_append]; rfl)
            have HAP := Lib.hid (show ∀ j, j < q → (nthR rs j).o.isSome = true → apartR (rB (nthR rs j)).1 (rB (nthR rs j)).2.1 (rB (nthR rs j)).2.2 (rB (nthR rs q)).1 (rB (nthR rs q)).2.1 (rB (nthR rs q)).2.2 = true from fun j hj hoj => by rw [apartR_comm]; exact tB_apart HRS.out.ap hqr ho (tB_below hj (by omega) hoj))
            have hc1 : wr.cell? ⟨b, o + q * 4 + 1, none⟩ = some (.bool true) := by rw [HBR.out.cell (p := ⟨b, o + q * 4 + 1, none⟩) hb, CC1.out, ho]
            have HO := Lib.hid ho
            have HQ := Lib.hid hq
            have hl5 : hs.length ≤ q := HH.out.1
            clear ho hBK hq
            go_wp2
            go_loopw [10, 12, 13] (fun h c k wz => ∃ (j : Nat) (v8 : Value), v8 = h ∧ j ≤ m ∧ k = .int .i64 j ∧ c = .int .i64 (((M.take j).countP (hold (rB (nthR rs q))) : Nat) : Int) ∧ wz.ownsRow w3.heap.size 31 6 v8 (hs ++ (M.take j).filter (hold (rB (nthR rs q)))).length (ecs (gl (hs ++ (M.take j).filter (hold (rB (nthR rs q)))))) ∧ Below w3.heap.size w3 wz) (fun _ _ k _ => m - (intOf k).toNat)
            case atStart =>
              refine ⟨0, v9, rfl, Nat.zero_le _, rfl, rfl, ?_, HBR.out⟩
              rw [List.take_zero, List.filter_nil, List.append_nil]
              exact HOH.out
            case round =>
              rename World => wx
              obtain ⟨j, v8, hv8, hj, rfl, rfl, hoh8, hbx⟩ := hrel
              subst hv8
              obtain ⟨A8, c8, rfl, hs8⟩ := seq_of_own6 hoh8
              generalize hX : hs ++ (M.take j).filter (hold (rB (nthR rs q))) = X at *
              have HXX := Lib.hid hX
              have HS8 := Lib.hid hs8
              clear hs8 hX
              have HO8 := Lib.hid hoh8
              have HBX := Lib.hid hbx
              have sx := hbx.size
              have hbx' : b < wx.heap.size := by omega
              have d2 := (hbx.cell (p := ⟨b, o + q * 4 + 2, none⟩) hb).trans CC2.out
              have d3 := (hbx.cell (p := ⟨b, o + q * 4 + 3, none⟩) hb).trans CC3.out
              have hcle : (M.take j).countP (hold (rB (nthR rs q))) ≤ j := Nat.le_trans List.countP_le_length (by rw [List.length_take]; omega)
              clear hoh8 hbx
              by_cases hjm : j < m
              · have hjM : j < M.length := by have := HML.out; omega
                obtain ⟨b4, o4, hA4, hb4, he4⟩ := HS43.out.eat (k := j) (by rw [gl_len]; exact hjM)
                subst hA4
                rw [gl_at hjM] at he4
                have hb4' : b4 < w3.heap.size := hb4
                have hb4x : b4 < wx.heap.size := by omega
                have EX := Lib.hid (he4.below HBX.out hb4')
                have HHG := Lib.hid (fun w hT => holds_g HBK.out (HSM.out.at' hjM) w hT)
                have HTX := Lib.hid (tab64_below HT64.out (HB1.out.trans ((HB3.out.trans (HBX.out.mono s3)).mono HB1.out.size)))
                have HFT := Lib.hid (fil_take hjM (hold (rB (nthR rs q))))
                have HCT := Lib.hid (cnt_take hjM (hold (rB (nthR rs q))))
                have j0 : (0 : Int) ≤ (j : Int) := by omega
                have j1 : (j : Int) < (m : Int) := by omega
                have n1 : (0 : Int) ≤ (((M.take j).countP (hold (rB (nthR rs q))) : Nat) : Int) := by omega
                have n2 : (((M.take j).countP (hold (rB (nthR rs q))) : Nat) : Int) ≤ 10 := by omega
                clear he4 hb4
                by_cases hh : hold (rB (nthR rs q)) (nthZ M j) = true
                · rw [hh] at HHG HFT HCT
                  have HCNT := Lib.hid (H3.out.2.2 j hjM hh)
                  have HFRJ := Lib.hid (show X.count (nthZ M j) = 0 by rw [← HXX.out]; exact HFR.out j hjM hh)
                  have hlen : X.length ≤ 20 := by
                    rw [← HXX.out, List.length_append]
                    have := List.length_filter_le (hold (rB (nthR rs q))) (M.take j)
                    rw [List.length_take] at this
                    omega
                  have HLEN := Lib.hid hlen
                  clear hh hlen
                  go_upto_region 22 with fail
                  refine wp_region_held_drew (S := fun x => Below wx.heap.size wx x ∧ x.cell? ⟨b, o + q * 4 + 2, none⟩ = some (.complex .f64 (rB (nthR rs q)).1 (rB (nthR rs q)).2.1) ∧ x.cell? ⟨b, o + q * 4 + 3, none⟩ = some (.float .f64 (rB (nthR rs q)).2.2)) (by kernel_rfl) (by exact ⟨(Below.refl _ _).drew, (Below.cell ((Below.refl _ _).drew) (p := ⟨b, o + q * 4 + 2, none⟩) hbx').trans d2, (Below.cell ((Below.refl _ _).drew) (p := ⟨b, o + q * 4 + 3, none⟩) hbx').trans d3⟩) (fun hHeld => ?_)
                  have htb0 := Lib.hid (show Below wx.heap.size wx wx.drew from (Below.refl _ _).drew)
                  refine wpAnyH_put (i := 0) (v := ?ht1) (some 71) rfl rfl (by kernel_rfl) (by kernel_rfl) (by kernel_rfl) (fun _ _ _ h => h) (Or.inl ⟨by kernel_rfl, ?hht1⟩) (by assumption) ?rht1
                  case hht1 => (intro w hSw; (try dsimp only at hSw); go_simp; (try with_reducible rfl))
                  try simp only [Act.put, List.setIfInBounds_toArray, List.set_cons_zero, List.set_cons_succ]
                  refine wpAnyH_put (i := 1) (v := ?ht2) (some 72) rfl rfl (by kernel_rfl) (by kernel_rfl) (by kernel_rfl) (fun _ _ _ h => h) (Or.inl ⟨by kernel_rfl, ?hht2⟩) (by assumption) ?rht2
                  case hht2 => (intro w hSw; (try dsimp only at hSw); go_simp; (try with_reducible rfl))
                  try simp only [Act.put, List.setIfInBounds_toArray, List.set_cons_zero, List.set_cons_succ]
                  refine wpAnyH_put (i := 2) (v := ?ht3) (some 73) rfl rfl (by kernel_rfl) (by kernel_rfl) (by kernel_rfl) (fun _ _ _ h => h) (Or.inl ⟨by kernel_rfl, ?hht3⟩) (by assumption) ?rht3
                  case hht3 => (intro w hSw; (try dsimp only at hSw); go_simp; (try with_reducible rfl))
                  try simp only [Act.put, List.setIfInBounds_toArray, List.set_cons_zero, List.set_cons_succ]
                  refine wpAnyH_put (i := 3) (v := ?ht4) (some 74) rfl rfl (by kernel_rfl) (by kernel_rfl) (by kernel_rfl) (fun _ _ _ h => h) (Or.inl ⟨by kernel_rfl, ?hht4⟩) (by assumption) ?rht4
                  case hht4 => (intro w hSw; (try dsimp only at hSw); go_simp; (try with_reducible rfl))
                  try simp only [Act.put, List.setIfInBounds_toArray, List.set_cons_zero, List.set_cons_succ]
                  refine wpAnyH_put (i := 4) (v := ?ht5) (some 75) rfl rfl (by kernel_rfl) (by kernel_rfl) (by kernel_rfl) (fun _ _ _ h => h) (Or.inl ⟨by kernel_rfl, ?hht5⟩) (by assumption) ?rht5
                  case hht5 => (intro w hSw; (try dsimp only at hSw); go_simp; (try with_reducible rfl))
                  try simp only [Act.put, List.setIfInBounds_toArray, List.set_cons_zero, List.set_cons_succ]
                  refine wpAnyH_put (i := 5) (v := ?ht6) (some 76) rfl rfl (by kernel_rfl) (by kernel_rfl) (by kernel_rfl) (fun _ _ _ h => h) (Or.inl ⟨by kernel_rfl, ?hht6⟩) (by assumption) ?rht6
                  case hht6 => (intro w hSw; (try dsimp only at hSw); go_simp; (try with_reducible rfl))
                  try simp only [Act.put, List.setIfInBounds_toArray, List.set_cons_zero, List.set_cons_succ]
                  refine wpAnyH_put (i := 6) (v := ?ht7) (some 77) rfl rfl (by kernel_rfl) (by kernel_rfl) (by kernel_rfl) (fun _ _ _ h => h) (Or.inl ⟨by kernel_rfl, ?hht7⟩) (by assumption) ?rht7
                  case hht7 => (intro w hSw; (try dsimp only at hSw); go_simp; (try with_reducible rfl))
                  try simp only [Act.put, List.setIfInBounds_toArray, List.set_cons_zero, List.set_cons_succ]
                  refine wpAnyH_put (i := 7) (v := ?ht8) (some 78) rfl rfl (by kernel_rfl) (by kernel_rfl) (by kernel_rfl) (fun _ _ _ h => h) (Or.inl ⟨by kernel_rfl, ?hht8⟩) (by assumption) ?rht8
                  case hht8 => (intro w hSw; (try dsimp only at hSw); go_simp; (try with_reducible rfl))
                  try simp only [Act.put, List.setIfInBounds_toArray, List.set_cons_zero, List.set_cons_succ]
                  refine wpAnyH_put (i := 8) (v := ge (gz (nthZ M j) 4)) (some 79) rfl rfl (by kernel_rfl) (by kernel_rfl) (by kernel_rfl) (fun _ _ _ h => h) (yields_ge (by kernel_rfl) rfl rfl (fun x (hx : Below wx.heap.size wx x ∧ x.cell? ⟨b, o + q * 4 + 2, none⟩ = some (.complex .f64 (rB (nthR rs q)).1 (rB (nthR rs q)).2.1) ∧ x.cell? ⟨b, o + q * 4 + 3, none⟩ = some (.float .f64 (rB (nthR rs q)).2.2)) => EX.out.below hx.1 hb4x)) (by assumption) ?_
                  try simp only [Act.put, List.setIfInBounds_toArray, List.set_cons_zero, List.set_cons_succ]
                  refine wpAnyH_ready (rs := [9]) (by kernel_rfl) (by simp) ?_
                  refine (allReady_put (some 80) rfl rfl (fun K hK => ?_) AllReadyH.nil)
                  go_simp
                  (with_reducible refine (HHG.out _ (tab64_below HTX.out htb0.out)).mono ?_)
                  rintro e xht10 ⟨rfl, dht10⟩
                  have Bht10 := Lib.hid (htb0.out.trans (dht10.mono htb0.out.size))
                  clear dht10
                  refine hK.out _ _ (by exact ⟨Bht10.out, (Below.cell (Bht10.out) (p := ⟨b, o + q * 4 + 2, none⟩) hbx').trans d2, (Below.cell (Bht10.out) (p := ⟨b, o + q * 4 + 3, none⟩) hbx').trans d3⟩) (fun hHeld => ?_)
                  clear hK K
                  try simp only [Act.put, List.setIfInBounds_toArray, List.set_cons_zero, List.set_cons_succ]
                  refine wpAnyH_done (by kernel_rfl) ?_ _
                  have hbw6 : Below wx.heap.size wx xht10 := Bht10.out

                  have HB6 := Lib.hid hbw6
                  have HB36 := Lib.hid (HBX.out.trans (hbw6.mono sx))
                  have EX6 := Lib.hid (EX.out.below hbw6 hb4x)
                  have HTM := Lib.hid (fun (w' : World) (hw' : Below w3.heap.size w3 w') => ltimes_any (some ⟨b4, o4, none⟩) m c4 (gl M) (gz (nthZ M j) 4) (by rw [gl_len, HML.out]) (by omega) w' ((HS43.out.below hw' (Nat.le_refl _)).more hw'.size))
                  rw [gl_count, HCNT.out] at HTM
                  have HTH := Lib.hid (fun (w' : World) (hw' : Below wx.heap.size wx w') => ltimes_any A8 _ c8 (gl X) (gz (nthZ M j) 4) (gl_len _) HLEN.out w' ((HS8.out.below hw' (Nat.le_refl _)).more hw'.size))
                  rw [gl_count, HFRJ.out] at HTH
                  clear hbw6
                  go_upto_region 26 with (first
                    | ((with_reducible refine wplg_at EX6.out ?_ ?_ ?_); (any_goals rfl))
                    | ((with_reducible refine wplg_at EX7.out ?_ ?_ ?_); (any_goals rfl))
                    | (go_at_call 27; (with_reducible refine (HTM.out _ HB36.out).mono ?_); rintro e w7 ⟨rfl, hb7⟩; have HB7 := Lib.hid (HB6.out.trans (hb7.mono HB6.out.size)); have EX7 := Lib.hid (EX.out.below HB7.out hb4x); clear hb7)
                    | (go_at_call 27; (with_reducible refine (HTH.out _ HB7.out).mono ?_); rintro e w8 ⟨rfl, hb8⟩; have HB8 := Lib.hid (HB7.out.trans (hb8.mono HB7.out.size)); clear hb8))
                  have s8 := HB8.out.size
                  obtain ⟨g0, g1, g2, g3, g4, g5⟩ := EX.out.below HB8.out hb4x
                  have HO88 := Lib.hid (own_below HO8.out HB8.out)
                  have hvl : ∀ k, (Value.slice A8 X.length c8).ownBlock = some k → w3.heap.size ≤ k ∧ k < wx.heap.size := HO8.out.lt
                  have HVL := Lib.hid hvl
                  have HLE := Lib.hid HLEN.out
                  clear hvl d2 d3
                  generalize hLL : X.length = LL at *
                  have HLL := Lib.hid hLL
                  have hLe : LL ≤ 20 := HLE.out
                  clear hLL
                  go_wp2_with (at_builtin; refine wpList_append_own_at _ rfl _ _ 49 rfl w3.heap.size 31 i0 (.agg #[.bool false, .string ⟨#[]⟩, .int .i64 0, .bool false, .string ⟨#[]⟩, .int .i64 0]) 6 64 Tryz.underlying49 hi hz0 hz1 hz2 rfl (by decide) _ _ _ rfl (HO88.out.alloc _) ⟨w8.heap.size, 0, none⟩ 1 1 (ecells (gz (nthZ M j) 4)) rfl rfl ?c1 ?c2 ?c3 ?c4 ?c5 ?_)
                  case c1 => exact e_new w8 _ _
                  case c2 => exact ecells_one _
                  case c3 => unfold maxLen; omega
                  case c4 => omega
                  case c5 => first | omega | (simp; omega)
                  intro vn w9 hown' hgrow _ _
                  have hnx : Below w3.heap.size w3 w9 := ((HBX.out.trans (HB8.out.mono sx)).alloc (by omega) _).grown hgrow (by simp; omega) (fun k hk => (HVL.out k hk).1)
                  have hfl : (M.take (j + 1)).filter (hold (rB (nthR rs q))) = (M.take j).filter (hold (rB (nthR rs q))) ++ [nthZ M j] := HFT.out
                  have hown9 : w9.ownsRow w3.heap.size 31 6 vn (hs ++ (M.take (j + 1)).filter (hold (rB (nthR rs q)))).length (ecs (gl (hs ++ (M.take (j + 1)).filter (hold (rB (nthR rs q)))))) := by
                    rw [hfl, ← List.append_assoc, HXX.out, List.length_append, HLL.out, gl_append, ecs_append]
                    show w9.ownsRow _ _ _ _ _ (_ ++ ecs [gz (nthZ M j) 4])
                    rw [ecs_one]
                    exact hown'
                  have HO9 := Lib.hid hown9
                  have HNX := Lib.hid hnx
                  clear hown' hgrow hown9 hfl hnx
                  go_wp2
                  go_roundw
                  case rel => exact ⟨j + 1, vn, rfl, by omega, by go_num, by rw [HCT.out]; go_num, HO9.out, HNX.out⟩
                  case measure => simp [intOf]; omega
                · have hh' : hold (rB (nthR rs q)) (nthZ M j) = false := by simpa using hh
                  rw [hh'] at HHG HFT HCT
                  have HXE := Lib.hid (show X = hs ++ (M.take (j + 1)).filter (hold (rB (nthR rs q))) by rw [HFT.out, ← HXX.out]; simp)
                  clear hh hh'
                  go_upto_region 22 with fail
                  refine wp_region_held_drew (S := fun x => Below wx.heap.size wx x ∧ x.cell? ⟨b, o + q * 4 + 2, none⟩ = some (.complex .f64 (rB (nthR rs q)).1 (rB (nthR rs q)).2.1) ∧ x.cell? ⟨b, o + q * 4 + 3, none⟩ = some (.float .f64 (rB (nthR rs q)).2.2)) (by kernel_rfl) (by exact ⟨(Below.refl _ _).drew, (Below.cell ((Below.refl _ _).drew) (p := ⟨b, o + q * 4 + 2, none⟩) hbx').trans d2, (Below.cell ((Below.refl _ _).drew) (p := ⟨b, o + q * 4 + 3, none⟩) hbx').trans d3⟩) (fun hHeld => ?_)
                  have hfb0 := Lib.hid (show Below wx.heap.size wx wx.drew from (Below.refl _ _).drew)
                  refine wpAnyH_put (i := 0) (v := ?hf1) (some 71) rfl rfl (by kernel_rfl) (by kernel_rfl) (by kernel_rfl) (fun _ _ _ h => h) (Or.inl ⟨by kernel_rfl, ?hhf1⟩) (by assumption) ?rhf1
                  case hhf1 => (intro w hSw; (try dsimp only at hSw); go_simp; (try with_reducible rfl))
                  try simp only [Act.put, List.setIfInBounds_toArray, List.set_cons_zero, List.set_cons_succ]
                  refine wpAnyH_put (i := 1) (v := ?hf2) (some 72) rfl rfl (by kernel_rfl) (by kernel_rfl) (by kernel_rfl) (fun _ _ _ h => h) (Or.inl ⟨by kernel_rfl, ?hhf2⟩) (by assumption) ?rhf2
                  case hhf2 => (intro w hSw; (try dsimp only at hSw); go_simp; (try with_reducible rfl))
                  try simp only [Act.put, List.setIfInBounds_toArray, List.set_cons_zero, List.set_cons_succ]
                  refine wpAnyH_put (i := 2) (v := ?hf3) (some 73) rfl rfl (by kernel_rfl) (by kernel_rfl) (by kernel_rfl) (fun _ _ _ h => h) (Or.inl ⟨by kernel_rfl, ?hhf3⟩) (by assumption) ?rhf3
                  case hhf3 => (intro w hSw; (try dsimp only at hSw); go_simp; (try with_reducible rfl))
                  try simp only [Act.put, List.setIfInBounds_toArray, List.set_cons_zero, List.set_cons_succ]
                  refine wpAnyH_put (i := 3) (v := ?hf4) (some 74) rfl rfl (by kernel_rfl) (by kernel_rfl) (by kernel_rfl) (fun _ _ _ h => h) (Or.inl ⟨by kernel_rfl, ?hhf4⟩) (by assumption) ?rhf4
                  case hhf4 => (intro w hSw; (try dsimp only at hSw); go_simp; (try with_reducible rfl))
                  try simp only [Act.put, List.setIfInBounds_toArray, List.set_cons_zero, List.set_cons_succ]
                  refine wpAnyH_put (i := 4) (v := ?hf5) (some 75) rfl rfl (by kernel_rfl) (by kernel_rfl) (by kernel_rfl) (fun _ _ _ h => h) (Or.inl ⟨by kernel_rfl, ?hhf5⟩) (by assumption) ?rhf5
                  case hhf5 => (intro w hSw; (try dsimp only at hSw); go_simp; (try with_reducible rfl))
                  try simp only [Act.put, List.setIfInBounds_toArray, List.set_cons_zero, List.set_cons_succ]
                  refine wpAnyH_put (i := 5) (v := ?hf6) (some 76) rfl rfl (by kernel_rfl) (by kernel_rfl) (by kernel_rfl) (fun _ _ _ h => h) (Or.inl ⟨by kernel_rfl, ?hhf6⟩) (by assumption) ?rhf6
                  case hhf6 => (intro w hSw; (try dsimp only at hSw); go_simp; (try with_reducible rfl))
                  try simp only [Act.put, List.setIfInBounds_toArray, List.set_cons_zero, List.set_cons_succ]
                  refine wpAnyH_put (i := 6) (v := ?hf7) (some 77) rfl rfl (by kernel_rfl) (by kernel_rfl) (by kernel_rfl) (fun _ _ _ h => h) (Or.inl ⟨by kernel_rfl, ?hhf7⟩) (by assumption) ?rhf7
                  case hhf7 => (intro w hSw; (try dsimp only at hSw); go_simp; (try with_reducible rfl))
                  try simp only [Act.put, List.setIfInBounds_toArray, List.set_cons_zero, List.set_cons_succ]
                  refine wpAnyH_put (i := 7) (v := ?hf8) (some 78) rfl rfl (by kernel_rfl) (by kernel_rfl) (by kernel_rfl) (fun _ _ _ h => h) (Or.inl ⟨by kernel_rfl, ?hhf8⟩) (by assumption) ?rhf8
                  case hhf8 => (intro w hSw; (try dsimp only at hSw); go_simp; (try with_reducible rfl))
                  try simp only [Act.put, List.setIfInBounds_toArray, List.set_cons_zero, List.set_cons_succ]
                  refine wpAnyH_put (i := 8) (v := ge (gz (nthZ M j) 4)) (some 79) rfl rfl (by kernel_rfl) (by kernel_rfl) (by kernel_rfl) (fun _ _ _ h => h) (yields_ge (by kernel_rfl) rfl rfl (fun x (hx : Below wx.heap.size wx x ∧ x.cell? ⟨b, o + q * 4 + 2, none⟩ = some (.complex .f64 (rB (nthR rs q)).1 (rB (nthR rs q)).2.1) ∧ x.cell? ⟨b, o + q * 4 + 3, none⟩ = some (.float .f64 (rB (nthR rs q)).2.2)) => EX.out.below hx.1 hb4x)) (by assumption) ?_
                  try simp only [Act.put, List.setIfInBounds_toArray, List.set_cons_zero, List.set_cons_succ]
                  refine wpAnyH_ready (rs := [9]) (by kernel_rfl) (by simp) ?_
                  refine (allReady_put (some 80) rfl rfl (fun K hK => ?_) AllReadyH.nil)
                  go_simp
                  (with_reducible refine (HHG.out _ (tab64_below HTX.out hfb0.out)).mono ?_)
                  rintro e xhf10 ⟨rfl, dhf10⟩
                  have Bhf10 := Lib.hid (hfb0.out.trans (dhf10.mono hfb0.out.size))
                  clear dhf10
                  refine hK.out _ _ (by exact ⟨Bhf10.out, (Below.cell (Bhf10.out) (p := ⟨b, o + q * 4 + 2, none⟩) hbx').trans d2, (Below.cell (Bhf10.out) (p := ⟨b, o + q * 4 + 3, none⟩) hbx').trans d3⟩) (fun hHeld => ?_)
                  clear hK K
                  try simp only [Act.put, List.setIfInBounds_toArray, List.set_cons_zero, List.set_cons_succ]
                  refine wpAnyH_done (by kernel_rfl) ?_ _
                  have hbw6 : Below wx.heap.size wx xhf10 := Bhf10.out

                  go_wp2
                  go_roundw
                  case rel => exact ⟨j + 1, _, rfl, by omega, by go_num, by rw [HCT.out]; rfl, by rw [← HXE.out]; exact own_below HO8.out hbw6, HBX.out.trans (hbw6.mono sx)⟩
                  case measure => simp [intOf]; omega
              · obtain rfl : j = m := by omega
                have hMj : M.take j = M := List.take_of_length_le (by have := HML.out; omega)
                have HXM := Lib.hid (show hs ++ M.filter (hold (rB (nthR rs q))) = X by have h := HXX.out; rw [hMj] at h; exact h)
                rw [hMj, HCN.out]
                have HTq := Lib.hid (tab64_below HT64.out (HB1.out.trans ((HB3.out.trans (HBX.out.mono s3)).mono HB1.out.size)))
                clear hMj hjm hcle
                go_wp2
                go_loopw [14] (fun k wz => ∃ (t : Nat), t ≤ q ∧ k = .int .i64 t ∧ Below wx.heap.size wx wz) (fun k _ => q - (intOf k).toNat)
                case atStart => exact ⟨0, Nat.zero_le _, rfl, Below.refl _ _⟩
                case round =>
                  rename World => wy
                  obtain ⟨t, ht, rfl, hby⟩ := hrel
                  have HBY := Lib.hid hby
                  have sy := hby.size
                  have hbyl : b < wy.heap.size := by omega
                  have hb3y : Below w3.heap.size w3 wy := HBX.out.trans (hby.mono sx)
                  have HB3Y := Lib.hid hb3y
                  have e2 := (hb3y.cell (p := ⟨b, o + q * 4 + 2, none⟩) hb).trans CC2.out
                  have e3 := (hb3y.cell (p := ⟨b, o + q * 4 + 3, none⟩) hb).trans CC3.out
                  clear hby hb3y d2 d3
                  by_cases htq : t < q
                  · obtain ⟨b', o', hA', hb', x1, x2, x3⟩ := HS5.out.rat (k := t) (by have := HRL.out; omega)
                    injection hA' with hA'
                    injection hA' with hA1 hA2
                    subst hA1
                    subst hA2
                    have f1 := (HB3Y.out.cell (p := ⟨b, o + t * 4 + 1, none⟩) hb).trans x1
                    have f2 := (HB3Y.out.cell (p := ⟨b, o + t * 4 + 2, none⟩) hb).trans x2
                    have f3 := (HB3Y.out.cell (p := ⟨b, o + t * 4 + 3, none⟩) hb).trans x3
                    have t0 : (0 : Int) ≤ (t : Int) := by omega
                    have t1 : (t : Int) < (q : Int) := by omega
                    have t3 : (t : Int) < (j : Int) := by omega
                    have HTY := Lib.hid (tab64_below HTq.out HBY.out)
                    clear x1 x2 x3 hb'
                    by_cases hot : (nthR rs t).o.isSome = true
                    · have HAPT := Lib.hid (fun w hT => apart_b (HRS.out.ok _ (rB_mem (rs := rs) (i := t) (by omega) hot)) HBK.out w hT)
                      rw [HAP.out t htq hot] at HAPT
                      rw [hot] at f1
                      have F1 := Lib.hid f1
                      have F2 := Lib.hid f2
                      have F3 := Lib.hid f3
                      have E2 := Lib.hid e2
                      have E3 := Lib.hid e3
                      clear hot f1 f2 f3 e2 e3
                      go_upto_region 32 with fail
                      refine wp_region_held_drew (S := fun x => Below wy.heap.size wy x ∧ x.cell? ⟨b, o + t * 4 + 1, none⟩ = some (.bool true) ∧ x.cell? ⟨b, o + t * 4 + 2, none⟩ = some (.complex .f64 (rB (nthR rs t)).1 (rB (nthR rs t)).2.1) ∧ x.cell? ⟨b, o + t * 4 + 3, none⟩ = some (.float .f64 (rB (nthR rs t)).2.2) ∧ x.cell? ⟨b, o + q * 4 + 2, none⟩ = some (.complex .f64 (rB (nthR rs q)).1 (rB (nthR rs q)).2.1) ∧ x.cell? ⟨b, o + q * 4 + 3, none⟩ = some (.float .f64 (rB (nthR rs q)).2.2)) (by kernel_rfl) (by exact ⟨(Below.refl _ _).drew, (Below.cell ((Below.refl _ _).drew) (p := ⟨b, o + t * 4 + 1, none⟩) hbyl).trans F1.out, (Below.cell ((Below.refl _ _).drew) (p := ⟨b, o + t * 4 + 2, none⟩) hbyl).trans F2.out, (Below.cell ((Below.refl _ _).drew) (p := ⟨b, o + t * 4 + 3, none⟩) hbyl).trans F3.out, (Below.cell ((Below.refl _ _).drew) (p := ⟨b, o + q * 4 + 2, none⟩) hbyl).trans E2.out, (Below.cell ((Below.refl _ _).drew) (p := ⟨b, o + q * 4 + 3, none⟩) hbyl).trans E3.out⟩) (fun hHeld => ?_)
                      have atb0 := Lib.hid (show Below wy.heap.size wy wy.drew from (Below.refl _ _).drew)
                      refine wpAnyH_put (i := 0) (v := ?at1) (some 113) rfl rfl (by kernel_rfl) (by kernel_rfl) (by kernel_rfl) (fun _ _ _ h => h) (Or.inl ⟨by kernel_rfl, ?hat1⟩) (by assumption) ?rat1
                      case hat1 => (intro w hSw; (try dsimp only at hSw); go_simp; (try with_reducible rfl))
                      try simp only [Act.put, List.setIfInBounds_toArray, List.set_cons_zero, List.set_cons_succ]
                      refine wpAnyH_put (i := 1) (v := ?at2) (some 114) rfl rfl (by kernel_rfl) (by kernel_rfl) (by kernel_rfl) (fun _ _ _ h => h) (Or.inl ⟨by kernel_rfl, ?hat2⟩) (by assumption) ?rat2
                      case hat2 => (intro w hSw; (try dsimp only at hSw); go_simp; (try with_reducible rfl))
                      try simp only [Act.put, List.setIfInBounds_toArray, List.set_cons_zero, List.set_cons_succ]
                      refine wpAnyH_put (i := 2) (v := ?at3) (some 115) rfl rfl (by kernel_rfl) (by kernel_rfl) (by kernel_rfl) (fun _ _ _ h => h) (Or.inl ⟨by kernel_rfl, ?hat3⟩) (by assumption) ?rat3
                      case hat3 => (intro w hSw; (try dsimp only at hSw); go_simp; (try with_reducible rfl))
                      try simp only [Act.put, List.setIfInBounds_toArray, List.set_cons_zero, List.set_cons_succ]
                      refine wpAnyH_put (i := 3) (v := ?at4) (some 116) rfl rfl (by kernel_rfl) (by kernel_rfl) (by kernel_rfl) (fun _ _ _ h => h) (Or.inl ⟨by kernel_rfl, ?hat4⟩) (by assumption) ?rat4
                      case hat4 => (intro w hSw; (try dsimp only at hSw); go_simp; (try with_reducible rfl))
                      try simp only [Act.put, List.setIfInBounds_toArray, List.set_cons_zero, List.set_cons_succ]
                      refine wpAnyH_put (i := 4) (v := ?at5) (some 117) rfl rfl (by kernel_rfl) (by kernel_rfl) (by kernel_rfl) (fun _ _ _ h => h) (Or.inl ⟨by kernel_rfl, ?hat5⟩) (by assumption) ?rat5
                      case hat5 => (intro w hSw; (try dsimp only at hSw); go_simp; (try with_reducible rfl))
                      try simp only [Act.put, List.setIfInBounds_toArray, List.set_cons_zero, List.set_cons_succ]
                      refine wpAnyH_put (i := 5) (v := ?at6) (some 118) rfl rfl (by kernel_rfl) (by kernel_rfl) (by kernel_rfl) (fun _ _ _ h => h) (Or.inl ⟨by kernel_rfl, ?hat6⟩) (by assumption) ?rat6
                      case hat6 => (intro w hSw; (try dsimp only at hSw); go_simp; (try with_reducible rfl))
                      try simp only [Act.put, List.setIfInBounds_toArray, List.set_cons_zero, List.set_cons_succ]
                      refine wpAnyH_put (i := 6) (v := ?at7) (some 119) rfl rfl (by kernel_rfl) (by kernel_rfl) (by kernel_rfl) (fun _ _ _ h => h) (Or.inl ⟨by kernel_rfl, ?hat7⟩) (by assumption) ?rat7
                      case hat7 => (intro w hSw; (try dsimp only at hSw); go_simp; (try with_reducible rfl))
                      try simp only [Act.put, List.setIfInBounds_toArray, List.set_cons_zero, List.set_cons_succ]
                      refine wpAnyH_put (i := 7) (v := ?at8) (some 120) rfl rfl (by kernel_rfl) (by kernel_rfl) (by kernel_rfl) (fun _ _ _ h => h) (Or.inl ⟨by kernel_rfl, ?hat8⟩) (by assumption) ?rat8
                      case hat8 => (intro w hSw; (try dsimp only at hSw); go_simp; (try with_reducible rfl))
                      try simp only [Act.put, List.setIfInBounds_toArray, List.set_cons_zero, List.set_cons_succ]
                      refine wpAnyH_put (i := 8) (v := ?at9) (some 121) rfl rfl (by kernel_rfl) (by kernel_rfl) (by kernel_rfl) (fun _ _ _ h => h) (Or.inl ⟨by kernel_rfl, ?hat9⟩) (by assumption) ?rat9
                      case hat9 => (intro w hSw; (try dsimp only at hSw); go_simp; (try with_reducible rfl))
                      try simp only [Act.put, List.setIfInBounds_toArray, List.set_cons_zero, List.set_cons_succ]
                      refine wpAnyH_put (i := 9) (v := ?at10) (some 122) rfl rfl (by kernel_rfl) (by kernel_rfl) (by kernel_rfl) (fun _ _ _ h => h) (Or.inl ⟨by kernel_rfl, ?hat10⟩) (by assumption) ?rat10
                      case hat10 => (intro w hSw; (try dsimp only at hSw); go_simp; (try with_reducible rfl))
                      try simp only [Act.put, List.setIfInBounds_toArray, List.set_cons_zero, List.set_cons_succ]
                      refine wpAnyH_put (i := 10) (v := ?at11) (some 123) rfl rfl (by kernel_rfl) (by kernel_rfl) (by kernel_rfl) (fun _ _ _ h => h) (Or.inl ⟨by kernel_rfl, ?hat11⟩) (by assumption) ?rat11
                      case hat11 => (intro w hSw; (try dsimp only at hSw); go_simp; (try with_reducible rfl))
                      try simp only [Act.put, List.setIfInBounds_toArray, List.set_cons_zero, List.set_cons_succ]
                      refine wpAnyH_put (i := 11) (v := ?at12) (some 124) rfl rfl (by kernel_rfl) (by kernel_rfl) (by kernel_rfl) (fun _ _ _ h => h) (Or.inl ⟨by kernel_rfl, ?hat12⟩) (by assumption) ?rat12
                      case hat12 => (intro w hSw; (try dsimp only at hSw); go_simp; (try with_reducible rfl))
                      try simp only [Act.put, List.setIfInBounds_toArray, List.set_cons_zero, List.set_cons_succ]
                      refine wpAnyH_put (i := 12) (v := ?at13) (some 125) rfl rfl (by kernel_rfl) (by kernel_rfl) (by kernel_rfl) (fun _ _ _ h => h) (Or.inl ⟨by kernel_rfl, ?hat13⟩) (by assumption) ?rat13
                      case hat13 => (intro w hSw; (try dsimp only at hSw); go_simp; (try with_reducible rfl))
                      try simp only [Act.put, List.setIfInBounds_toArray, List.set_cons_zero, List.set_cons_succ]
                      refine wpAnyH_put (i := 13) (v := ?at14) (some 126) rfl rfl (by kernel_rfl) (by kernel_rfl) (by kernel_rfl) (fun _ _ _ h => h) (Or.inl ⟨by kernel_rfl, ?hat14⟩) (by assumption) ?rat14
                      case hat14 => (intro w hSw; (try dsimp only at hSw); go_simp; (try with_reducible rfl))
                      try simp only [Act.put, List.setIfInBounds_toArray, List.set_cons_zero, List.set_cons_succ]
                      refine wpAnyH_put (i := 14) (v := ?at15) (some 127) rfl rfl (by kernel_rfl) (by kernel_rfl) (by kernel_rfl) (fun _ _ _ h => h) (Or.inl ⟨by kernel_rfl, ?hat15⟩) (by assumption) ?rat15
                      case hat15 => (intro w hSw; (try dsimp only at hSw); go_simp; (try with_reducible rfl))
                      try simp only [Act.put, List.setIfInBounds_toArray, List.set_cons_zero, List.set_cons_succ]
                      refine wpAnyH_put (i := 15) (v := ?at16) (some 128) rfl rfl (by kernel_rfl) (by kernel_rfl) (by kernel_rfl) (fun _ _ _ h => h) (Or.inl ⟨by kernel_rfl, ?hat16⟩) (by assumption) ?rat16
                      case hat16 => (intro w hSw; (try dsimp only at hSw); go_simp; (try with_reducible rfl))
                      try simp only [Act.put, List.setIfInBounds_toArray, List.set_cons_zero, List.set_cons_succ]
                      refine wpAnyH_ready (rs := [16]) (by kernel_rfl) (by simp) ?_
                      refine (allReady_put (some 129) rfl rfl (fun K hK => ?_) AllReadyH.nil)
                      go_simp
                      (with_reducible refine (HAPT.out _ (tab64_below HTY.out atb0.out)).mono ?_)
                      rintro e xat17 ⟨rfl, dat17⟩
                      have Bat17 := Lib.hid (atb0.out.trans (dat17.mono atb0.out.size))
                      clear dat17
                      refine hK.out _ _ (by exact ⟨Bat17.out, (Below.cell (Bat17.out) (p := ⟨b, o + t * 4 + 1, none⟩) hbyl).trans F1.out, (Below.cell (Bat17.out) (p := ⟨b, o + t * 4 + 2, none⟩) hbyl).trans F2.out, (Below.cell (Bat17.out) (p := ⟨b, o + t * 4 + 3, none⟩) hbyl).trans F3.out, (Below.cell (Bat17.out) (p := ⟨b, o + q * 4 + 2, none⟩) hbyl).trans E2.out, (Below.cell (Bat17.out) (p := ⟨b, o + q * 4 + 3, none⟩) hbyl).trans E3.out⟩) (fun hHeld => ?_)
                      clear hK K
                      try simp only [Act.put, List.setIfInBounds_toArray, List.set_cons_zero, List.set_cons_succ]
                      refine wpAnyH_put (i := 17) (v := ?at18) (some 130) rfl rfl (by kernel_rfl) (by kernel_rfl) (by kernel_rfl) (fun _ _ _ h => h) (Or.inl ⟨by kernel_rfl, ?hat18⟩) (by assumption) ?rat18
                      case hat18 => (intro w hSw; (try dsimp only at hSw); go_simp; (try with_reducible rfl))
                      try simp only [Act.put, List.setIfInBounds_toArray, List.set_cons_zero, List.set_cons_succ]
                      refine wpAnyH_put (i := 18) (v := ?at19) (some 131) rfl rfl (by kernel_rfl) (by kernel_rfl) (by kernel_rfl) (fun _ _ _ h => h) (Or.inl ⟨by kernel_rfl, ?hat19⟩) (by assumption) ?rat19
                      case hat19 => (intro w hSw; (try dsimp only at hSw); go_simp; (try with_reducible rfl))
                      try simp only [Act.put, List.setIfInBounds_toArray, List.set_cons_zero, List.set_cons_succ]
                      refine wpAnyH_done (by kernel_rfl) ?_ _
                      have hbw6 : Below wy.heap.size wy xat17 := Bat17.out

                      go_wp2
                      go_roundw
                      case rel => exact ⟨t + 1, by omega, by go_num, HBY.out.trans (hbw6.mono sy)⟩
                      case measure => simp [intOf]; omega
                    · have hot' : (nthR rs t).o.isSome = false := by simpa using hot
                      rw [hot'] at f1
                      have F1 := Lib.hid f1
                      clear hot hot' f1 f2 f3 e2 e3
                      go_upto_region 32 with fail
                      refine wp_region_held_drew (S := fun x => x.cell? ⟨b, o + t * 4 + 1, none⟩ = some (.bool false)) (by kernel_rfl) (by exact F1.out) (fun hHeld => ?_)
                      refine wpAnyH_put (i := 0) (v := ?af1) (some 113) rfl rfl (by kernel_rfl) (by kernel_rfl) (by kernel_rfl) (fun _ _ _ h => h) (Or.inl ⟨by kernel_rfl, ?haf1⟩) (by assumption) ?raf1
                      case haf1 => (intro w hSw; (try dsimp only at hSw); go_simp; (try with_reducible rfl))
                      try simp only [Act.put, List.setIfInBounds_toArray, List.set_cons_zero, List.set_cons_succ]
                      refine wpAnyH_put (i := 1) (v := ?af2) (some 114) rfl rfl (by kernel_rfl) (by kernel_rfl) (by kernel_rfl) (fun _ _ _ h => h) (Or.inl ⟨by kernel_rfl, ?haf2⟩) (by assumption) ?raf2
                      case haf2 => (intro w hSw; (try dsimp only at hSw); go_simp; (try with_reducible rfl))
                      try simp only [Act.put, List.setIfInBounds_toArray, List.set_cons_zero, List.set_cons_succ]
                      refine wpAnyH_put (i := 2) (v := ?af3) (some 115) rfl rfl (by kernel_rfl) (by kernel_rfl) (by kernel_rfl) (fun _ _ _ h => h) (Or.inl ⟨by kernel_rfl, ?haf3⟩) (by assumption) ?raf3
                      case haf3 => (intro w hSw; (try dsimp only at hSw); go_simp; (try with_reducible rfl))
                      try simp only [Act.put, List.setIfInBounds_toArray, List.set_cons_zero, List.set_cons_succ]
                      refine wpAnyH_put (i := 3) (v := ?af4) (some 116) rfl rfl (by kernel_rfl) (by kernel_rfl) (by kernel_rfl) (fun _ _ _ h => h) (Or.inl ⟨by kernel_rfl, ?haf4⟩) (by assumption) ?raf4
                      case haf4 => (intro w hSw; (try dsimp only at hSw); go_simp; (try with_reducible rfl))
                      try simp only [Act.put, List.setIfInBounds_toArray, List.set_cons_zero, List.set_cons_succ]
                      refine wpAnyH_put (i := 4) (v := ?af5) (some 117) rfl rfl (by kernel_rfl) (by kernel_rfl) (by kernel_rfl) (fun _ _ _ h => h) (Or.inl ⟨by kernel_rfl, ?haf5⟩) (by assumption) ?raf5
                      case haf5 => (intro w hSw; (try dsimp only at hSw); go_simp; (try with_reducible rfl))
                      try simp only [Act.put, List.setIfInBounds_toArray, List.set_cons_zero, List.set_cons_succ]
                      refine wpAnyH_put (i := 5) (v := ?af6) (some 118) rfl rfl (by kernel_rfl) (by kernel_rfl) (by kernel_rfl) (fun _ _ _ h => h) (Or.inl ⟨by kernel_rfl, ?haf6⟩) (by assumption) ?raf6
                      case haf6 => (intro w hSw; (try dsimp only at hSw); go_simp; (try with_reducible rfl))
                      try simp only [Act.put, List.setIfInBounds_toArray, List.set_cons_zero, List.set_cons_succ]
                      refine wpAnyH_put (i := 6) (v := undef) (some 119) rfl rfl (by kernel_rfl) (by kernel_rfl) (by kernel_rfl) (fun _ _ _ h => h) (.inr ⟨by kernel_rfl, rfl⟩) (by assumption) ?_
                      try simp only [Act.put, List.setIfInBounds_toArray, List.set_cons_zero, List.set_cons_succ]
                      refine wpAnyH_put (i := 7) (v := undef) (some 120) rfl rfl (by kernel_rfl) (by kernel_rfl) (by kernel_rfl) (fun _ _ _ h => h) (.inr ⟨by kernel_rfl, rfl⟩) (by assumption) ?_
                      try simp only [Act.put, List.setIfInBounds_toArray, List.set_cons_zero, List.set_cons_succ]
                      refine wpAnyH_put (i := 8) (v := undef) (some 121) rfl rfl (by kernel_rfl) (by kernel_rfl) (by kernel_rfl) (fun _ _ _ h => h) (.inr ⟨by kernel_rfl, rfl⟩) (by assumption) ?_
                      try simp only [Act.put, List.setIfInBounds_toArray, List.set_cons_zero, List.set_cons_succ]
                      refine wpAnyH_put (i := 9) (v := undef) (some 122) rfl rfl (by kernel_rfl) (by kernel_rfl) (by kernel_rfl) (fun _ _ _ h => h) (.inr ⟨by kernel_rfl, rfl⟩) (by assumption) ?_
                      try simp only [Act.put, List.setIfInBounds_toArray, List.set_cons_zero, List.set_cons_succ]
                      refine wpAnyH_put (i := 10) (v := undef) (some 123) rfl rfl (by kernel_rfl) (by kernel_rfl) (by kernel_rfl) (fun _ _ _ h => h) (.inr ⟨by kernel_rfl, rfl⟩) (by assumption) ?_
                      try simp only [Act.put, List.setIfInBounds_toArray, List.set_cons_zero, List.set_cons_succ]
                      refine wpAnyH_put (i := 11) (v := undef) (some 124) rfl rfl (by kernel_rfl) (by kernel_rfl) (by kernel_rfl) (fun _ _ _ h => h) (.inr ⟨by kernel_rfl, rfl⟩) (by assumption) ?_
                      try simp only [Act.put, List.setIfInBounds_toArray, List.set_cons_zero, List.set_cons_succ]
                      refine wpAnyH_put (i := 12) (v := undef) (some 125) rfl rfl (by kernel_rfl) (by kernel_rfl) (by kernel_rfl) (fun _ _ _ h => h) (.inr ⟨by kernel_rfl, rfl⟩) (by assumption) ?_
                      try simp only [Act.put, List.setIfInBounds_toArray, List.set_cons_zero, List.set_cons_succ]
                      refine wpAnyH_put (i := 13) (v := undef) (some 126) rfl rfl (by kernel_rfl) (by kernel_rfl) (by kernel_rfl) (fun _ _ _ h => h) (.inr ⟨by kernel_rfl, rfl⟩) (by assumption) ?_
                      try simp only [Act.put, List.setIfInBounds_toArray, List.set_cons_zero, List.set_cons_succ]
                      refine wpAnyH_put (i := 14) (v := undef) (some 127) rfl rfl (by kernel_rfl) (by kernel_rfl) (by kernel_rfl) (fun _ _ _ h => h) (.inr ⟨by kernel_rfl, rfl⟩) (by assumption) ?_
                      try simp only [Act.put, List.setIfInBounds_toArray, List.set_cons_zero, List.set_cons_succ]
                      refine wpAnyH_put (i := 15) (v := undef) (some 128) rfl rfl (by kernel_rfl) (by kernel_rfl) (by kernel_rfl) (fun _ _ _ h => h) (.inr ⟨by kernel_rfl, rfl⟩) (by assumption) ?_
                      try simp only [Act.put, List.setIfInBounds_toArray, List.set_cons_zero, List.set_cons_succ]
                      refine wpAnyH_put (i := 16) (v := undef) (some 129) rfl rfl (by kernel_rfl) (by kernel_rfl) (by kernel_rfl) (fun _ _ _ h => h) (.inr ⟨by kernel_rfl, rfl⟩) (by assumption) ?_
                      try simp only [Act.put, List.setIfInBounds_toArray, List.set_cons_zero, List.set_cons_succ]
                      refine wpAnyH_put (i := 17) (v := undef) (some 130) rfl rfl (by kernel_rfl) (by kernel_rfl) (by kernel_rfl) (fun _ _ _ h => h) (.inr ⟨by kernel_rfl, rfl⟩) (by assumption) ?_
                      try simp only [Act.put, List.setIfInBounds_toArray, List.set_cons_zero, List.set_cons_succ]
                      refine wpAnyH_put (i := 18) (v := ?af19) (some 131) rfl rfl (by kernel_rfl) (by kernel_rfl) (by kernel_rfl) (fun _ _ _ h => h) (Or.inl ⟨by kernel_rfl, ?haf19⟩) (by assumption) ?raf19
                      case haf19 => (intro w hSw; (try dsimp only at hSw); go_simp; (try with_reducible rfl))
                      try simp only [Act.put, List.setIfInBounds_toArray, List.set_cons_zero, List.set_cons_succ]
                      refine wpAnyH_done (by kernel_rfl) ?_ _

                      go_wp2
                      go_roundw
                      case rel => exact ⟨t + 1, by omega, by go_num, HBY.out.drew⟩
                      case measure => simp [intOf]; omega
                  · obtain rfl : t = q := by omega
                    have HOE := Lib.hid (own_below HO8.out HBY.out)
                    clear e2 e3
                    go_wp2
                    go_roundw
                    case rel => exact ⟨t + 1, _, hs ++ M.filter (hold (rB (nthR rs t))), rfl, by omega, by go_num, by rw [HTB.out]; go_num, HSO.out, by rw [HXM.out]; exact HOE.out, HB3Y.out⟩
                    case measure => simp [intOf]; omega
          · have ho' : (nthR rs q).o.isSome = false := by simpa using ho
            have hrb : rB (nthR rs q) = (0, 0, 0) := by
              unfold rB
              rw [show (nthR rs q).o = none by simpa using ho]
            have hc1 : wr.cell? ⟨b, o + q * 4 + 1, none⟩ = some (.bool false) := by rw [HBR.out.cell (p := ⟨b, o + q * 4 + 1, none⟩) hb, CC1.out, ho']
            have hc2 : wr.cell? ⟨b, o + q * 4 + 2, none⟩ = some (.complex .f64 0 0) := by rw [HBR.out.cell (p := ⟨b, o + q * 4 + 2, none⟩) hb, CC2.out, hrb]
            have hc3 : wr.cell? ⟨b, o + q * 4 + 3, none⟩ = some (.float .f64 0) := by rw [HBR.out.cell (p := ⟨b, o + q * 4 + 3, none⟩) hb, CC3.out, hrb]
            have hne := ball_ne0
            have HNX := Lib.hid (HH.out.none hqr ho')
            have HTN := Lib.hid (tB_none hqr (by simpa using ho'))
            clear ho ho' hrb
            go_wp2
            go_roundw
            case rel => exact ⟨q + 1, v9, hs, rfl, by omega, by go_num, by rw [HTN.out], HNX.out, HOH.out, HBR.out⟩
            case measure => simp [intOf]; omega
        · obtain rfl : q = m := by omega
          have hlv := fun w => lives_any w
          have HLV := Lib.hid hlv
          have HTA := Lib.hid (show (tB rs q).length = (toldB rs).length by rw [← HRL.out, tB_all])
          clear hlv
          by_cases hta : (toldB rs).length = q
          · have e1 : (tB rs q).length = q := by rw [HTA.out, hta]
            rw [hta, e1]
            rw [decide_eq_true (rfl : q = q)]
            go_wp2_with (go_at_call 24; (with_reducible refine (HLV.out _).mono ?_); rintro e w5 ⟨rfl, hb5⟩; have HB5 := Lib.hid hb5; clear hb5)
            go_ret
            exact ⟨rfl, HB1.out.trans ((HB3.out.trans ((HBR.out.trans (HB5.out.mono sr)).mono s3)).mono HB1.out.size)⟩
          · have e1 : ((((tB rs q).length : Nat) : Int) == (q : Int)) = false := by
              rw [HTA.out, beq_eq_false_iff_ne]; omega
            rw [decide_eq_false hta]
            have E1 := Lib.hid e1
            go_wp2_with (go_at_call 24; (with_reducible refine (HLV.out _).mono ?_); rintro e w5 ⟨rfl, hb5⟩; have HB5 := Lib.hid hb5; clear hb5)
            go_ret
            exact ⟨rfl, HB1.out.trans ((HB3.out.trans ((HBR.out.trans (HB5.out.mono sr)).mono s3)).mono HB1.out.size)⟩
end Go.Proofs.YtbgjcpnbdgljbaaGreatDoor
