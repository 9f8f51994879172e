/- Exact numbers over a power of two: n / 2^e as a dyad; the contracts of package gauss there. -/
import Derived.Test.YtbgjcpnbdgljbaaGreatDoorMGwh
import Derived.Test.YtbgjcpnbdgljbaaGreatDoorMRat
import Derived.Test.YtbgjcpnbdgljbaaGreatDoorMVpl
import Derived.Test.YtbgjcpnbdgljbaaGreatDoorMExa
import Derived.Laws.OwnMore
import Derived.Deep.RegionHeld3
namespace Go.Proofs.YtbgjcpnbdgljbaaGreatDoor
open Go.RowKit Go.Fil Go.Shelf

def sd (n : Int) (e : Nat) : Dya := mkD n (-(e : Int))
theorem sd_zero (e : Nat) : sd 0 e = ⟨0, 0⟩ := mkD_zero _
theorem sd_e (n : Int) (e : Nat) : -(e : Int) ≤ (sd n e).e ∧ (sd n e).e ≤ bl n.natAbs := by
  unfold sd
  by_cases h : n = 0
  · subst h; rw [mkD_zero]; exact ⟨by show -(e : Int) ≤ 0; omega, by decide⟩
  · rw [mkD_e h]
    have := tz_bl n.natAbs
    omega
theorem sd_fit {n : Int} {e : Nat} (h : bl n.natAbs ≤ 1000) (he : e ≤ 1000) : fitD (sd n e) := fit_mk h (by decide) (by omega) (by omega)
theorem sd_ok {n : Int} {e : Nat} (h : bl n.natAbs ≤ 1000) (he : e ≤ 1000) : okD (sd n e) := okD_mk (sd_fit h he)
theorem sd_neg (n : Int) (e : Nat) : negD (sd n e) = sd (-n) e := negD_mk n _
theorem sd_mul (a b : Int) (e f : Nat) : mulD (sd a e) (sd b f) = sd (a * b) (e + f) := by
  unfold sd; rw [mulD_mk]
  congr 1; omega
theorem sd_add (a b : Int) (e : Nat) : addD (sd a e) (sd b e) = sd (a + b) e := by unfold sd; rw [addD_mk]
theorem sd_addfit {a b : Int} {k e : Nat} (hk : k ≤ 900) (he : e ≤ 1000) (ha : bl a.natAbs ≤ k) (hb : bl b.natAbs ≤ k) : AddFit (sd a e) (sd b e) := by
  have h1 := sd_e a e
  have h2 := sd_e b e
  have h3 := bl_sum ha hb
  refine ⟨by omega, ?_⟩
  rw [sd_add]
  exact sd_fit (by omega) he
/-- What a function that makes an exact number over 2^e answers. -/
def RS (z : Zi) (e : Nat) (w : World) (en : Ending) (w' : World) : Prop := RGv (sd z.re e) (sd z.im e) w en w'
section
variable (y z : Zi) (hy : Zb 400 y) (hz : Zb 400 z) (e f : Nat) (he : e ≤ 400) (hf : f ≤ 400) (w : World) (hT : Tab w)
include hy he
theorem gs_check : Calls Tryz.prog 35 #[.agg #[.bool (dn (sd y.re e)), .string (ds (sd y.re e)), .int .i64 (sd y.re e).e, .bool (dn (sd y.im e)), .string (ds (sd y.im e)), .int .i64 (sd y.im e).e]] w fun e w' => e = .returned (.int .i64 0) ∧ Below w.heap.size w w' :=
  gcheck_any _ _ (sd_ok (by have := hy.1; omega) (by omega)) (sd_ok (by have := hy.2; omega) (by omega)) w
include hz hT
theorem gs_add : Calls Tryz.prog 13 #[.agg #[.bool (dn (sd y.re e)), .string (ds (sd y.re e)), .int .i64 (sd y.re e).e, .bool (dn (sd y.im e)), .string (ds (sd y.im e)), .int .i64 (sd y.im e).e], .agg #[.bool (dn (sd z.re e)), .string (ds (sd z.re e)), .int .i64 (sd z.re e).e, .bool (dn (sd z.im e)), .string (ds (sd z.im e)), .int .i64 (sd z.im e).e]] w (RS (zadd y z) e w) := by
  have h := gadd_any (sd y.re e) (sd y.im e) (sd z.re e) (sd z.im e) (sd_ok (by have := hy.1; omega) (by omega)) (sd_ok (by have := hy.2; omega) (by omega)) (sd_ok (by have := hz.1; omega) (by omega)) (sd_ok (by have := hz.2; omega) (by omega)) (sd_addfit (by decide) (by omega) hy.1 hz.1) (sd_addfit (by decide) (by omega) hy.2 hz.2) w hT
  rw [sd_add, sd_add] at h
  exact h
include hf
theorem gs_mul : Calls Tryz.prog 16 #[.agg #[.bool (dn (sd y.re e)), .string (ds (sd y.re e)), .int .i64 (sd y.re e).e, .bool (dn (sd y.im e)), .string (ds (sd y.im e)), .int .i64 (sd y.im e).e], .agg #[.bool (dn (sd z.re f)), .string (ds (sd z.re f)), .int .i64 (sd z.re f).e, .bool (dn (sd z.im f)), .string (ds (sd z.im f)), .int .i64 (sd z.im f).e]] w (RS (zmul y z) (e + f) w) := by
  have p1 := bl_prod hy.1 hz.1
  have p2 := bl_prod hy.2 hz.2
  have p3 := bl_prod hy.1 hz.2
  have p4 := bl_prod hy.2 hz.1
  have p5 : bl (-(y.im * z.im)).natAbs ≤ 400 + 400 := by rw [Int.natAbs_neg]; exact p2
  have h := gmul_any (sd y.re e) (sd y.im e) (sd z.re f) (sd z.im f) (sd_ok (by have := hy.1; omega) (by omega)) (sd_ok (by have := hy.2; omega) (by omega)) (sd_ok (by have := hz.1; omega) (by omega)) (sd_ok (by have := hz.2; omega) (by omega))
    (by rw [sd_mul]; exact sd_fit (by omega) (by omega)) (by rw [sd_mul]; exact sd_fit (by omega) (by omega)) (by rw [sd_mul, sd_mul, sd_neg]; exact sd_addfit (by decide) (by omega) p1 p5)
    (by rw [sd_mul]; exact sd_fit (by omega) (by omega)) (by rw [sd_mul]; exact sd_fit (by omega) (by omega)) (by rw [sd_mul, sd_mul]; exact sd_addfit (by decide) (by omega) p3 p4) w hT
  rw [sd_mul, sd_mul, sd_mul, sd_mul, sd_neg, sd_add, sd_add, ← Int.sub_eq_add_neg] at h
  exact h
end
end Go.Proofs.YtbgjcpnbdgljbaaGreatDoor

/- Lists of exact numbers in memory. -/
namespace Go.Proofs.YtbgjcpnbdgljbaaGreatDoor
open Go.RowKit Go.Fil Go.Shelf

def ecells (g : Gs) : List Value := [.bool (dn g.1), .string (ds g.1), .int .i64 g.1.e, .bool (dn g.2), .string (ds g.2), .int .i64 g.2.e]
def ecs (l : List Gs) : List Value := l.flatMap ecells
def eg (l : List Gs) (k : Nat) : Gs := l.getD k (⟨0, 0⟩, ⟨0, 0⟩)
theorem eg_eq {l : List Gs} {k : Nat} (hk : k < l.length) : eg l k = l[k] := by
  unfold eg; rw [List.getD_eq_getElem?_getD, List.getElem?_eq_getElem hk]; rfl
theorem ecs_cons (g : Gs) (l : List Gs) : ecs (g :: l) = .bool (dn g.1) :: .string (ds g.1) :: .int .i64 g.1.e :: .bool (dn g.2) :: .string (ds g.2) :: .int .i64 g.2.e :: ecs l := rfl
theorem ecs_append (l m : List Gs) : ecs (l ++ m) = ecs l ++ ecs m := by simp [ecs]
theorem ecs_length (l : List Gs) : (ecs l).length = l.length * 6 := by
  induction l with
  | nil => rfl
  | cons b l ih => rw [ecs_cons]; simp [ih]; omega
theorem ecs_at {l : List Gs} {k : Nat} (hk : k < l.length) {j : Nat} (hj : j < 6) : (ecs l)[k * 6 + j]? = (ecells (eg l k))[j]? := by
  induction l generalizing k with
  | nil => simp at hk
  | cons b l ih =>
    have hc : ecs (b :: l) = ecells b ++ ecs l := rfl
    have hg : (ecells b).length = 6 := rfl
    rw [hc]
    cases k with
    | zero =>
      rw [List.getElem?_append_left (by omega)]
      simp only [Nat.zero_mul, Nat.zero_add]; rfl
    | succ k =>
      have h := ih (k := k) (by simpa using hk)
      have e : eg (b :: l) (k + 1) = eg l k := rfl
      rw [List.getElem?_append_right (by omega), hg, e, show (k + 1) * 6 + j - 6 = k * 6 + j by omega]
      exact h
/-- A number's cells at a place. -/
structure EAt (w : World) (b o : Nat) (g : Gs) : Prop where
  c0 : w.cell? ⟨b, o, none⟩ = some (.bool (dn g.1))
  c1 : w.cell? ⟨b, o + 1, none⟩ = some (.string (ds g.1))
  c2 : w.cell? ⟨b, o + 2, none⟩ = some (.int .i64 g.1.e)
  c3 : w.cell? ⟨b, o + 3, none⟩ = some (.bool (dn g.2))
  c4 : w.cell? ⟨b, o + 4, none⟩ = some (.string (ds g.2))
  c5 : w.cell? ⟨b, o + 5, none⟩ = some (.int .i64 g.2.e)
theorem EAt.below {w w' : World} {b o B : Nat} {g : Gs} (h : EAt w b o g) (hb : Below B w w') (hg : b < B) : EAt w' b o g :=
  ⟨(hb.cell (p := ⟨b, o, none⟩) hg).trans h.c0, (hb.cell (p := ⟨b, o + 1, none⟩) hg).trans h.c1, (hb.cell (p := ⟨b, o + 2, none⟩) hg).trans h.c2, (hb.cell (p := ⟨b, o + 3, none⟩) hg).trans h.c3, (hb.cell (p := ⟨b, o + 4, none⟩) hg).trans h.c4, (hb.cell (p := ⟨b, o + 5, none⟩) hg).trans h.c5⟩
theorem Seq.eat {w : World} {B : Nat} {A : Option Addr} {l : List Gs} (h : Seq w B A (ecs l)) {k : Nat} (hk : k < l.length) :
    ∃ b o, A = some ⟨b, o, none⟩ ∧ b < B ∧ EAt w b (o + k * 6) (eg l k) := by
  have hz : ∀ j, j < 6 → (ecs l)[k * 6 + j]? = (ecells (eg l k))[j]? := fun j hj => ecs_at hk hj
  rcases h with h | ⟨b, o, hA, hb, hc⟩
  · have := hz 0 (by decide)
    rw [h] at this; simp [ecells] at this
  · refine ⟨b, o, hA, hb, ?_, ?_, ?_, ?_, ?_, ?_⟩
    · exact hc (k * 6) _ (hz 0 (by decide))
    · exact hc (k * 6 + 1) _ (hz 1 (by decide))
    · exact hc (k * 6 + 2) _ (hz 2 (by decide))
    · exact hc (k * 6 + 3) _ (hz 3 (by decide))
    · exact hc (k * 6 + 4) _ (hz 4 (by decide))
    · exact hc (k * 6 + 5) _ (hz 5 (by decide))
theorem Seq.ecell {w : World} {B b o : Nat} {l : List Gs} (h : Seq w B (some ⟨b, o, none⟩) (ecs l)) {k : Nat} (hk : k < l.length) : b < B ∧ EAt w b (o + k * 6) (eg l k) := by
  obtain ⟨b', o', hA, hb, hc⟩ := h.eat hk
  injection hA with hA
  injection hA with h1 h2
  subst h1; subst h2
  exact ⟨hb, hc⟩
/-- A number is written over six cells. -/
def setE (w : World) (b o : Nat) (g : Gs) : World := (((((w.setCell ⟨b, o, none⟩ (.bool (dn g.1))).setCell ⟨b, o + 1, none⟩ (.string (ds g.1))).setCell ⟨b, o + 2, none⟩ (.int .i64 g.1.e)).setCell ⟨b, o + 3, none⟩ (.bool (dn g.2))).setCell ⟨b, o + 4, none⟩ (.string (ds g.2))).setCell ⟨b, o + 5, none⟩ (.int .i64 g.2.e)
theorem ecs_set (l : List Gs) (k : Nat) (g : Gs) : ((((((ecs l).set (k * 6) (.bool (dn g.1))).set (k * 6 + 1) (.string (ds g.1))).set (k * 6 + 2) (.int .i64 g.1.e)).set (k * 6 + 3) (.bool (dn g.2))).set (k * 6 + 4) (.string (ds g.2))).set (k * 6 + 5) (.int .i64 g.2.e) = ecs (l.set k g) := by
  induction l generalizing k with
  | nil => rfl
  | cons b l ih =>
    cases k with
    | zero => rfl
    | succ k =>
      have h := ih k
      rw [List.set_cons_succ, ecs_cons, ecs_cons, ← h, show (k + 1) * 6 = k * 6 + 6 by omega]
      rfl
theorem own_setE {w : World} {base e g n cap : Nat} {l : List Gs} (h : w.ownsRow base e 6 (.slice (some ⟨g, 0, none⟩) n cap) n (ecs l)) (k : Nat) (x : Gs) : (setE w g (k * 6) x).ownsRow base e 6 (.slice (some ⟨g, 0, none⟩) n cap) n (ecs (l.set k x)) := by
  rw [← ecs_set]
  exact ((((((h.stored (k * 6) _).1.stored (k * 6 + 1) _).1.stored (k * 6 + 2) _).1.stored (k * 6 + 3) _).1.stored (k * 6 + 4) _).1.stored (k * 6 + 5) _).1
theorem below_setE {B : Nat} {w w' : World} {G : Nat} (h : Below B w w') (hG : B ≤ G) (o : Nat) (z : Gs) : Below B w (setE w' G o z) :=
  (((((h.setCell hG _).setCell hG _).setCell hG _).setCell hG _).setCell hG _).setCell hG _
/-- The exact numbers of a list of whole ones: the one at k over 16^(n - k). -/
def sgs : List Zi → List Gs
  | [] => []
  | c :: p => (sd c.re (4 * p.length), sd c.im (4 * p.length)) :: sgs p
theorem sgs_length (p : List Zi) : (sgs p).length = p.length := by
  induction p with
  | nil => rfl
  | cons c p ih => simp [sgs, ih]
theorem sgs_at (p : List Zi) {k : Nat} (hk : k < p.length) : eg (sgs p) k = (sd (nthZ p k).re (4 * (p.length - 1 - k)), sd (nthZ p k).im (4 * (p.length - 1 - k))) := by
  induction p generalizing k with
  | nil => simp at hk
  | cons c p ih =>
    cases k with
    | zero => rfl
    | succ k =>
      show eg (sgs p) k = _
      rw [ih (by simpa using hk), show (c :: p).length - 1 - (k + 1) = p.length - 1 - k by simp; omega]
      rfl
end Go.Proofs.YtbgjcpnbdgljbaaGreatDoor

/- The contract of gauss.Neg. -/
namespace Go.Proofs.YtbgjcpnbdgljbaaGreatDoor
open Go.RowKit Go.Fil Go.Shelf

set_option maxRecDepth 100000 in
set_option maxHeartbeats 3200000 in
theorem gneg_any (a b : Dya) (ha : okD a) (hb : okD b) (w : World) :
    Calls Tryz.prog 54 #[.agg #[.bool (dn a), .string (ds a), .int .i64 a.e, .bool (dn b), .string (ds b), .int .i64 b.e]] w fun e w' => e = .returned (.agg #[.bool (dn (negD a)), .string (ds (negD a)), .int .i64 (negD a).e, .bool (dn (negD b)), .string (ds (negD b)), .int .i64 (negD b).e]) ∧ Below w.heap.size w w' := by
  have HC := Lib.hid (gcheck_any a b ha hb)
  have HNA := Lib.hid (dnegV a ha)
  have HNB := Lib.hid (dnegV b hb)
  clear ha hb
  generalize dn a = na at *
  generalize ds a = sa at *
  generalize a.e = xa at *
  generalize dn b = nb at *
  generalize ds b = sb at *
  generalize b.e = xb at *
  generalize dn (negD a) = nc at *
  generalize ds (negD a) = sc at *
  generalize (negD a).e = xc at *
  generalize dn (negD b) = nd at *
  generalize ds (negD b) = sd at *
  generalize (negD b).e = xd at *
  go_enter Tryz.func54, Tryz.ntmps54
  go_wp2_with (go_at_call 35; refine (HC.out _).mono ?_; rintro e w1 ⟨rfl, hb⟩; obtain ⟨hc, hf⟩ := bcell hb; (try simp only [World.heap_drewN, World.cell?_drewN, World.frozen?_drewN] at hc hf); have z0 : w.heap.size < w1.heap.size := (by have := hb.size; (try simp at this); omega); have z1 : w.heap.size + 1 < w1.heap.size := (by have := hb.size; (try simp at this); omega))
  have HB1 := Lib.hid (show Below w.heap.size w w1 by repeat (first | exact Below.refl _ _ | refine below_drewN ?_ _ | refine Below.alloc ?_ (by first | omega | (simp; omega) | simp) _ | refine Below.setCell ?_ (by first | omega | (simp; omega) | simp) _ | refine Below.trans ?_ (Below.mono (by assumption) (by first | omega | (simp; omega) | simp)) | apply Below.drew))
  have l0 : w.heap.size < w1.heap.size := by omega
  have l1 : w.heap.size + 1 < w1.heap.size := by omega
  have m0 : w1.cell? ⟨w.heap.size, 0, none⟩ = some (.bool na) := by rw [hc _ _ (by simp <;> omega)] <;> try simp [go_sem]
  have m1 : w1.cell? ⟨w.heap.size, 1, none⟩ = some (.string sa) := by rw [hc _ _ (by simp <;> omega)] <;> try simp [go_sem]
  have m2 : w1.cell? ⟨w.heap.size, 2, none⟩ = some (.int .i64 xa) := by rw [hc _ _ (by simp <;> omega)] <;> try simp [go_sem]
  have m3 : w1.cell? ⟨w.heap.size, 3, none⟩ = some (.bool nb) := by rw [hc _ _ (by simp <;> omega)] <;> try simp [go_sem]
  have m4 : w1.cell? ⟨w.heap.size, 4, none⟩ = some (.string sb) := by rw [hc _ _ (by simp <;> omega)] <;> try simp [go_sem]
  have m5 : w1.cell? ⟨w.heap.size, 5, none⟩ = some (.int .i64 xb) := by rw [hc _ _ (by simp <;> omega)] <;> try simp [go_sem]
  have rc0 : w1.cell? ⟨w.heap.size + 1, 0, none⟩ = some (.bool false) := by rw [hc _ _ (by simp <;> omega)] <;> try simp [go_sem]
  have rf0 : w1.frozen? ⟨w.heap.size + 1, 0, none⟩ = false := by rw [hf _ _ (by simp <;> omega)] <;> try simp [go_sem]
  have rc1 : w1.cell? ⟨w.heap.size + 1, 1, none⟩ = some (.string ⟨#[]⟩) := by rw [hc _ _ (by simp <;> omega)] <;> try simp [go_sem]
  have rf1 : w1.frozen? ⟨w.heap.size + 1, 1, none⟩ = false := by rw [hf _ _ (by simp <;> omega)] <;> try simp [go_sem]
  have rc2 : w1.cell? ⟨w.heap.size + 1, 2, none⟩ = some (.int .i64 0) := by rw [hc _ _ (by simp <;> omega)] <;> try simp [go_sem]
  have rf2 : w1.frozen? ⟨w.heap.size + 1, 2, none⟩ = false := by rw [hf _ _ (by simp <;> omega)] <;> try simp [go_sem]
  have rc3 : w1.cell? ⟨w.heap.size + 1, 3, none⟩ = some (.bool false) := by rw [hc _ _ (by simp <;> omega)] <;> try simp [go_sem]
  have rf3 : w1.frozen? ⟨w.heap.size + 1, 3, none⟩ = false := by rw [hf _ _ (by simp <;> omega)] <;> try simp [go_sem]
  have rc4 : w1.cell? ⟨w.heap.size + 1, 4, none⟩ = some (.string ⟨#[]⟩) := by rw [hc _ _ (by simp <;> omega)] <;> try simp [go_sem]
  have rf4 : w1.frozen? ⟨w.heap.size + 1, 4, none⟩ = false := by rw [hf _ _ (by simp <;> omega)] <;> try simp [go_sem]
  have rc5 : w1.cell? ⟨w.heap.size + 1, 5, none⟩ = some (.int .i64 0) := by rw [hc _ _ (by simp <;> omega)] <;> try simp [go_sem]
  have rf5 : w1.frozen? ⟨w.heap.size + 1, 5, none⟩ = false := by rw [hf _ _ (by simp <;> omega)] <;> try simp [go_sem]
  have j1 : w.heap.size + 1 ≠ w.heap.size := by omega
  clear hc hf hb z0 z1 HC
  go_region_held3 (fun x => x.cell? ⟨w.heap.size, 0, none⟩ = some (.bool na) ∧ x.cell? ⟨w.heap.size, 1, none⟩ = some (.string sa) ∧ x.cell? ⟨w.heap.size, 2, none⟩ = some (.int .i64 xa) ∧ x.cell? ⟨w.heap.size, 3, none⟩ = some (.bool nb) ∧ x.cell? ⟨w.heap.size, 4, none⟩ = some (.string sb) ∧ x.cell? ⟨w.heap.size, 5, none⟩ = some (.int .i64 xb))
    ((refine ⟨?_, ?_, ?_, ?_, ?_, ?_⟩ <;> first | with_reducible assumption | (simp only [World.cell?_drew]; with_reducible assumption) | (rw [cell6 j1]; with_reducible assumption)))
    (first
    | (go_at_call 95; (with_reducible refine (HNA.out _).mono ?_); rintro en w5 ⟨rfl, hb5'⟩; have HB5 := Lib.hid (undrew hb5'); clear hb5'; have q0 := (HB5.out.cell (p := ⟨w.heap.size, 0, none⟩) l0).trans m0; have q1 := (HB5.out.cell (p := ⟨w.heap.size, 1, none⟩) l0).trans m1; have q2 := (HB5.out.cell (p := ⟨w.heap.size, 2, none⟩) l0).trans m2; have q3 := (HB5.out.cell (p := ⟨w.heap.size, 3, none⟩) l0).trans m3; have q4 := (HB5.out.cell (p := ⟨w.heap.size, 4, none⟩) l0).trans m4; have q5 := (HB5.out.cell (p := ⟨w.heap.size, 5, none⟩) l0).trans m5)
    | (go_at_call 95; (with_reducible refine (HNB.out _).mono ?_); rintro en w6 ⟨rfl, hb6⟩; have HB6 := Lib.hid (below_of HB5.out hb6 HB5.out.size); clear hb6; have p0 := (HB6.out.cell (p := ⟨w.heap.size, 0, none⟩) l0).trans m0; have p1 := (HB6.out.cell (p := ⟨w.heap.size, 1, none⟩) l0).trans m1; have p2 := (HB6.out.cell (p := ⟨w.heap.size, 2, none⟩) l0).trans m2; have p3 := (HB6.out.cell (p := ⟨w.heap.size, 3, none⟩) l0).trans m3; have p4 := (HB6.out.cell (p := ⟨w.heap.size, 4, none⟩) l0).trans m4; have p5 := (HB6.out.cell (p := ⟨w.heap.size, 5, none⟩) l0).trans m5; have rc0' := (HB6.out.cell (p := ⟨w.heap.size + 1, 0, none⟩) l1).trans rc0; have rf0' := (HB6.out.frozen (p := ⟨w.heap.size + 1, 0, none⟩) l1).trans rf0; have rc1' := (HB6.out.cell (p := ⟨w.heap.size + 1, 1, none⟩) l1).trans rc1; have rf1' := (HB6.out.frozen (p := ⟨w.heap.size + 1, 1, none⟩) l1).trans rf1; have rc2' := (HB6.out.cell (p := ⟨w.heap.size + 1, 2, none⟩) l1).trans rc2; have rf2' := (HB6.out.frozen (p := ⟨w.heap.size + 1, 2, none⟩) l1).trans rf2; have rc3' := (HB6.out.cell (p := ⟨w.heap.size + 1, 3, none⟩) l1).trans rc3; have rf3' := (HB6.out.frozen (p := ⟨w.heap.size + 1, 3, none⟩) l1).trans rf3; have rc4' := (HB6.out.cell (p := ⟨w.heap.size + 1, 4, none⟩) l1).trans rc4; have rf4' := (HB6.out.frozen (p := ⟨w.heap.size + 1, 4, none⟩) l1).trans rf4; have rc5' := (HB6.out.cell (p := ⟨w.heap.size + 1, 5, none⟩) l1).trans rc5; have rf5' := (HB6.out.frozen (p := ⟨w.heap.size + 1, 5, none⟩) l1).trans rf5))
  go_wp2
  have hbw : Below w.heap.size w w6 := HB1.out.trans (HB6.out.mono HB1.out.size)
  exact bodyPost_ret (v := .agg #[.bool nc, .string sc, .int .i64 xc, .bool nd, .string sd, .int .i64 xd]) (by simp [results, Tryz.results54, go_sem, rc0', rc1', rc2', rc3', rc4', rc5']) rfl ⟨rfl, ((((((hbw.setCell (by show w.heap.size ≤ w.heap.size + 1; omega) _).setCell (by show w.heap.size ≤ w.heap.size + 1; omega) _).setCell (by show w.heap.size ≤ w.heap.size + 1; omega) _).setCell (by show w.heap.size ≤ w.heap.size + 1; omega) _).setCell (by show w.heap.size ≤ w.heap.size + 1; omega) _).setCell (by show w.heap.size ≤ w.heap.size + 1; omega) _)⟩
theorem gs_neg (y : Zi) (hy : Zb 400 y) (e : Nat) (he : e ≤ 400) (w : World) : Calls Tryz.prog 54 #[.agg #[.bool (dn (sd y.re e)), .string (ds (sd y.re e)), .int .i64 (sd y.re e).e, .bool (dn (sd y.im e)), .string (ds (sd y.im e)), .int .i64 (sd y.im e).e]] w fun en w' => en = .returned (.agg #[.bool (dn (sd (zneg y).re e)), .string (ds (sd (zneg y).re e)), .int .i64 (sd (zneg y).re e).e, .bool (dn (sd (zneg y).im e)), .string (ds (sd (zneg y).im e)), .int .i64 (sd (zneg y).im e).e]) ∧ Below w.heap.size w w' := by
  have h := gneg_any (sd y.re e) (sd y.im e) (sd_ok (by have := hy.1; omega) (by omega)) (sd_ok (by have := hy.2; omega) (by omega)) w
  rw [sd_neg, sd_neg] at h
  exact h
end Go.Proofs.YtbgjcpnbdgljbaaGreatDoor

/- Whole sixteenths as floats. -/
namespace Go.Proofs.YtbgjcpnbdgljbaaGreatDoor
open Go.RowKit Go.Fil
theorem q16 : ((List.range 256).all fun a => decide ((flD (fop .quo (floatOfInt .f64 ((a : Int) - 128)) 4625196817309499392)).m = (mkD ((a : Int) - 128) (-4)).m) && decide ((flD (fop .quo (floatOfInt .f64 ((a : Int) - 128)) 4625196817309499392)).e = (mkD ((a : Int) - 128) (-4)).e) && fin (fop .quo (floatOfInt .f64 ((a : Int) - 128)) 4625196817309499392)) = true := by decide +kernel
theorem sixteenth {a : Int} (h1 : -128 ≤ a) (h2 : a ≤ 127) : flD (fop .quo (floatOfInt .f64 a) 4625196817309499392) = sd a 4 ∧ fin (fop .quo (floatOfInt .f64 a) 4625196817309499392) = true := by
  have h := List.all_eq_true.1 q16 (a + 128).toNat (by rw [List.mem_range]; omega)
  rw [show (((a + 128).toNat : Nat) : Int) - 128 = a by omega] at h
  simp only [Bool.and_eq_true, decide_eq_true_eq] at h
  exact ⟨Dya.ext' h.1.1 h.1.2, h.2⟩
/-- Exact numbers are alike where their cells are. -/
theorem natS_inj {a b : Nat} (h : natS a = natS b) : a = b := by
  have h1 := natS_list a
  rw [h, natS_list] at h1
  have h2 : bbs a = bbs b := by
    have := congrArg (List.map UInt8.toNat) h1
    rw [List.map_map, List.map_map] at this
    have k : ∀ n, (bbs n).map (UInt8.toNat ∘ fun d => UInt8.ofNat d) = bbs n := fun n => by
      conv => rhs; rw [← List.map_id (bbs n)]
      exact List.map_congr_left (fun d hd => by have := bbs_ok n d hd; simp; omega)
    rw [k, k] at this
    exact this.symm
  have h3 := bbs_val a
  rw [h2, bbs_val] at h3
  exact h3.symm
theorem dya_ext {a b : Dya} (h1 : dn a = dn b) (h2 : ds a = ds b) (h3 : a.e = b.e) : a = b := by
  have h4 := natS_inj h2
  unfold dn at h1
  have h5 := decide_eq_decide.1 h1
  exact Dya.ext' (by omega) h3
end Go.Proofs.YtbgjcpnbdgljbaaGreatDoor

/- dyad.Near of any number that is within bounds: some finite float. -/
namespace Go.Proofs.YtbgjcpnbdgljbaaGreatDoor
open Go.RowKit Go.Fil Go.Shelf
attribute [local irreducible] fop fsqrt fup fabs fneg pick

set_option maxRecDepth 100000 in
set_option maxHeartbeats 3200000 in
theorem isub_any (g f1 f2 : Nat) (y z : Int) (hl1 : bl y.natAbs ≤ 137438953472) (hl2 : bl z.natAbs ≤ 137438953472) (w : World) (hb : IntBlk w g) (hy : IntAt w f1 y) (hz : IntAt w f2 z) :
    Calls Tryz.prog 209 #[.pointer (some ⟨g, 0, none⟩), .pointer (some ⟨f1, 0, none⟩), .pointer (some ⟨f2, 0, none⟩)] w (RI g (y - z) w) := by
  have HB := Lib.hid hb
  have HY := Lib.hid hy
  have HZ := Lib.hid hz
  have hl3 : bl (-z).natAbs ≤ 137438953472 := by rw [Int.natAbs_neg]; exact hl2
  clear hb hy hz
  go_enter Tryz.func209, Tryz.ntmps209
  go_wp2_with fail
  refine (ineg_any w.heap.size f2 z hl2 _ (blk_fresh w) (HZ.out.below (alloc_below _ _))).mono ?_
  rintro e w1 ⟨rfl, hi, hg⟩
  have HB1 := Lib.hid (grow_fresh hg)
  have HI1 := Lib.hid hi
  clear hi hg
  go_wp2_with fail
  refine (iadd_any g f1 w.heap.size y (-z) hl1 hl3 _ (HB.out.below HB1.out) (HY.out.below HB1.out) HI1.out).mono ?_
  rintro e w2 ⟨rfl, hi, hg⟩
  have HI2 := Lib.hid hi
  have HG2 := Lib.hid hg
  clear hi hg
  go_wp2
  go_ret
  exact ⟨rfl, by have := HI2.out; rwa [← Int.sub_eq_add_neg] at this, grown_trans HB1.out HG2.out⟩
set_option maxRecDepth 100000 in
set_option maxHeartbeats 3200000 in
theorem cut_off (neg : Bool) (a : Nat) (x t last : Int) (off q : Nat) (hl : max (t - 52) (-1074) = last) (h1 : last - x = (off : Int)) (h0 : 0 < off) (hob : off ≤ bl a) (hq : a / 2 ^ off = q) (hq2 : q < 18446744073709551616) (hb : bl a ≤ 1000000) (t1 : -2000000 ≤ t) (t2 : t ≤ 2000000) (x1 : -2000000 ≤ x) (x2 : x ≤ 2000000) (w : World) :
    Calls Tryz.prog 160 #[.agg #[.bool neg, .string (natS a), .int .i64 x], .int .i64 t] w fun e w' => (∃ c : Int, e = .returned (.tuple #[.int .u64 (q : Int), .int .i64 last, .int .i64 c, .bool false])) ∧ Below w.heap.size w w' := by
  have hb0 : Below w.heap.size w ((w.alloc (.cells #[.bool neg, .string (natS a), .int .i64 x] 29)).alloc (.cells #[.bool false, .slice none 0 0] 183)) := by repeat (first | exact Below.refl _ _ | refine below_drewN ?_ _ | refine Below.alloc ?_ (by first | omega | (simp; omega) | simp) _ | refine Below.setCell ?_ (by first | omega | (simp; omega) | simp) _ | refine Below.trans ?_ (Below.mono (by assumption) (by first | omega | (simp; omega) | simp)) | apply Below.drew)
  obtain ⟨cap, w1, hrun, hseq, hbe, hsz⟩ := conv_bytes ((w.alloc (.cells #[.bool neg, .string (natS a), .int .i64 x] 29)).alloc (.cells #[.bool false, .slice none 0 0] 183)) (bbs a) (bbs_ok a)
  rw [show bstr (bbs a) = natS a from rfl] at hrun
  have hlen : (bbs a).length ≤ 68719476736 := by rw [bbs_length]; omega
  have hb1 : Below w.heap.size w w1 := hb0.trans (hbe.mono (by simp; omega))
  have hc2 : w1.cell? ⟨w.heap.size, 2, none⟩ = some (.int .i64 x) := by
    have := hbe.cell (p := ⟨w.heap.size, 2, none⟩) (by simp; omega)
    rw [this]; simp [go_sem]
  have hblk : IntBlk w1 (w.heap.size + 1) := by
    have h0 : IntBlk ((w.alloc (.cells #[.bool neg, .string (natS a), .int .i64 x] 29)).alloc (.cells #[.bool false, .slice none 0 0] 183)) (w.heap.size + 1) := by
      have := blk_fresh (w.alloc (.cells #[.bool neg, .string (natS a), .int .i64 x] 29))
      simpa using this
    exact h0.below hbe
  have hw1 : w.heap.size < w1.heap.size := by simp at hsz; omega
  have esz : ((w.alloc (.cells #[.bool neg, .string (natS a), .int .i64 x] 29)).alloc (.cells #[.bool false, .slice none 0 0] 183)).heap.size = w.heap.size + 1 + 1 := by simp
  rw [esz] at hseq hrun
  clear esz
  have HSEQ := Lib.hid hseq
  have HB1 := Lib.hid hb1
  have HBLK := Lib.hid hblk
  have HA := Lib.hid hb
  have HQ := Lib.hid hq
  have HQ2 := Lib.hid hq2
  have HOB := Lib.hid hob
  have hge : ¬ last ≤ x := by omega
  have hl1 : -2000052 ≤ last := by omega
  have hl2 : last ≤ 2000000 := by omega
  have k1 : (off : Int) ≤ 1000000 := by omega
  have k0 : (1 : Int) ≤ (off : Int) := by omega
  have hoi : ¬ ((bl a : Nat) : Int) < (off : Int) := by omega
  have HDL := Lib.hid (show (dig ((a : Int)).natAbs).length ≤ 274877906944 from Nat.le_trans (dig_len_lim (by rw [Int.natAbs_natCast]; exact hb)) (by decide))
  have ea : ((a : Int)).natAbs = a := Int.natAbs_natCast a
  generalize hBL : bl a = BL at *
  have HBL := Lib.hid hBL
  have HSH := Lib.hid h1
  clear hseq hb1 hblk hbe hsz hb0 hb hq hq2 hob hBL
  go_enter Tryz.func160, Tryz.ntmps160
  go_wp2_with fail
  refine (isetb_any _ _ _ _ (bbs a) rfl hlen (bbs_ok a) _ HBLK.out HSEQ.out).mono ?_
  rintro e w2 ⟨rfl, hi, hg⟩
  have hc3 : w2.cell? ⟨w.heap.size, 2, none⟩ = some (.int .i64 x) := by
    rw [World.cell?_of_block (w := w1) (a := ⟨w.heap.size, 2, none⟩) (hg.block w.heap.size hw1 (by simp))]
    exact hc2
  rw [bbs_val] at hi
  have HI := Lib.hid hi
  have HB2 := Lib.hid (grown_below HB1.out hg (by omega))
  clear hi hg hc2
  go_wp2_with fail
  refine (ibitlen_any _ _ HDL.out _ HI.out).mono ?_
  rintro e w' ⟨rfl, hw'⟩
  subst hw'
  rw [ea, HBL.out]
  go_wp2_with fail
  refine (irsh_any w'.heap.size (w.heap.size + 1) off a (by rw [HBL.out]; have := HA.out; omega) (by omega) _ (blk_fresh w') (HI.out.below (alloc_below _ _))).mono ?_
  rintro e w3 ⟨rfl, hi, hg⟩
  rw [HQ.out] at hi
  have HI3 := Lib.hid hi
  have HB3 := Lib.hid (grow_fresh hg)
  have HJ3 := Lib.hid (HI.out.below HB3.out)
  have hs3 : w'.heap.size < w3.heap.size := HI3.out.lt
  clear hi hg
  go_wp2_with fail
  have hbb : Below w3.heap.size w3 ((w3.alloc (.cells #[.bool false, .slice none 0 0] 183)).alloc (.cells #[.bool false, .slice none 0 0] 183)) := by repeat (first | exact Below.refl _ _ | refine below_drewN ?_ _ | refine Below.alloc ?_ (by first | omega | (simp; omega) | simp) _ | refine Below.setCell ?_ (by first | omega | (simp; omega) | simp) _ | refine Below.trans ?_ (Below.mono (by assumption) (by first | omega | (simp; omega) | simp)) | apply Below.drew)
  have hk1 : IntBlk ((w3.alloc (.cells #[.bool false, .slice none 0 0] 183)).alloc (.cells #[.bool false, .slice none 0 0] 183)) (w3.heap.size + 1) := by simpa using blk_fresh (w3.alloc (.cells #[.bool false, .slice none 0 0] 183))
  have hk0 : IntBlk ((w3.alloc (.cells #[.bool false, .slice none 0 0] 183)).alloc (.cells #[.bool false, .slice none 0 0] 183)) w3.heap.size := (blk_fresh w3).below (alloc_below _ _)
  refine (ilsh_any (w3.heap.size + 1) w'.heap.size off (q : Int) (by rw [Int.natAbs_natCast, ← HQ.out]; have := bl_mono (Nat.div_le_self a (2 ^ off)); rw [HBL.out] at this; have := HA.out; omega) (by omega) _ hk1 (HI3.out.below hbb)).mono ?_
  rintro e w4 ⟨rfl, hi, hg⟩
  have HI4 := Lib.hid hi
  have HB4 := Lib.hid (grown_below hbb hg (by omega))
  have HK4 := Lib.hid (hk0.grown hg (by omega))
  have HJ4 := Lib.hid (HJ3.out.below HB4.out)
  have HM4 := Lib.hid (HI3.out.below HB4.out)
  clear hi hg hbb hk1 hk0
  go_wp2_with fail
  have hq1 : bl q ≤ BL := by rw [← HQ.out, ← HBL.out]; exact bl_mono (Nat.div_le_self a (2 ^ off))
  have hq2 : bl ((q : Int) * 2 ^ off).natAbs ≤ 2000000 := by
    have e1 : ((q : Int) * 2 ^ off).natAbs = q * 2 ^ off := by
      have : ((q : Int) * 2 ^ off) = ((q * 2 ^ off : Nat) : Int) := by push_cast; rfl
      rw [this, Int.natAbs_natCast]
    rw [e1]
    have := bl_shl q off
    have := HA.out
    omega
  refine (isub_any w3.heap.size (w.heap.size + 1) (w3.heap.size + 1) (a : Int) ((q : Int) * 2 ^ off) (by rw [ea, HBL.out]; have := HA.out; omega) (by omega) _ HK4.out HJ4.out HI4.out).mono ?_
  rintro e w5 ⟨rfl, hi, hg⟩
  have HI5 := Lib.hid hi
  have HB5 := Lib.hid (grown_below HB4.out hg (by omega))
  have HM5 := Lib.hid (HI3.out.below HB5.out)
  have hrest : bl ((a : Int) - (q : Int) * 2 ^ off).natAbs ≤ 2000001 := by
    have h1 := bl_sum (a := (a : Int)) (b := -((q : Int) * 2 ^ off)) (k := 2000000) (by rw [ea, HBL.out]; have := HA.out; omega) (by rw [Int.natAbs_neg]; exact hq2)
    rwa [← Int.sub_eq_add_neg] at h1
  clear hi hg
  generalize (a : Int) - (q : Int) * 2 ^ off = rest at *
  go_wp2_with fail
  refine (newint_any 1 (by decide) (by decide) _).mono ?_
  rintro e w6 ⟨g, rfl, hi, hb6, hg6⟩
  have HI6 := Lib.hid hi
  have hb6' : Below w5.heap.size w5 w6 := (alloc_below w5 _).trans (hb6.mono (by simp))
  have HB6 := Lib.hid hb6'
  have HK6 := Lib.hid ((blk_fresh w5).below hb6)
  simp at hg6
  clear hi hb6 hb6'
  go_wp2_with fail
  have e1 : ((off : Int) - 1) = ((off - 1 : Nat) : Int) := by omega
  rw [e1]
  refine (ilsh_any w5.heap.size g (off - 1) 1 (by decide) (by omega) _ HK6.out HI6.out).mono ?_
  rintro e w7 ⟨rfl, hi, hg⟩
  have HI7 := Lib.hid hi
  have HB7 := Lib.hid (grown_below HB6.out hg (Nat.le_refl _))
  have HM7 := Lib.hid (HM5.out.below HB7.out)
  have HR7 := Lib.hid (HI5.out.below HB7.out)
  have hhalf : bl ((1 : Int) * 2 ^ (off - 1)).natAbs ≤ 2000000 := by
    have e1 : ((1 : Int) * 2 ^ (off - 1)).natAbs = 1 * 2 ^ (off - 1) := by
      have : ((1 : Int) * 2 ^ (off - 1)) = ((1 * 2 ^ (off - 1) : Nat) : Int) := by push_cast; rfl
      rw [this, Int.natAbs_natCast]
    rw [e1]
    have := bl_shl 1 (off - 1)
    have h1 : bl 1 = 1 := by decide
    omega
  clear hi hg
  generalize (1 : Int) * 2 ^ (off - 1) = half at *
  have hbw : Below w.heap.size w w7 := HB2.out.trans ((HB3.out.trans ((HB5.out.trans (HB7.out.mono HB5.out.size)).mono HB3.out.size)).mono HB2.out.size)
  have HBW := Lib.hid hbw
  clear hbw
  go_wp2_with (first
    | (go_at_call 208; refine (iu64_any _ q HQ2.out _ HM7.out).mono ?_; rintro e w8 ⟨rfl, rfl⟩)
    | (go_at_call 210; refine (icmp_any _ _ rest half (by omega) (by omega) _ HR7.out HI7.out).mono ?_; rintro e w9 ⟨rfl, j, rfl⟩))
  exact bodyPost_ret (v := .tuple #[.int .u64 (q : Int), .int .i64 last, .int .i64 (cmpZ rest half), .bool false]) (by simp [results, Tryz.results160, go_sem]) rfl ⟨⟨_, rfl⟩, below_drewN HBW.out _⟩
def RBo (w : World) (e : Ending) (w' : World) : Prop := (∃ b : Bool, e = .returned (.bool b)) ∧ w = w'
set_option maxRecDepth 100000 in
theorem near1_any (c : Int) (o : Bool) (w : World) : Calls Tryz.prog 99 #[.int .i64 c, .bool o] w (RBo w) := by
  by_cases h1 : 0 < c
  · go_enter Tryz.func99, Tryz.ntmps99
    go_wp2
    go_ret
    exact ⟨⟨_, rfl⟩, rfl⟩
  · by_cases h2 : c = 0
    · subst h2
      cases o
      all_goals
        go_enter Tryz.func99, Tryz.ntmps99
        go_wp2
        go_ret
        exact ⟨⟨_, rfl⟩, rfl⟩
    · go_enter Tryz.func99, Tryz.ntmps99
      go_wp2
      go_ret
      exact ⟨⟨_, rfl⟩, rfl⟩
/-- Ldexp of a float's whole mantissa: some finite float that is not below 0. -/
theorem ldexp_fin (m : Nat) (h1 : 4503599627370496 ≤ m) (h2 : m ≤ 9007199254740992) (k : Int) (k1 : -960 ≤ k) (k2 : k ≤ 860) (w : World) :
    Calls Tryz.prog 161 #[.float .f64 (floatOfInt .f64 (m : Int)), .int .i64 k] w fun e w' => ∃ F n, e = .returned (.float .f64 F) ∧ F < 9218868437227405312 ∧ w.drewN n = w' := by
  have key : ∀ M D : Nat, M < 4503599627370496 → 1 ≤ D → D ≤ 2046 → ∀ s, pick (fop .mul 4607182418800017408 (M + D * 4503599627370496)) s < 9218868437227405312 := by
    intro M D hM hD1 hD2 s
    have hz : M + D * 4503599627370496 < 9218868437227405312 := by omega
    obtain ⟨hf, _⟩ := one_mul hz
    obtain ⟨m', p', hn, _⟩ := mul_nb (x := 4607182418800017408) (by decide) hz
    rw [pick_of (not_nan_of_fin hf)]
    exact fin_nb (by rw [hn]; exact (mag_up m' p').1) hf
  rcases Nat.lt_or_ge m 9007199254740992 with h | h
  · obtain ⟨M, rfl⟩ : ∃ M, m = 4503599627370496 + M := ⟨m - 4503599627370496, by omega⟩
    obtain ⟨D, hD⟩ : ∃ D : Nat, k + 1075 = (D : Int) := ⟨(k + 1075).toNat, by omega⟩
    rw [mant_word M (by omega)]
    refine (Ldexp_any 1075 M D k (by decide) (by decide) (by omega) (by omega) (by omega) (by omega) w).mono ?_
    rintro e w' ⟨s, n, rfl, rfl⟩
    exact ⟨_, n, rfl, key M D (by omega) (by omega) (by omega) s, rfl⟩
  · obtain rfl : m = 9007199254740992 := by omega
    obtain ⟨D, hD⟩ : ∃ D : Nat, k + 1076 = (D : Int) := ⟨(k + 1076).toNat, by omega⟩
    have e : floatOfInt .f64 ((9007199254740992 : Nat) : Int) = 1076 * 4503599627370496 + 0 := by decide +kernel
    rw [e]
    refine (Ldexp_any 1076 0 D k (by decide) (by decide) (by omega) (by omega) (by omega) (by omega) w).mono ?_
    rintro e w' ⟨s, n, rfl, rfl⟩
    exact ⟨_, n, rfl, key 0 D (by omega) (by omega) (by omega) s, rfl⟩
/-- A finite float, in words. -/
def FinW (F : Nat) : Prop := F < 18446744073709551616 ∧ fin F = true
def RNf (w : World) (e : Ending) (w' : World) : Prop := (∃ F, e = .returned (.tuple #[.float .f64 F, .int .i64 0]) ∧ FinW F) ∧ Below w.heap.size w w'
theorem finw_pos {F : Nat} (h : F < 9218868437227405312) : FinW F := ⟨by omega, nb_fin h⟩
theorem finw_neg {F : Nat} (h : F < 9218868437227405312) : FinW (F + 9223372036854775808) := by
  refine ⟨by omega, ?_⟩
  unfold fin
  rw [show (F + 9223372036854775808) % 9223372036854775808 = F by omega]
  simpa using h
set_option maxRecDepth 100000 in
set_option maxHeartbeats 6400000 in
theorem round_gen (d : Dya) (hd : okD d) (h0 : d.m ≠ 0) (hlo : -900 ≤ d.e) (hhi : d.e + (bl d.m.natAbs : Int) ≤ 860) (hbl : bl d.m.natAbs ≤ 1000) (w : World) :
    Calls Tryz.prog 98 #[.agg #[.bool (dn d), .string (ds d), .int .i64 d.e], .func (.func 99) #[] #[]] w (RNf w) := by
  have HC := Lib.hid (dcheckV d hd)
  have htop := dtop_any d hd h0
  have hm0 : d.m.natAbs ≠ 0 := by omega
  have hL := bl_lt d.m.natAbs
  have hL2 := bl_le hm0
  unfold ds at *
  unfold topD at htop
  generalize ha : d.m.natAbs = a at *
  generalize hx : d.e = x at *
  generalize hBL : bl a = L at *
  have hLp : 0 < L := by
    rcases Nat.eq_zero_or_pos L with h | h
    · rw [h] at hL; omega
    · exact h
  obtain ⟨t, ht⟩ : ∃ t, (L : Int) - 1 + x = t := ⟨_, rfl⟩
  rw [ht] at htop
  have htl : max (t - 52) (-1074) = t - 52 := by omega
  have hcut : (∃ m : Nat, 4503599627370496 ≤ m ∧ m < 9007199254740992 ∧ ∀ w : World, Calls Tryz.prog 160 #[.agg #[.bool (dn d), .string (natS a), .int .i64 x], .int .i64 t] w fun e w' => (∃ (c : Int) (ex : Bool), e = .returned (.tuple #[.int .u64 (m : Int), .int .i64 (t - 52), .int .i64 c, .bool ex])) ∧ Below w.heap.size w w') := by
    rcases Nat.lt_or_ge 53 L with h | h
    · refine ⟨a / 2 ^ (L - 53), ?_, ?_, fun w => ?_⟩
      · rw [Nat.le_div_iff_mul_le (Nat.two_pow_pos _)]
        have e : 4503599627370496 * 2 ^ (L - 53) = 2 ^ (L - 1) := by
          rw [show L - 1 = 52 + (L - 53) by omega, Nat.pow_add]
        rw [e]; exact hL2
      · rw [Nat.div_lt_iff_lt_mul (Nat.two_pow_pos _)]
        have e : 9007199254740992 * 2 ^ (L - 53) = 2 ^ L := by
          conv => rhs; rw [show L = 53 + (L - 53) by omega, Nat.pow_add]
        rw [e]; exact hL
      · refine (cut_off (dn d) a x t (t - 52) (L - 53) _ htl (by omega) (by omega) (by rw [hBL]; omega) rfl ?_ (by rw [hBL]; omega) (by omega) (by omega) (by omega) (by omega) w).mono ?_
        · have : a / 2 ^ (L - 53) < 9007199254740992 := by
            rw [Nat.div_lt_iff_lt_mul (Nat.two_pow_pos _)]
            have e : 9007199254740992 * 2 ^ (L - 53) = 2 ^ L := by
              conv => rhs; rw [show L = 53 + (L - 53) by omega, Nat.pow_add]
            rw [e]; exact hL
          omega
        · rintro e w' ⟨⟨c, rfl⟩, hb⟩
          exact ⟨⟨c, false, rfl⟩, hb⟩
    · have e1 : 2 ^ (L - 1) * 2 ^ (53 - L) = 4503599627370496 := by rw [← Nat.pow_add, show L - 1 + (53 - L) = 52 by omega]
      have e2 : 2 ^ L * 2 ^ (53 - L) = 9007199254740992 := by rw [← Nat.pow_add, show L + (53 - L) = 53 by omega]
      have m1 : 4503599627370496 ≤ a * 2 ^ (53 - L) := by rw [← e1]; exact Nat.mul_le_mul_right _ hL2
      have m2 : a * 2 ^ (53 - L) < 9007199254740992 := by rw [← e2]; exact Nat.mul_lt_mul_of_pos_right hL (Nat.two_pow_pos _)
      refine ⟨a * 2 ^ (53 - L), m1, m2, fun w => ?_⟩
      refine (cut_exact (dn d) a x t (t - 52) (53 - L) _ htl (by omega) rfl (by omega) (by rw [hBL]; omega) (by omega) (by omega) (by omega) (by omega) (by omega) w).mono ?_
      rintro e w' ⟨rfl, hb⟩
      exact ⟨⟨0, true, rfl⟩, hb⟩
  obtain ⟨m, m1, m2, hcut⟩ := hcut
  have HCUT := Lib.hid hcut
  have HTOP := Lib.hid htop
  have HLD := Lib.hid (fun (q : Nat) (h1 : m ≤ q) (h2 : q ≤ m + 1) w => ldexp_fin q (by omega) (by omega) (t - 52) (by omega) (by omega) w)
  have HCN := Lib.hid copy_neg
  have i2 : t < 1024 := by omega
  have i0 : (0 : Int) ≤ (m : Int) := by omega
  have i1 : (m : Int) ≤ 9007199254740991 := by omega
  clear hcut htop htl hL hL2 hm0 h0 hlo hhi hbl hd m1 m2 ha hx hBL hLp ht
  generalize t - 52 = lst at *
  generalize natS a = sa at *
  generalize dn d = na at *
  go_enter Tryz.func98, Tryz.ntmps98
  go_wp2_with (first
    | (go_at_call 83; refine (HC.out _).mono ?_; rintro e w1 ⟨rfl, hb⟩; obtain ⟨hc, hf⟩ := bcell hb; (try simp only [World.heap_drewN, World.cell?_drewN, World.frozen?_drewN] at hc hf); have z0 : w.heap.size < w1.heap.size := (by have := hb.size; try simp at this; omega))
    | (go_at_call 159; refine (HTOP.out _).mono ?_; rintro e w2 ⟨rfl, hb2⟩; obtain ⟨hc2, hf2⟩ := bcell hb2; have y0 : w.heap.size < w2.heap.size := Nat.lt_of_lt_of_le z0 hb2.size))
  refine (HCUT.out _).mono ?_
  rintro e w3 ⟨⟨c, ex, rfl⟩, hb3⟩
  obtain ⟨hc3, hf3⟩ := bcell hb3
  have x0 : w.heap.size < w3.heap.size := Nat.lt_of_lt_of_le y0 hb3.size
  have HB3 := Lib.hid (show Below w.heap.size w w3 by repeat (first | exact Below.refl _ _ | refine below_drewN ?_ _ | refine Below.alloc ?_ (by first | omega | (simp; omega) | simp) _ | refine Below.setCell ?_ (by first | omega | (simp; omega) | simp) _ | refine Below.trans ?_ (Below.mono (by assumption) (by first | omega | (simp; omega) | simp)) | apply Below.drew))
  have q0 : w3.cell? ⟨w.heap.size, 0, none⟩ = some (.bool na) := by rw [hc3 _ _ y0, hc2 _ _ z0, hc _ _ (by simp)]; simp [go_sem]
  clear hc3 hf3 hb3 hc2 hf2 hb2 hc hf hb HC HTOP HCUT
  cases ex
  · go_wp2_with (go_at_call 99; refine (near1_any _ _ _).mono ?_; rintro e w4 ⟨⟨b, rfl⟩, rfl⟩)
    rw [show ((m : Int) + 1) = ((m + 1 : Nat) : Int) by omega]
    refine (HLD.out (m + 1) (by omega) (by omega) _).mono ?_
    rintro e w5 ⟨F, n, rfl, hF, rfl⟩
    cases na
    · go_wp2
      go_ret2
      exact ⟨⟨F, rfl, finw_pos hF⟩, below_drewN HB3.out _⟩
    · go_wp2_with (go_at_call 162; refine (HCN.out F (by omega) _).mono ?_; rintro e w' ⟨rfl, rfl⟩)
      go_ret2
      exact ⟨⟨_, rfl, finw_neg hF⟩, below_drewN HB3.out _⟩
    refine (HLD.out m (by omega) (by omega) _).mono ?_
    rintro e w5 ⟨F, n, rfl, hF, rfl⟩
    cases na
    · go_wp2
      go_ret2
      exact ⟨⟨F, rfl, finw_pos hF⟩, below_drewN HB3.out _⟩
    · go_wp2_with (go_at_call 162; refine (HCN.out F (by omega) _).mono ?_; rintro e w' ⟨rfl, rfl⟩)
      go_ret2
      exact ⟨⟨_, rfl, finw_neg hF⟩, below_drewN HB3.out _⟩
  · go_wp2_with fail
    refine (HLD.out m (by omega) (by omega) _).mono ?_
    rintro e w5 ⟨F, n, rfl, hF, rfl⟩
    cases na
    · go_wp2
      go_ret2
      exact ⟨⟨F, rfl, finw_pos hF⟩, below_drewN HB3.out _⟩
    · go_wp2_with (go_at_call 162; refine (HCN.out F (by omega) _).mono ?_; rintro e w' ⟨rfl, rfl⟩)
      go_ret2
      exact ⟨⟨_, rfl, finw_neg hF⟩, below_drewN HB3.out _⟩
set_option maxRecDepth 100000 in
set_option maxHeartbeats 3200000 in
/-- Within bounds, for Near. -/
theorem dnear_gen (d : Dya) (hd : okD d) (h : d.m ≠ 0 → -900 ≤ d.e ∧ d.e + (bl d.m.natAbs : Int) ≤ 860 ∧ bl d.m.natAbs ≤ 1000) (w : World) :
    Calls Tryz.prog 51 #[.agg #[.bool (dn d), .string (ds d), .int .i64 d.e]] w (RNf w) := by
  have hr : ∀ (w : World), Calls Tryz.prog 98 #[.agg #[.bool (dn d), .string (ds d), .int .i64 d.e], .func (.func 99) #[] #[]] w (RNf w) := by
    intro w
    by_cases h0 : d.m = 0
    · rw [okD_zero hd h0]
      have hz := round_zero (.func (.func 99) #[] #[]) w
      unfold wd at hz
      rw [mkD_zero] at hz
      refine hz.mono ?_
      rintro e w' ⟨F, rfl, hF, hb⟩
      exact ⟨⟨F, rfl, hF.1, hF.2.1⟩, hb⟩
    · exact round_gen d hd h0 (h h0).1 (h h0).2.1 (h h0).2.2 w
  have HR := Lib.hid hr
  clear hr h hd
  generalize dn d = na at *
  generalize ds d = sa at *
  generalize d.e = xa at *
  go_enter Tryz.func51, Tryz.ntmps51
  go_wp2_with (go_at_call 98; refine (HR.out _).mono ?_; rintro e w1 ⟨⟨F, rfl, hF⟩, hb⟩; have HF := Lib.hid hF; clear hF)
  go_ret2
  exact ⟨⟨F, rfl, HF.out⟩, by repeat (first | exact Below.refl _ _ | refine below_drewN ?_ _ | refine Below.alloc ?_ (by first | omega | (simp; omega) | simp) _ | refine Below.setCell ?_ (by first | omega | (simp; omega) | simp) _ | refine Below.trans ?_ (Below.mono (by assumption) (by first | omega | (simp; omega) | simp)) | apply Below.drew)⟩
/-- What Near makes of an exact complex number. -/
def RNg (w : World) (e : Ending) (w' : World) : Prop := (∃ F G, e = .returned (.tuple #[.complex .f64 F G, .int .i64 0]) ∧ FinW F ∧ FinW G) ∧ Below w.heap.size w w'
set_option maxRecDepth 100000 in
theorem gnear_gen (a b : Dya) (ha : okD a) (hb : okD b) (h1 : a.m ≠ 0 → -900 ≤ a.e ∧ a.e + (bl a.m.natAbs : Int) ≤ 860 ∧ bl a.m.natAbs ≤ 1000) (h2 : b.m ≠ 0 → -900 ≤ b.e ∧ b.e + (bl b.m.natAbs : Int) ≤ 860 ∧ bl b.m.natAbs ≤ 1000) (w : World) :
    Calls Tryz.prog 20 #[.agg #[.bool (dn a), .string (ds a), .int .i64 a.e, .bool (dn b), .string (ds b), .int .i64 b.e]] w (RNg w) := by
  have HC := Lib.hid (gcheck_any a b ha hb)
  have HR := Lib.hid (dnear_gen a ha h1)
  have HI := Lib.hid (dnear_gen b hb h2)
  clear h1 h2 ha hb
  generalize dn a = na at *
  generalize ds a = sa at *
  generalize a.e = xa at *
  generalize dn b = nb at *
  generalize ds b = sb at *
  generalize b.e = xb at *
  go_enter Tryz.func20, Tryz.ntmps20
  go_wp2_with (first
    | (go_at_call 35; refine (HC.out _).mono ?_; rintro e w1 ⟨rfl, hb⟩; obtain ⟨hc, hf⟩ := bcell hb; (try simp only [World.heap_drewN, World.cell?_drewN, World.frozen?_drewN] at hc hf); have z0 : w.heap.size < w1.heap.size := (by have := hb.size; try simp at this; omega))
    | (go_at_call 51; (with_reducible refine (HR.out _).mono ?_); rintro e w2 ⟨⟨F, rfl, hF⟩, hb2⟩; have HF := Lib.hid hF; clear hF; obtain ⟨hc2, hf2⟩ := bcell hb2; have y0 : w.heap.size < w2.heap.size := Nat.lt_of_lt_of_le z0 hb2.size)
    | (go_at_call 51; (with_reducible refine (HI.out _).mono ?_); rintro e w3 ⟨⟨G, rfl, hG⟩, hb3⟩; have HG := Lib.hid hG; clear hG))
  go_ret2
  exact ⟨⟨F, G, rfl, HF.out, HG.out⟩, by repeat (first | exact Below.refl _ _ | refine below_drewN ?_ _ | refine Below.alloc ?_ (by first | omega | (simp; omega) | simp) _ | refine Below.setCell ?_ (by first | omega | (simp; omega) | simp) _ | refine Below.trans ?_ (Below.mono (by assumption) (by first | omega | (simp; omega) | simp)) | apply Below.drew)⟩
end Go.Proofs.YtbgjcpnbdgljbaaGreatDoor

/- The steps of law16.product, without the program. -/
namespace Go.Proofs.YtbgjcpnbdgljbaaGreatDoor
open Go.RowKit Go.Fil Go.Shelf

/-- An exact number: a whole one over 2^e. -/
def gz (z : Zi) (e : Nat) : Gs := (sd z.re e, sd z.im e)
def gz0 : Gs := (⟨0, 0⟩, ⟨0, 0⟩)
theorem gz_zero (e : Nat) : gz z0 e = gz0 := by unfold gz gz0 z0; rw [sd_zero]
theorem nthZ_cons_succ (c : Zi) (l : List Zi) (k : Nat) : nthZ (c :: l) (k + 1) = nthZ l k := by simp [nthZ]
theorem zstepF_at (u g : Zi) (p : List Zi) {k : Nat} (hk : k < p.length) : nthZ (zstepF u g p) k = zadd (nthZ (u :: p) k) (zmul (nthZ p k) (zneg g)) := by
  induction p generalizing u k with
  | nil => simp at hk
  | cons c p ih =>
    cases k with
    | zero => rfl
    | succ k =>
      rw [zstepF, nthZ_cons_succ, ih c (by simpa using hk), nthZ_cons_succ, nthZ_cons_succ]
theorem zstepF_top (u g : Zi) (p : List Zi) : nthZ (zstepF u g p) p.length = nthZ (u :: p) p.length := zstepF_last u g p
/-- The row q behind k rounds of the inner loop. -/
def qat (i : Nat) (G : Zi) (P : List Zi) (k j : Nat) : Gs := if j < k then gz (nthZ (zstep G P) j) (4 * (i + 1 - j)) else if j = k then gz (nthZ (z0 :: P) j) (4 * (i + 1 - j)) else gz0
def qst (i : Nat) (G : Zi) (P : List Zi) (k : Nat) : List Gs := (List.range (i + 2)).map (qat i G P k)
theorem qst_length (i : Nat) (G : Zi) (P : List Zi) (k : Nat) : (qst i G P k).length = i + 2 := by simp [qst]
theorem qst_at (i : Nat) (G : Zi) (P : List Zi) (k : Nat) {j : Nat} (hj : j < i + 2) : eg (qst i G P k) j = qat i G P k j := by
  rw [eg_eq (by rw [qst_length]; exact hj)]
  simp [qst]
theorem qst_here (i : Nat) (G : Zi) (P : List Zi) {k : Nat} (hk : k < i + 2) : eg (qst i G P k) k = gz (nthZ (z0 :: P) k) (4 * (i + 1 - k)) := by
  rw [qst_at i G P k hk, qat, if_neg (Nat.lt_irrefl k), if_pos rfl]
theorem qst_zero (i : Nat) (G : Zi) (P : List Zi) : qst i G P 0 = List.replicate (i + 2) gz0 := by
  refine List.ext_getElem (by simp [qst]) fun j h1 h2 => ?_
  rw [List.getElem_replicate]
  simp only [qst, List.getElem_map, List.getElem_range, qat, Nat.not_lt_zero, if_false]
  by_cases h : j = 0
  · subst h
    rw [if_pos rfl]
    exact gz_zero _
  · rw [if_neg h]
theorem qst_next (i : Nat) (G : Zi) (P : List Zi) {k : Nat} (hk : k < i + 1) :
    ((qst i G P k).set k (gz (nthZ (zstep G P) k) (4 * (i + 1 - k)))).set (k + 1) (gz (nthZ P k) (4 * (i - k))) = qst i G P (k + 1) := by
  refine List.ext_getElem (by simp [qst]) fun j h1 h2 => ?_
  rw [List.getElem_set, List.getElem_set]
  simp only [qst, List.getElem_map, List.getElem_range, qat]
  by_cases e1 : k + 1 = j
  · subst e1
    rw [if_pos rfl, if_neg (by omega), if_pos rfl, nthZ_cons_succ, show i + 1 - (k + 1) = i - k by omega]
  · rw [if_neg e1]
    by_cases e2 : k = j
    · subst e2
      rw [if_pos rfl, if_pos (by omega)]
    · rw [if_neg e2]
      by_cases e3 : j < k
      · rw [if_pos e3, if_pos (by omega)]
      · rw [if_neg e3, if_neg (fun h => e2 h.symm), if_neg (by omega), if_neg (fun h => e1 h.symm)]
theorem qst_last (i : Nat) (G : Zi) (P : List Zi) (hP : P.length = i + 1) : qst i G P (i + 1) = sgs (zstep G P) := by
  have hl : (zstep G P).length = i + 2 := by rw [zstep, zstepF_length, hP]
  refine List.ext_getElem (by rw [qst_length, sgs_length, hl]) fun j h1 h2 => ?_
  rw [qst_length] at h1
  have a1 := qst_at i G P (i + 1) h1
  rw [eg_eq (by rw [qst_length]; exact h1)] at a1
  have a2 := sgs_at (zstep G P) (k := j) (by omega)
  rw [eg_eq (by rw [sgs_length, hl]; exact h1)] at a2
  rw [a1, a2, hl, qat, show i + 2 - 1 - j = i + 1 - j by omega]
  by_cases h : j < i + 1
  · rw [if_pos h]; rfl
  · obtain rfl : j = i + 1 := by omega
    rw [if_neg (Nat.lt_irrefl _), if_pos rfl]
    have := zstepF_top z0 G P
    rw [hP] at this
    rw [zstep, this]; rfl
/-- The numbers of the factors, as they lie in a list. -/
def gl (L : List Zi) : List Gs := L.map fun G => gz G 4
theorem gl_at {L : List Zi} {k : Nat} (hk : k < L.length) : eg (gl L) k = gz (nthZ L k) 4 := by
  rw [eg_eq (by simp [gl]; exact hk), nthZ_eq hk]
  simp [gl]
theorem gl_take {L : List Zi} {k : Nat} (hk : k < L.length) : gl (L.take (k + 1)) = gl (L.take k) ++ [gz (nthZ L k) 4] := by
  rw [List.take_succ_eq_append_getElem hk, gl, List.map_append, nthZ_eq hk]; rfl
theorem zmake_take {L : List Zi} {k : Nat} (hk : k < L.length) : zmake (L.take (k + 1)).reverse = zstep (nthZ L k) (zmake (L.take k).reverse) := by
  rw [List.take_succ_eq_append_getElem hk, List.reverse_append, nthZ_eq hk]; rfl
theorem zmake_take_len {L : List Zi} {k : Nat} (hk : k ≤ L.length) : (zmake (L.take k).reverse).length = k + 1 := by
  rw [zmake_length, List.length_reverse, List.length_take, Nat.min_eq_left hk]
/-- What the numbers are: both parts from -128 to 127. -/
def Small (L : List Zi) : Prop := L.length ≤ 10 ∧ ∀ G ∈ L, -128 ≤ G.re ∧ G.re ≤ 127 ∧ -128 ≤ G.im ∧ G.im ≤ 127
theorem Small.zn' {L : List Zi} (h : Small L) : ∀ G ∈ L, zn G ≤ 256 := fun G hG => by
  have := h.2 G hG
  unfold Go.Fil.zn; omega
theorem Small.at' {L : List Zi} (h : Small L) {k : Nat} (hk : k < L.length) : -128 ≤ (nthZ L k).re ∧ (nthZ L k).re ≤ 127 ∧ -128 ≤ (nthZ L k).im ∧ (nthZ L k).im ≤ 127 := h.2 _ (by rw [nthZ_eq hk]; exact List.getElem_mem hk)
theorem Small.coef {L : List Zi} (h : Small L) (k j : Nat) : zn (nthZ (zmake (L.take k).reverse) j) < 2 ^ 90 := by
  have hb := zmake_bound (gs := (L.take k).reverse) (G := 256) (fun g hg => h.zn' g (List.mem_of_mem_take (List.mem_reverse.1 hg)))
  have hl : (L.take k).reverse.length ≤ 10 := by
    rw [List.length_reverse, List.length_take]
    have := h.1; omega
  have hp : (256 + 1) ^ (L.take k).reverse.length ≤ (256 + 1) ^ 10 := Nat.pow_le_pow_right (by decide) hl
  have hd : (256 + 1) ^ 10 < 2 ^ 90 := by decide
  unfold nthZ
  rw [List.getD_eq_getElem?_getD]
  cases he : (zmake (L.take k).reverse)[j]? with
  | none => exact (by decide : zn z0 < 2 ^ 90)
  | some c =>
    have := hb c (List.mem_of_getElem? he)
    show zn c < _
    omega
theorem Zb_of90 {z : Zi} (h : zn z < 2 ^ 90) : Zb 90 z := Zb.of h
theorem Small.zb {L : List Zi} (h : Small L) (k j : Nat) : Zb 90 (nthZ (zmake (L.take k).reverse) j) := Zb.of (h.coef k j)
theorem Small.zbG {L : List Zi} (h : Small L) {k : Nat} (hk : k < L.length) : Zb 9 (nthZ L k) := by
  have := h.at' hk
  exact Zb.of (by unfold Go.Fil.zn; omega)
end Go.Proofs.YtbgjcpnbdgljbaaGreatDoor

/- Walking over variables that hold exact numbers. -/
namespace Go.Proofs.YtbgjcpnbdgljbaaGreatDoor
open Go.RowKit Go.Fil Go.Shelf

/-- An exact number as a value. -/
def ge (g : Gs) : Value := .agg #[.bool (dn g.1), .string (ds g.1), .int .i64 g.1.e, .bool (dn g.2), .string (ds g.2), .int .i64 g.2.e]
theorem ge_zero : (.agg #[.bool false, .string ⟨#[]⟩, .int .i64 0, .bool false, .string ⟨#[]⟩, .int .i64 0] : Value) = ge gz0 := by
  have h : ds ⟨0, 0⟩ = ⟨#[]⟩ := by unfold ds; exact natS_zero
  unfold ge gz0
  dsimp only
  rw [h]; rfl
/-- A variable of its own that holds an exact number. -/
structure GCell (w : World) (b : Nat) (g : Gs) : Prop where
  n : EAt w b 0 g
  f : ∀ o, w.frozen? ⟨b, o, none⟩ = false
theorem GCell.below {w w' : World} {G B : Nat} {g : Gs} (h : GCell w G g) (hb : Below B w w') (hG : G < B) : GCell w' G g :=
  ⟨h.n.below hb hG, fun o => (hb.frozen (p := ⟨G, o, none⟩) hG).trans (h.f o)⟩
theorem GCell.new (w : World) (t : TypeId) (g : Gs) : GCell (w.alloc (.cells #[.bool (dn g.1), .string (ds g.1), .int .i64 g.1.e, .bool (dn g.2), .string (ds g.2), .int .i64 g.2.e] t)) w.heap.size g := by
  refine ⟨⟨?_, ?_, ?_, ?_, ?_, ?_⟩, fun o => World.frozen?_alloc_at _ _ _ _ rfl⟩ <;> rw [World.cell?_alloc_at _ _ _ _ rfl] <;> rfl
theorem GCell.zero (w : World) (t : TypeId) : GCell (w.alloc (.cells #[.bool false, .string ⟨#[]⟩, .int .i64 0, .bool false, .string ⟨#[]⟩, .int .i64 0] t)) w.heap.size gz0 := by
  have h := GCell.new w t gz0
  have e := ge_zero
  unfold ge at e
  injection e with e
  rw [← e] at h
  exact h
theorem setE_other {w : World} {G b : Nat} (hne : G ≠ b) (g : Gs) (k o : Nat) : (setE w b k g).cell? ⟨G, o, none⟩ = w.cell? ⟨G, o, none⟩ ∧ (setE w b k g).frozen? ⟨G, o, none⟩ = w.frozen? ⟨G, o, none⟩ := by
  unfold setE
  exact ⟨by simp [go_sem], by simp [go_sem]⟩
theorem setE_size (w : World) (G k : Nat) (g : Gs) : (setE w G k g).heap.size = w.heap.size := by unfold setE; simp
theorem GCell.set {w : World} {G : Nat} {y : Gs} (h : GCell w G y) (g : Gs) : GCell (setE w G 0 g) G g := by
  obtain ⟨⟨h0, h1, h2, h3, h4, h5⟩, hf⟩ := h
  unfold setE
  refine ⟨⟨?_, ?_, ?_, ?_, ?_, ?_⟩, fun o => ?_⟩ <;> simp [go_sem, h0, h1, h2, h3, h4, h5, hf]
theorem GCell.other {w : World} {G b : Nat} {y : Gs} (h : GCell w G y) (hne : G ≠ b) (k : Nat) (g : Gs) : GCell (setE w b k g) G y :=
  ⟨⟨(setE_other hne g k _).1.trans h.n.c0, (setE_other hne g k _).1.trans h.n.c1, (setE_other hne g k _).1.trans h.n.c2, (setE_other hne g k _).1.trans h.n.c3, (setE_other hne g k _).1.trans h.n.c4, (setE_other hne g k _).1.trans h.n.c5⟩, fun o => (setE_other hne g k o).2.trans (h.f o)⟩
theorem GCell.grown {w w' : World} {b : Nat} {g : Gs} {row : Option Nat} (h : GCell w b g) (hg : w.grownBy w' row) (hb : b < w.heap.size) (hne : row ≠ some b) : GCell w' b g := by
  have hbl : w'.heap[b]? = w.heap[b]? := hg.block b hb (fun e => hne e.symm)
  have hc : ∀ o, w'.cell? ⟨b, o, none⟩ = w.cell? ⟨b, o, none⟩ := fun o => World.cell?_of_block (a := ⟨b, o, none⟩) hbl
  have hf : ∀ o, w'.frozen? ⟨b, o, none⟩ = w.frozen? ⟨b, o, none⟩ := fun o => World.frozen?_of_block (a := ⟨b, o, none⟩) hbl
  exact ⟨⟨(hc _).trans h.n.c0, (hc _).trans h.n.c1, (hc _).trans h.n.c2, (hc _).trans h.n.c3, (hc _).trans h.n.c4, (hc _).trans h.n.c5⟩, fun o => (hf o).trans (h.f o)⟩
/-- A number of a row of one's own. -/
theorem own_eat {w : World} {base e g n cap : Nat} {l : List Gs} (h : w.ownsRow base e 6 (.slice (some ⟨g, 0, none⟩) n cap) n (ecs l)) {k : Nat} (hk : k < n) : g < w.heap.size ∧ EAt w g (k * 6) (eg l k) ∧ ∀ j, w.frozen? ⟨g, j, none⟩ = false := by
  have hl : l.length = n := by
    have := h.1
    rw [ecs_length] at this
    omega
  have hz : ∀ j, j < 6 → w.cell? ⟨g, k * 6 + j, none⟩ = (ecells (eg l k))[j]? := fun j hj => by
    rw [h.cellAt _ (by omega), ecs_at (by omega) hj]
  exact ⟨(h.lt g rfl).2, ⟨hz 0 (by decide), hz 1 (by decide), hz 2 (by decide), hz 3 (by decide), hz 4 (by decide), hz 5 (by decide)⟩, fun j => h.frozenAt j⟩
theorem ecs_one (g : Gs) : ecs [g] = ecells g := by simp [ecs]
/-- The six cells of one new number. -/
theorem e_new (w : World) (g : Gs) (t : TypeId) : ∀ j u, (ecells g)[j]? = some u → (w.alloc (.cells #[.bool (dn g.1), .string (ds g.1), .int .i64 g.1.e, .bool (dn g.2), .string (ds g.2), .int .i64 g.2.e] t)).cell? ((⟨w.heap.size, 0, none⟩ : Addr).add j) = some u := by
  intro j u hj
  have hlt : j < 6 := by
    rcases Nat.lt_or_ge j 6 with h | h
    · exact h
    · rw [List.getElem?_eq_none (by show 6 ≤ j; exact h)] at hj; cases hj
  rw [Addr.add_lit, World.cell?_alloc_at _ _ _ _ (by simp), ← hj]
  match j, hlt with
  | 0, _ => rfl
  | 1, _ => rfl
  | 2, _ => rfl
  | 3, _ => rfl
  | 4, _ => rfl
  | 5, _ => rfl
theorem ecells_one (g : Gs) : ∀ u ∈ ecells g, u.oneCell' = true := by
  intro u hu
  simp [ecells] at hu
  rcases hu with rfl | rfl | rfl | rfl | rfl | rfl <;> rfl
theorem erange {w : World} {b o : Nat} {g : Gs} (h : EAt w b o g) : w.rangeAt b o (ecells g) := by
  obtain ⟨h0, h1, h2, h3, h4, h5⟩ := h
  intro j v hv
  unfold ecells at hv
  match j, hv with
  | 0, hv => simp at hv; rw [← hv]; exact h0
  | 1, hv => simp at hv; rw [← hv]; exact h1
  | 2, hv => simp at hv; rw [← hv]; exact h2
  | 3, hv => simp at hv; rw [← hv]; exact h3
  | 4, hv => simp at hv; rw [← hv]; exact h4
  | 5, hv => simp at hv; rw [← hv]; exact h5
theorem infoE6 : (Tryz.prog.info? 31).map (·.size) = some 6 := by kernel_rfl
theorem there6 {w : World} {b o : Nat} {y : Gs} (hE : EAt w b o y) (hf : ∀ j, j < 6 → w.frozen? ⟨b, o + j, none⟩ = false) : w.there b o 6 := by
  intro j hj
  refine ⟨?_, hf j hj⟩
  have h6 : j < (ecells y).length := hj
  have := erange hE j _ (List.getElem?_eq_getElem h6)
  rw [this]; rfl
section
variable {ops : Array Oper} {rest : List Oper} {Q : Exit → Act → World → Prop} {a : Act} {w : World} {K : Act → World → Prop} {S : World → Prop}
/-- A load of a whole number, in a list of operations. -/
theorem wplg_at {dst : Option Nat} {t : TypeId} {pos : String} {af : Array Edge} {gd : Option (Nat × Bool)} {x : Operand} {b o : Nat} {g : Gs} (hE : EAt w b o g) (hw : Region.wanted ⟨dst, .load 31 x, t, pos, af, gd⟩ (yielded ops a.tmps) = true) (hx : a.eval x = .pointer (some ⟨b, o, none⟩))
    (K : wpList Tryz.prog ops Q rest (a.put dst (ge g)) w) : wpList Tryz.prog ops Q (⟨dst, .load 31 x, t, pos, af, gd⟩ :: rest) a w :=
  BigFrame.wpList_want hw fun _ hK => wp_load_mid _ x rfl b o hx (ecells g) _ (erange hE) Tryz.underlying31 rfl infoE6 (hK _ _ K)
/-- In a region that draws its order it may be taken first. -/
theorem yields_ge {op : Oper} {x : Operand} {b o : Nat} {g : Gs} (hw : Region.wanted op (yielded ops a.tmps) = true) (ho : op.op = .load 31 x) (hx : a.eval x = .pointer (some ⟨b, o, none⟩)) (hS : ∀ w, S w → EAt w b o g) : YieldsIf Tryz.prog ops S op (ge g) a :=
  yieldsIf_load_mid hw _ x ho b o hx (ecells g) _ (fun w h => erange (hS w h)) Tryz.underlying31 rfl infoE6
/-- A store of one. -/
theorem stepg_store {op : Oper} {x v : Operand} {b o : Nat} {y g : Gs} {d : Option Tmp} (hd : op.dst = d) (ho : op.op = .store 31 x v) (hgd : op.guard = none) (hE : EAt w b o y) (hf : ∀ j, j < 6 → w.frozen? ⟨b, o + j, none⟩ = false) (hx : a.eval x = .pointer (some ⟨b, o, none⟩)) (hv : a.eval v = ge g)
    (hK : K (a.put d undef) (setE w b o g)) : if Region.wanted op (yielded ops a.tmps) = true then Oper.wp Tryz.prog op a w K Q else K (a.put d undef) w := by
  subst hd
  rw [if_pos (by unfold Region.wanted; rw [hgd])]
  exact wp_store_mid _ x v ho b o (ecells g).toArray hx hv (there6 hE hf) infoE6 (by simp [ecells, Value.oneCell']) hK
/-- A new variable. -/
theorem stepg_alloc {op : Oper} {d : Option Tmp} (hd : op.dst = d) (ho : op.op = .alloc 31) (hgd : op.guard = none) {B : Nat} {wr : World} (hB : Below B wr w) (hs : B ≤ w.heap.size)
    (hK : ∀ b w', GCell w' b gz0 → B ≤ b → b < w'.heap.size → Below B wr w' → Below w.heap.size w w' → K (a.put d (.pointer (some ⟨b, 0, none⟩))) w') : if Region.wanted op (yielded ops a.tmps) = true then Oper.wp Tryz.prog op a w K Q else K (a.put d undef) w := by
  subst hd
  rw [if_pos (by unfold Region.wanted; rw [hgd])]
  have h := hK w.heap.size _ (GCell.zero w 31) hs (by simp) (hB.alloc hs _) (alloc_below w _)
  have hr : (Instr.alloc 31 true (.tuple #[])).run Tryz.prog w = .ok (.pointer (some ⟨w.heap.size, 0, none⟩)) (w.alloc (.cells #[.bool false, .string ⟨#[]⟩, .int .i64 0, .bool false, .string ⟨#[]⟩, .int .i64 0] 31)) := by
    simp [Instr.alloc, go_sem]
  unfold Oper.wp execOp
  simp only [ho, Sem.run_bind, hr, Sem.run_pure, Result.andThen_ok]
  exact h
/-- A store into a variable of its own. -/
theorem stepg_storeN {op : Oper} {x v : Operand} {b : Nat} {y g : Gs} {B : Nat} {wr : World} {d : Option Tmp} (hd : op.dst = d) (ho : op.op = .store 31 x v) (hgd : op.guard = none) (hE : GCell w b y) (hB : Below B wr w) (hb : B ≤ b) (hx : a.eval x = .pointer (some ⟨b, 0, none⟩)) (hv : a.eval v = ge g)
    (hK : ∀ w', GCell w' b g → Below B wr w' → w'.heap.size = w.heap.size → K (a.put d undef) w') : if Region.wanted op (yielded ops a.tmps) = true then Oper.wp Tryz.prog op a w K Q else K (a.put d undef) w :=
  stepg_store hd ho hgd hE.n (fun _ _ => hE.f _) hx hv (hK _ (hE.set g) (below_setE hB hb 0 g) (setE_size _ _ _ _))
/-- A new variable with a number in it. -/
theorem wplg_box {dst : Option Nat} {t : TypeId} {pos : String} {af : Array Edge} {x : Operand} {g : Gs} (hx : a.eval x = ge g)
    (K : ∀ b w', GCell w' b g → w.heap.size ≤ b → b < w'.heap.size → Below w.heap.size w w' → wpList Tryz.prog ops Q rest (a.put dst (.pointer (some ⟨b, 0, none⟩))) w') : wpList Tryz.prog ops Q (⟨dst, .box 31 x, t, pos, af, none⟩ :: rest) a w := by
  refine wpList_plain rfl fun K' hK => ?_
  have h := hK _ _ (K w.heap.size _ (GCell.new w 31 g) (Nat.le_refl _) (by simp) (alloc_below _ _))
  have hr : (Instr.box 31 (ge g)).run Tryz.prog w = .ok (.pointer (some ⟨w.heap.size, 0, none⟩)) (w.alloc (.cells #[.bool (dn g.1), .string (ds g.1), .int .i64 g.1.e, .bool (dn g.2), .string (ds g.2), .int .i64 g.2.e] 31)) := by
    unfold ge
    simp [Instr.box, go_sem]
  unfold Oper.wp execOp
  simp only [Sem.run_bind, hx, hr, Sem.run_pure, Result.andThen_ok]
  exact h
theorem wplg_alloc {dst : Option Nat} {t : TypeId} {pos : String} {af : Array Edge}
    (K : ∀ b w', GCell w' b gz0 → w.heap.size ≤ b → b < w'.heap.size → Below w.heap.size w w' → wpList Tryz.prog ops Q rest (a.put dst (.pointer (some ⟨b, 0, none⟩))) w') : wpList Tryz.prog ops Q (⟨dst, .alloc 31, t, pos, af, none⟩ :: rest) a w := by
  refine wpList_plain rfl fun K' hK => ?_
  have h := hK _ _ (K w.heap.size _ (GCell.zero w 31) (Nat.le_refl _) (by simp) (alloc_below w _))
  have hr : (Instr.alloc 31 true (.tuple #[])).run Tryz.prog w = .ok (.pointer (some ⟨w.heap.size, 0, none⟩)) (w.alloc (.cells #[.bool false, .string ⟨#[]⟩, .int .i64 0, .bool false, .string ⟨#[]⟩, .int .i64 0] 31)) := by
    simp [Instr.alloc, go_sem]
  unfold Oper.wp execOp
  simp only [Sem.run_bind, hr, Sem.run_pure, Result.andThen_ok]
  exact h
theorem wplg_storeN {dst : Option Nat} {t : TypeId} {pos : String} {af : Array Edge} {x v : Operand} {b : Nat} {y g : Gs} {B : Nat} {wr : World} (hE : GCell w b y) (hB : Below B wr w) (hb : B ≤ b) (hx : a.eval x = .pointer (some ⟨b, 0, none⟩)) (hv : a.eval v = ge g)
    (K : ∀ w', GCell w' b g → Below B wr w' → w'.heap.size = w.heap.size → wpList Tryz.prog ops Q rest (a.put dst undef) w') : wpList Tryz.prog ops Q (⟨dst, .store 31 x v, t, pos, af, none⟩ :: rest) a w := by
  exact wpList_store_mid rfl _ x v rfl b 0 (ecells g).toArray hx hv (there6 hE.n (fun _ _ => hE.f _)) infoE6 (by simp [ecells, Value.oneCell']) (K _ (hE.set g) (below_setE hB hb 0 g) (setE_size _ _ _ _))
theorem guardE (op : BinOp) (x y : Operand) (g g' : Gs) : (eqGuard op 31 x y (ge g) (ge g')).run Tryz.prog w = .ok () w := by
  have hg : Tryz.prog.eqGuardType Tryz.prog.depth 31 = false := by kernel_rfl
  unfold ge eqGuard
  simp [go_sem, hg]
end
section
variable {P : Program} {ops : Array Oper} {Q : Exit → Act → World → Prop} {md : Region.Mode} {S : World → Prop}
/-- The take, the slot that it writes named. -/
theorem wpAnyH_put {i : Nat} {oi : Oper} {v : Value} {fuel : Nat} {listed : Array Bool} {a : Act} {w : World} (d : Option Tmp) (hi : ops[i]? = some oi) (hd : oi.dst = d)
    (hs : Region.noSelect ops = true) (hf : Region.free md ops listed i = true) (hr : (Region.ready md ops listed).contains i = true)
    (hQ : ∀ c a w, Q (.panic c) (a.put d v) w → Q (.panic c) a w) (hy : YieldsIf P ops S oi v a) (hS : S w)
    (h : wpAnyH P md ops Q S fuel (listed.setIfInBounds i true) (a.put d v) w) : wpAnyH P md ops Q S (fuel + 1) listed a w := by
  subst hd
  exact wpAnyH_take hi hs hf hr hQ hy hS h
/-- One that comes up, the slot that it writes named. -/
theorem allReady_put {i : Nat} {o : Oper} {fuel : Nat} {listed : Array Bool} {a : Act} {w : World} {rs : List Nat} (d : Option Tmp) (ho : ops[i]? = some o) (hd : o.dst = d)
    (h : ∀ K' : Act → World → Prop, Shut (∀ a w, S w → (S w → wpAnyH P md ops Q S fuel (listed.setIfInBounds i true) a w) → K' a w) → if Region.wanted o (yielded ops a.tmps) = true then Oper.wp P o a w K' Q else K' (a.put d undef) w)
    (hs : AllReadyH P md ops Q S fuel listed a w rs) : AllReadyH P md ops Q S fuel listed a w (i :: rs) := by
  subst hd
  exact AllReadyH.cons ho h hs
end
theorem Zb.neg {k : Nat} {z : Zi} (h : Zb k z) : Zb k (zneg z) := ⟨by show bl (-z.re).natAbs ≤ k; rw [Int.natAbs_neg]; exact h.1, by show bl (-z.im).natAbs ≤ k; rw [Int.natAbs_neg]; exact h.2⟩
theorem Zb.mul {k : Nat} {y z : Zi} (hy : Zb k y) (hz : Zb k z) : Zb (k + k + 1) (zmul y z) := by
  have h1 := bl_prod hy.1 hz.1
  have h2 := bl_prod hy.2 hz.2
  have h3 := bl_prod hy.1 hz.2
  have h4 := bl_prod hy.2 hz.1
  have h5 : bl (-(y.im * z.im)).natAbs ≤ k + k := by rw [Int.natAbs_neg]; exact h2
  have h6 := bl_sum h1 h5
  have h7 := bl_sum h3 h4
  rw [← Int.sub_eq_add_neg] at h6
  exact ⟨h6, h7⟩
theorem EAt.other {w : World} {G b o : Nat} {y : Gs} (h : EAt w G o y) (hne : G ≠ b) (k : Nat) (g : Gs) : EAt (setE w b k g) G o y :=
  ⟨(setE_other hne g k _).1.trans h.c0, (setE_other hne g k _).1.trans h.c1, (setE_other hne g k _).1.trans h.c2, (setE_other hne g k _).1.trans h.c3, (setE_other hne g k _).1.trans h.c4, (setE_other hne g k _).1.trans h.c5⟩
/-- What a function that makes an exact number answers. -/
def RGE (g : Gs) (w : World) (e : Ending) (w' : World) : Prop := e = .returned (.tuple #[ge g, .int .i64 0]) ∧ Below w.heap.size w w'
section
variable (y z : Zi) (hy : Zb 400 y) (hz : Zb 400 z) (e f : Nat) (he : e ≤ 400) (hf : f ≤ 400) (w : World) (hT : Tab w)
include hy he
theorem gg_neg : Calls Tryz.prog 54 #[ge (gz y e)] w fun en w' => en = .returned (ge (gz (zneg y) e)) ∧ Below w.heap.size w w' := gs_neg y hy e he w
include hz hT
theorem gg_add : Calls Tryz.prog 13 #[ge (gz y e), ge (gz z e)] w (RGE (gz (zadd y z) e) w) := gs_add y z hy hz e he w hT
include hf
theorem gg_mul : Calls Tryz.prog 16 #[ge (gz y e), ge (gz z f)] w (RGE (gz (zmul y z) (e + f)) w) := gs_mul y z hy hz e f he hf w hT
end
theorem gg_complex {x y : Nat} {z : Zi} {k : Nat} (hx : flD x = sd z.re k) (hy : flD y = sd z.im k) (lx : x < 18446744073709551616) (ly : y < 18446744073709551616) (fx : fin x = true) (fy : fin y = true) (w : World) (hT : Tab w) :
    Calls Tryz.prog 22 #[.complex .f64 x y] w (RGE (gz z k) w) := by
  have h := gcomplex_any x y lx ly fx fy w hT
  rw [hx, hy] at h
  exact h
theorem gg_near {z : Zi} {e : Nat} (hz : Zb 400 z) (he : e ≤ 400) (w : World) : Calls Tryz.prog 20 #[ge (gz z e)] w (RNg w) := by
  have key : ∀ n : Int, bl n.natAbs ≤ 400 → (sd n e).m ≠ 0 → -900 ≤ (sd n e).e ∧ (sd n e).e + (bl (sd n e).m.natAbs : Int) ≤ 860 ∧ bl (sd n e).m.natAbs ≤ 1000 := by
    intro n hn _
    have h1 := sd_e n e
    have h2 : bl (sd n e).m.natAbs ≤ bl n.natAbs := by
      unfold sd
      rw [mkD_m, odI_natAbs]
      exact bl_od _
    omega
  exact gnear_gen (sd z.re e) (sd z.im e) (sd_ok (by have := hz.1; omega) (by omega)) (sd_ok (by have := hz.2; omega) (by omega)) (key _ hz.1) (key _ hz.2) w
theorem gg_complexF {x y : Nat} (lx : x < 18446744073709551616) (ly : y < 18446744073709551616) (fx : fin x = true) (fy : fin y = true) (w : World) (hT : Tab w) :
    Calls Tryz.prog 22 #[.complex .f64 x y] w (RGE (flD x, flD y) w) := gcomplex_any x y lx ly fx fy w hT
/-- A row of zeros. -/
theorem zeros_row (n : Nat) : (madeCells #[.bool false, .string ⟨#[]⟩, .int .i64 0, .bool false, .string ⟨#[]⟩, .int .i64 0] (n * 6)).toList = ecs (List.replicate n gz0) := by
  have e : ecells gz0 = [.bool false, .string ⟨#[]⟩, .int .i64 0, .bool false, .string ⟨#[]⟩, .int .i64 0] := by
    have h := ge_zero
    unfold ge at h
    injection h with h
    exact (congrArg Array.toList h).symm
  have hl : (ecs (List.replicate n gz0)).length = n * 6 := by rw [ecs_length, List.length_replicate]
  refine List.ext_getElem? fun i => ?_
  by_cases hi : i < n * 6
  · have h1 := ecs_at (l := List.replicate n gz0) (k := i / 6) (by rw [List.length_replicate]; omega) (j := i % 6) (by omega)
    rw [show i / 6 * 6 + i % 6 = i by omega] at h1
    have h2 : eg (List.replicate n gz0) (i / 6) = gz0 := by
      rw [eg_eq (by rw [List.length_replicate]; omega), List.getElem_replicate]
    rw [h1, h2, e]
    have h3 : i % 6 < 6 := by omega
    simp only [madeCells, Array.toList_map, Array.toList_range, List.getElem?_map, List.getElem?_range hi, Option.map_some]
    generalize i % 6 = j at h3
    match j, h3 with
    | 0, _ => rfl
    | 1, _ => rfl
    | 2, _ => rfl
    | 3, _ => rfl
    | 4, _ => rfl
    | 5, _ => rfl
  · rw [List.getElem?_eq_none (by rw [Array.length_toList, size_madeCells]; omega), List.getElem?_eq_none (by rw [hl]; omega)]
end Go.Proofs.YtbgjcpnbdgljbaaGreatDoor

/- law16.times: how often a number stands in a list. -/
namespace Go.Proofs.YtbgjcpnbdgljbaaGreatDoor
open Go.RowKit Go.Fil Go.Shelf

instance : DecidableEq Dya := fun a b => if h : a.m = b.m ∧ a.e = b.e then .isTrue (Dya.ext' h.1 h.2) else .isFalse (by rintro rfl; exact h ⟨rfl, rfl⟩)
theorem bytes_ext {a b : ByteArray} (h : a.toList = b.toList) : a = b := by
  rw [ByteArray.toList_eq, ByteArray.toList_eq] at h
  obtain ⟨⟨l⟩⟩ := a
  obtain ⟨⟨m⟩⟩ := b
  simp at h
  subst h; rfl
theorem run_eqE (w : World) (g h : Gs) : (binOp .eql 31 (ge g) (ge h)).run Tryz.prog w = .ok (.bool (decide (g = h))) w := by
  by_cases e : g = h
  · subst e
    rw [decide_eq_true rfl]
    unfold ge
    simp [go_sem]
  · rw [decide_eq_false e]
    have hne : ¬ ((dn g.1 = dn h.1 ∧ ds g.1 = ds h.1 ∧ g.1.e = h.1.e) ∧ dn g.2 = dn h.2 ∧ ds g.2 = ds h.2 ∧ g.2.e = h.2.e) := by
      rintro ⟨⟨a1, a2, a3⟩, b1, b2, b3⟩
      exact e (Prod.ext (dya_ext a1 a2 a3) (dya_ext b1 b2 b3))
    unfold ge
    simp [go_sem]
    intro a1 a2 a3 b1 b2 b3
    exact hne ⟨⟨a1, bytes_ext a2, a3⟩, b1, bytes_ext b2, b3⟩
theorem run_neE (w : World) (g h : Gs) : (binOp .neq 31 (ge g) (ge h)).run Tryz.prog w = .ok (.bool (!decide (g = h))) w := by
  by_cases e : g = h
  · subst e
    rw [decide_eq_true rfl]
    unfold ge
    simp [go_sem]
  · rw [decide_eq_false e]
    have hne : ¬ ((dn g.1 = dn h.1 ∧ ds g.1 = ds h.1 ∧ g.1.e = h.1.e) ∧ dn g.2 = dn h.2 ∧ ds g.2 = ds h.2 ∧ g.2.e = h.2.e) := by
      rintro ⟨⟨a1, a2, a3⟩, b1, b2, b3⟩
      exact e (Prod.ext (dya_ext a1 a2 a3) (dya_ext b1 b2 b3))
    unfold ge
    simp [go_sem]
    intro a1 a2 a3 b1 b2 b3
    exact hne ⟨⟨a1, bytes_ext a2, a3⟩, b1, bytes_ext b2, b3⟩
section
variable {ops : Array Oper} {S : World → Prop} {a : Act}
/-- In a region that draws its order a comparison may be taken first. -/
theorem yields_eq {op : Oper} {x y : Operand} {u : TypeId} {g h : Gs} {b : Bool} (hw : Region.wanted op (yielded ops a.tmps) = true) (ho : op.op = .binOp .eql 31 x y u) (hx : a.eval x = ge g) (hy : a.eval y = ge h) (hb : decide (g = h) = b) : YieldsIf Tryz.prog ops S op (.bool b) a := by
  refine .inl ⟨hw, fun w _ => ?_⟩
  subst hb
  unfold execOp
  simp only [ho, hx, hy, Sem.run_bind, guardE, Sem.run_pure, Result.andThen_ok, run_eqE]
theorem yields_ne {op : Oper} {x y : Operand} {u : TypeId} {g h : Gs} {b : Bool} (hw : Region.wanted op (yielded ops a.tmps) = true) (ho : op.op = .binOp .neq 31 x y u) (hx : a.eval x = ge g) (hy : a.eval y = ge h) (hb : (!decide (g = h)) = b) : YieldsIf Tryz.prog ops S op (.bool b) a := by
  refine .inl ⟨hw, fun w _ => ?_⟩
  subst hb
  unfold execOp
  simp only [ho, hx, hy, Sem.run_bind, guardE, Sem.run_pure, Result.andThen_ok, run_neE]
end
attribute [local irreducible] ge
theorem count_take {gs : List Gs} {k : Nat} (hk : k < gs.length) (g : Gs) : (gs.take (k + 1)).count g = (gs.take k).count g + if eg gs k = g then 1 else 0 := by
  rw [List.take_succ_eq_append_getElem hk, List.count_append, eg_eq hk, List.count_singleton]
  simp
set_option maxRecDepth 100000 in
set_option maxHeartbeats 3200000 in
theorem ltimes_any (A : Option Addr) (n cap : Nat) (gs : List Gs) (g : Gs) (hn : gs.length = n) (hle : n ≤ 20) (w : World) (hs : Seq w w.heap.size A (ecs gs)) :
    Calls Tryz.prog 27 #[.slice A n cap, ge g] w fun e w' => e = .returned (.int .i64 ((gs.count g : Nat) : Int)) ∧ Below w.heap.size w w' := by
  have HS := Lib.hid hs
  have HN := Lib.hid hn
  clear hs hn
  go_enter Tryz.func27, Tryz.ntmps27
  go_wp2_with ((with_reducible refine wplg_box rfl ?_); intro bg w1 hbg hbl1 hbl2 hbb)
  have HG := Lib.hid hbg
  have HB1 := Lib.hid hbb
  clear hbg hbb
  go_loopw [5, 6] (fun c i wr => ∃ k : Nat, k ≤ n ∧ i = .int .i64 k ∧ c = .int .i64 (((gs.take k).count g : Nat) : Int) ∧ Below w1.heap.size w1 wr) (fun _ i _ => n - (intOf i).toNat)
  case atStart => exact ⟨0, Nat.zero_le _, rfl, rfl, Below.refl _ _⟩
  case round =>
    obtain ⟨k, hk, rfl, rfl, hbw⟩ := hrel
    have HBW := Lib.hid hbw
    clear hbw
    by_cases hlt : k < n
    · obtain ⟨b, o, rfl, hb, hea⟩ := (HS.out.below (HB1.out.trans (HBW.out.mono HB1.out.size)) (Nat.le_refl _)).eat (k := k) (by have := HN.out; omega)
      have HEA := Lib.hid hea
      have HEG := Lib.hid (HG.out.n.below HBW.out hbl2)
      have hbl : b < wr.heap.size := Nat.lt_of_lt_of_le hb (Nat.le_trans HB1.out.size HBW.out.size)
      have hgl : bg < wr.heap.size := Nat.lt_of_lt_of_le hbl2 HBW.out.size
      have hct := count_take (gs := gs) (k := k) (by have := HN.out; omega) g
      have hcl : (gs.take k).count g ≤ k := Nat.le_trans List.count_le_length (by rw [List.length_take]; omega)
      have k0 : (0 : Int) ≤ (k : Int) := by omega
      have k1 : (k : Int) < (n : Int) := by omega
      have HCT := Lib.hid hct
      clear hct hea hb
      by_cases hd : eg gs k = g
      · have HD := Lib.hid (decide_eq_true hd)
        have HDE := Lib.hid hd
        clear hd
        go_upto_region 5 with fail
        refine wp_region_held_drew (S := fun x => Below wr.heap.size wr x) (by kernel_rfl) (by exact (Below.refl _ _).drew) (fun hHeld => ?_)
        have vtb0 := Lib.hid (show Below wr.heap.size wr wr.drew from (Below.refl _ _).drew)
        refine wpAnyH_put (i := 0) (v := ?vt1) (some 13) rfl rfl (by kernel_rfl) (by kernel_rfl) (by kernel_rfl) (fun _ _ _ h => h) (Or.inl ⟨by kernel_rfl, ?hvt1⟩) (by assumption) ?rvt1
        case hvt1 => (intro w hSw; (try dsimp only at hSw); go_simp; (try with_reducible rfl))
        try simp only [Act.put, List.setIfInBounds_toArray, List.set_cons_zero, List.set_cons_succ]
        refine wpAnyH_put (i := 1) (v := ?vt2) (some 14) rfl rfl (by kernel_rfl) (by kernel_rfl) (by kernel_rfl) (fun _ _ _ h => h) (Or.inl ⟨by kernel_rfl, ?hvt2⟩) (by assumption) ?rvt2
        case hvt2 => (intro w hSw; (try dsimp only at hSw); go_simp; (try with_reducible rfl))
        try simp only [Act.put, List.setIfInBounds_toArray, List.set_cons_zero, List.set_cons_succ]
        refine wpAnyH_put (i := 2) (v := ?vt3) (some 15) rfl rfl (by kernel_rfl) (by kernel_rfl) (by kernel_rfl) (fun _ _ _ h => h) (Or.inl ⟨by kernel_rfl, ?hvt3⟩) (by assumption) ?rvt3
        case hvt3 => (intro w hSw; (try dsimp only at hSw); go_simp; (try with_reducible rfl))
        try simp only [Act.put, List.setIfInBounds_toArray, List.set_cons_zero, List.set_cons_succ]
        refine wpAnyH_put (i := 3) (v := ge (eg gs k)) (some 16) rfl rfl (by kernel_rfl) (by kernel_rfl) (by kernel_rfl) (fun _ _ _ h => h) (yields_ge (by kernel_rfl) rfl rfl (fun x (hx : Below wr.heap.size wr x) => HEA.out.below hx hbl)) (by assumption) ?_
        try simp only [Act.put, List.setIfInBounds_toArray, List.set_cons_zero, List.set_cons_succ]
        refine wpAnyH_put (i := 4) (v := ge (g)) (some 17) rfl rfl (by kernel_rfl) (by kernel_rfl) (by kernel_rfl) (fun _ _ _ h => h) (yields_ge (by kernel_rfl) rfl rfl (fun x (hx : Below wr.heap.size wr x) => HEG.out.below hx hgl)) (by assumption) ?_
        try simp only [Act.put, List.setIfInBounds_toArray, List.set_cons_zero, List.set_cons_succ]
        refine wpAnyH_put (i := 5) (v := .bool true) (some 18) rfl rfl (by kernel_rfl) (by kernel_rfl) (by kernel_rfl) (fun _ _ _ h => h) (yields_eq (by kernel_rfl) rfl rfl rfl HD.out) (by assumption) ?_
        try simp only [Act.put, List.setIfInBounds_toArray, List.set_cons_zero, List.set_cons_succ]
        refine wpAnyH_done (by kernel_rfl) ?_ _
        have hbw3 : Below w1.heap.size w1 wr.drew := HBW.out.trans (vtb0.out.mono HBW.out.size)

        go_wp2
        go_roundw
        case rel => exact ⟨k + 1, by omega, by go_num, by rw [HCT.out, if_pos HDE.out]; go_num, hbw3⟩
        case measure => simp [intOf]; omega
      · have HD := Lib.hid (decide_eq_false hd)
        have HDE := Lib.hid hd
        clear hd
        go_upto_region 5 with fail
        refine wp_region_held_drew (S := fun x => Below wr.heap.size wr x) (by kernel_rfl) (by exact (Below.refl _ _).drew) (fun hHeld => ?_)
        have vfb0 := Lib.hid (show Below wr.heap.size wr wr.drew from (Below.refl _ _).drew)
        refine wpAnyH_put (i := 0) (v := ?vf1) (some 13) rfl rfl (by kernel_rfl) (by kernel_rfl) (by kernel_rfl) (fun _ _ _ h => h) (Or.inl ⟨by kernel_rfl, ?hvf1⟩) (by assumption) ?rvf1
        case hvf1 => (intro w hSw; (try dsimp only at hSw); go_simp; (try with_reducible rfl))
        try simp only [Act.put, List.setIfInBounds_toArray, List.set_cons_zero, List.set_cons_succ]
        refine wpAnyH_put (i := 1) (v := ?vf2) (some 14) rfl rfl (by kernel_rfl) (by kernel_rfl) (by kernel_rfl) (fun _ _ _ h => h) (Or.inl ⟨by kernel_rfl, ?hvf2⟩) (by assumption) ?rvf2
        case hvf2 => (intro w hSw; (try dsimp only at hSw); go_simp; (try with_reducible rfl))
        try simp only [Act.put, List.setIfInBounds_toArray, List.set_cons_zero, List.set_cons_succ]
        refine wpAnyH_put (i := 2) (v := ?vf3) (some 15) rfl rfl (by kernel_rfl) (by kernel_rfl) (by kernel_rfl) (fun _ _ _ h => h) (Or.inl ⟨by kernel_rfl, ?hvf3⟩) (by assumption) ?rvf3
        case hvf3 => (intro w hSw; (try dsimp only at hSw); go_simp; (try with_reducible rfl))
        try simp only [Act.put, List.setIfInBounds_toArray, List.set_cons_zero, List.set_cons_succ]
        refine wpAnyH_put (i := 3) (v := ge (eg gs k)) (some 16) rfl rfl (by kernel_rfl) (by kernel_rfl) (by kernel_rfl) (fun _ _ _ h => h) (yields_ge (by kernel_rfl) rfl rfl (fun x (hx : Below wr.heap.size wr x) => HEA.out.below hx hbl)) (by assumption) ?_
        try simp only [Act.put, List.setIfInBounds_toArray, List.set_cons_zero, List.set_cons_succ]
        refine wpAnyH_put (i := 4) (v := ge (g)) (some 17) rfl rfl (by kernel_rfl) (by kernel_rfl) (by kernel_rfl) (fun _ _ _ h => h) (yields_ge (by kernel_rfl) rfl rfl (fun x (hx : Below wr.heap.size wr x) => HEG.out.below hx hgl)) (by assumption) ?_
        try simp only [Act.put, List.setIfInBounds_toArray, List.set_cons_zero, List.set_cons_succ]
        refine wpAnyH_put (i := 5) (v := .bool false) (some 18) rfl rfl (by kernel_rfl) (by kernel_rfl) (by kernel_rfl) (fun _ _ _ h => h) (yields_eq (by kernel_rfl) rfl rfl rfl HD.out) (by assumption) ?_
        try simp only [Act.put, List.setIfInBounds_toArray, List.set_cons_zero, List.set_cons_succ]
        refine wpAnyH_done (by kernel_rfl) ?_ _
        have hbw3 : Below w1.heap.size w1 wr.drew := HBW.out.trans (vfb0.out.mono HBW.out.size)

        go_wp2
        go_roundw
        case rel => exact ⟨k + 1, by omega, by go_num, by rw [HCT.out, if_neg HDE.out]; rfl, hbw3⟩
        case measure => simp [intOf]; omega
    · obtain rfl : k = n := by omega
      go_wp2
      go_ret
      exact ⟨by rw [List.take_of_length_le (by have := HN.out; omega)]; rfl, HB1.out.trans (HBW.out.mono HB1.out.size)⟩
end Go.Proofs.YtbgjcpnbdgljbaaGreatDoor
