/- What the test of roots.Certify says: of a product of factors just one g lies in the ball that passes, and stands there once. No program is in sight. -/
import Derived.Test.YtbgjcpnbdgljbaaGreatDoorMQpl
namespace Go.Fil
open Go

/-- The number at a place. -/
def nthQ (l : List Qi) (k : Nat) : Qi := l.getD k q0
theorem nthQ_succ (c : Qi) (l : List Qi) (k : Nat) : nthQ (c :: l) (k + 1) = nthQ l k := by simp [nthQ]
theorem nthB_succ (c : Bl) (l : List Bl) (k : Nat) : nthB (c :: l) (k + 1) = nthB l k := by simp [nthB]
/-- Balls that hold numbers, place by place. -/
structure HBs (l : List Bl) (q : List Qi) : Prop where
  len : l.length = q.length
  at' : ∀ k, k < l.length → HB (nthB l k) (nthQ q k)
theorem HBs.tail {B : Bl} {l : List Bl} {x : Qi} {q : List Qi} (h : HBs (B :: l) (x :: q)) : HBs l q :=
  ⟨by simpa using h.len, fun k hk => by have := h.at' (k + 1) (by simpa using hk); rwa [nthB_succ, nthQ_succ] at this⟩
theorem HBs.head {B : Bl} {l : List Bl} {x : Qi} {q : List Qi} (h : HBs (B :: l) (x :: q)) : HB B x := h.at' 0 (by simp)
theorem q0_eq : (⟨fv 0, fv 0⟩ : Qi) = q0 := by rw [fv_zero]; rfl
/-- poly.on holds. -/
theorem HB.on {z : Bl} {x : Qi} (hz : HB z x) : ∀ {l : List Bl} {q : List Qi}, HBs l q → HB (onS z l) (qev q x)
  | [], [], _ => by
    have := HB.point (a := 0) (b := 0) (by decide) (by decide)
    rwa [q0_eq] at this
  | [], _ :: _, h => by have := h.len; simp at this
  | _ :: _, [], h => by have := h.len; simp at this
  | [c], [y], h => by
    have e : qev [y] x = y := by apply Qi.ext' <;> simp only [qev, qadd, qmul, q0] <;> grind
    rw [e]; exact h.head
  | [_], _ :: _ :: _, h => by have := h.len; simp at this
  | _ :: _ :: _, [_], h => by have := h.len; simp at this
  | c :: d :: r, y :: u :: q, h => (HB.on hz h.tail).mul hz |>.add h.head
/-- The coefficients as exact numbers. -/
def qof (c : Cc) : Qi := ⟨fv c.1, fv c.2⟩
def qcs (ps : List Cc) : List Qi := ps.map qof
theorem qcs_length (ps : List Cc) : (qcs ps).length = ps.length := by simp [qcs]
theorem qcs_at {ps : List Cc} {k : Nat} (hk : k < ps.length) : nthQ (qcs ps) k = qof (nth ps k) := by
  unfold nthQ qcs
  rw [List.getD_eq_getElem?_getD, List.getElem?_map, List.getElem?_eq_getElem hk, nth_eq hk]; rfl
/-- Words. -/
def Ws (ps : List Cc) : Prop := ∀ k, k < ps.length → (nth ps k).1 < 18446744073709551616 ∧ (nth ps k).2 < 18446744073709551616
theorem HBs.points {ps : List Cc} (h : Ws ps) : HBs (pointsS ps) (qcs ps) := by
  refine ⟨by rw [qcs_length]; exact pointsTo_length ps _, fun k hk => ?_⟩
  have hk' : k < ps.length := by have := pointsTo_length ps ps.length; unfold pointsS at hk; omega
  rw [qcs_at hk', nthB_eq hk]
  have e : (pointsS ps)[k] = pointS (nth ps k).1 (nth ps k).2 := by simp [pointsS, pointsTo]
  rw [e]
  exact HB.point (h k hk').1 (h k hk').2
/-- The slope's coefficients. -/
def qdl : Nat → List Qi → List Qi
  | _, [] => []
  | k, c :: q => qmul (qr ((k : Nat) : Rat)) c :: qdl (k + 1) q
theorem qdl_length (k : Nat) (q : List Qi) : (qdl k q).length = q.length := by
  induction q generalizing k with
  | nil => rfl
  | cons c q ih => simp [qdl, ih]
theorem qdl_at (j : Nat) (q : List Qi) (i : Nat) (hi : i < q.length) : nthQ (qdl j q) i = qmul (qr ((j + i : Nat) : Rat)) (nthQ q i) := by
  induction q generalizing j i with
  | nil => simp at hi
  | cons c q ih =>
    cases i with
    | zero => rfl
    | succ i =>
      rw [qdl, nthQ_succ, nthQ_succ, ih (j + 1) i (by simpa using hi), show j + 1 + i = j + (i + 1) by omega]
theorem qev_qdl (k : Nat) (q : List Qi) (g : Qi) : qev (qdl k q) g = qadd (qmul (qr ((k : Nat) : Rat)) (qev q g)) (qmul (qder q g) g) := by
  induction q generalizing k with
  | nil => apply Qi.ext' <;> simp only [qdl, qev, qder, qmul, qadd, qr, q0] <;> grind
  | cons c q ih =>
    rw [qdl, qev, ih, qev, qder]
    generalize qev q g = A
    generalize qder q g = B
    have e : (((k + 1 : Nat) : Rat)) = ((k : Nat) : Rat) + 1 := by push_cast; rfl
    rw [e]
    apply Qi.ext' <;> simp only [qadd, qmul, qr] <;> grind
theorem qder_cons (c : Qi) (q : List Qi) (g : Qi) : qder (c :: q) g = qev (qdl 1 q) g := by
  rw [qev_qdl, qder]
  apply Qi.ext' <;> simp only [qadd, qmul, qr] <;> grind
theorem HBs.slopes {ps : List Cc} (h : Ws ps) (hl : ps.length ≤ 1000) : HBs (slopesS ps) (qdl 1 (qcs ps |>.drop 1)) := by
  have hlen : (slopesS ps).length = ps.length - 1 := slopesTo_length ps _
  refine ⟨by rw [qdl_length, List.length_drop, qcs_length, hlen], fun k hk => ?_⟩
  have hk' : k + 1 < ps.length := by omega
  rw [qdl_at _ _ _ (by rw [List.length_drop, qcs_length]; omega)]
  have e1 : nthQ ((qcs ps).drop 1) k = nthQ (qcs ps) (k + 1) := by unfold nthQ; rw [List.getD_eq_getElem?_getD, List.getD_eq_getElem?_getD, List.getElem?_drop, Nat.add_comm]
  have e : (slopesS ps)[k] = slopeB ps (k + 1) := by simp [slopesS, slopesTo]
  rw [e1, qcs_at hk', nthB_eq hk, e]
  unfold slopeB
  obtain ⟨f1, f2, f3⟩ := FI.of (n := ((k + 1 : Nat) : Int)) (by omega)
  have hp := HB.point (a := fi (k + 1)) (b := 0) f1 (by decide)
  have e2 : (⟨fv (fi (k + 1)), fv 0⟩ : Qi) = qr ((1 + k : Nat) : Rat) := by
    unfold fi
    rw [f3, fv_zero, Nat.add_comm 1 k]; rfl
  rw [e2] at hp
  exact hp.mul (HB.point (h _ hk').1 (h _ hk').2)
theorem order_nb {x y : Nat} (hx : Nb x) (hy : y < 9218868437227405312) : FloatKind.f64.format.order x y = some (if x < y then .lt else if x = y then .eq else .gt) := by
  rcases inf_case hx with h1 | h1
  · rw [order_fv (nb_fin h1) (by omega) (nb_fin hy) (by omega), nb_fv hx, nb_fv (Nat.le_of_lt hy)]
    rcases Nat.lt_trichotomy x y with h | h | h
    · rw [if_pos (rv_lt h), if_pos h]
    · subst h
      rw [if_neg (by grind), if_pos rfl, if_neg (Nat.lt_irrefl _), if_pos rfl]
    · have := rv_lt h
      rw [if_neg (by grind), if_neg (by grind), if_neg (by omega), if_neg (by omega)]
  · subst h1
    rw [if_neg (by omega), if_neg (by omega)]
    obtain ⟨m, p, h2, _⟩ := read_nb hy
    show (Ieee.double.read 9218868437227405312).order (Ieee.double.read y) = _
    rw [read_inf, h2]; rfl
theorem flt_nb {x y : Nat} (hx : Nb x) (hy : y < 9218868437227405312) (h : flt x y = true) : x < y := by
  unfold flt at h
  rw [order_nb hx hy] at h
  refine Decidable.byContradiction fun hn => ?_
  rw [if_neg hn] at h
  split at h <;> exact absurd h (by decide)
theorem fgt_nb {x y : Nat} (hx : Nb x) (hy : y < 9218868437227405312) (h : fgt x y = false) : x ≤ y := by
  unfold fgt at h
  rw [order_nb hx hy] at h
  refine Decidable.byContradiction fun hn => ?_
  rw [if_neg (by omega), if_neg (by omega)] at h
  exact absurd h (by decide)
theorem rv_le {a b : Nat} (h : a ≤ b) : rv a ≤ rv b := rv_mono h
/-- A ball that may be and is not the whole sphere. -/
theorem may_parts {x y r : Nat} (hr : r < 18446744073709551616) (h : mayS (x, y, r) = true) (hf : finB r = true) : isWholeS (x, y, r) = false ∧ fin x = true ∧ fin y = true ∧ r < 9218868437227405312 := by
  have hp : pinfB r = false := by
    cases hp : pinfB r
    · rfl
    · exfalso
      have h1 := finB_inv hf
      unfold pinfB at hp
      have h2 : r < 9223372036854775808 ∨ 9223372036854775808 ≤ r := by omega
      rcases h2 with h2 | h2
      · have h3 : r < 9218868437227405312 := by unfold fin at h1; simp at h1; omega
        rw [order_nb (Nat.le_of_lt h3) (by decide)] at hp
        rw [show (if r < 9218868437227405311 then Ordering.lt else if r = 9218868437227405311 then .eq else .gt) = (if r < 9218868437227405311 then Ordering.lt else .eq) by
          by_cases h4 : r < 9218868437227405311
          · rw [if_pos h4, if_pos h4]
          · rw [if_neg h4, if_neg h4, if_pos (by omega)]] at hp
        split at hp <;> exact absurd hp (by decide)
      · rw [order_fv h1 hr (by decide) (by decide)] at hp
        have h4 : fv r ≤ 0 := by
          unfold fv
          rw [decide_eq_true h2]
          have := rv_nonneg (r % 9223372036854775808)
          unfold neg1
          rw [if_pos rfl]; grind
        have h5 : 0 < fv 9218868437227405311 := by rw [fv_small (by decide)]; exact rv_pos (by decide)
        rw [if_pos (by grind)] at hp
        exact absurd hp (by decide)
  have hm := h
  unfold mayS at hm
  rw [hp] at hm
  simp only [Bool.false_eq_true, if_false, Bool.and_eq_true] at hm
  obtain ⟨h1, h2, h3⟩ := hm
  obtain ⟨h4, h5⟩ := cfin_inv h1
  refine ⟨by unfold isWholeS; rw [h, hp]; rfl, h4, h5, ?_⟩
  have h6 := finB_inv h2
  have h7 : signB r = false := by simpa using h3
  unfold signB at h7
  unfold fin at h6
  simp at h6 h7
  omega
/-- What the test asks. -/
def certOk (ps : List Cc) (a b x y r : Nat) : Bool :=
  mayS (x, y, r) && (contractsS (negS (mulS (pointS a b) (onFrom (pointS x y) (pointsS ps) 0))) (subS (pointS fone 0) (mulS (pointS a b) (onFrom (x, y, r) (slopesS ps) 0))) r).2
theorem q1_eq : (⟨fv fone, fv 0⟩ : Qi) = q1 := by
  rw [fv_zero]
  have : fv fone = 1 := by rw [fv_small (by decide)]; exact rv_one
  rw [this]; rfl
section
variable {ps : List Cc} {a b x y r : Nat} (hw : Ws ps) (hl : ps.length ≤ 1000) (ha : a < 18446744073709551616) (hb : b < 18446744073709551616) (hx : x < 18446744073709551616) (hy : y < 18446744073709551616) (hr : r < 18446744073709551616)
variable (h : certOk ps a b x y r = true)
include hw hl ha hb hx hy hr h
theorem cert_nums : r < 9218868437227405312 ∧ isWholeS (x, y, r) = false ∧ ∃ q m : Rat, q < 1 ∧ m + q * rv r ≤ rv r ∧ Le (qmul (qof (a, b)) (qev (qcs ps) (qof (x, y)))) m ∧
    ∀ z, Le (qsub z (qof (x, y))) (rv r) → Le (qsub q1 (qmul (qof (a, b)) (qder (qcs ps) z))) q := by
  unfold certOk contractsS at h
  rw [Bool.and_eq_true] at h
  obtain ⟨hm, hc⟩ := h
  generalize hM : negS (mulS (pointS a b) (onFrom (pointS x y) (pointsS ps) 0)) = M at hc
  generalize hS : subS (pointS fone 0) (mulS (pointS a b) (onFrom (x, y, r) (slopesS ps) 0)) = S at hc
  by_cases hcc : (!finB r || fle r 0 || !flt (bhiS S) fone || fgt (plusS (bhiS M) (timesS (bhiS S) r)) r) = true
  · rw [if_pos hcc] at hc; exact absurd hc (by decide)
  · simp only [Bool.not_eq_true, Bool.or_eq_false_iff, Bool.not_eq_false'] at hcc
    obtain ⟨⟨⟨c1, c2⟩, c3⟩, c4⟩ := hcc
    obtain ⟨d1, d2, d3, d4⟩ := may_parts hr hm c1
    have hY := HB.point ha hb
    have hHM : HB M (qneg (qmul (qof (a, b)) (qev (qcs ps) (qof (x, y))))) := by
      rw [← hM]
      exact (hY.mul ((HB.point hx hy).on (HBs.points hw))).neg
    have hHS : ∀ z, Le (qsub z (qof (x, y))) (rv r) → HB S (qsub q1 (qmul (qof (a, b)) (qder (qcs ps) z))) := by
      intro z hz
      have hBz : HB (x, y, r) z := fun _ => ⟨d2, hx, d3, hy, d4, hz⟩
      have h1 := (HB.point (a := fone) (b := 0) (by decide) (by decide)).sub (hY.mul (hBz.on (HBs.slopes hw hl)))
      rw [q1_eq] at h1
      have e : qev (qdl 1 ((qcs ps).drop 1)) z = qder (qcs ps) z := by
        cases hq : qcs ps with
        | nil => rfl
        | cons c q => rw [qder_cons]; rfl
      rw [e] at h1
      rw [← hS]; exact h1
    obtain ⟨m1, m2⟩ := bhiS_ok hHM
    obtain ⟨s1, s2⟩ := bhiS_ok (hHS _ (ball_center _ (rv_nonneg r)))
    have c5 := flt_nb s1 (by decide) c3
    have s3 : bhiS S < 9218868437227405312 := Nat.lt_trans c5 (by decide)
    obtain ⟨t1, t2⟩ := timesS_ok s1 (Nat.le_of_lt d4)
    obtain ⟨p1, p2⟩ := plusS_ok m1 t1
    have c6 := fgt_nb p1 d4 c4
    obtain ⟨p3, p4, p5⟩ := p2 (Nat.lt_of_le_of_lt c6 d4)
    have t3 := (t2 p4).2
    have c7 := rv_le c6
    have c8 := rv_lt c5
    have c9 : rv fone = 1 := rv_one
    refine ⟨d4, d1, rv (bhiS S), rv (bhiS M), by grind, by grind, ?_, fun z hz => (bhiS_ok (hHS z hz)).2 s3⟩
    have h2 := (m2 p3).neg
    have e : qneg (qneg (qmul (qof (a, b)) (qev (qcs ps) (qof (x, y))))) = qmul (qof (a, b)) (qev (qcs ps) (qof (x, y))) := by apply Qi.ext' <;> simp only [qneg] <;> grind
    rwa [e] at h2
/-- THE CERTIFICATE: one of the g lies in the ball; any two that lie there are one; it stands there once. -/
theorem cert_one (gs : List Qi) (hev : ∀ z, qev (qcs ps) z = qprod gs z) (hder : ∀ z, qder (qcs ps) z = qdprod gs z) :
    (∃ g ∈ gs, Le (qsub g (qof (x, y))) (rv r)) ∧ (∀ g ∈ gs, ∀ g' ∈ gs, Le (qsub g (qof (x, y))) (rv r) → Le (qsub g' (qof (x, y))) (rv r) → g = g') ∧ ∀ g ∈ gs, Le (qsub g (qof (x, y))) (rv r) → gs.count g = 1 := by
  obtain ⟨_, _, q, m, h1, h2, h3, h4⟩ := cert_nums hw hl ha hb hx hy hr h
  exact ⟨some_root _ gs _ _ _ q m hev h4 h1 (rv_nonneg r) h3 h2, fun g hg g' hg' hb hb' => same_root _ gs _ _ _ q hev h4 h1 hg hg' hb hb', fun g hg hb => once_root _ gs _ _ _ q hder h4 h1 hg hb⟩
end
/-- One factor more. -/
def qstepF (u g : Qi) : List Qi → List Qi
  | [] => [u]
  | c :: p => qadd u (qmul c (qneg g)) :: qstepF c g p
def qstep (g : Qi) (p : List Qi) : List Qi := qstepF q0 g p
theorem qev_stepF (u g : Qi) (p : List Qi) (x : Qi) : qev (qstepF u g p) x = qadd u (qmul (qev p x) (qsub x g)) := by
  induction p generalizing u with
  | nil => apply Qi.ext' <;> simp only [qstepF, qev, qadd, qmul, q0] <;> grind
  | cons c p ih =>
    rw [qstepF, qev, ih, qev]
    generalize qev p x = A
    apply Qi.ext' <;> simp only [qadd, qmul, qneg, qsub] <;> grind
theorem qder_stepF (u g : Qi) (p : List Qi) (x : Qi) : qder (qstepF u g p) x = qadd (qev p x) (qmul (qder p x) (qsub x g)) := by
  induction p generalizing u with
  | nil => apply Qi.ext' <;> simp only [qstepF, qev, qder, qadd, qmul, q0] <;> grind
  | cons c p ih =>
    rw [qstepF, qder, qev_stepF, ih, qev, qder]
    generalize qev p x = A
    generalize qder p x = D
    apply Qi.ext' <;> simp only [qadd, qmul, qsub] <;> grind
theorem qstepF_length (u g : Qi) (p : List Qi) : (qstepF u g p).length = p.length + 1 := by
  induction p generalizing u with
  | nil => rfl
  | cons c p ih => simp [qstepF, ih]
/-- The product of the factors as coefficients, the last factor outermost. -/
def qmake : List Qi → List Qi
  | [] => [q1]
  | g :: gs => qstep g (qmake gs)
theorem qmake_ev (gs : List Qi) (x : Qi) : qev (qmake gs) x = qprod gs x := by
  induction gs with
  | nil => apply Qi.ext' <;> simp only [qmake, qprod, qev, qadd, qmul, q0, q1] <;> grind
  | cons g gs ih =>
    rw [qmake, qstep, qev_stepF, ih, qprod]
    generalize qprod gs x = A
    apply Qi.ext' <;> simp only [qadd, q0] <;> grind
theorem qmake_der (gs : List Qi) (x : Qi) : qder (qmake gs) x = qdprod gs x := by
  induction gs with
  | nil => apply Qi.ext' <;> simp only [qmake, qdprod, qev, qder, qadd, qmul, q0, q1] <;> grind
  | cons g gs ih =>
    rw [qmake, qstep, qder_stepF, ih, qmake_ev, qdprod]
theorem qmake_length (gs : List Qi) : (qmake gs).length = gs.length + 1 := by
  induction gs with
  | nil => rfl
  | cons g gs ih => rw [qmake, qstep, qstepF_length, ih]; rfl
end Go.Fil
