/- ball.less, ball.over, ball.Lo, ball.Quo by the number 1. -/
import Derived.Test.YtbgjcpnbdgljbaaGreatDoorMSta
import Derived.Test.YtbgjcpnbdgljbaaGreatDoorMCtn
import Derived.Test.YtbgjcpnbdgljbaaGreatDoorMBal
import Derived.Test.YtbgjcpnbdgljbaaGreatDoorMPon
namespace Go.Proofs.YtbgjcpnbdgljbaaGreatDoor
open Go.RowKit Go.Fil
attribute [local irreducible] fop fsqrt fup fabs fneg pick

/-- Up of a quotient. -/
def overS (x y : Nat) : Nat := if feq x 0 then 0 else fup (fop .quo x y)
@[simp, go_sem] theorem overS_pick (x y s : Nat) : overS (pick x s) y = overS x y := by simp [overS]
theorem over_any (x y : Nat) (w : World) : Calls Tryz.prog 253 #[.float .f64 x, .float .f64 y] w (RF (overS x y) w) := by
  have e2 : pick 0 0 = 0 := pick_of (by decide) 0
  cases hx : FloatKind.f64.format.order x 0 == some .eq
  · have e1 : overS x y = fup (fop .quo x y) := by unfold overS feq; rw [hx]; rfl
    rw [e1]
    clear e1 e2
    go_enter Tryz.func253, Tryz.ntmps253
    go_wp2_with (go_at_call 170; refine (up_any _ (by with_reducible exact NB.pick (NB_fop _ _ _) _) _).mono ?_; rintro e w' ⟨s, rfl, rfl⟩)
    go_ret
    exact ⟨_, _, rfl, rfl⟩
  · have e1 : overS x y = 0 := by unfold overS feq; rw [hx]; rfl
    rw [e1]
    clear e1
    go_enter Tryz.func253, Tryz.ntmps253
    go_wp2
    go_ret
    exact ⟨0, 0, by rw [e2]; rfl, rfl⟩
theorem less_z (x y : Nat) (hy : feq y 0 = true) (w : World) : Calls Tryz.prog 252 #[.float .f64 x, .float .f64 y] w fun e w' => e = .returned (.float .f64 x) ∧ w = w' := by
  have hy' : (FloatKind.f64.format.order y 0 == some .eq) = true := hy
  clear hy
  go_enter Tryz.func252, Tryz.ntmps252
  go_wp2
  go_ret
  exact ⟨rfl, rfl⟩
/-- Some float, the world as it was. -/
def RSF (w : World) (e : Ending) (w' : World) : Prop := ∃ y, e = .returned (.float .f64 y) ∧ w = w'
theorem isinfm_any (x : Nat) (w : World) : Calls Tryz.prog 102 #[.float .f64 x, .int .i64 (-1)] w fun e w' => e = .returned (.bool (pinfB (fneg x))) ∧ w = w' := by
  go_enter Tryz.func102, Tryz.ntmps102
  go_wp2
  go_ret
  exact ⟨rfl, rfl⟩
set_option maxRecDepth 100000 in
theorem down_w (x : Nat) (w : World) : Calls Tryz.prog 243 #[.float .f64 x] w (RSF w) := by
  have h1 := run_f64bits
  have h2 := run_f64from
  go_enter Tryz.func243, Tryz.ntmps243
  go_wp2_with (go_at_call 102; refine (isinfm_any _ _).mono ?_; rintro e w' ⟨rfl, rfl⟩)
  all_goals
    go_ret
    exact ⟨_, rfl, rfl⟩
/-- Some float, numbers drawn. -/
def RSD (w : World) (e : Ending) (w' : World) : Prop := ∃ y n, e = .returned (.float .f64 y) ∧ w.drewN n = w'
theorem less_w (x y : Nat) (w : World) : Calls Tryz.prog 252 #[.float .f64 x, .float .f64 y] w (RSD w) := by
  go_enter Tryz.func252, Tryz.ntmps252
  go_wp2_with (go_at_call 243; refine (down_w _ _).mono ?_; rintro e w' ⟨y, rfl, rfl⟩)
  all_goals
    go_ret
    first | exact ⟨_, 0, rfl, rfl⟩ | exact ⟨_, _, rfl, rfl⟩
/-- Some float, new memory. -/
def RSB (w : World) (e : Ending) (w' : World) : Prop := ∃ y, e = .returned (.float .f64 y) ∧ Below w.heap.size w w'
theorem blo_w (a b r : Nat) (h : isWholeS (a, b, r) = false) (hc : cfin a b = true) (hq : feq (sizeQ a b) 0 = true) (w : World) : Calls Tryz.prog 250 #[.agg #[.complex .f64 a b, .float .f64 r]] w (RSB w) := by
  have HLO := Lib.hid (fun w => clo_real a b hc hq w)
  clear hc hq
  go_enter Tryz.func250, Tryz.ntmps250
  go_wp2_with (go_at_call 60; refine (iswhole_any _ _ _ _).mono ?_; rintro e w1 ⟨rfl, hb⟩; obtain ⟨hc, hf⟩ := bcell hb; (try simp only [World.heap_drewN, World.cell?_drewN, World.frozen?_drewN] at hc hf); have z0 : w.heap.size < w1.heap.size := (by have := hb.size; try simp at this; omega))
  go_region_held3 (fun x => x.cell? ⟨w.heap.size, 0, none⟩ = some (.complex .f64 a b) ∧ x.cell? ⟨w.heap.size, 1, none⟩ = some (.float .f64 r)) (simp [go_sem, *])
    (first
      | (go_at_call 191; refine (HLO.out _).mono ?_; rintro e w' ⟨s, n, rfl, rfl⟩)
      | (go_at_call 252; refine (less_w _ _ _).mono ?_; rintro e w' ⟨y, n, rfl, rfl⟩))
  go_wp2
  go_ret
  exact ⟨_, rfl, by repeat (first | exact Below.refl _ _ | refine below_drewN ?_ _ | refine Below.alloc ?_ (by first | omega | (simp; omega) | simp) _ | refine Below.setCell ?_ (by first | omega | (simp; omega) | simp) _ | refine Below.trans ?_ (Below.mono (by assumption) (by first | omega | (simp; omega) | simp)) | apply Below.drew)⟩
/-- What Quo by 1 reckons on the way. -/
def QW : Cc := (quoRe fone 0 fone 0, quoIm fone 0 fone 0)
def QP : Cc := (mulRe QW.1 QW.2 fone 0, mulIm QW.1 QW.2 fone 0)
def QQ : Cc := (fop .sub fone QP.1, fop .sub 0 QP.2)
def QE : Nat := plusS (plusS (hiS QQ.1 QQ.2) (lostS fone (fneg QP.1))) (spoiltS QW.1 QW.2 fone 0)
def QD : Nat := sizeP fone 0
def QB : Bl := toldS QW.1 QW.2 (overS (plusS QE (timesS (hiS QW.1 QW.2) 0)) QD)
set_option maxRecDepth 100000 in
set_option maxHeartbeats 3200000 in
theorem bquo_one (a b r : Nat) (h1 : isWholeS (a, b, r) = false) (w : World) :
    Calls Tryz.prog 247 #[.agg #[.complex .f64 a b, .float .f64 r], .agg #[.complex .f64 4607182418800017408 0, .float .f64 0]] w (RB (mulS (a, b, r) QB) w) := by
  have k1 : isWholeS (4607182418800017408, 0, 0) = false := by decide +kernel
  have k2 : cfin 4607182418800017408 0 = true := by decide +kernel
  have k3 : feq (sizeQ 4607182418800017408 0) 0 = true := by decide +kernel
  have k4 : feq QD 0 = false := by decide +kernel
  have k5 : cfin QW.1 QW.2 = true := by decide +kernel
  have k6 : isNaN QD = false := by decide +kernel
  have k7 : feq 0 0 = true := by decide +kernel
  have k8 : isNaN QW.1 = false := by decide +kernel
  have k9 : isNaN QW.2 = false := by decide +kernel
  have k10 : isNaN QP.1 = false := by decide +kernel
  have k11 : isNaN QP.2 = false := by decide +kernel
  have e1 : quoRe 4607182418800017408 0 4607182418800017408 0 = QW.1 := rfl
  have e2 : quoIm 4607182418800017408 0 4607182418800017408 0 = QW.2 := rfl
  have e3 : mulRe QW.1 QW.2 4607182418800017408 0 = QP.1 := rfl
  have e4 : mulIm QW.1 QW.2 4607182418800017408 0 = QP.2 := rfl
  have kQ : QB = toldS QW.1 QW.2 (overS (plusS (plusS (plusS (hiS (fop .sub 4607182418800017408 QP.1) (fop .sub 0 QP.2)) (lostS 4607182418800017408 (fneg QP.1))) (spoiltS QW.1 QW.2 4607182418800017408 0)) (timesS (hiS QW.1 QW.2) 0)) QD) := rfl
  have HLO := Lib.hid (fun w => clo_real 4607182418800017408 0 k2 k3 w)
  have HLE := Lib.hid (fun w => less_z QD 0 k7 w)
  have HCQ := Lib.hid (fun w => cquo_any 4607182418800017408 0 4607182418800017408 0 w)
  have HCM := Lib.hid (fun w => cmul_any QW.1 QW.2 4607182418800017408 0 w)
  have HFI := Lib.hid (fun w => bfinite_any QW.1 QW.2 w)
  have HSP := Lib.hid (fun w => spoilt_any QW.1 QW.2 4607182418800017408 0 w)
  rw [e1, e2] at HCQ
  rw [e3, e4] at HCM
  rw [k5] at HFI
  rw [kQ]
  have kd : (FloatKind.f64.format.order QD 0 == some .eq) = false := k4
  obtain ⟨w5, hw5⟩ : ∃ x, QD = x := ⟨_, rfl⟩
  have hLOs : sizeP 4607182418800017408 0 = QD := rfl
  rw [hLOs] at HLO
  rw [hw5] at HLO HLE kd k6 ⊢
  have n5 : ∀ s, pick w5 s = w5 := pick_of k6
  clear hw5 hLOs kQ e1 e2 e3 e4 k2 k3 k4 k5 k6
  generalize QW.1 = u1 at *
  generalize QW.2 = u2 at *
  generalize QP.1 = p1 at *
  generalize QP.2 = p2' at *
  have nu1 : ∀ s, pick u1 s = u1 := pick_of k8
  have nu2 : ∀ s, pick u2 s = u2 := pick_of k9
  have np1 : ∀ s, pick p1 s = p1 := pick_of k10
  have np2 : ∀ s, pick p2' s = p2' := pick_of k11
  clear k8 k9 k10 k11
  clear k7
  go_enter Tryz.func247, Tryz.ntmps247
  go_wp2_with (go_at_call 60; refine (iswhole_any _ _ _ _).mono ?_; rintro e w1 ⟨rfl, hb⟩; obtain ⟨hc, hf⟩ := bcell hb; (try simp only [World.heap_drewN, World.cell?_drewN, World.frozen?_drewN] at hc hf); have z0 : w.heap.size < w1.heap.size := (by have := hb.size; (try simp at this); omega); have z1 : w.heap.size + 1 < w1.heap.size := (by have := hb.size; (try simp at this); omega); have z2 : w.heap.size + 1 + 1 < w1.heap.size := (by have := hb.size; (try simp at this); omega); have z3 : w.heap.size + 2 < w1.heap.size := (by omega))
  go_region_held3 (fun x => x.cell? ⟨w.heap.size + 1, 0, none⟩ = some (.complex .f64 4607182418800017408 0) ∧ x.cell? ⟨w.heap.size + 1, 1, none⟩ = some (.float .f64 0)) (((try dsimp only); refine ⟨?_, ?_⟩ <;> first | (simp [go_sem, World.cell?_alloc_past, *]; done) | (rw [hc _ _ (by first | assumption | (simp; assumption) | omega | (simp; omega))]; first | exact (‹_ ∧ _›).1 | exact (‹_ ∧ _›).2)))
    (first
      | (go_at_call 191; (with_reducible refine (HLO.out _).mono ?_); rintro e w' ⟨s, n, rfl, rfl⟩; rw [n5])
      | (go_at_call 252; (with_reducible refine (HLE.out _).mono ?_); rintro e w' ⟨rfl, rfl⟩))
  go_wp2_with (first
    | (go_at_call 109; (with_reducible refine (HCQ.out _).mono ?_); rintro e w' ⟨s, t, n, rfl, rfl⟩; rw [nu1, nu2])
    | (go_at_call 184; (with_reducible refine (HFI.out _).mono ?_); rintro e w' ⟨rfl, rfl⟩)
    | (go_at_call 45; (with_reducible refine (HCM.out _).mono ?_); rintro e w' ⟨s, t, n, rfl, rfl⟩; rw [np1, np2]))
  go_region_held3 (fun x => x.cell? ⟨w.heap.size + 1, 0, none⟩ = some (.complex .f64 4607182418800017408 0) ∧ x.cell? ⟨w.heap.size + 1, 1, none⟩ = some (.float .f64 0)) (((try dsimp only); refine ⟨?_, ?_⟩ <;> first | (simp [go_sem, World.cell?_alloc_past, *]; done) | (rw [hc _ _ (by first | assumption | (simp; assumption) | omega | (simp; omega))]; first | exact (‹_ ∧ _›).1 | exact (‹_ ∧ _›).2)))
    (first
      | (go_at_call 106; refine (hi_any _ _ _).mono ?_; rintro e w' ⟨s, n, rfl, rfl⟩)
      | (go_at_call 220; refine (lost_any _ _ _).mono ?_; rintro e w' ⟨s, n, rfl, rfl⟩)
      | (go_at_call 177; refine (plus_any _ _ _).mono ?_; rintro e w' ⟨s, n, rfl, rfl⟩)
      | (go_at_call 179; (with_reducible refine (HSP.out _).mono ?_); rintro e w' ⟨s, n, rfl, rfl⟩))
  all_goals
    go_wp2_with fail
    go_region_held3 (fun x => x.cell? ⟨w.heap.size, 0, none⟩ = some (.complex .f64 a b) ∧ x.cell? ⟨w.heap.size, 1, none⟩ = some (.float .f64 r) ∧ x.cell? ⟨w.heap.size + 1, 0, none⟩ = some (.complex .f64 4607182418800017408 0) ∧ x.cell? ⟨w.heap.size + 1, 1, none⟩ = some (.float .f64 0)) (((try dsimp only); refine ⟨?_, ?_, ?_, ?_⟩ <;> first | (simp [go_sem, World.cell?_alloc_past, *]; done) | (rw [hc _ _ (by first | assumption | (simp; assumption) | omega | (simp; omega))]; first | exact (‹_ ∧ _ ∧ _ ∧ _›).1 | exact (‹_ ∧ _ ∧ _ ∧ _›).2.1 | exact (‹_ ∧ _ ∧ _ ∧ _›).2.2.1 | exact (‹_ ∧ _ ∧ _ ∧ _›).2.2.2)))
      (first
        | (go_at_call 106; refine (hi_any _ _ _).mono ?_; rintro e w' ⟨s, n, rfl, rfl⟩)
        | (go_at_call 178; refine (times_any _ _ _).mono ?_; rintro e w' ⟨s, n, rfl, rfl⟩)
        | (go_at_call 177; refine (plus_any _ _ _).mono ?_; rintro e w' ⟨s, n, rfl, rfl⟩)
        | (go_at_call 253; refine (over_any _ _ _).mono ?_; rintro e w' ⟨s, n, rfl, rfl⟩)
        | (go_at_call 174; refine (told_any _ _ _ _).mono ?_; rintro e w1 ⟨rfl, hb⟩; obtain ⟨hc, hf⟩ := bcell hb; (try simp only [World.heap_drewN, World.cell?_drewN, World.frozen?_drewN] at hc hf); have z0 : w.heap.size < w1.heap.size := (by have := hb.size; (try simp at this); omega); have z1 : w.heap.size + 1 < w1.heap.size := (by have := hb.size; (try simp at this); omega); have z2 : w.heap.size + 1 + 1 < w1.heap.size := (by have := hb.size; (try simp at this); omega); have z3 : w.heap.size + 2 < w1.heap.size := (by omega))
        | (go_at_call 114; refine (bmul_any _ _ _ _ _ _ _).mono ?_; rintro e w1 ⟨rfl, hb⟩; obtain ⟨hc, hf⟩ := bcell hb; (try simp only [World.heap_drewN, World.cell?_drewN, World.frozen?_drewN] at hc hf); have z0 : w.heap.size < w1.heap.size := (by have := hb.size; (try simp at this); omega); have z1 : w.heap.size + 1 < w1.heap.size := (by have := hb.size; (try simp at this); omega); have z2 : w.heap.size + 1 + 1 < w1.heap.size := (by have := hb.size; (try simp at this); omega); have z3 : w.heap.size + 2 < w1.heap.size := (by omega)))
    go_wp2
    exact bodyPost_ret (v := .agg #[.complex .f64 (mulS (a, b, r) (toldS u1 u2 (overS (plusS (plusS (plusS (hiS (fop .sub 4607182418800017408 p1) (fop .sub 0 p2')) (lostS 4607182418800017408 (fneg p1))) (spoiltS u1 u2 4607182418800017408 0)) (timesS (hiS u1 u2) 0)) w5))).1 (mulS (a, b, r) (toldS u1 u2 (overS (plusS (plusS (plusS (hiS (fop .sub 4607182418800017408 p1) (fop .sub 0 p2')) (lostS 4607182418800017408 (fneg p1))) (spoiltS u1 u2 4607182418800017408 0)) (timesS (hiS u1 u2) 0)) w5))).2.1, .float .f64 (mulS (a, b, r) (toldS u1 u2 (overS (plusS (plusS (plusS (hiS (fop .sub 4607182418800017408 p1) (fop .sub 0 p2')) (lostS 4607182418800017408 (fneg p1))) (spoiltS u1 u2 4607182418800017408 0)) (timesS (hiS u1 u2) 0)) w5))).2.2]) (by simp [results, Tryz.results247, go_sem, *]) rfl ⟨rfl, by repeat (first | exact Below.refl _ _ | refine below_drewN ?_ _ | refine Below.alloc ?_ (by first | omega | (simp; omega) | simp) _ | refine Below.setCell ?_ (by first | omega | (simp; omega) | simp) _ | refine Below.trans ?_ (Below.mono (by assumption) (by first | omega | (simp; omega) | simp)) | apply Below.drew)⟩
end Go.Proofs.YtbgjcpnbdgljbaaGreatDoor

/- The map 2z at the number 0: poly.At, SlopeAt, ratmap.At. -/
namespace Go.Proofs.YtbgjcpnbdgljbaaGreatDoor
open Go.RowKit Go.Fil
attribute [local irreducible] fop fsqrt fup fabs fneg pick

def P2 : List Cc := [(0, 0), (4611686018427387904, 0)]
def Q1 : List Cc := [(4607182418800017408, 0)]
/-- The map in memory. -/
structure Mp (w : World) (B : Nat) (A1 A2 : Option Addr) : Prop where
  p : Seq w B A1 (P2.map cv)
  q : Seq w B A2 (Q1.map cv)
theorem Mp.below {w w' : World} {B B' : Nat} {A1 A2 : Option Addr} (h : Mp w B A1 A2) (hb : Below B' w w') (hB : B ≤ B') : Mp w' B A1 A2 := ⟨h.p.below hb hB, h.q.below hb hB⟩
theorem Mp.more {w : World} {B B' : Nat} {A1 A2 : Option Addr} (h : Mp w B A1 A2) (hB : B ≤ B') : Mp w B' A1 A2 := ⟨h.p.more hB, h.q.more hB⟩
theorem Mp.now {w w' : World} {A1 A2 : Option Addr} (h : Mp w w.heap.size A1 A2) (hb : Below w.heap.size w w') : Mp w' w'.heap.size A1 A2 := (h.below hb (Nat.le_refl _)).more hb.size
theorem checkP : checkS P2 = true := by decide +kernel
theorem checkQ : checkS Q1 = true := by decide +kernel
/-- A complex number and no error. -/
def RCI (a b : Nat) (w : World) (e : Ending) (w' : World) : Prop := e = .returned (.tuple #[.complex .f64 a b, .int .i64 0]) ∧ Below w.heap.size w w'
theorem rci_of {a b : Nat} {w w' : World} {e : Ending} (ha : isNaN a = false) (hb : isNaN b = false) (h : ∃ s t, e = .returned (.tuple #[.complex .f64 (pick a s) (pick b t), .int .i64 0]) ∧ Below w.heap.size w w') : RCI a b w e w' := by
  obtain ⟨s, t, he, hw⟩ := h
  rw [pick_of ha, pick_of hb] at he
  exact ⟨he, hw⟩
section
variable {A1 A2 : Option Addr} {c1 c2 : Nat} {w : World} (hM : Mp w w.heap.size A1 A2)
include hM
theorem atP0 : Calls Tryz.prog 33 #[.slice A1 2 c1, .complex .f64 0 0] w (RCI 0 0 w) :=
  (At_ok A1 2 c1 P2 rfl (by decide) 0 0 w hM.p checkP (by decide +kernel)).mono fun _ _ h => rci_of (by decide) (by decide) h
theorem atQ0 : Calls Tryz.prog 33 #[.slice A2 1 c2, .complex .f64 0 0] w (RCI 4607182418800017408 0 w) :=
  (At_ok A2 1 c2 Q1 rfl (by decide) 0 0 w hM.q checkQ (by decide +kernel)).mono fun _ _ h => rci_of (by decide) (by decide) h
theorem slP0 : Calls Tryz.prog 108 #[.slice A1 2 c1, .complex .f64 0 0] w (RCI 4611686018427387904 0 w) :=
  (SlopeAt_ok A1 2 c1 P2 rfl (by decide) 0 0 w hM.p checkP (by decide +kernel)).mono fun _ _ h => rci_of (by decide) (by decide) h
theorem slQ0 : Calls Tryz.prog 108 #[.slice A2 1 c2, .complex .f64 0 0] w (RCI 0 0 w) :=
  (SlopeAt_ok A2 1 c2 Q1 rfl (by decide) 0 0 w hM.q checkQ (by decide +kernel)).mono fun _ _ h => rci_of (by decide) (by decide) h
theorem mcheck : Calls Tryz.prog 71 #[.agg #[.slice A1 2 c1, .slice A2 1 c2]] w fun e w' => e = .returned (.int .i64 0) ∧ Below w.heap.size w w' :=
  mapcheck_any A1 A2 2 c1 1 c2 P2 Q1 rfl rfl (by decide) (by decide) (by decide) (by decide) checkP checkQ w hM.p hM.q
end
theorem rfin_any (a b : Nat) (w : World) : Calls Tryz.prog 230 #[.complex .f64 a b] w fun e w' => e = .returned (.bool (cfin a b)) ∧ w = w' := by
  cases hc : cfin a b
  · go_enter Tryz.func230, Tryz.ntmps230
    go_wp2_with (go_at_call 100; refine (kind_not hc _).mono ?_; rintro e w' ⟨k, hk, rfl, rfl⟩)
    go_ret
    exact ⟨rfl, rfl⟩
  · go_enter Tryz.func230, Tryz.ntmps230
    go_wp2_with (go_at_call 100; refine (kind_fin hc _).mono ?_; rintro e w' ⟨rfl, rfl⟩)
    go_ret
    exact ⟨rfl, rfl⟩
theorem ispoint_any (a b : Nat) (w : World) : Calls Tryz.prog 198 #[.agg #[.complex .f64 a b, .bool false]] w fun e w' => e = .returned (.bool (cfin a b)) ∧ Below w.heap.size w w' := by
  go_enter Tryz.func198, Tryz.ntmps198
  go_wp2_with (go_at_call 230; refine (rfin_any _ _ _).mono ?_; rintro e w' ⟨rfl, rfl⟩)
  go_ret
  exact ⟨rfl, by repeat (first | exact Below.refl _ _ | refine below_drewN ?_ _ | refine Below.alloc ?_ (by first | omega | (simp; omega) | simp) _ | refine Below.setCell ?_ (by first | omega | (simp; omega) | simp) _ | refine Below.trans ?_ (Below.mono (by assumption) (by first | omega | (simp; omega) | simp)) | apply Below.drew)⟩
set_option maxRecDepth 100000 in
set_option maxHeartbeats 1600000 in
theorem ratAt0 {A1 A2 : Option Addr} {c1 c2 : Nat} {w : World} (hM : Mp w w.heap.size A1 A2) :
    Calls Tryz.prog 200 #[.agg #[.slice A1 2 c1, .slice A2 1 c2], .agg #[.complex .f64 0 0, .bool false]] w fun e w' => e = .returned (.tuple #[.agg #[.complex .f64 0 0, .bool false], .bool true]) ∧ Below w.heap.size w w' := by
  have e0 : (FloatKind.f64.format.order 0 0 == some .eq) = true := by decide +kernel
  have e1 : (FloatKind.f64.format.order 4607182418800017408 0 == some .eq) = false := by decide +kernel
  have q1 : quoRe 0 0 4607182418800017408 0 = 0 := by decide +kernel
  have q2 : quoIm 0 0 4607182418800017408 0 = 0 := by decide +kernel
  have hcq : ∀ w : World, Calls Tryz.prog 109 #[.complex .f64 0 0, .complex .f64 4607182418800017408 0] w fun e w' => ∃ n, e = .returned (.complex .f64 0 0) ∧ w.drewN n = w' := fun w => (cquo_any 0 0 4607182418800017408 0 w).mono fun e w' ⟨s, t, n, he, hw⟩ => ⟨n, by rw [q1, q2, pick_of (by decide), pick_of (by decide)] at he; exact he, hw⟩
  have f0 : cfin 0 0 = true := by decide +kernel
  have f1 : cfin 4607182418800017408 0 = true := by decide +kernel
  have hf0 := fun w => rfin_any 0 0 w
  have hf1 := fun w => rfin_any 4607182418800017408 0 w
  have hip := fun w => ispoint_any 0 0 w
  rw [f0] at hf0 hip
  rw [f1] at hf1
  have HM := Lib.hid hM
  have HCQ := Lib.hid hcq
  have HF0 := Lib.hid hf0
  have HF1 := Lib.hid hf1
  have HIP := Lib.hid hip
  clear hM q1 q2 hcq f0 f1 hf0 hf1 hip
  go_enter Tryz.func200, Tryz.ntmps200
  go_wp2_with (first
    | (go_at_call 71; (with_reducible refine (mcheck (HM.out.now (by repeat (first | exact Below.refl _ _ | refine below_drewN ?_ _ | refine Below.alloc ?_ (by first | omega | (simp; omega) | simp) _ | refine Below.setCell ?_ (by first | omega | (simp; omega) | simp) _ | refine Below.trans ?_ (Below.mono (by assumption) (by first | omega | (simp; omega) | simp)) | apply Below.drew)))).mono ?_); rintro e w1 ⟨rfl, hb⟩; obtain ⟨hc, hf⟩ := bcell hb; (try simp only [World.heap_drewN, World.cell?_drewN, World.frozen?_drewN] at hc hf); have z0 : w.heap.size < w1.heap.size := (by have := hb.size; (try simp at this); omega); have z1 : w.heap.size + 1 < w1.heap.size := (by have := hb.size; (try simp at this); omega); have z2 : w.heap.size + 1 + 1 < w1.heap.size := (by have := hb.size; (try simp at this); omega); have z3 : w.heap.size + 2 < w1.heap.size := (by omega))
    | (go_at_call 198; (with_reducible refine (HIP.out _).mono ?_); rintro e w1 ⟨rfl, hb⟩; obtain ⟨hc, hf⟩ := bcell hb; (try simp only [World.heap_drewN, World.cell?_drewN, World.frozen?_drewN] at hc hf); have z0 : w.heap.size < w1.heap.size := (by have := hb.size; (try simp at this); omega); have z1 : w.heap.size + 1 < w1.heap.size := (by have := hb.size; (try simp at this); omega); have z2 : w.heap.size + 1 + 1 < w1.heap.size := (by have := hb.size; (try simp at this); omega); have z3 : w.heap.size + 2 < w1.heap.size := (by omega))
    | (go_at_call 33; (with_reducible refine (atP0 (HM.out.now (by repeat (first | exact Below.refl _ _ | refine below_drewN ?_ _ | refine Below.alloc ?_ (by first | omega | (simp; omega) | simp) _ | refine Below.setCell ?_ (by first | omega | (simp; omega) | simp) _ | refine Below.trans ?_ (Below.mono (by assumption) (by first | omega | (simp; omega) | simp)) | apply Below.drew)))).mono ?_); rintro e w1 ⟨rfl, hb⟩; obtain ⟨hc, hf⟩ := bcell hb; (try simp only [World.heap_drewN, World.cell?_drewN, World.frozen?_drewN] at hc hf); have z0 : w.heap.size < w1.heap.size := (by have := hb.size; (try simp at this); omega); have z1 : w.heap.size + 1 < w1.heap.size := (by have := hb.size; (try simp at this); omega); have z2 : w.heap.size + 1 + 1 < w1.heap.size := (by have := hb.size; (try simp at this); omega); have z3 : w.heap.size + 2 < w1.heap.size := (by omega))
    | (go_at_call 33; (with_reducible refine (atQ0 (HM.out.now (by repeat (first | exact Below.refl _ _ | refine below_drewN ?_ _ | refine Below.alloc ?_ (by first | omega | (simp; omega) | simp) _ | refine Below.setCell ?_ (by first | omega | (simp; omega) | simp) _ | refine Below.trans ?_ (Below.mono (by assumption) (by first | omega | (simp; omega) | simp)) | apply Below.drew)))).mono ?_); rintro e w1 ⟨rfl, hb⟩; obtain ⟨hc, hf⟩ := bcell hb; (try simp only [World.heap_drewN, World.cell?_drewN, World.frozen?_drewN] at hc hf); have z0 : w.heap.size < w1.heap.size := (by have := hb.size; (try simp at this); omega); have z1 : w.heap.size + 1 < w1.heap.size := (by have := hb.size; (try simp at this); omega); have z2 : w.heap.size + 1 + 1 < w1.heap.size := (by have := hb.size; (try simp at this); omega); have z3 : w.heap.size + 2 < w1.heap.size := (by omega))
    | (go_at_call 109; (with_reducible refine (HCQ.out _).mono ?_); rintro e w' ⟨n, rfl, rfl⟩)
    | (go_at_call 230; (with_reducible refine (HF0.out _).mono ?_); rintro e w' ⟨rfl, rfl⟩)
    | (go_at_call 230; (with_reducible refine (HF1.out _).mono ?_); rintro e w' ⟨rfl, rfl⟩))
  exact bodyPost_ret (v := .tuple #[.agg #[.complex .f64 0 0, .bool false], .bool true]) (by simp [results, Tryz.results200, go_sem, *]) rfl ⟨rfl, by repeat (first | exact Below.refl _ _ | refine below_drewN ?_ _ | refine Below.alloc ?_ (by first | omega | (simp; omega) | simp) _ | refine Below.setCell ?_ (by first | omega | (simp; omega) | simp) _ | refine Below.trans ?_ (Below.mono (by assumption) (by first | omega | (simp; omega) | simp)) | apply Below.drew)⟩
theorem one_q {A2 : Option Addr} {c2 : Nat} {w : World} (hq : Seq w w.heap.size A2 (Q1.map cv)) : Calls Tryz.prog 246 #[.slice A2 1 c2] w fun e w' => e = .returned (.bool true) ∧ w = w' := by
  have e1 : (FloatKind.f64.format.order 4607182418800017408 4607182418800017408 == some .eq) = true := by decide +kernel
  have e0 : (FloatKind.f64.format.order 0 0 == some .eq) = true := by decide +kernel
  obtain ⟨b, o, rfl, hb, hc⟩ := hq.cat (k := 0) (by decide)
  have hc' : w.cell? ⟨b, o, none⟩ = some (.complex .f64 4607182418800017408 0) := hc
  clear hq hb hc
  go_enter Tryz.func246, Tryz.ntmps246
  go_wp2
  go_ret
  exact ⟨rfl, rfl⟩
end Go.Proofs.YtbgjcpnbdgljbaaGreatDoor

/- status' finite, its closures; slices.ContainsFunc, IndexFunc over finite numbers; orbit.may. -/
namespace Go.Proofs.YtbgjcpnbdgljbaaGreatDoor
open Go.RowKit Go.Fil
attribute [local irreducible] fop fsqrt fup fabs fneg pick

theorem sfin_ok (a b : Nat) (hc : cfin a b = true) (w : World) : Calls Tryz.prog 74 #[.complex .f64 a b] w fun e w' => e = .returned (.bool true) ∧ w = w' := by
  go_enter Tryz.func74, Tryz.ntmps74
  go_wp2_with (go_at_call 100; refine (kind_fin hc _).mono ?_; rintro e w' ⟨rfl, rfl⟩)
  go_ret
  exact ⟨rfl, rfl⟩
theorem seek1_ok (a b : Nat) (hc : cfin a b = true) (w : World) : Calls Tryz.prog 73 #[.complex .f64 a b] w fun e w' => e = .returned (.bool false) ∧ w = w' := by
  go_enter Tryz.func73, Tryz.ntmps73
  go_wp2_with (go_at_call 74; refine (sfin_ok _ _ hc _).mono ?_; rintro e w' ⟨rfl, rfl⟩)
  go_ret
  exact ⟨rfl, rfl⟩
set_option maxRecDepth 100000 in
theorem indexf_ok (A : Option Addr) (n cap : Nat) (zs : List Cc) (hn : zs.length = n) (hle : n ≤ 1000000) (hf : ∀ k, k < n → cfin (nth zs k).1 (nth zs k).2 = true) (w : World) (hs : Seq w w.heap.size A (zs.map cv)) :
    Calls Tryz.prog 135 #[.slice A n cap, .func (.func 73) #[] #[]] w fun e w' => e = .returned (.int .i64 (-1)) ∧ w = w' := by
  have HS := Lib.hid hs
  have HN := Lib.hid hn
  have HF := Lib.hid hf
  clear hs hn hf
  go_enter Tryz.func135, Tryz.ntmps135
  go_wp2
  go_loop [8] (fun i => ∃ k : Nat, k ≤ n ∧ i = .int .i64 k) (fun i => n - (intOf i).toNat)
  case atStart => exact ⟨0, Nat.zero_le _, rfl⟩
  case round =>
    obtain ⟨k, hk, rfl⟩ := hrel
    by_cases hlt : k < n
    · obtain ⟨b, o, rfl, hb, hcl⟩ := HS.out.cat (k := k) (by have := HN.out; omega)
      have HK := Lib.hid (fun w => seek1_ok _ _ (HF.out k hlt) w)
      have k0 : (0 : Int) ≤ (k : Int) := by omega
      have k1 : (k : Int) < (n : Int) := by omega
      go_wp2_with (go_at_call 73; (with_reducible refine (HK.out _).mono ?_); rintro e w' ⟨rfl, rfl⟩)
      go_round
      case rel => exact ⟨k + 1, by omega, by go_num⟩
      case measure => simp [intOf]; omega
    · obtain rfl : k = n := by omega
      go_wp2
      go_ret
      exact ⟨rfl, rfl⟩
theorem indexf_nil (fv : Value) (w : World) : Calls Tryz.prog 135 #[.slice none 0 0, fv] w fun e w' => e = .returned (.int .i64 (-1)) ∧ w = w' := by
  go_enter Tryz.func135, Tryz.ntmps135
  go_wp2
  go_loop [8] (fun i => i = .int .i64 0) (fun _ => 0)
  case atStart => rfl
  case round =>
    subst hrel
    go_wp2
    go_ret
    exact ⟨rfl, rfl⟩
theorem deletef_nil (fv : Value) (w : World) : Calls Tryz.prog 76 #[.slice none 0 0, fv] w fun e w' => e = .returned (.slice none 0 0) ∧ w = w' := by
  go_enter Tryz.func76, Tryz.ntmps76
  go_wp2_with (go_at_call 135; refine (indexf_nil _ _).mono ?_; rintro e w' ⟨rfl, rfl⟩)
  go_ret
  exact ⟨rfl, rfl⟩
theorem containsf_ok (A : Option Addr) (n cap : Nat) (zs : List Cc) (hn : zs.length = n) (hle : n ≤ 1000000) (hf : ∀ k, k < n → cfin (nth zs k).1 (nth zs k).2 = true) (w : World) (hs : Seq w w.heap.size A (zs.map cv)) :
    Calls Tryz.prog 72 #[.slice A n cap, .func (.func 73) #[] #[]] w fun e w' => e = .returned (.bool false) ∧ w = w' := by
  have HI := Lib.hid (indexf_ok A n cap zs hn hle hf w hs)
  clear hn hle hf hs
  go_enter Tryz.func72, Tryz.ntmps72
  go_wp2_with (go_at_call 135; (with_reducible refine HI.out.mono ?_); rintro e w' ⟨rfl, rfl⟩)
  go_ret
  exact ⟨rfl, rfl⟩
theorem omay0 {A1 A2 : Option Addr} {c1 c2 : Nat} {w : World} (hM : Mp w w.heap.size A1 A2) : Calls Tryz.prog 137 #[.agg #[.slice A1 2 c1, .slice A2 1 c2], .agg #[.complex .f64 0 0, .bool false]] w fun e w' => e = .returned (.bool true) ∧ Below w.heap.size w w' := by
  have f0 : cfin 0 0 = true := by decide +kernel
  have hip := fun w => ispoint_any 0 0 w
  rw [f0] at hip
  have HIP := Lib.hid hip
  have HM := Lib.hid hM
  clear hM f0 hip
  go_enter Tryz.func137, Tryz.ntmps137
  go_wp2_with (first
    | (go_at_call 71; (with_reducible refine (mcheck (HM.out.now (by repeat (first | exact Below.refl _ _ | refine below_drewN ?_ _ | refine Below.alloc ?_ (by first | omega | (simp; omega) | simp) _ | refine Below.setCell ?_ (by first | omega | (simp; omega) | simp) _ | refine Below.trans ?_ (Below.mono (by assumption) (by first | omega | (simp; omega) | simp)) | apply Below.drew)))).mono ?_); rintro e w1 ⟨rfl, hb⟩; obtain ⟨hc, hf⟩ := bcell hb; (try simp only [World.heap_drewN, World.cell?_drewN, World.frozen?_drewN] at hc hf); have z0 : w.heap.size < w1.heap.size := (by have := hb.size; (try simp at this); omega); have z1 : w.heap.size + 1 < w1.heap.size := (by have := hb.size; (try simp at this); omega))
    | (go_at_call 198; (with_reducible refine (HIP.out _).mono ?_); rintro e w2 ⟨rfl, hb2⟩))
  go_ret
  exact ⟨rfl, by repeat (first | exact Below.refl _ _ | refine below_drewN ?_ _ | refine Below.alloc ?_ (by first | omega | (simp; omega) | simp) _ | refine Below.setCell ?_ (by first | omega | (simp; omega) | simp) _ | refine Below.trans ?_ (Below.mono (by assumption) (by first | omega | (simp; omega) | simp)) | apply Below.drew)⟩
end Go.Proofs.YtbgjcpnbdgljbaaGreatDoor

/- orbit.Each of the map 2z at 0. -/
namespace Go.Proofs.YtbgjcpnbdgljbaaGreatDoor
open Go.RowKit Go.Fil
attribute [local irreducible] fop fsqrt fup fabs fneg pick

/-- What Each answers: its closure over the map and the start. -/
structure EachAt (w : World) (m z : Nat) (A1 A2 : Option Addr) (c1 c2 : Nat) : Prop where
  m0 : w.cell? ⟨m, 0, none⟩ = some (.slice A1 2 c1)
  m1 : w.cell? ⟨m, 1, none⟩ = some (.slice A2 1 c2)
  z0 : w.cell? ⟨z, 0, none⟩ = some (.complex .f64 0 0)
  z1 : w.cell? ⟨z, 1, none⟩ = some (.bool false)
theorem each0 {A1 A2 : Option Addr} {c1 c2 : Nat} (w : World) :
    Calls Tryz.prog 138 #[.agg #[.slice A1 2 c1, .slice A2 1 c2], .agg #[.complex .f64 0 0, .bool false]] w fun e w' =>
      e = .returned (.func (.func 199) #[] #[.pointer (some ⟨w.heap.size, 0, none⟩), .pointer (some ⟨w.heap.size + 1, 0, none⟩)]) ∧ EachAt w' w.heap.size (w.heap.size + 1) A1 A2 c1 c2 ∧ w'.heap.size = w.heap.size + 2 ∧ Below w.heap.size w w' := by
  go_enter Tryz.func138, Tryz.ntmps138
  go_wp2
  go_ret
  refine ⟨rfl, ?_, ?_, by repeat (first | exact Below.refl _ _ | refine below_drewN ?_ _ | refine Below.alloc ?_ (by first | omega | (simp; omega) | simp) _ | refine Below.setCell ?_ (by first | omega | (simp; omega) | simp) _ | refine Below.trans ?_ (Below.mono (by assumption) (by first | omega | (simp; omega) | simp)) | apply Below.drew)⟩
  · constructor <;> simp [go_sem]
  · simp
end Go.Proofs.YtbgjcpnbdgljbaaGreatDoor
