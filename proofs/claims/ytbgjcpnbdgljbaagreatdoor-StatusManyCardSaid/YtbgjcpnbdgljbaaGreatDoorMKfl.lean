/- ratmap.Both of the map 2z at a ball. -/
import Derived.Test.YtbgjcpnbdgljbaaGreatDoorMKba
import Derived.Test.YtbgjcpnbdgljbaaGreatDoorMPon
import Derived.Defers
import Derived.Recover
namespace Go.Proofs.YtbgjcpnbdgljbaaGreatDoor
open Go.RowKit Go.Fil
attribute [local irreducible] fop fsqrt fup fabs fneg pick

/-- The deferred closure, where all went well. -/
theorem both1_idle (q r : Value) (b : Nat) (w : World) (hc : w.cell? ⟨b, 0, none⟩ = some (.bool true)) :
    CallsD Tryz.prog 245 #[.pointer (some ⟨b, 0, none⟩), q, r] .returning w fun e u' w' => e = .returned (.tuple #[]) ∧ u' = .returning ∧ w' = w := by
  refine callsD_of_wpS Tryz.func245 rfl fun c₀ cs hu => ?_
  apply wpS_seq
  apply wpS_region
  simp [wpOpsS, go_sem, recoverD, hu, Tryz.ntmps245, Exit.thenS, hc]
  refine wpS_cond (t := false) (by simp [Act.eval]) ?_
  simp only [Bool.false_eq_true, if_false]
  refine wpS_of_wp (wp_skip ?_)
  cases c₀
  simp_all [bodyPostS, results, Tryz.results245]
set_option maxRecDepth 100000 in
set_option maxHeartbeats 3200000 in
theorem both_any {A1 A2 : Option Addr} {c1 c2 : Nat} (a b r : Nat) (hm : mayS (a, b, r) = true) (hw : isWholeS (a, b, r) = false) {w : World} (hM : Mp w w.heap.size A1 A2) :
    Calls Tryz.prog 229 #[.agg #[.slice A1 2 c1, .slice A2 1 c2], .agg #[.complex .f64 a b, .float .f64 r]] w fun e w' =>
      e = .returned (.tuple #[.agg #[.complex .f64 (onFrom (a, b, r) (pointsS P2) 0).1 (onFrom (a, b, r) (pointsS P2) 0).2.1, .float .f64 (onFrom (a, b, r) (pointsS P2) 0).2.2], .agg #[.complex .f64 (onFrom (a, b, r) (slopesS P2) 0).1 (onFrom (a, b, r) (slopesS P2) 0).2.1, .float .f64 (onFrom (a, b, r) (slopesS P2) 0).2.2]]) ∧ Below w.heap.size w w' := by
  have hmf : ∀ (fn : Fn) (first cap : Array Value) (w : World), (Instr.makeFunc fn first cap).run Tryz.prog w = .ok (.func fn first cap) w := fun _ _ _ _ => rfl
  have HM := Lib.hid hM
  have HOP := Lib.hid (fun w (hM : Mp w w.heap.size A1 A2) => On_ok A1 2 c1 P2 rfl (by decide) a b r w hM.p checkP hm)
  have HOQ := Lib.hid (fun w (hM : Mp w w.heap.size A1 A2) => On_ok A2 1 c2 Q1 rfl (by decide) a b r w hM.q checkQ hm)
  have HSP := Lib.hid (fun w (hM : Mp w w.heap.size A1 A2) => SlopeOn_ok A1 2 c1 P2 rfl (by decide) a b r w hM.p checkP hm)
  have HSQ := Lib.hid (fun w (hM : Mp w w.heap.size A1 A2) => SlopeOn_ok A2 1 c2 Q1 rfl (by decide) a b r w hM.q checkQ hm)
  have HMA := Lib.hid (fun w => may_any a b r w)
  have HWH := Lib.hid (fun w => iswhole_any a b r w)
  rw [hm] at HMA
  rw [hw] at HWH
  generalize onFrom (a, b, r) (pointsS P2) 0 = U at *
  generalize onFrom (a, b, r) (pointsS Q1) 0 = V at *
  generalize onFrom (a, b, r) (slopesS P2) 0 = S at *
  generalize onFrom (a, b, r) (slopesS Q1) 0 = T at *
  clear hM hm hw
  go_enter_defers Tryz.func229, Tryz.ntmps229
  go_wp2_with fail
  refine (whole_any _).mono ?_
  rintro e w1 ⟨rfl, hb1⟩
  go_wp2_with fail
  refine (whole_any _).mono ?_
  rintro e w2 ⟨rfl, hb2⟩
  obtain ⟨g1, g2⟩ := bcell hb1
  obtain ⟨g3, g4⟩ := bcell hb2
  have s1 := hb1.size
  have s2 := hb2.size
  simp at s1
  have z0 : w.heap.size < w1.heap.size := by omega
  have z1 : w.heap.size + 1 < w1.heap.size := by omega
  have z2 : w.heap.size + 1 + 1 < w1.heap.size := by omega
  have z3 : w.heap.size + 1 + 1 + 1 < w1.heap.size := by omega
  have y0 : w.heap.size < w2.heap.size := by omega
  have y1 : w.heap.size + 1 < w2.heap.size := by omega
  have y2 : w.heap.size + 1 + 1 < w2.heap.size := by omega
  have y3 : w.heap.size + 1 + 1 + 1 < w2.heap.size := by omega
  have x0 : w2.heap.size ≠ w.heap.size := by omega
  have x1 : w2.heap.size ≠ w.heap.size + 1 := by omega
  have x2 : w2.heap.size ≠ w.heap.size + 1 + 1 := by omega
  have x3 : w2.heap.size ≠ w.heap.size + 1 + 1 + 1 := by omega
  go_wp2_with fail
  refine (mcheck (HM.out.now (by repeat (first | exact Below.refl _ _ | refine below_drewN ?_ _ | refine Below.alloc ?_ (by first | omega | (simp; omega) | simp) _ | refine Below.setCell ?_ (by first | omega | (simp; omega) | simp) _ | refine Below.trans ?_ (Below.mono (by assumption) (by first | omega | (simp; omega) | simp)) | apply Below.drew)))).mono ?_
  rintro e w4 ⟨rfl, hb4⟩
  have hB4 : Below w.heap.size w w4 := by repeat (first | exact Below.refl _ _ | refine below_drewN ?_ _ | refine Below.alloc ?_ (by first | omega | (simp; omega) | simp) _ | refine Below.setCell ?_ (by first | omega | (simp; omega) | simp) _ | refine Below.trans ?_ (Below.mono (by assumption) (by first | omega | (simp; omega) | simp)) | apply Below.drew)
  obtain ⟨g5, g6⟩ := bcell hb4
  have s4 := hb4.size
  simp at s4
  have m0 : w4.cell? ⟨w.heap.size, 0, none⟩ = some (.slice A1 2 c1) := by rw [g5 _ _ (by simp; omega)]; simp [go_sem, *]
  have m1 : w4.cell? ⟨w.heap.size, 1, none⟩ = some (.slice A2 1 c2) := by rw [g5 _ _ (by simp; omega)]; simp [go_sem, *]
  have n0 : w4.cell? ⟨w.heap.size + 1, 0, none⟩ = some (.complex .f64 a b) := by rw [g5 _ _ (by simp; omega)]; simp [go_sem, *]
  have n1 : w4.cell? ⟨w.heap.size + 1, 1, none⟩ = some (.float .f64 r) := by rw [g5 _ _ (by simp; omega)]; simp [go_sem, *]
  have i0 : w4.cell? ⟨w.heap.size + 1 + 1, 0, none⟩ = some (.complex .f64 wholeS.1 wholeS.2.1) := by rw [g5 _ _ (by simp; omega)]; simp [go_sem, *]
  have i1 : w4.cell? ⟨w.heap.size + 1 + 1, 1, none⟩ = some (.float .f64 wholeS.2.2) := by rw [g5 _ _ (by simp; omega)]; simp [go_sem, *]
  have j0 : w4.cell? ⟨w.heap.size + 1 + 1 + 1, 0, none⟩ = some (.complex .f64 wholeS.1 wholeS.2.1) := by rw [g5 _ _ (by simp; omega)]; simp [go_sem, *]
  have j1 : w4.cell? ⟨w.heap.size + 1 + 1 + 1, 1, none⟩ = some (.float .f64 wholeS.2.2) := by rw [g5 _ _ (by simp; omega)]; simp [go_sem, *]
  have k0 : w4.cell? ⟨w2.heap.size, 0, none⟩ = some (.bool false) := by rw [g5 _ _ (by simp)]; simp [go_sem, *]
  have fi0 : w4.frozen? ⟨w.heap.size + 1 + 1, 0, none⟩ = false := by rw [g6 _ _ (by simp; omega)]; simp [go_sem, *]
  have fi1 : w4.frozen? ⟨w.heap.size + 1 + 1, 1, none⟩ = false := by rw [g6 _ _ (by simp; omega)]; simp [go_sem, *]
  have fj0 : w4.frozen? ⟨w.heap.size + 1 + 1 + 1, 0, none⟩ = false := by rw [g6 _ _ (by simp; omega)]; simp [go_sem, *]
  have fj1 : w4.frozen? ⟨w.heap.size + 1 + 1 + 1, 1, none⟩ = false := by rw [g6 _ _ (by simp; omega)]; simp [go_sem, *]
  have fk0 : w4.frozen? ⟨w2.heap.size, 0, none⟩ = false := by rw [g6 _ _ (by simp)]; simp [go_sem, *]
  have HB4 := Lib.hid hB4
  clear hB4 hb4 g1 g2 g3 g4 g5 g6 hb1 hb2
  have l4_0 : w.heap.size < w4.heap.size := (by omega)
  have l4_1 : w.heap.size + 1 < w4.heap.size := (by omega)
  have l4_2 : w.heap.size + 1 + 1 < w4.heap.size := (by omega)
  have l4_3 : w.heap.size + 1 + 1 + 1 < w4.heap.size := (by omega)
  have l4_4 : w2.heap.size < w4.heap.size := (by omega)
  have HX4 := Lib.hid (Below.refl w4.heap.size w4)
  go_wp2_with (first
    | (go_at_call 120; (with_reducible refine (HMA.out _).mono ?_); rintro e w5 ⟨rfl, hb5⟩; have hx5 : Below w4.heap.size w4 w5 := (by (have hb' := HX4.out; repeat (first | exact Below.refl _ _ | refine below_drewN ?_ _ | refine Below.alloc ?_ (by first | omega | (simp; omega) | simp) _ | refine Below.setCell ?_ (by first | omega | (simp; omega) | simp) _ | refine Below.trans ?_ (Below.mono (by assumption) (by first | omega | (simp; omega) | simp)) | apply Below.drew))); have m0_5 := (hx5.cell (p := ⟨w.heap.size, 0, none⟩) l4_0).trans m0; have m1_5 := (hx5.cell (p := ⟨w.heap.size, 1, none⟩) l4_0).trans m1; have n0_5 := (hx5.cell (p := ⟨w.heap.size + 1, 0, none⟩) l4_1).trans n0; have n1_5 := (hx5.cell (p := ⟨w.heap.size + 1, 1, none⟩) l4_1).trans n1; have s5 := hb5.size; (try simp at s5); have l5_0 : w.heap.size < w5.heap.size := (by omega); have l5_1 : w.heap.size + 1 < w5.heap.size := (by omega); have l5_2 : w.heap.size + 1 + 1 < w5.heap.size := (by omega); have l5_3 : w.heap.size + 1 + 1 + 1 < w5.heap.size := (by omega); have l5_4 : w2.heap.size < w5.heap.size := (by omega); have HX5 := Lib.hid hx5; clear hb5 hx5)
    | (go_at_call 60; (with_reducible refine (HWH.out _).mono ?_); rintro e w6 ⟨rfl, hb6⟩; have hx6 : Below w4.heap.size w4 w6 := (by (have hb' := HX5.out; repeat (first | exact Below.refl _ _ | refine below_drewN ?_ _ | refine Below.alloc ?_ (by first | omega | (simp; omega) | simp) _ | refine Below.setCell ?_ (by first | omega | (simp; omega) | simp) _ | refine Below.trans ?_ (Below.mono (by assumption) (by first | omega | (simp; omega) | simp)) | apply Below.drew))); have m0_6 := (hx6.cell (p := ⟨w.heap.size, 0, none⟩) l4_0).trans m0; have m1_6 := (hx6.cell (p := ⟨w.heap.size, 1, none⟩) l4_0).trans m1; have n0_6 := (hx6.cell (p := ⟨w.heap.size + 1, 0, none⟩) l4_1).trans n0; have n1_6 := (hx6.cell (p := ⟨w.heap.size + 1, 1, none⟩) l4_1).trans n1; have s6 := hb6.size; (try simp at s6); have l6_0 : w.heap.size < w6.heap.size := (by omega); have l6_1 : w.heap.size + 1 < w6.heap.size := (by omega); have l6_2 : w.heap.size + 1 + 1 < w6.heap.size := (by omega); have l6_3 : w.heap.size + 1 + 1 + 1 < w6.heap.size := (by omega); have l6_4 : w2.heap.size < w6.heap.size := (by omega); have HX6 := Lib.hid hx6; clear hb6 hx6)
    | (go_at_call 111; (with_reducible refine (HOP.out _ (HM.out.now (by (have hb' := HX6.out; have hb4 := HB4.out; refine Below.trans hb4 (Below.mono ?_ hb4.size); repeat (first | exact Below.refl _ _ | refine below_drewN ?_ _ | refine Below.alloc ?_ (by first | omega | (simp; omega) | simp) _ | refine Below.setCell ?_ (by first | omega | (simp; omega) | simp) _ | refine Below.trans ?_ (Below.mono (by assumption) (by first | omega | (simp; omega) | simp)) | apply Below.drew))))).mono ?_); rintro e w7 ⟨rfl, hb7⟩; have hx7 : Below w4.heap.size w4 w7 := (by (have hb' := HX6.out; repeat (first | exact Below.refl _ _ | refine below_drewN ?_ _ | refine Below.alloc ?_ (by first | omega | (simp; omega) | simp) _ | refine Below.setCell ?_ (by first | omega | (simp; omega) | simp) _ | refine Below.trans ?_ (Below.mono (by assumption) (by first | omega | (simp; omega) | simp)) | apply Below.drew))); have m0_7 := (hx7.cell (p := ⟨w.heap.size, 0, none⟩) l4_0).trans m0; have m1_7 := (hx7.cell (p := ⟨w.heap.size, 1, none⟩) l4_0).trans m1; have n0_7 := (hx7.cell (p := ⟨w.heap.size + 1, 0, none⟩) l4_1).trans n0; have n1_7 := (hx7.cell (p := ⟨w.heap.size + 1, 1, none⟩) l4_1).trans n1; have s7 := hb7.size; (try simp at s7); have l7_0 : w.heap.size < w7.heap.size := (by omega); have l7_1 : w.heap.size + 1 < w7.heap.size := (by omega); have l7_2 : w.heap.size + 1 + 1 < w7.heap.size := (by omega); have l7_3 : w.heap.size + 1 + 1 + 1 < w7.heap.size := (by omega); have l7_4 : w2.heap.size < w7.heap.size := (by omega); have HX7 := Lib.hid hx7; clear hb7 hx7)
    | (go_at_call 111; (with_reducible refine (HOQ.out _ (HM.out.now (by (have hb' := HX7.out; have hb4 := HB4.out; refine Below.trans hb4 (Below.mono ?_ hb4.size); repeat (first | exact Below.refl _ _ | refine below_drewN ?_ _ | refine Below.alloc ?_ (by first | omega | (simp; omega) | simp) _ | refine Below.setCell ?_ (by first | omega | (simp; omega) | simp) _ | refine Below.trans ?_ (Below.mono (by assumption) (by first | omega | (simp; omega) | simp)) | apply Below.drew))))).mono ?_); rintro e w8 ⟨rfl, hb8⟩; have hx8 : Below w4.heap.size w4 w8 := (by (have hb' := HX7.out; repeat (first | exact Below.refl _ _ | refine below_drewN ?_ _ | refine Below.alloc ?_ (by first | omega | (simp; omega) | simp) _ | refine Below.setCell ?_ (by first | omega | (simp; omega) | simp) _ | refine Below.trans ?_ (Below.mono (by assumption) (by first | omega | (simp; omega) | simp)) | apply Below.drew))); have m0_8 := (hx8.cell (p := ⟨w.heap.size, 0, none⟩) l4_0).trans m0; have m1_8 := (hx8.cell (p := ⟨w.heap.size, 1, none⟩) l4_0).trans m1; have n0_8 := (hx8.cell (p := ⟨w.heap.size + 1, 0, none⟩) l4_1).trans n0; have n1_8 := (hx8.cell (p := ⟨w.heap.size + 1, 1, none⟩) l4_1).trans n1; have s8 := hb8.size; (try simp at s8); have u0_8 : w8.cell? ⟨w7.heap.size, 0, none⟩ = some (.complex .f64 U.1 U.2.1) := (hb8.cell (p := ⟨w7.heap.size, 0, none⟩) (by simp)).trans (by rw [World.cell?_alloc_at _ _ _ _ rfl]; rfl); have u1_8 : w8.cell? ⟨w7.heap.size, 1, none⟩ = some (.float .f64 U.2.2) := (hb8.cell (p := ⟨w7.heap.size, 1, none⟩) (by simp)).trans (by rw [World.cell?_alloc_at _ _ _ _ rfl]; rfl); have l8_0 : w.heap.size < w8.heap.size := (by omega); have l8_1 : w.heap.size + 1 < w8.heap.size := (by omega); have l8_2 : w.heap.size + 1 + 1 < w8.heap.size := (by omega); have l8_3 : w.heap.size + 1 + 1 + 1 < w8.heap.size := (by omega); have l8_4 : w2.heap.size < w8.heap.size := (by omega); have l8_5 : w7.heap.size < w8.heap.size := (by omega); have HX8 := Lib.hid hx8; clear hb8 hx8)
    | (go_at_call 116; (with_reducible refine (HSP.out _ (HM.out.now (by (have hb' := HX8.out; have hb4 := HB4.out; refine Below.trans hb4 (Below.mono ?_ hb4.size); repeat (first | exact Below.refl _ _ | refine below_drewN ?_ _ | refine Below.alloc ?_ (by first | omega | (simp; omega) | simp) _ | refine Below.setCell ?_ (by first | omega | (simp; omega) | simp) _ | refine Below.trans ?_ (Below.mono (by assumption) (by first | omega | (simp; omega) | simp)) | apply Below.drew))))).mono ?_); rintro e w9 ⟨rfl, hb9⟩; have hx9 : Below w4.heap.size w4 w9 := (by (have hb' := HX8.out; repeat (first | exact Below.refl _ _ | refine below_drewN ?_ _ | refine Below.alloc ?_ (by first | omega | (simp; omega) | simp) _ | refine Below.setCell ?_ (by first | omega | (simp; omega) | simp) _ | refine Below.trans ?_ (Below.mono (by assumption) (by first | omega | (simp; omega) | simp)) | apply Below.drew))); have m0_9 := (hx9.cell (p := ⟨w.heap.size, 0, none⟩) l4_0).trans m0; have m1_9 := (hx9.cell (p := ⟨w.heap.size, 1, none⟩) l4_0).trans m1; have n0_9 := (hx9.cell (p := ⟨w.heap.size + 1, 0, none⟩) l4_1).trans n0; have n1_9 := (hx9.cell (p := ⟨w.heap.size + 1, 1, none⟩) l4_1).trans n1; have s9 := hb9.size; (try simp at s9); have u0_9 := (hb9.cell (p := ⟨w7.heap.size, 0, none⟩) (by first | omega | (simp; omega) | simp)).trans ((World.cell?_alloc_past _ _ _ (by first | omega | (simp; omega) | simp)).trans u0_8); have u1_9 := (hb9.cell (p := ⟨w7.heap.size, 1, none⟩) (by first | omega | (simp; omega) | simp)).trans ((World.cell?_alloc_past _ _ _ (by first | omega | (simp; omega) | simp)).trans u1_8); have l9_0 : w.heap.size < w9.heap.size := (by omega); have l9_1 : w.heap.size + 1 < w9.heap.size := (by omega); have l9_2 : w.heap.size + 1 + 1 < w9.heap.size := (by omega); have l9_3 : w.heap.size + 1 + 1 + 1 < w9.heap.size := (by omega); have l9_4 : w2.heap.size < w9.heap.size := (by omega); have l9_5 : w7.heap.size < w9.heap.size := (by omega); have l9_6 : w8.heap.size < w9.heap.size := (by omega); have HX9 := Lib.hid hx9; clear hb9 hx9)
    | (go_at_call 116; (with_reducible refine (HSQ.out _ (HM.out.now (by (have hb' := HX9.out; have hb4 := HB4.out; refine Below.trans hb4 (Below.mono ?_ hb4.size); repeat (first | exact Below.refl _ _ | refine below_drewN ?_ _ | refine Below.alloc ?_ (by first | omega | (simp; omega) | simp) _ | refine Below.setCell ?_ (by first | omega | (simp; omega) | simp) _ | refine Below.trans ?_ (Below.mono (by assumption) (by first | omega | (simp; omega) | simp)) | apply Below.drew))))).mono ?_); rintro e w10 ⟨rfl, hb10⟩; have hx10 : Below w4.heap.size w4 w10 := (by (have hb' := HX9.out; repeat (first | exact Below.refl _ _ | refine below_drewN ?_ _ | refine Below.alloc ?_ (by first | omega | (simp; omega) | simp) _ | refine Below.setCell ?_ (by first | omega | (simp; omega) | simp) _ | refine Below.trans ?_ (Below.mono (by assumption) (by first | omega | (simp; omega) | simp)) | apply Below.drew))); have m0_10 := (hx10.cell (p := ⟨w.heap.size, 0, none⟩) l4_0).trans m0; have m1_10 := (hx10.cell (p := ⟨w.heap.size, 1, none⟩) l4_0).trans m1; have n0_10 := (hx10.cell (p := ⟨w.heap.size + 1, 0, none⟩) l4_1).trans n0; have n1_10 := (hx10.cell (p := ⟨w.heap.size + 1, 1, none⟩) l4_1).trans n1; have s10 := hb10.size; (try simp at s10); have u0_10 := (hb10.cell (p := ⟨w7.heap.size, 0, none⟩) (by first | omega | (simp; omega) | simp)).trans ((World.cell?_alloc_past _ _ _ (by first | omega | (simp; omega) | simp)).trans u0_9); have u1_10 := (hb10.cell (p := ⟨w7.heap.size, 1, none⟩) (by first | omega | (simp; omega) | simp)).trans ((World.cell?_alloc_past _ _ _ (by first | omega | (simp; omega) | simp)).trans u1_9); have v0_10 : w10.cell? ⟨w9.heap.size, 0, none⟩ = some (.complex .f64 S.1 S.2.1) := (hb10.cell (p := ⟨w9.heap.size, 0, none⟩) (by simp)).trans (by rw [World.cell?_alloc_at _ _ _ _ rfl]; rfl); have v1_10 : w10.cell? ⟨w9.heap.size, 1, none⟩ = some (.float .f64 S.2.2) := (hb10.cell (p := ⟨w9.heap.size, 1, none⟩) (by simp)).trans (by rw [World.cell?_alloc_at _ _ _ _ rfl]; rfl); have l10_0 : w.heap.size < w10.heap.size := (by omega); have l10_1 : w.heap.size + 1 < w10.heap.size := (by omega); have l10_2 : w.heap.size + 1 + 1 < w10.heap.size := (by omega); have l10_3 : w.heap.size + 1 + 1 + 1 < w10.heap.size := (by omega); have l10_4 : w2.heap.size < w10.heap.size := (by omega); have l10_5 : w7.heap.size < w10.heap.size := (by omega); have l10_6 : w8.heap.size < w10.heap.size := (by omega); have l10_7 : w9.heap.size < w10.heap.size := (by omega); have i0_10 := (hx10.cell (p := ⟨w.heap.size + 1 + 1, 0, none⟩) l4_2).trans i0; have fi0_10 := (hx10.frozen (p := ⟨w.heap.size + 1 + 1, 0, none⟩) l4_2).trans fi0; have i1_10 := (hx10.cell (p := ⟨w.heap.size + 1 + 1, 1, none⟩) l4_2).trans i1; have fi1_10 := (hx10.frozen (p := ⟨w.heap.size + 1 + 1, 1, none⟩) l4_2).trans fi1; have j0_10 := (hx10.cell (p := ⟨w.heap.size + 1 + 1 + 1, 0, none⟩) l4_3).trans j0; have fj0_10 := (hx10.frozen (p := ⟨w.heap.size + 1 + 1 + 1, 0, none⟩) l4_3).trans fj0; have j1_10 := (hx10.cell (p := ⟨w.heap.size + 1 + 1 + 1, 1, none⟩) l4_3).trans j1; have fj1_10 := (hx10.frozen (p := ⟨w.heap.size + 1 + 1 + 1, 1, none⟩) l4_3).trans fj1; have k0_10 := (hx10.cell (p := ⟨w2.heap.size, 0, none⟩) l4_4).trans k0; have fk0_10 := (hx10.frozen (p := ⟨w2.heap.size, 0, none⟩) l4_4).trans fk0; have HX10 := Lib.hid hx10; clear hb10 hx10))
  refine (one_q (HM.out.now (by (have hb4 := HB4.out; have hbb := hb4.trans (HX10.out.mono hb4.size); clear hb4; repeat (first | exact Below.refl _ _ | refine below_drewN ?_ _ | refine Below.alloc ?_ (by first | omega | (simp; omega) | simp) _ | refine Below.setCell ?_ (by first | omega | (simp; omega) | simp) _ | refine Below.trans ?_ (Below.mono (by assumption) (by first | omega | (simp; omega) | simp)) | apply Below.drew)))).q).mono ?_
  rintro e w' ⟨rfl, rfl⟩
  have hbw : Below w.heap.size w w10 := HB4.out.trans (HX10.out.mono HB4.out.size)
  have HBW := Lib.hid hbw
  clear hmf HM HOP HOQ HSP HSQ HMA HWH HB4 HX4 HX5 HX6 HX7 HX8 HX9 HX10 hbw m0 m1 n0 n1 i0 i1 j0 j1 k0 fi0 fi1 fj0 fj1 fk0
  go_wp2_with fail
  go_region
  go_wp2
  refine leaves_cons (f := 245) (args := #[.pointer (some ⟨w2.heap.size, 0, none⟩), .pointer (some ⟨w.heap.size + 1 + 1, 0, none⟩), .pointer (some ⟨w.heap.size + 1 + 1 + 1, 0, none⟩)]) (by simp) (by simp [go_sem]) ?_
  refine (both1_idle _ _ _ _ ?_).mono ?_
  · have e1 : (w10.setCell ⟨w2.heap.size, 0, none⟩ (.bool true)).cell? ⟨w2.heap.size, 0, none⟩ = some (.bool true) := by first | exact World.cell?_setCell_same _ _ _ k0_10 | exact World.cell?_setCell_same _ _ _ _ k0_10 | exact World.cell?_setCell_same _ k0_10
    simp [go_sem, e1, l10_4]
  rintro e u' w'' ⟨rfl, rfl, rfl⟩
  have hb := HBW.out
  have hfin : Below w.heap.size w ((((((w10.setCell ⟨w2.heap.size, 0, none⟩ (.bool true)).setCell ⟨w.heap.size + 1 + 1, 0, none⟩ (.complex .f64 U.1 U.2.1)).setCell ⟨w.heap.size + 1 + 1, 1, none⟩ (.float .f64 U.2.2)).setCell ⟨w.heap.size + 1 + 1 + 1, 0, none⟩ (.complex .f64 S.1 S.2.1)).setCell ⟨w.heap.size + 1 + 1 + 1, 1, none⟩ (.float .f64 S.2.2)).alloc (.cells #[.complex .f64 T.1 T.2.1, .float .f64 T.2.2] 57)).drew := by repeat (first | exact Below.refl _ _ | refine below_drewN ?_ _ | refine Below.alloc ?_ (by first | omega | (simp; omega) | simp) _ | refine Below.setCell ?_ (by first | omega | (simp; omega) | simp) _ | refine Below.trans ?_ (Below.mono (by assumption) (by first | omega | (simp; omega) | simp)) | apply Below.drew)
  have HF := Lib.hid hfin
  clear hfin hb
  simp [Leaves, settle, results, Tryz.results229, go_sem, i0_10, i1_10, j0_10, j1_10, l10_2, l10_3]
  exact HF.out
end Go.Proofs.YtbgjcpnbdgljbaaGreatDoor

/- flow at the map 2z: Check, steps, one, stepper. -/
namespace Go.Proofs.YtbgjcpnbdgljbaaGreatDoor
open Go.RowKit Go.Fil
attribute [local irreducible] fop fsqrt fup fabs fneg pick

section
variable {A1 A2 : Option Addr} {c1 c2 : Nat} (a b r : Nat) (hm : mayS (a, b, r) = true) {w : World} (hM : Mp w w.heap.size A1 A2)
include hm hM
theorem fcheck : Calls Tryz.prog 228 #[.agg #[.slice A1 2 c1, .slice A2 1 c2], .agg #[.complex .f64 a b, .float .f64 r]] w fun e w' => e = .returned (.int .i64 0) ∧ Below w.heap.size w w' := by
  have HMA := Lib.hid (fun w => may_any a b r w)
  rw [hm] at HMA
  have HM := Lib.hid hM
  clear hM hm
  go_enter Tryz.func228, Tryz.ntmps228
  go_wp2_with (first
    | (go_at_call 71; (with_reducible refine (mcheck (HM.out.now (by repeat (first | exact Below.refl _ _ | refine below_drewN ?_ _ | refine Below.alloc ?_ (by first | omega | (simp; omega) | simp) _ | refine Below.setCell ?_ (by first | omega | (simp; omega) | simp) _ | refine Below.trans ?_ (Below.mono (by assumption) (by first | omega | (simp; omega) | simp)) | apply Below.drew)))).mono ?_); rintro e w1 ⟨rfl, hb⟩; obtain ⟨hc, hf⟩ := bcell hb; (try simp only [World.heap_drewN, World.cell?_drewN, World.frozen?_drewN] at hc hf); have z0 : w.heap.size < w1.heap.size := (by have := hb.size; (try simp at this); omega); have z1 : w.heap.size + 1 < w1.heap.size := (by have := hb.size; (try simp at this); omega))
    | (go_at_call 120; (with_reducible refine (HMA.out _).mono ?_); rintro e w2 ⟨rfl, hb2⟩))
  go_ret
  exact ⟨rfl, by repeat (first | exact Below.refl _ _ | refine below_drewN ?_ _ | refine Below.alloc ?_ (by first | omega | (simp; omega) | simp) _ | refine Below.setCell ?_ (by first | omega | (simp; omega) | simp) _ | refine Below.trans ?_ (Below.mono (by assumption) (by first | omega | (simp; omega) | simp)) | apply Below.drew)⟩
theorem fsteps : Calls Tryz.prog 194 #[.agg #[.slice A1 2 c1, .slice A2 1 c2], .agg #[.complex .f64 a b, .float .f64 r], .int .i64 1] w fun e w' => e = .returned (.int .i64 0) ∧ Below w.heap.size w w' := by
  have HCH := Lib.hid (fun w (hM : Mp w w.heap.size A1 A2) => fcheck (c1 := c1) (c2 := c2) a b r hm hM)
  have HM := Lib.hid hM
  clear hM hm
  go_enter Tryz.func194, Tryz.ntmps194
  go_wp2_with (go_at_call 228; (with_reducible refine (HCH.out _ (HM.out.now (by repeat (first | exact Below.refl _ _ | refine below_drewN ?_ _ | refine Below.alloc ?_ (by first | omega | (simp; omega) | simp) _ | refine Below.setCell ?_ (by first | omega | (simp; omega) | simp) _ | refine Below.trans ?_ (Below.mono (by assumption) (by first | omega | (simp; omega) | simp)) | apply Below.drew)))).mono ?_); rintro e w1 ⟨rfl, hb⟩)
  go_ret
  exact ⟨rfl, by repeat (first | exact Below.refl _ _ | refine below_drewN ?_ _ | refine Below.alloc ?_ (by first | omega | (simp; omega) | simp) _ | refine Below.setCell ?_ (by first | omega | (simp; omega) | simp) _ | refine Below.trans ?_ (Below.mono (by assumption) (by first | omega | (simp; omega) | simp)) | apply Below.drew)⟩
end
theorem flow_one (w : World) : Calls Tryz.prog 249 #[] w (RB (pointS 4607182418800017408 0) w) := by
  go_enter Tryz.func249, Tryz.ntmps249
  go_wp2_with (go_at_call 112; refine (point_any _ _ _).mono ?_; rintro e w1 ⟨rfl, hb⟩; obtain ⟨hc, hf⟩ := bcell hb; (try simp only [World.heap_drewN, World.cell?_drewN, World.frozen?_drewN] at hc hf); have z0 : w.heap.size < w1.heap.size := (by have := hb.size; try simp at this; omega))
  exact bodyPost_ret (v := .agg #[.complex .f64 (pointS 4607182418800017408 0).1 (pointS 4607182418800017408 0).2.1, .float .f64 (pointS 4607182418800017408 0).2.2]) (by simp [results, Tryz.results249, go_sem, *]) rfl ⟨rfl, by repeat (first | exact Below.refl _ _ | refine below_drewN ?_ _ | refine Below.alloc ?_ (by first | omega | (simp; omega) | simp) _ | refine Below.setCell ?_ (by first | omega | (simp; omega) | simp) _ | refine Below.trans ?_ (Below.mono (by assumption) (by first | omega | (simp; omega) | simp)) | apply Below.drew)⟩
theorem stepper_any (m1 m2 : Value) (w : World) : Calls Tryz.prog 248 #[.agg #[m1, m2]] w fun e w' => e = .returned (.func (.func 254) #[] #[.pointer (some ⟨w.heap.size, 0, none⟩)]) ∧ w' = w.alloc (.cells #[m1, m2] 68) := by
  have hmf : ∀ (fn : Fn) (first cap : Array Value) (w : World), (Instr.makeFunc fn first cap).run Tryz.prog w = .ok (.func fn first cap) w := fun _ _ _ _ => rfl
  go_enter Tryz.func248, Tryz.ntmps248
  go_wp2
  go_ret
  exact ⟨rfl, rfl⟩
def onP (B : Bl) : Bl := onFrom B (pointsS P2) 0
def slP (B : Bl) : Bl := onFrom B (slopesS P2) 0
/-- Two balls. -/
def RBB (U V : Bl) (w : World) (e : Ending) (w' : World) : Prop := e = .returned (.tuple #[.agg #[.complex .f64 U.1 U.2.1, .float .f64 U.2.2], .agg #[.complex .f64 V.1 V.2.1, .float .f64 V.2.2]]) ∧ Below w.heap.size w w'
set_option maxRecDepth 100000 in
set_option maxHeartbeats 3200000 in
theorem step1_any {A1 A2 : Option Addr} {c1 c2 : Nat} (B S : Bl) (g : Nat) (hm : mayS B = true) (hw : isWholeS B = false) {w : World} (hM : Mp w w.heap.size A1 A2) (hc0 : w.cell? ⟨g, 0, none⟩ = some (.slice A1 2 c1)) (hc1 : w.cell? ⟨g, 1, none⟩ = some (.slice A2 1 c2)) :
    Calls Tryz.prog 254 #[.agg #[.complex .f64 B.1 B.2.1, .float .f64 B.2.2], .agg #[.complex .f64 S.1 S.2.1, .float .f64 S.2.2], .pointer (some ⟨g, 0, none⟩)] w (RBB (onP B) (mulS (slP B) S) w) := by
  obtain ⟨a, b, r⟩ := B
  obtain ⟨a', b', r'⟩ := S
  dsimp only at hm hw ⊢
  have HBO := Lib.hid (fun w (hM : Mp w w.heap.size A1 A2) => both_any (c1 := c1) (c2 := c2) a b r hm hw hM)
  have HM := Lib.hid hM
  have hgl := World.block_lt_of_cell? w _ hc0
  dsimp only at hgl
  have hg1 : g < w.heap.size + 1 := by omega
  have hg2 : g < w.heap.size + 1 + 1 := by omega
  have hg3 : g < w.heap.size + 1 + 1 + 1 := by omega
  have e1 : onFrom (a, b, r) (pointsS P2) 0 = onP (a, b, r) := rfl
  have e2 : onFrom (a, b, r) (slopesS P2) 0 = slP (a, b, r) := rfl
  rw [e1, e2] at HBO
  generalize onP (a, b, r) = U at *
  generalize slP (a, b, r) = V at *
  clear hM hm hw e1 e2
  go_enter Tryz.func254, Tryz.ntmps254
  go_wp2_with (go_at_call 229; (with_reducible refine (HBO.out _ (HM.out.now (by repeat (first | exact Below.refl _ _ | refine below_drewN ?_ _ | refine Below.alloc ?_ (by first | omega | (simp; omega) | simp) _ | refine Below.setCell ?_ (by first | omega | (simp; omega) | simp) _ | refine Below.trans ?_ (Below.mono (by assumption) (by first | omega | (simp; omega) | simp)) | apply Below.drew)))).mono ?_); rintro e w1 ⟨rfl, hb⟩; obtain ⟨hc, hf⟩ := bcell hb; (try simp only [World.heap_drewN, World.cell?_drewN, World.frozen?_drewN] at hc hf); have z0 : w.heap.size < w1.heap.size := (by have := hb.size; (try simp at this); omega); have z1 : w.heap.size + 1 < w1.heap.size := (by have := hb.size; (try simp at this); omega); have z2 : w.heap.size + 1 + 1 < w1.heap.size := (by have := hb.size; (try simp at this); omega); have z3 : w.heap.size + 2 < w1.heap.size := (by omega); have z4 : w.heap.size + 1 + 1 + 1 < w1.heap.size := (by have := hb.size; (try simp at this); omega))
  go_region_held3 (fun x => x.cell? ⟨w1.heap.size, 0, none⟩ = some (.complex .f64 U.1 U.2.1) ∧ x.cell? ⟨w1.heap.size, 1, none⟩ = some (.float .f64 U.2.2) ∧ x.cell? ⟨w1.heap.size + 1, 0, none⟩ = some (.complex .f64 V.1 V.2.1) ∧ x.cell? ⟨w1.heap.size + 1, 1, none⟩ = some (.float .f64 V.2.2) ∧ x.cell? ⟨w.heap.size + 1, 0, none⟩ = some (.complex .f64 a' b') ∧ x.cell? ⟨w.heap.size + 1, 1, none⟩ = some (.float .f64 r')) (((try dsimp only); refine ⟨?_, ?_, ?_, ?_, ?_, ?_⟩ <;> first | (simp [go_sem, World.cell?_alloc_past, *]; done) | (rw [hc _ _ (by first | assumption | (simp; assumption) | omega | (simp; omega))]; first | exact (‹_ ∧ _ ∧ _ ∧ _ ∧ _ ∧ _›).1 | exact (‹_ ∧ _ ∧ _ ∧ _ ∧ _ ∧ _›).2.1 | exact (‹_ ∧ _ ∧ _ ∧ _ ∧ _ ∧ _›).2.2.1 | exact (‹_ ∧ _ ∧ _ ∧ _ ∧ _ ∧ _›).2.2.2.1 | exact (‹_ ∧ _ ∧ _ ∧ _ ∧ _ ∧ _›).2.2.2.2.1 | exact (‹_ ∧ _ ∧ _ ∧ _ ∧ _ ∧ _›).2.2.2.2.2)))
    (first
      | (go_at_call 114; refine (bmul_any _ _ _ _ _ _ _).mono ?_; rintro e w2 ⟨rfl, hb2⟩; obtain ⟨hc2, hf2⟩ := bcell hb2; have s2 := hb2.size; (try simp at s2); have y2 : w.heap.size + 1 + 1 < w2.heap.size := (by omega); have y3 : w.heap.size + 1 + 1 + 1 < w2.heap.size := (by omega)))
  go_wp2
  exact bodyPost_ret (v := .tuple #[.agg #[.complex .f64 U.1 U.2.1, .float .f64 U.2.2], .agg #[.complex .f64 (mulS V (a', b', r')).1 (mulS V (a', b', r')).2.1, .float .f64 (mulS V (a', b', r')).2.2]]) (by simp [results, Tryz.results254, go_sem, *]) rfl ⟨rfl, by repeat (first | exact Below.refl _ _ | refine below_drewN ?_ _ | refine Below.alloc ?_ (by first | omega | (simp; omega) | simp) _ | refine Below.setCell ?_ (by first | omega | (simp; omega) | simp) _ | refine Below.trans ?_ (Below.mono (by assumption) (by first | omega | (simp; omega) | simp)) | apply Below.drew)⟩
end Go.Proofs.YtbgjcpnbdgljbaaGreatDoor

/- flow.After of the map 2z, one step. -/
namespace Go.Proofs.YtbgjcpnbdgljbaaGreatDoor
open Go.RowKit Go.Fil
attribute [local irreducible] fop fsqrt fup fabs fneg pick

/-- The ball 1. -/
def one1 : Bl := pointS 4607182418800017408 0
/-- What After's variables hold. -/
structure Af (w wx : World) (g : Nat) (A1 A2 : Option Addr) (c1 c2 : Nat) (X Y : Bl) : Prop where
  be : Below w.heap.size w wx
  m0 : wx.cell? ⟨g, 0, none⟩ = some (.slice A1 2 c1)
  m1 : wx.cell? ⟨g, 1, none⟩ = some (.slice A2 1 c2)
  x0 : wx.cell? ⟨w.heap.size + 1, 0, none⟩ = some (.complex .f64 X.1 X.2.1)
  x1 : wx.cell? ⟨w.heap.size + 1, 1, none⟩ = some (.float .f64 X.2.2)
  xf0 : wx.frozen? ⟨w.heap.size + 1, 0, none⟩ = false
  xf1 : wx.frozen? ⟨w.heap.size + 1, 1, none⟩ = false
  y0 : wx.cell? ⟨w.heap.size + 1 + 1 + 1, 0, none⟩ = some (.complex .f64 Y.1 Y.2.1)
  y1 : wx.cell? ⟨w.heap.size + 1 + 1 + 1, 1, none⟩ = some (.float .f64 Y.2.2)
  yf0 : wx.frozen? ⟨w.heap.size + 1 + 1 + 1, 0, none⟩ = false
  yf1 : wx.frozen? ⟨w.heap.size + 1 + 1 + 1, 1, none⟩ = false
  l0 : wx.cell? ⟨w.heap.size + 1 + 1, 0, none⟩ = some (.complex .f64 0 0)
  l1 : wx.cell? ⟨w.heap.size + 1 + 1, 1, none⟩ = some (.float .f64 0)
  lf0 : wx.frozen? ⟨w.heap.size + 1 + 1, 0, none⟩ = false
  lf1 : wx.frozen? ⟨w.heap.size + 1 + 1, 1, none⟩ = false
  gl : w.heap.size + 1 + 1 + 1 < g
  gx : g < wx.heap.size
/-- A ball, a slope, no error. -/
def RBE2 (U V : Bl) (w : World) (e : Ending) (w' : World) : Prop := e = .returned (.tuple #[.agg #[.complex .f64 U.1 U.2.1, .float .f64 U.2.2], .agg #[.complex .f64 V.1 V.2.1, .float .f64 V.2.2], .int .i64 0]) ∧ Below w.heap.size w w'
set_option maxRecDepth 100000 in
set_option maxHeartbeats 3200000 in
theorem after_any {A1 A2 : Option Addr} {c1 c2 : Nat} (B : Bl) (hm : mayS B = true) (hw : isWholeS B = false) {w : World} (hM : Mp w w.heap.size A1 A2) :
    Calls Tryz.prog 242 #[.agg #[.slice A1 2 c1, .slice A2 1 c2], .agg #[.complex .f64 B.1 B.2.1, .float .f64 B.2.2], .int .i64 1] w (RBE2 (onP B) (mulS (slP B) one1) w) := by
  obtain ⟨a, b, r⟩ := B
  dsimp only at hm hw ⊢
  have HST := Lib.hid (fun w (hM : Mp w w.heap.size A1 A2) => fsteps (c1 := c1) (c2 := c2) a b r hm hM)
  have HS1 := Lib.hid (fun g w (hM : Mp w w.heap.size A1 A2) hc0 hc1 => step1_any (c1 := c1) (c2 := c2) (a, b, r) one1 g hm hw hM hc0 hc1)
  have HON := Lib.hid flow_one
  have HSP := Lib.hid stepper_any
  have HM := Lib.hid hM
  have e3 : pointS 4607182418800017408 0 = one1 := rfl
  rw [e3] at HON
  generalize onP (a, b, r) = U at *
  generalize mulS (slP (a, b, r)) one1 = V at *
  generalize one1 = I at *
  clear hM hm hw e3
  go_enter Tryz.func242, Tryz.ntmps242
  go_wp2_with (first
    | (go_at_call 194; (with_reducible refine (HST.out _ (HM.out.now (by repeat (first | exact Below.refl _ _ | refine below_drewN ?_ _ | refine Below.alloc ?_ (by first | omega | (simp; omega) | simp) _ | refine Below.setCell ?_ (by first | omega | (simp; omega) | simp) _ | refine Below.trans ?_ (Below.mono (by assumption) (by first | omega | (simp; omega) | simp)) | apply Below.drew)))).mono ?_); rintro e w1 ⟨rfl, hb⟩; obtain ⟨hc, hf⟩ := bcell hb; (try simp only [World.heap_drewN, World.cell?_drewN, World.frozen?_drewN] at hc hf); have z0 : w.heap.size < w1.heap.size := (by have := hb.size; (try simp at this); omega); have z1 : w.heap.size + 1 < w1.heap.size := (by have := hb.size; (try simp at this); omega); have z2 : w.heap.size + 1 + 1 < w1.heap.size := (by have := hb.size; (try simp at this); omega); have z3 : w.heap.size + 2 < w1.heap.size := (by omega); have z4 : w.heap.size + 1 + 1 + 1 < w1.heap.size := (by have := hb.size; (try simp at this); omega))
    | (go_at_call 248; (with_reducible refine (HSP.out _ _ _).mono ?_); rintro e w' ⟨rfl, rfl⟩)
    | (go_at_call 249; (with_reducible refine (HON.out _).mono ?_); rintro e w2 ⟨rfl, hb2⟩; obtain ⟨hc2, hf2⟩ := bcell hb2; have s2 := hb2.size; (try simp at s2); have y1 : w.heap.size + 1 < w2.heap.size := (by omega); have y2 : w.heap.size + 1 + 1 < w2.heap.size := (by omega); have y3 : w.heap.size + 1 + 1 + 1 < w2.heap.size := (by omega)))
  have g1 : w1.heap.size < w2.heap.size := by omega
  have g2 : w.heap.size + 1 + 1 + 1 ≠ w1.heap.size := by omega
  have g3 : w1.heap.size ≠ w.heap.size + 1 + 1 + 1 := by omega
  go_loopw [24] (fun k wx => ∃ (j : Nat) (X Y : Bl), k = .int .i64 j ∧ j ≤ 1 ∧ ((j = 0 ∧ X = (a, b, r) ∧ Y = I) ∨ (j = 1 ∧ X = U ∧ Y = V)) ∧ Af w wx w1.heap.size A1 A2 c1 c2 X Y) (fun k _ => 1 - (intOf k).toNat)
  case atStart =>
    refine ⟨0, (a, b, r), I, rfl, Nat.zero_le _, .inl ⟨rfl, rfl, rfl⟩, ?_⟩
    constructor
    · repeat (first | exact Below.refl _ _ | refine below_drewN ?_ _ | refine Below.alloc ?_ (by first | omega | (simp; omega) | simp) _ | refine Below.setCell ?_ (by first | omega | (simp; omega) | simp) _ | refine Below.trans ?_ (Below.mono (by assumption) (by first | omega | (simp; omega) | simp)) | apply Below.drew)
    all_goals first | (simp [go_sem, *]; done) | (simp; omega) | omega
  case round =>
    rename World => wx
    obtain ⟨j, X, Y, rfl, hj, hXY, hA⟩ := hrel
    clear hc hf hc2 hf2 hb hb2
    obtain ⟨be, m0, m1, x0, x1, xf0, xf1, y0', y1', yf0, yf1, l0, l1, lf0, lf1, gl, gx⟩ := hA
    have BE := Lib.hid be
    have k1 : w.heap.size + 1 < wx.heap.size := by omega
    have k2 : w.heap.size + 1 + 1 < wx.heap.size := by omega
    have k3 : w.heap.size + 1 + 1 + 1 < wx.heap.size := by omega
    rcases hXY with ⟨rfl, rfl, rfl⟩ | ⟨rfl, rfl, rfl⟩
    · have HS := Lib.hid (HS1.out w1.heap.size wx (HM.out.now be) m0 m1)
      clear be hj
      dsimp only at x0 x1
      go_wp2_with (go_at_call 254; (with_reducible refine HS.out.mono ?_); rintro e w3 ⟨rfl, hb⟩; obtain ⟨hc, hf⟩ := bcell hb; have s3 := hb.size; have q1 : w.heap.size + 1 < w3.heap.size := (by omega); have q2 : w.heap.size + 1 + 1 < w3.heap.size := (by omega); have q3 : w.heap.size + 1 + 1 + 1 < w3.heap.size := (by omega); have q4 : w1.heap.size < w3.heap.size := (by omega))
      refine ⟨⟨1, U, V, rfl, Nat.le_refl _, .inr ⟨rfl, rfl, rfl⟩, ?_⟩, by simp [intOf]⟩
      have be := BE.out
      have hbe : Below w.heap.size w w3 := be.trans (hb.mono be.size)
      clear be hb HS HST HS1 HON HSP HM BE
      constructor
      · clear m0 m1 x0 x1 xf0 xf1 y0' y1' yf0 yf1 l0 l1 lf0 lf1
        repeat (first | exact Below.refl _ _ | refine below_drewN ?_ _ | refine Below.alloc ?_ (by first | omega | (simp; omega) | simp) _ | refine Below.setCell ?_ (by first | omega | (simp; omega) | simp) _ | refine Below.trans ?_ (Below.mono (by assumption) (by first | omega | (simp; omega) | simp)) | apply Below.drew)
      all_goals first | (simp [go_sem, *]; done) | (simp; omega) | omega
    · clear be hj
      go_wp2_with fail
      go_region
      go_wp2
      have hbe : Below w.heap.size w wx := BE.out
      exact bodyPost_ret (v := .tuple #[.agg #[.complex .f64 X.1 X.2.1, .float .f64 X.2.2], .agg #[.complex .f64 Y.1 Y.2.1, .float .f64 Y.2.2], .int .i64 0]) (by simp [results, Tryz.results242, go_sem, *]) rfl ⟨rfl, by repeat (first | exact Below.refl _ _ | refine below_drewN ?_ _ | refine Below.alloc ?_ (by first | omega | (simp; omega) | simp) _ | refine Below.setCell ?_ (by first | omega | (simp; omega) | simp) _ | refine Below.trans ?_ (Below.mono (by assumption) (by first | omega | (simp; omega) | simp)) | apply Below.drew)⟩
end Go.Proofs.YtbgjcpnbdgljbaaGreatDoor
