/- The contracts of package status' judge of z^2 - 1. -/
import Derived.Test.YtbgjcpnbdgljbaaGreatDoorMSta
namespace Go.Proofs.YtbgjcpnbdgljbaaGreatDoor
open Go.RowKit Go.Fil Go.Shelf
attribute [local irreducible] fop fsqrt fup fabs fneg pick fmax hiS sizeP sizeQ

/-- The judge at j: its map in memory, 100 steps, no trap, the radius. -/
structure JAt (w : World) (j : Nat) (A1 A2 : Option Addr) (c1 c2 : Nat) : Prop where
  r : w.heap[j]? = some (.cells #[.slice A1 3 c1, .slice A2 1 c2, .int .i64 100, .slice none 0 0, .float .f64 4613937818241073154, .bool true, .bool true] 194 (0, 0))
  s1 : Seq w w.heap.size A1 (zsq.map cv)
  s2 : Seq w w.heap.size A2 (oneSt.map cv)
theorem JAt.lt {w : World} {j : Nat} {A1 A2 : Option Addr} {c1 c2 : Nat} (h : JAt w j A1 A2 c1 c2) : j < w.heap.size := by
  rcases Nat.lt_or_ge j w.heap.size with hh | hh
  · exact hh
  · have := h.r
    rw [Array.getElem?_eq_none hh] at this; cases this
theorem JAt.below {w w' : World} {j : Nat} {A1 A2 : Option Addr} {c1 c2 : Nat} (h : JAt w j A1 A2 c1 c2) (hb : Below w.heap.size w w') : JAt w' j A1 A2 c1 c2 :=
  ⟨by rw [hb.block j h.lt]; exact h.r, (h.s1.below hb (Nat.le_refl _)).more hb.size, (h.s2.below hb (Nat.le_refl _)).more hb.size⟩
theorem JAt.c {w : World} {j : Nat} {A1 A2 : Option Addr} {c1 c2 : Nat} (h : JAt w j A1 A2 c1 c2) :
    w.cell? ⟨j, 0, none⟩ = some (.slice A1 3 c1) ∧ w.cell? ⟨j, 1, none⟩ = some (.slice A2 1 c2) ∧ w.cell? ⟨j, 2, none⟩ = some (.int .i64 100) ∧ w.cell? ⟨j, 3, none⟩ = some (.slice none 0 0) ∧ w.cell? ⟨j, 4, none⟩ = some (.float .f64 4613937818241073154) ∧ w.cell? ⟨j, 5, none⟩ = some (.bool true) ∧ w.cell? ⟨j, 6, none⟩ = some (.bool true) := by
  have hr := h.r
  refine ⟨?_, ?_, ?_, ?_, ?_, ?_, ?_⟩ <;> (rw [cell_of_row w j _ _ _ (0, 0) hr]; rfl)
theorem none_any (j : Nat) (A1 A2 : Option Addr) (c1 c2 : Nat) (w : World) (h : JAt w j A1 A2 c1 c2) :
    Calls Tryz.prog 131 #[.pointer (some ⟨j, 0, none⟩)] w fun e w' => e = .returned (.bool false) ∧ w = w' := by
  have q6 := h.c.2.2.2.2.2.2
  clear h
  go_enter Tryz.func131, Tryz.ntmps131
  go_wp2
  go_ret
  exact ⟨rfl, rfl⟩
theorem steps_any (j : Nat) (A1 A2 : Option Addr) (c1 c2 : Nat) (w : World) (h : JAt w j A1 A2 c1 c2) :
    Calls Tryz.prog 70 #[.pointer (some ⟨j, 0, none⟩)] w fun e w' => e = .returned (.int .i64 100) ∧ w = w' := by
  have q2 := h.c.2.2.1
  have H := Lib.hid (none_any j A1 A2 c1 c2 w h)
  clear h
  go_enter Tryz.func70, Tryz.ntmps70
  go_wp2_with (go_at_call 131; refine H.out.mono ?_; rintro en w' ⟨rfl, rfl⟩)
  go_ret
  exact ⟨rfl, rfl⟩
theorem jradius_any (j : Nat) (A1 A2 : Option Addr) (c1 c2 : Nat) (w : World) (h : JAt w j A1 A2 c1 c2) :
    Calls Tryz.prog 68 #[.pointer (some ⟨j, 0, none⟩)] w fun e w' => e = .returned (.tuple #[.float .f64 4613937818241073154, .bool true]) ∧ ∃ n, w.drewN n = w' := by
  have q4 := h.c.2.2.2.2.1
  have q5 := h.c.2.2.2.2.2.1
  have H := Lib.hid (none_any j A1 A2 c1 c2 w h)
  clear h
  go_enter Tryz.func68, Tryz.ntmps68
  go_wp2_with (go_at_call 131; refine H.out.mono ?_; rintro en w' ⟨rfl, rfl⟩)
  go_quiet (fail)
  go_wp2
  go_ret2
  exact ⟨rfl, _, rfl⟩
set_option maxRecDepth 100000 in
set_option maxHeartbeats 3200000 in
theorem jout_any (j : Nat) (A1 A2 : Option Addr) (c1 c2 : Nat) (w : World) (h : JAt w j A1 A2 c1 c2) (hT : Tab w) :
    Calls Tryz.prog 192 #[.pointer (some ⟨j, 0, none⟩), .agg #[.complex .f64 4617315517961601024 0, .float .f64 4602678819172646912]] w fun e w' => e = .returned (.bool true) ∧ Below w.heap.size w w' := by
  have hb0 := alloc_below w (.cells #[.complex .f64 4617315517961601024 0, .float .f64 4602678819172646912] 57)
  have h1 := h.below hb0
  have q4 := h1.c.2.2.2.2.1
  have q5 := h1.c.2.2.2.2.2.1
  have HB := Lib.hid Beyond_any
  have HT := Lib.hid (hT.below hb0)
  have k0 : (w.alloc (.cells #[.complex .f64 4617315517961601024 0, .float .f64 4602678819172646912] 57)).cell? ⟨w.heap.size, 0, none⟩ = some (.complex .f64 4617315517961601024 0) := by simp [go_sem]
  have k1 : (w.alloc (.cells #[.complex .f64 4617315517961601024 0, .float .f64 4602678819172646912] 57)).cell? ⟨w.heap.size, 1, none⟩ = some (.float .f64 4602678819172646912) := by simp [go_sem]
  have hj := h1.lt
  clear h h1 hT hb0
  go_enter Tryz.func192, Tryz.ntmps192
  go_wp2
  go_region_held3 (fun x => x.cell? ⟨w.heap.size, 0, none⟩ = some (.complex .f64 4617315517961601024 0) ∧ x.cell? ⟨w.heap.size, 1, none⟩ = some (.float .f64 4602678819172646912) ∧ x.cell? ⟨j, 4, none⟩ = some (.float .f64 4613937818241073154))
    ((refine ⟨?_, ?_, ?_⟩ <;> first | with_reducible assumption | (simp only [World.cell?_drew]; with_reducible assumption)))
    (first
    | (go_at_call 224; refine (HB.out _ (HT.out.below (Below.refl _ _).drew)).mono ?_; rintro en w2 ⟨rfl, hb2'⟩; have hb2 := undrew hb2'; clear hb2'; have r0 := (hb2.cell (p := ⟨w.heap.size, 0, none⟩) (by simp)).trans k0; have r1 := (hb2.cell (p := ⟨w.heap.size, 1, none⟩) (by simp)).trans k1; have r2 := (hb2.cell (p := ⟨j, 4, none⟩) hj).trans q4))
  go_wp2
  go_ret
  exact ⟨rfl, (alloc_below w _).trans (hb2.mono (by simp))⟩
set_option maxRecDepth 100000 in
set_option maxHeartbeats 3200000 in
theorem look_any (j : Nat) (A1 A2 : Option Addr) (c1 c2 : Nat) (w : World) (h : JAt w j A1 A2 c1 c2) (hT : Tab w) :
    Calls Tryz.prog 132 #[.pointer (some ⟨j, 0, none⟩), .int .i64 0, .agg #[.complex .f64 4617315517961601024 0, .float .f64 4602678819172646912]] w fun e w' => e = .returned (.agg #[.int .u8 2, .int .i64 0, .int .i64 0]) ∧ Below w.heap.size w w' := by
  have HO := Lib.hid (fun w h hT => jout_any j A1 A2 c1 c2 w h hT)
  have H := Lib.hid h
  have HT := Lib.hid hT
  clear h hT
  go_enter Tryz.func132, Tryz.ntmps132
  go_wp2_with (go_at_call 192; refine (HO.out _ (H.out.below (by repeat (first | exact Below.refl _ _ | refine below_drewN ?_ _ | refine Below.alloc ?_ (by first | omega | (simp; omega) | simp) _ | refine Below.setCell ?_ (by first | omega | (simp; omega) | simp) _ | refine Below.trans ?_ (Below.mono (by assumption) (by first | omega | (simp; omega) | simp)) | apply Below.drew))) (HT.out.below (by repeat (first | exact Below.refl _ _ | refine below_drewN ?_ _ | refine Below.alloc ?_ (by first | omega | (simp; omega) | simp) _ | refine Below.setCell ?_ (by first | omega | (simp; omega) | simp) _ | refine Below.trans ?_ (Below.mono (by assumption) (by first | omega | (simp; omega) | simp)) | apply Below.drew)))).mono ?_; rintro en w1 ⟨rfl, hb⟩; obtain ⟨hc, hf⟩ := bcell hb; (try simp only [World.heap_drewN, World.cell?_drewN, World.frozen?_drewN] at hc hf); have z0 : w.heap.size < w1.heap.size := (by have := hb.size; (try simp at this); omega); have z1 : w.heap.size + 1 < w1.heap.size := (by have := hb.size; (try simp at this); omega); have q0 : (w1.cell? ⟨w.heap.size + 1, 0, none⟩) = some (.int .u8 0) := (by rw [hc _ _ (by simp <;> omega)]; simp [go_sem]); have q1 : (w1.cell? ⟨w.heap.size + 1, 1, none⟩) = some (.int .i64 0) := (by rw [hc _ _ (by simp <;> omega)]; simp [go_sem]); have q2 : (w1.cell? ⟨w.heap.size + 1, 2, none⟩) = some (.int .i64 0) := (by rw [hc _ _ (by simp <;> omega)]; simp [go_sem]))
  exact bodyPost_ret (v := .agg #[.int .u8 2, .int .i64 0, .int .i64 0]) (by simp [results, Tryz.results132, go_sem, q0, q1, q2]) rfl ⟨rfl, by repeat (first | exact Below.refl _ _ | refine below_drewN ?_ _ | refine Below.alloc ?_ (by first | omega | (simp; omega) | simp) _ | refine Below.setCell ?_ (by first | omega | (simp; omega) | simp) _ | refine Below.trans ?_ (Below.mono (by assumption) (by first | omega | (simp; omega) | simp)) | apply Below.drew)⟩
/-- A witness' block is written. -/
def set3 (w : World) (g : Nat) : World := ((w.setCell ⟨g, 0, none⟩ (.int .u8 2)).setCell ⟨g, 1, none⟩ (.int .i64 0)).setCell ⟨g, 2, none⟩ (.int .i64 0)
theorem grown_set3 {w w1 : World} {g : Nat} (hb : Below w.heap.size w w1) : w.grownBy (set3 w1 g) (some g) :=
  ⟨hb.os, hb.tape, hb.output, by unfold set3; simpa using hb.size, fun k hk hne => by
    unfold set3
    rw [heap_setCell_other _ ⟨g, 2, none⟩ k _ (fun e => hne (by simp [e])), heap_setCell_other _ ⟨g, 1, none⟩ k _ (fun e => hne (by simp [e])), heap_setCell_other _ ⟨g, 0, none⟩ k _ (fun e => hne (by simp [e]))]
    exact hb.block k hk⟩
set_option maxRecDepth 100000 in
set_option maxHeartbeats 3200000 in
theorem wit1_any (j : Nat) (A1 A2 : Option Addr) (c1 c2 sb wb : Nat) (w : World) (h : JAt w j A1 A2 c1 c2) (hT : Tab w) (hs : w.cell? ⟨sb, 0, none⟩ = some (.func (.func 132) #[.pointer (some ⟨j, 0, none⟩)] #[]))
    (hsb : sb < w.heap.size) (hwb : wb < w.heap.size) (u0 u1 u2 : Value) (hw0 : w.heap[wb]? = some (.cells #[u0, u1, u2] 121 (0, 0))) :
    Calls Tryz.prog 134 #[.int .i64 0, .agg #[.complex .f64 4617315517961601024 0, .float .f64 4602678819172646912], .pointer (some ⟨sb, 0, none⟩), .pointer (some ⟨wb, 0, none⟩)] w fun e w' => e = .returned (.bool true) ∧ ∃ w1, Below w.heap.size w w1 ∧ w' = set3 w1 wb := by
  have hb0 := alloc_below w (.cells #[.complex .f64 4617315517961601024 0, .float .f64 4602678819172646912] 57)
  have HL := Lib.hid (fun w h hT => look_any j A1 A2 c1 c2 w h hT)
  have H := Lib.hid (h.below hb0)
  have HT := Lib.hid (hT.below hb0)
  have hs1 := (hb0.cell (p := ⟨sb, 0, none⟩) hsb).trans hs
  have HW := Lib.hid hw0
  clear h hT hs hb0 hw0
  go_enter Tryz.func134, Tryz.ntmps134
  go_wp2_with (go_at_call 132; refine (HL.out _ H.out HT.out).mono ?_; rintro en w1 ⟨rfl, hb⟩; have hbw : Below w.heap.size w w1 := (alloc_below w _).trans (hb.mono (by simp)); have hrow := (hbw.block wb hwb).trans HW.out; have x0 := frozen_of_row w1 wb 0 _ _ hrow; have x1 := frozen_of_row w1 wb 1 _ _ hrow; have x2 := frozen_of_row w1 wb 2 _ _ hrow; have y0 : w1.cell? ⟨wb, 0, none⟩ = some u0 := (by rw [cell_of_row w1 wb 0 _ _ (0, 0) hrow]; rfl); have y1 : w1.cell? ⟨wb, 1, none⟩ = some u1 := (by rw [cell_of_row w1 wb 1 _ _ (0, 0) hrow]; rfl); have y2 : w1.cell? ⟨wb, 2, none⟩ = some u2 := (by rw [cell_of_row w1 wb 2 _ _ (0, 0) hrow]; rfl); clear hrow)
  go_ret
  exact ⟨rfl, w1, hbw, rfl⟩
end Go.Proofs.YtbgjcpnbdgljbaaGreatDoor

/- The contracts of flow.Until, status' Witness, Tell at the ball about 5. -/
namespace Go.Proofs.YtbgjcpnbdgljbaaGreatDoor
open Go.RowKit Go.Fil Go.Shelf
attribute [local irreducible] fop fsqrt fup fabs fneg pick fmax hiS sizeP sizeQ

@[go_sem] theorem run_store_func (P : Program) (w : World) (a : Addr) (m : Mode) (fn : Fn) (f c : Array Value) : (store a (.func fn f c) m).run P w = stored P w a (.func fn f c) m := run_store P w a _ m rfl
theorem cell_alloc_lt (w : World) (o : Obj) {b i : Nat} (h : b < w.heap.size) : (w.alloc o).cell? ⟨b, i, none⟩ = w.cell? ⟨b, i, none⟩ := (alloc_below w o).cell (p := ⟨b, i, none⟩) h
theorem cell_alloc2 {w : World} {o : Obj} {u v : Value} {b i j k : Nat} (h : b < w.heap.size) : (((w.alloc o).setCell ⟨w.heap.size, j, none⟩ u).setCell ⟨w.heap.size, k, none⟩ v).cell? ⟨b, i, none⟩ = w.cell? ⟨b, i, none⟩ := by
  rw [World.cell?_setCell_other _ _ _ _ (fun e => by injection e; omega), World.cell?_setCell_other _ _ _ _ (fun e => by injection e; omega)]
  exact cell_alloc_lt w o h
theorem cell_set2 {w : World} {u v : Value} {g b i j k : Nat} (h : g ≠ b) : ((w.setCell ⟨g, j, none⟩ u).setCell ⟨g, k, none⟩ v).cell? ⟨b, i, none⟩ = w.cell? ⟨b, i, none⟩ := by
  rw [World.cell?_setCell_other _ _ _ _ (fun e => h (by injection e)), World.cell?_setCell_other _ _ _ _ (fun e => h (by injection e))]
theorem may5 : mayS (4617315517961601024, 0, 4602678819172646912) = true := by decide +kernel
theorem m5_any (w : World) : Calls Tryz.prog 120 #[.agg #[.complex .f64 4617315517961601024 0, .float .f64 4602678819172646912]] w fun e w' => e = .returned (.bool true) ∧ Below w.heap.size w w' := by
  have hw := may_any 4617315517961601024 0 4602678819172646912 w
  rw [may5] at hw
  exact hw
theorem mc_any (A1 A2 : Option Addr) (c1 c2 : Nat) (w : World) (s1 : Seq w w.heap.size A1 (zsq.map cv)) (s2 : Seq w w.heap.size A2 (oneSt.map cv)) :
    Calls Tryz.prog 71 #[.agg #[.slice A1 3 c1, .slice A2 1 c2]] w fun e w' => e = .returned (.int .i64 0) ∧ Below w.heap.size w w' :=
  mapcheck_any A1 A2 3 c1 1 c2 zsq oneSt rfl rfl (by decide) (by decide) (by decide) (by decide) (by decide +kernel) (by decide +kernel) w s1 s2
/-- Two lists stay. -/
def Both (w : World) (A1 A2 : Option Addr) : Prop := Seq w w.heap.size A1 (zsq.map cv) ∧ Seq w w.heap.size A2 (oneSt.map cv)
theorem Both.below {w w' : World} {A1 A2 : Option Addr} (h : Both w A1 A2) (hb : Below w.heap.size w w') : Both w' A1 A2 :=
  ⟨(h.1.below hb (Nat.le_refl _)).more hb.size, (h.2.below hb (Nat.le_refl _)).more hb.size⟩
set_option maxRecDepth 100000 in
theorem fcheck_any (A1 A2 : Option Addr) (c1 c2 : Nat) (w : World) (h : Both w A1 A2) :
    Calls Tryz.prog 228 #[.agg #[.slice A1 3 c1, .slice A2 1 c2], .agg #[.complex .f64 4617315517961601024 0, .float .f64 4602678819172646912]] w fun e w' => e = .returned (.int .i64 0) ∧ Below w.heap.size w w' := by
  have HM := Lib.hid (fun w (h : Both w A1 A2) => mc_any A1 A2 c1 c2 w h.1 h.2)
  have H5 := Lib.hid m5_any
  have H := Lib.hid h
  clear h
  go_enter Tryz.func228, Tryz.ntmps228
  go_wp2_with (first
    | (go_at_call 71; refine (HM.out _ (H.out.below (by repeat (first | exact Below.refl _ _ | refine below_drewN ?_ _ | refine Below.alloc ?_ (by first | omega | (simp; omega) | simp) _ | refine Below.setCell ?_ (by first | omega | (simp; omega) | simp) _ | refine Below.trans ?_ (Below.mono (by assumption) (by first | omega | (simp; omega) | simp)) | apply Below.drew)))).mono ?_; rintro en w1 ⟨rfl, hb⟩; obtain ⟨hc, hf⟩ := bcell hb; (try simp only [World.heap_drewN, World.cell?_drewN, World.frozen?_drewN] at hc hf); have z0 : w.heap.size < w1.heap.size := (by have := hb.size; (try simp at this); omega); have z1 : w.heap.size + 1 < w1.heap.size := (by have := hb.size; (try simp at this); omega))
    | (go_at_call 120; refine (H5.out _).mono ?_; rintro en w2 ⟨rfl, hb2⟩))
  go_ret
  exact ⟨rfl, by repeat (first | exact Below.refl _ _ | refine below_drewN ?_ _ | refine Below.alloc ?_ (by first | omega | (simp; omega) | simp) _ | refine Below.setCell ?_ (by first | omega | (simp; omega) | simp) _ | refine Below.trans ?_ (Below.mono (by assumption) (by first | omega | (simp; omega) | simp)) | apply Below.drew)⟩
set_option maxRecDepth 100000 in
theorem fsteps_any (A1 A2 : Option Addr) (c1 c2 : Nat) (w : World) (h : Both w A1 A2) :
    Calls Tryz.prog 194 #[.agg #[.slice A1 3 c1, .slice A2 1 c2], .agg #[.complex .f64 4617315517961601024 0, .float .f64 4602678819172646912], .int .i64 100] w fun e w' => e = .returned (.int .i64 0) ∧ Below w.heap.size w w' := by
  have HM := Lib.hid (fun w (h : Both w A1 A2) => fcheck_any A1 A2 c1 c2 w h)
  have H := Lib.hid h
  clear h
  go_enter Tryz.func194, Tryz.ntmps194
  go_wp2_with (go_at_call 228; refine (HM.out _ (H.out.below (by repeat (first | exact Below.refl _ _ | refine below_drewN ?_ _ | refine Below.alloc ?_ (by first | omega | (simp; omega) | simp) _ | refine Below.setCell ?_ (by first | omega | (simp; omega) | simp) _ | refine Below.trans ?_ (Below.mono (by assumption) (by first | omega | (simp; omega) | simp)) | apply Below.drew)))).mono ?_; rintro en w1 ⟨rfl, hb⟩)
  go_ret
  exact ⟨rfl, by repeat (first | exact Below.refl _ _ | refine below_drewN ?_ _ | refine Below.alloc ?_ (by first | omega | (simp; omega) | simp) _ | refine Below.setCell ?_ (by first | omega | (simp; omega) | simp) _ | refine Below.trans ?_ (Below.mono (by assumption) (by first | omega | (simp; omega) | simp)) | apply Below.drew)⟩
theorem set3_cells {w : World} {g : Nat} {u0 u1 u2 : Value} (h : w.heap[g]? = some (.cells #[u0, u1, u2] 121 (0, 0))) : (set3 w g).heap[g]? = some (.cells #[.int .u8 2, .int .i64 0, .int .i64 0] 121 (0, 0)) := by
  have h1 := heap_setCell_same w g 0 _ _ (.int .u8 2) h
  have h2 := heap_setCell_same _ g 1 _ _ (.int .i64 0) h1
  have h3 := heap_setCell_same _ g 2 _ _ (.int .i64 0) h2
  exact h3
/-- What Until does to the witness' block. -/
def RU (wb : Nat) (w w' : World) : Prop := w.grownBy w' (some wb) ∧ w'.heap[wb]? = some (.cells #[.int .u8 2, .int .i64 0, .int .i64 0] 121 (0, 0))
theorem RU.set {w w' : World} {wb : Nat} (h : RU wb w w') {b o : Nat} (ha : w.heap.size ≤ b) (hwb : wb < w.heap.size) (v : Value) : RU wb w (w'.setCell ⟨b, o, none⟩ v) := by
  refine ⟨⟨h.1.os, h.1.tape, h.1.output, by simpa using h.1.size, fun k hk hne => ?_⟩, ?_⟩
  · rw [heap_setCell_other _ ⟨b, o, none⟩ k _ (fun e => by simp at e; omega)]
    exact h.1.block k hk hne
  · rw [heap_setCell_other _ ⟨b, o, none⟩ wb _ (fun e => by simp at e; omega)]
    exact h.2
theorem RU.drew {w w' : World} {wb : Nat} (h : RU wb w w') : RU wb w w'.drew := ⟨⟨h.1.os, h.1.tape, h.1.output, h.1.size, h.1.block⟩, h.2⟩
set_option maxRecDepth 100000 in
set_option maxHeartbeats 3200000 in
theorem until_any (j : Nat) (A1 A2 : Option Addr) (c1 c2 sb wb : Nat) (w : World) (h : JAt w j A1 A2 c1 c2) (hT : Tab w) (hs : w.cell? ⟨sb, 0, none⟩ = some (.func (.func 132) #[.pointer (some ⟨j, 0, none⟩)] #[]))
    (hsb : sb < w.heap.size) (hwb : wb < w.heap.size) (u0 u1 u2 : Value) (hw0 : w.heap[wb]? = some (.cells #[u0, u1, u2] 121 (0, 0))) :
    Calls Tryz.prog 133 #[.agg #[.slice A1 3 c1, .slice A2 1 c2], .agg #[.complex .f64 4617315517961601024 0, .float .f64 4602678819172646912], .int .i64 100, .func (.func 134) #[] #[.pointer (some ⟨sb, 0, none⟩), .pointer (some ⟨wb, 0, none⟩)]] w fun e w' => e = .returned (.tuple #[.int .i64 0, .agg #[.complex .f64 4617315517961601024 0, .float .f64 4602678819172646912], .int .i64 0]) ∧ RU wb w w' := by
  have HS := Lib.hid (fun w (h : Both w A1 A2) => fsteps_any A1 A2 c1 c2 w h)
  have HW := Lib.hid (fun w h hT hs hsb hwb u0 u1 u2 hw0 => wit1_any j A1 A2 c1 c2 sb wb w h hT hs hsb hwb u0 u1 u2 hw0)
  have H := Lib.hid h
  have HBO := Lib.hid (show Both w A1 A2 from ⟨h.s1, h.s2⟩)
  have HT := Lib.hid hT
  have HC := Lib.hid hs
  have HR := Lib.hid hw0
  clear h hT hs hw0
  have hrun : ∀ w : World, Sem.run Tryz.prog (binOp BinOp.eql 199 (.func (.func 134) #[] #[.pointer (some ⟨sb, 0, none⟩), .pointer (some ⟨wb, 0, none⟩)]) .nilFunc) w = .ok (.bool false) w := fun w => by kernel_rfl
  go_enter Tryz.func133, Tryz.ntmps133
  go_wp2_with (go_at_call 194; refine (HS.out _ (HBO.out.below (by repeat (first | exact Below.refl _ _ | refine below_drewN ?_ _ | refine Below.alloc ?_ (by first | omega | (simp; omega) | simp) _ | refine Below.setCell ?_ (by first | omega | (simp; omega) | simp) _ | refine Below.trans ?_ (Below.mono (by assumption) (by first | omega | (simp; omega) | simp)) | apply Below.drew)))).mono ?_; rintro en w1 ⟨rfl, hb⟩)
  have HB1 := Lib.hid (show Below w.heap.size w w1 by repeat (first | exact Below.refl _ _ | refine below_drewN ?_ _ | refine Below.alloc ?_ (by first | omega | (simp; omega) | simp) _ | refine Below.setCell ?_ (by first | omega | (simp; omega) | simp) _ | refine Below.trans ?_ (Below.mono (by assumption) (by first | omega | (simp; omega) | simp)) | apply Below.drew))
  have l1 : w.heap.size + 1 < w1.heap.size := by have := hb.size; (try simp at this); omega
  have l2 : w.heap.size + 1 + 1 < w1.heap.size := by have := hb.size; (try simp at this); omega
  have k0 : w1.cell? ⟨w.heap.size + 1, 0, none⟩ = some (.complex .f64 4617315517961601024 0) := (hb.cell (p := ⟨w.heap.size + 1, 0, none⟩) (by simp)).trans (by simp [go_sem])
  have k1 : w1.cell? ⟨w.heap.size + 1, 1, none⟩ = some (.float .f64 4602678819172646912) := (hb.cell (p := ⟨w.heap.size + 1, 1, none⟩) (by simp)).trans (by simp [go_sem])
  have k2 : w1.cell? ⟨w.heap.size + 1 + 1, 0, none⟩ = some (.complex .f64 0 0) := (hb.cell (p := ⟨w.heap.size + 1 + 1, 0, none⟩) (by simp)).trans (by simp [go_sem])
  have k3 : w1.cell? ⟨w.heap.size + 1 + 1, 1, none⟩ = some (.float .f64 0) := (hb.cell (p := ⟨w.heap.size + 1 + 1, 1, none⟩) (by simp)).trans (by simp [go_sem])
  have kf : ∀ o, w1.frozen? ⟨w.heap.size + 1 + 1, o, none⟩ = false := fun o => (hb.frozen (p := ⟨w.heap.size + 1 + 1, o, none⟩) (by simp)).trans (by simp [go_sem])
  clear hb
  refine wp_loop_rounds 1 ?_
  rw [rounds_succ]
  go_wp2_with fail
  refine (HW.out _ (H.out.below HB1.out) (HT.out.below HB1.out) ((HB1.out.cell (p := ⟨sb, 0, none⟩) hsb).trans HC.out) (Nat.lt_of_lt_of_le hsb HB1.out.size) (Nat.lt_of_lt_of_le hwb HB1.out.size) u0 u1 u2 ((HB1.out.block wb hwb).trans HR.out)).mono ?_
  rintro en w3 ⟨rfl, w2, hb2, hw3⟩
  have hg : w1.grownBy w3 (some wb) := by rw [hw3]; exact grown_set3 hb2
  have hr3 : w3.heap[wb]? = some (.cells #[.int .u8 2, .int .i64 0, .int .i64 0] 121 (0, 0)) := by
    rw [hw3]
    exact set3_cells ((hb2.block wb (Nat.lt_of_lt_of_le hwb HB1.out.size)).trans ((HB1.out.block wb hwb).trans HR.out))
  have j1 : w.heap.size + 1 ≠ wb := by omega
  have j2 : w.heap.size + 1 + 1 ≠ wb := by omega
  have c1' : ∀ o, w3.cell? ⟨w.heap.size + 1, o, none⟩ = w1.cell? ⟨w.heap.size + 1, o, none⟩ := fun o => World.cell?_of_block (w := w1) (hg.block _ l1 (fun e => j1 (by injection e)))
  have c2' : ∀ o, w3.cell? ⟨w.heap.size + 1 + 1, o, none⟩ = w1.cell? ⟨w.heap.size + 1 + 1, o, none⟩ := fun o => World.cell?_of_block (w := w1) (hg.block _ l2 (fun e => j2 (by injection e)))
  have m0 := (c1' 0).trans k0
  have m1' := (c1' 1).trans k1
  have m2 := (c2' 0).trans k2
  have m3 := (c2' 1).trans k3
  have mf : ∀ o, w3.frozen? ⟨w.heap.size + 1 + 1, o, none⟩ = false := fun o => by
    rw [← kf o]
    exact World.frozen?_of_block (w := w1) (hg.block _ l2 (fun e => j2 (by injection e)))
  have HG := Lib.hid hg
  have HR3 := Lib.hid hr3
  clear hw3 hb2 hg hr3 c1' c2' k0 k1 k2 k3 kf
  go_wp2
  go_region
  all_goals
    go_wp2
    have hru : RU wb w w3 := ⟨grown_trans HB1.out HG.out, HR3.out⟩
    exact bodyPost_ret (v := .tuple #[.int .i64 0, .agg #[.complex .f64 4617315517961601024 0, .float .f64 4602678819172646912], .int .i64 0]) (by simp [results, Tryz.results133, go_sem, *]) rfl ⟨rfl, by first | exact (hru.drew.set (by omega) hwb _).set (by omega) hwb _ | exact (hru.set (by omega) hwb _).set (by omega) hwb _⟩
/-- All that Until wants. -/
structure Ready (j : Nat) (A1 A2 : Option Addr) (c1 c2 sb wb : Nat) (w : World) : Prop where
  h : JAt w j A1 A2 c1 c2
  t : Tab w
  s : w.cell? ⟨sb, 0, none⟩ = some (.func (.func 132) #[.pointer (some ⟨j, 0, none⟩)] #[])
  ls : sb < w.heap.size
  lw : wb < w.heap.size
  r : w.heap[wb]? = some (.cells #[.int .u8 0, .int .i64 0, .int .i64 0] 121 (0, 0))
theorem Ready.below {j : Nat} {A1 A2 : Option Addr} {c1 c2 sb wb : Nat} {w w' : World} (k : Ready j A1 A2 c1 c2 sb wb w) (hb : Below w.heap.size w w') : Ready j A1 A2 c1 c2 sb wb w' :=
  ⟨k.h.below hb, k.t.below hb, (hb.cell (p := ⟨sb, 0, none⟩) k.ls).trans k.s, Nat.lt_of_lt_of_le k.ls hb.size, Nat.lt_of_lt_of_le k.lw hb.size, (hb.block wb k.lw).trans k.r⟩
set_option maxRecDepth 100000 in
set_option maxHeartbeats 3200000 in
theorem witness_any (j : Nat) (A1 A2 : Option Addr) (c1 c2 : Nat) (w : World) (h : JAt w j A1 A2 c1 c2) (hT : Tab w) :
    Calls Tryz.prog 67 #[.pointer (some ⟨j, 0, none⟩), .agg #[.complex .f64 4617315517961601024 0, .float .f64 4602678819172646912]] w fun e w' => e = .returned (.tuple #[.agg #[.int .u8 2, .int .i64 0, .int .i64 0], .int .i64 0]) ∧ Below w.heap.size w w' := by
  have HN := Lib.hid (fun w h => none_any j A1 A2 c1 c2 w h)
  have HU := Lib.hid (fun sb wb w (k : Ready j A1 A2 c1 c2 sb wb w) => until_any j A1 A2 c1 c2 sb wb w k.h k.t k.s k.ls k.lw _ _ _ k.r)
  have H5 := Lib.hid m5_any
  have H := Lib.hid h
  have HT := Lib.hid hT
  clear h hT
  have hmf : ∀ (fn : Fn) (first cap : Array Value) (w : World), (Instr.makeFunc fn first cap).run Tryz.prog w = .ok (.func fn first cap) w := fun _ _ _ _ => rfl
  go_enter Tryz.func67, Tryz.ntmps67
  go_wp2_with (first
    | (go_at_call 131; refine (HN.out _ (H.out.below (by repeat (first | exact Below.refl _ _ | refine below_drewN ?_ _ | refine Below.alloc ?_ (by first | omega | (simp; omega) | simp) _ | refine Below.setCell ?_ (by first | omega | (simp; omega) | simp) _ | refine Below.trans ?_ (Below.mono (by assumption) (by first | omega | (simp; omega) | simp)) | apply Below.drew)))).mono ?_; rintro en w' ⟨rfl, rfl⟩)
    | (go_at_call 120; refine (H5.out _).mono ?_; rintro en w1 ⟨rfl, hb⟩; obtain ⟨hc, hf⟩ := bcell hb; (try simp only [World.heap_drewN, World.cell?_drewN, World.frozen?_drewN] at hc hf); have z0 : w.heap.size < w1.heap.size := (by have := hb.size; (try simp at this); omega); have z1 : w.heap.size + 1 < w1.heap.size := (by have := hb.size; (try simp at this); omega)))
  have HB1 := Lib.hid (show Below w.heap.size w w1 by repeat (first | exact Below.refl _ _ | refine below_drewN ?_ _ | refine Below.alloc ?_ (by first | omega | (simp; omega) | simp) _ | refine Below.setCell ?_ (by first | omega | (simp; omega) | simp) _ | refine Below.trans ?_ (Below.mono (by assumption) (by first | omega | (simp; omega) | simp)) | apply Below.drew))
  have hu : Below w1.heap.size w1 ((w1.alloc (.cells #[.int .u8 0, .int .i64 0, .int .i64 0] 121)).alloc (.cells #[.func (.func 132) #[.pointer (some ⟨j, 0, none⟩)] #[]] 196)) := by repeat (first | exact Below.refl _ _ | refine below_drewN ?_ _ | refine Below.alloc ?_ (by first | omega | (simp; omega) | simp) _ | refine Below.setCell ?_ (by first | omega | (simp; omega) | simp) _ | refine Below.trans ?_ (Below.mono (by assumption) (by first | omega | (simp; omega) | simp)) | apply Below.drew)
  have hrow : ((w1.alloc (.cells #[.int .u8 0, .int .i64 0, .int .i64 0] 121)).alloc (.cells #[.func (.func 132) #[.pointer (some ⟨j, 0, none⟩)] #[]] 196)).heap[w1.heap.size]? = some (.cells #[.int .u8 0, .int .i64 0, .int .i64 0] 121 (0, 0)) := by
    rw [(alloc_below (w1.alloc (.cells #[.int .u8 0, .int .i64 0, .int .i64 0] 121)) _).block w1.heap.size (by simp)]
    exact fresh_row w1 _
  have hsee : ((w1.alloc (.cells #[.int .u8 0, .int .i64 0, .int .i64 0] 121)).alloc (.cells #[.func (.func 132) #[.pointer (some ⟨j, 0, none⟩)] #[]] 196)).cell? ⟨w1.heap.size + 1, 0, none⟩ = some (.func (.func 132) #[.pointer (some ⟨j, 0, none⟩)] #[]) := by simp [go_sem]
  have hsz : ((w1.alloc (.cells #[.int .u8 0, .int .i64 0, .int .i64 0] 121)).alloc (.cells #[.func (.func 132) #[.pointer (some ⟨j, 0, none⟩)] #[]] 196)).heap.size = w1.heap.size + 1 + 1 := by simp
  have b0 : w1.cell? ⟨w.heap.size, 0, none⟩ = some (.complex .f64 4617315517961601024 0) := by rw [hc _ _ (by simp <;> omega)]; simp [go_sem]
  have b1 : w1.cell? ⟨w.heap.size, 1, none⟩ = some (.float .f64 4602678819172646912) := by rw [hc _ _ (by simp <;> omega)]; simp [go_sem]
  have r0 : w1.cell? ⟨w.heap.size + 1, 0, none⟩ = some (.int .u8 0) := by rw [hc _ _ (by simp <;> omega)]; simp [go_sem]
  have r1 : w1.cell? ⟨w.heap.size + 1, 1, none⟩ = some (.int .i64 0) := by rw [hc _ _ (by simp <;> omega)]; simp [go_sem]
  have r2 : w1.cell? ⟨w.heap.size + 1, 2, none⟩ = some (.int .i64 0) := by rw [hc _ _ (by simp <;> omega)]; simp [go_sem]
  have rf : ∀ o, w1.frozen? ⟨w.heap.size + 1, o, none⟩ = false := fun o => by rw [hf _ _ (by simp <;> omega)]; simp [go_sem]
  clear hc hf hb
  generalize ((w1.alloc (.cells #[.int .u8 0, .int .i64 0, .int .i64 0] 121)).alloc (.cells #[.func (.func 132) #[.pointer (some ⟨j, 0, none⟩)] #[]] 196)) = u at *
  have HU1 := Lib.hid hu
  have HJ := Lib.hid ((H.out.below HB1.out).below hu)
  have HTU := Lib.hid ((HT.out.below HB1.out).below hu)
  have HRD := Lib.hid (Ready.mk HJ.out HTU.out hsee (by omega) (by omega) hrow)
  have q0 := HJ.out.c.1
  have q1 := HJ.out.c.2.1
  have q2 := HJ.out.c.2.2.1
  have d0 := (hu.cell (p := ⟨w.heap.size, 0, none⟩) z0).trans b0
  have d1 := (hu.cell (p := ⟨w.heap.size, 1, none⟩) z0).trans b1
  have e0 := (hu.cell (p := ⟨w.heap.size + 1, 0, none⟩) z1).trans r0
  have e1 := (hu.cell (p := ⟨w.heap.size + 1, 1, none⟩) z1).trans r1
  have e2 := (hu.cell (p := ⟨w.heap.size + 1, 2, none⟩) z1).trans r2
  have ef : ∀ o, u.frozen? ⟨w.heap.size + 1, o, none⟩ = false := fun o => (hu.frozen (p := ⟨w.heap.size + 1, o, none⟩) z1).trans (rf o)
  have hjl := HJ.out.lt
  have hjl1 := (H.out.below HB1.out).lt
  have n1 : w1.heap.size < u.heap.size := by omega
  have n2 : w1.heap.size + 1 < u.heap.size := by omega
  have n3 : w.heap.size < u.heap.size := by omega
  have n4 : w.heap.size + 1 < u.heap.size := by omega
  have ne1 : w.heap.size ≠ w1.heap.size := by omega
  have ne2 : w.heap.size + 1 ≠ w1.heap.size := by omega
  have ne3 : j ≠ w1.heap.size := by omega
  have hwl : w.heap.size ≤ w1.heap.size := by omega
  have ne4 : u.heap.size ≠ w1.heap.size := by omega
  have ne5 : u.heap.size ≠ j := by omega
  have ne6 : u.heap.size ≠ w.heap.size := by omega
  have ne7 : u.heap.size ≠ w.heap.size + 1 := by omega
  clear hu hrow hsee hsz b0 b1 r0 r1 r2 rf z0 z1 HN H5
  go_region_held3 (fun x => x.cell? ⟨j, 0, none⟩ = some (.slice A1 3 c1) ∧ x.cell? ⟨j, 1, none⟩ = some (.slice A2 1 c2) ∧ x.cell? ⟨j, 2, none⟩ = some (.int .i64 100) ∧ x.cell? ⟨w.heap.size, 0, none⟩ = some (.complex .f64 4617315517961601024 0) ∧ x.cell? ⟨w.heap.size, 1, none⟩ = some (.float .f64 4602678819172646912))
    ((refine ⟨?_, ?_, ?_, ?_, ?_⟩ <;> first | with_reducible assumption | (simp only [World.cell?_drew]; with_reducible assumption) | ((try simp only [World.cell?_drew]); rw [cell_alloc_lt _ _ (by assumption)]; with_reducible assumption) | (rw [cell_alloc2 (by assumption)]; with_reducible assumption) | (rw [cell_set2 (by assumption)]; with_reducible assumption)))
    (first
    | (go_at_call 133; (with_reducible refine (HU.out _ _ _ (HRD.out.below (Below.refl _ _).drew)).mono ?_); rintro en w3 ⟨rfl, hru'⟩; have hru : RU w1.heap.size u w3 := ⟨grown_trans (Below.refl _ _).drew hru'.1, hru'.2⟩; clear hru'; have HRU := Lib.hid hru; have hg : ∀ b o, b < u.heap.size → b ≠ w1.heap.size → w3.cell? ⟨b, o, none⟩ = u.cell? ⟨b, o, none⟩ := (fun b o hb hne => World.cell?_of_block (w := u) (hru.1.block _ hb (fun e => hne (by injection e)))); have hgf : ∀ b o, b < u.heap.size → b ≠ w1.heap.size → w3.frozen? ⟨b, o, none⟩ = u.frozen? ⟨b, o, none⟩ := (fun b o hb hne => World.frozen?_of_block (w := u) (hru.1.block _ hb (fun e => hne (by injection e)))); have x0 := (hg _ 0 hjl ne3).trans q0; have x1 := (hg _ 1 hjl ne3).trans q1; have x2 := (hg _ 2 hjl ne3).trans q2; have x3 := (hg _ 0 n3 ne1).trans d0; have x4 := (hg _ 1 n3 ne1).trans d1; have E0 := (hg _ 0 n4 ne2).trans e0; have E1 := (hg _ 1 n4 ne2).trans e1; have E2 := (hg _ 2 n4 ne2).trans e2; have EF : ∀ o, w3.frozen? ⟨w.heap.size + 1, o, none⟩ = false := (fun o => (hgf _ o n4 ne2).trans (ef o)); have sz3 := hru.1.size; have v0 : j < w3.heap.size := Nat.lt_of_lt_of_le hjl sz3; have v1 : w.heap.size < w3.heap.size := Nat.lt_of_lt_of_le n3 sz3; have v2 : w.heap.size + 1 < w3.heap.size := Nat.lt_of_lt_of_le n4 sz3; have v3 : w1.heap.size < w3.heap.size := Nat.lt_of_lt_of_le n1 sz3; clear hg hgf hru)
    | (go_at_call 133; (with_reducible refine (HU.out _ _ _ (HRD.out.below (alloc_below u _).drew)).mono ?_); rintro en w3 ⟨rfl, hru'⟩; have hru : RU w1.heap.size u w3 := ⟨grown_trans (alloc_below u _).drew hru'.1, hru'.2⟩; have g0 : w3.cell? ⟨u.heap.size, 0, none⟩ = some (.complex .f64 0 0) := ((World.cell?_of_block (hru'.1.block u.heap.size (by simp) (fun e => ne4 (by injection e)))).trans (by simp [go_sem])); have g1 : w3.cell? ⟨u.heap.size, 1, none⟩ = some (.float .f64 0) := ((World.cell?_of_block (hru'.1.block u.heap.size (by simp) (fun e => ne4 (by injection e)))).trans (by simp [go_sem])); have gf : ∀ o, w3.frozen? ⟨u.heap.size, o, none⟩ = false := (fun o => (World.frozen?_of_block (hru'.1.block u.heap.size (by simp) (fun e => ne4 (by injection e)))).trans (by simp [go_sem])); clear hru'; have HRU := Lib.hid hru; have hg : ∀ b o, b < u.heap.size → b ≠ w1.heap.size → w3.cell? ⟨b, o, none⟩ = u.cell? ⟨b, o, none⟩ := (fun b o hb hne => World.cell?_of_block (w := u) (hru.1.block _ hb (fun e => hne (by injection e)))); have hgf : ∀ b o, b < u.heap.size → b ≠ w1.heap.size → w3.frozen? ⟨b, o, none⟩ = u.frozen? ⟨b, o, none⟩ := (fun b o hb hne => World.frozen?_of_block (w := u) (hru.1.block _ hb (fun e => hne (by injection e)))); have x0 := (hg _ 0 hjl ne3).trans q0; have x1 := (hg _ 1 hjl ne3).trans q1; have x2 := (hg _ 2 hjl ne3).trans q2; have x3 := (hg _ 0 n3 ne1).trans d0; have x4 := (hg _ 1 n3 ne1).trans d1; have E0 := (hg _ 0 n4 ne2).trans e0; have E1 := (hg _ 1 n4 ne2).trans e1; have E2 := (hg _ 2 n4 ne2).trans e2; have EF : ∀ o, w3.frozen? ⟨w.heap.size + 1, o, none⟩ = false := (fun o => (hgf _ o n4 ne2).trans (ef o)); have sz3 := hru.1.size; have v0 : j < w3.heap.size := Nat.lt_of_lt_of_le hjl sz3; have v1 : w.heap.size < w3.heap.size := Nat.lt_of_lt_of_le n3 sz3; have v2 : w.heap.size + 1 < w3.heap.size := Nat.lt_of_lt_of_le n4 sz3; have v3 : w1.heap.size < w3.heap.size := Nat.lt_of_lt_of_le n1 sz3; clear hg hgf hru))
  all_goals
    have hrow3 := HRU.out.2
    have y0 : w3.cell? ⟨w1.heap.size, 0, none⟩ = some (.int .u8 2) := by rw [cell_of_row w3 _ 0 _ _ (0, 0) hrow3]; rfl
    have y1 : w3.cell? ⟨w1.heap.size, 1, none⟩ = some (.int .i64 0) := by rw [cell_of_row w3 _ 1 _ _ (0, 0) hrow3]; rfl
    have y2 : w3.cell? ⟨w1.heap.size, 2, none⟩ = some (.int .i64 0) := by rw [cell_of_row w3 _ 2 _ _ (0, 0) hrow3]; rfl
    have hbu : Below w.heap.size w u := HB1.out.trans (HU1.out.mono HB1.out.size)
    have HBW := Lib.hid (hbu.grown HRU.out.1 hbu.size (fun k hk => by injection hk with hk; omega))
    have HUL := Lib.hid (show w.heap.size ≤ u.heap.size by omega)
    have HVL := Lib.hid (show w.heap.size ≤ w3.heap.size by omega)
    clear hrow3 hbu x0 x1 x2 x3 x4 d0 d1 e0 e1 e2 ef q0 q1 q2 hmf
    go_wp2
    refine bodyPost_ret (v := .tuple #[.agg #[.int .u8 2, .int .i64 0, .int .i64 0], .int .i64 0]) (by simp [results, Tryz.results67, go_sem, E0, E1, E2, v2]) rfl ⟨rfl, ?_⟩
    first
      | exact ((((HBW.out.setCell HUL.out _).setCell HUL.out _).setCell (by show w.heap.size ≤ w.heap.size + 1; omega) _).setCell (by show w.heap.size ≤ w.heap.size + 1; omega) _).setCell (by show w.heap.size ≤ w.heap.size + 1; omega) _
      | exact ((((HBW.out.setCell (by show w.heap.size ≤ w.heap.size + 1; omega) _).setCell (by show w.heap.size ≤ w.heap.size + 1; omega) _).setCell (by show w.heap.size ≤ w.heap.size + 1; omega) _).alloc (by simp; exact HVL.out) _)
end Go.Proofs.YtbgjcpnbdgljbaaGreatDoor
