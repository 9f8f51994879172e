/- ball.Apart, ball.Holds. -/
import Derived.Test.YtbgjcpnbdgljbaaGreatDoorMUex
namespace Go.Proofs.YtbgjcpnbdgljbaaGreatDoor
open Go.RowKit Go.Fil Go.Shelf
attribute [local irreducible] fop fsqrt fup fabs fneg pick

theorem num_nonneg {m e : Int} {v : Rat} (h : (m : Rat) * p2 e = v) (hv : 0 ≤ v) : 0 ≤ m := by
  refine Int.not_lt.1 fun hm => ?_
  have h1 : nv (-m) e = -v := by unfold nv; rw [Rat.intCast_neg, ← h]; grind
  have h2 : 0 < nv (-m) e := nv_pos.2 (by omega)
  rw [h1] at h2
  grind
/-- Are two balls apart? -/
def apartR (a b r c d q : Nat) : Bool := decide ((fv r + fv q) * (fv r + fv q) < (fv a - fv c) * (fv a - fv c) + (fv b - fv d) * (fv b - fv d))
set_option maxRecDepth 100000 in
set_option maxHeartbeats 12800000 in
theorem apart_any (a b r c d q : Nat) (ha : fin a = true) (la : a < 18446744073709551616) (hb : fin b = true) (lb : b < 18446744073709551616) (hr : fin r = true) (lr : r < 18446744073709551616) (hc : fin c = true) (lc : c < 18446744073709551616) (hd : fin d = true) (ld : d < 18446744073709551616) (hq : fin q = true) (lq : q < 18446744073709551616) (h1 : isWholeS (a, b, r) = false) (h2 : isWholeS (c, d, q) = false) (hrq : 0 ≤ fv r + fv q) (w : World) (hT : Tab64 w) :
    Calls Tryz.prog 28 #[.agg #[.complex .f64 a b, .float .f64 r], .agg #[.complex .f64 c d, .float .f64 q]] w (RY (apartR a b r c d q) w) := by
  have HW1 := Lib.hid (fun w => iswhole_any a b r w)
  have HW2 := Lib.hid (fun w => iswhole_any c d q w)
  rw [h1] at HW1
  rw [h2] at HW2
  have HXa := Lib.hid (fun w hT => bexact_any a la ha w hT)
  have HXb := Lib.hid (fun w hT => bexact_any b lb hb w hT)
  have HXr := Lib.hid (fun w hT => bexact_any r lr hr w hT)
  have HXc := Lib.hid (fun w hT => bexact_any c lc hc w hT)
  have HXd := Lib.hid (fun w hT => bexact_any d ld hd w hT)
  have HXq := Lib.hid (fun w hT => bexact_any q lq hq w hT)
  have HLE := Lib.hid (fun g1 g2 m1 m2 e1 e2 s1 s2 w hz1 hz2 => nless_any g1 g2 m1 m2 e1 e2 1100 (by omega) s1 s2 w hz1 hz2)
  have HPL := Lib.hid (fun g1 g2 m1 m2 e1 e2 s1 s2 w hz1 hz2 => nplus_any g1 g2 m1 m2 e1 e2 1100 (by omega) s1 s2 w hz1 hz2)
  have HFA := Lib.hid (fun gx gy gr mx my mr ex ey er hx hy hr w hzx hzy hzr h0 => far_pos gx gy gr mx my mr ex ey er (3 * 1100 + 1) (by omega) hx hy hr w hzx hzy hzr h0)
  have HRQ := Lib.hid hrq
  have HT := Lib.hid hT
  have hb0 : Below w.heap.size w ((w.alloc (.cells #[.complex .f64 a b, .float .f64 r] 57)).alloc (.cells #[.complex .f64 c d, .float .f64 q] 57)) := by repeat (first | exact Below.refl _ _ | refine below_drewN ?_ _ | refine Below.alloc ?_ (by first | omega | (simp; omega) | simp) _ | refine Below.setCell ?_ (by first | omega | (simp; omega) | simp) _ | refine Below.trans ?_ (Below.mono (by assumption) (by first | omega | (simp; omega) | simp)) | apply Below.drew)
  have HB0 := Lib.hid hb0
  clear hb0 h1 h2 hT hrq la lb lc ld lr lq ha hb hc hd hr hq
  go_enter Tryz.func28, Tryz.ntmps28
  go_wp2_with (first
    | (go_at_call 60; (with_reducible refine (HW1.out _).mono ?_); rintro e w1 ⟨rfl, hb1⟩; obtain ⟨hc1, hf1⟩ := bcell hb1; have z1 := hb1.size; (try simp at z1))
    | (go_at_call 60; (with_reducible refine (HW2.out _).mono ?_); rintro e w3 ⟨rfl, hb2⟩; obtain ⟨hc2, hf2⟩ := bcell hb2; have z2 := hb2.size; (try simp at z2)))
  have a0 : w3.cell? ⟨w.heap.size, 0, none⟩ = some (.complex .f64 a b) := by rw [hc2 _ _ (by omega), hc1 _ _ (by simp <;> omega)]; simp [go_sem]
  have a1 : w3.cell? ⟨w.heap.size, 1, none⟩ = some (.float .f64 r) := by rw [hc2 _ _ (by omega), hc1 _ _ (by simp <;> omega)]; simp [go_sem]
  have a2 : w3.cell? ⟨w.heap.size + 1, 0, none⟩ = some (.complex .f64 c d) := by rw [hc2 _ _ (by omega), hc1 _ _ (by simp <;> omega)]; simp [go_sem]
  have a3 : w3.cell? ⟨w.heap.size + 1, 1, none⟩ = some (.float .f64 q) := by rw [hc2 _ _ (by omega), hc1 _ _ (by simp <;> omega)]; simp [go_sem]
  have hb3 : Below w.heap.size w w3 := by repeat (first | exact Below.refl _ _ | refine below_drewN ?_ _ | refine Below.alloc ?_ (by first | omega | (simp; omega) | simp) _ | refine Below.setCell ?_ (by first | omega | (simp; omega) | simp) _ | refine Below.trans ?_ (Below.mono (by assumption) (by first | omega | (simp; omega) | simp)) | apply Below.drew)
  have l0 : w.heap.size < w3.heap.size := by omega
  have l1 : w.heap.size + 1 < w3.heap.size := by omega
  have HB3 := Lib.hid hb3
  have HT3 := Lib.hid (tab64_below HT.out hb3)
  clear hc1 hc2 hf1 hf2 hb1 hb2 z1 z2 hb3
  refine wp_region_held_drew (S := fun x => x.cell? ⟨w.heap.size, 0, none⟩ = some (.complex .f64 a b) ∧ x.cell? ⟨w.heap.size, 1, none⟩ = some (.float .f64 r) ∧ x.cell? ⟨w.heap.size + 1, 0, none⟩ = some (.complex .f64 c d) ∧ x.cell? ⟨w.heap.size + 1, 1, none⟩ = some (.float .f64 q)) (by kernel_rfl) (by exact ⟨a0, a1, a2, a3⟩) (fun hHeld => ?_)
  refine wpAnyH_take (i := 0) (v := ?v0) rfl (by kernel_rfl) (by kernel_rfl) (by kernel_rfl) (fun _ _ _ h => h) (Or.inl ⟨by rfl, ?h0⟩) (by assumption) ?r0
  case h0 => (intro w hSw; (try dsimp only at hSw); go_simp; (try with_reducible rfl))
  try simp only [Act.put, List.setIfInBounds_toArray]
  refine wpAnyH_take (i := 1) (v := ?v1) rfl (by kernel_rfl) (by kernel_rfl) (by kernel_rfl) (fun _ _ _ h => h) (Or.inl ⟨by rfl, ?h1⟩) (by assumption) ?r1
  case h1 => (intro w hSw; (try dsimp only at hSw); go_simp; (try with_reducible rfl))
  try simp only [Act.put]
  refine wpAnyH_take (i := 2) (v := ?v2) rfl (by kernel_rfl) (by kernel_rfl) (by kernel_rfl) (fun _ _ _ h => h) (Or.inl ⟨by rfl, ?h2⟩) (by assumption) ?r2
  case h2 => (intro w hSw; (try dsimp only at hSw); go_simp; (try with_reducible rfl))
  try simp only [Act.put]
  refine wpAnyH_take (i := 4) (v := ?v4) rfl (by kernel_rfl) (by kernel_rfl) (by kernel_rfl) (fun _ _ _ h => h) (Or.inl ⟨by rfl, ?h4⟩) (by assumption) ?r4
  case h4 => (intro w hSw; (try dsimp only at hSw); go_simp; (try with_reducible rfl))
  try simp only [Act.put]
  refine wpAnyH_take (i := 5) (v := ?v5) rfl (by kernel_rfl) (by kernel_rfl) (by kernel_rfl) (fun _ _ _ h => h) (Or.inl ⟨by rfl, ?h5⟩) (by assumption) ?r5
  case h5 => (intro w hSw; (try dsimp only at hSw); go_simp; (try with_reducible rfl))
  try simp only [Act.put]
  refine wpAnyH_take (i := 6) (v := ?v6) rfl (by kernel_rfl) (by kernel_rfl) (by kernel_rfl) (fun _ _ _ h => h) (Or.inl ⟨by rfl, ?h6⟩) (by assumption) ?r6
  case h6 => (intro w hSw; (try dsimp only at hSw); go_simp; (try with_reducible rfl))
  try simp only [Act.put]
  refine wpAnyH_take (i := 9) (v := ?v9) rfl (by kernel_rfl) (by kernel_rfl) (by kernel_rfl) (fun _ _ _ h => h) (Or.inl ⟨by rfl, ?h9⟩) (by assumption) ?r9
  case h9 => (intro w hSw; (try dsimp only at hSw); go_simp; (try with_reducible rfl))
  try simp only [Act.put]
  refine wpAnyH_take (i := 10) (v := ?v10) rfl (by kernel_rfl) (by kernel_rfl) (by kernel_rfl) (fun _ _ _ h => h) (Or.inl ⟨by rfl, ?h10⟩) (by assumption) ?r10
  case h10 => (intro w hSw; (try dsimp only at hSw); go_simp; (try with_reducible rfl))
  try simp only [Act.put]
  refine wpAnyH_take (i := 11) (v := ?v11) rfl (by kernel_rfl) (by kernel_rfl) (by kernel_rfl) (fun _ _ _ h => h) (Or.inl ⟨by rfl, ?h11⟩) (by assumption) ?r11
  case h11 => (intro w hSw; (try dsimp only at hSw); go_simp; (try with_reducible rfl))
  try simp only [Act.put]
  refine wpAnyH_take (i := 13) (v := ?v13) rfl (by kernel_rfl) (by kernel_rfl) (by kernel_rfl) (fun _ _ _ h => h) (Or.inl ⟨by rfl, ?h13⟩) (by assumption) ?r13
  case h13 => (intro w hSw; (try dsimp only at hSw); go_simp; (try with_reducible rfl))
  try simp only [Act.put]
  refine wpAnyH_take (i := 14) (v := ?v14) rfl (by kernel_rfl) (by kernel_rfl) (by kernel_rfl) (fun _ _ _ h => h) (Or.inl ⟨by rfl, ?h14⟩) (by assumption) ?r14
  case h14 => (intro w hSw; (try dsimp only at hSw); go_simp; (try with_reducible rfl))
  try simp only [Act.put]
  refine wpAnyH_take (i := 15) (v := ?v15) rfl (by kernel_rfl) (by kernel_rfl) (by kernel_rfl) (fun _ _ _ h => h) (Or.inl ⟨by rfl, ?h15⟩) (by assumption) ?r15
  case h15 => (intro w hSw; (try dsimp only at hSw); go_simp; (try with_reducible rfl))
  try simp only [Act.put]
  refine wpAnyH_take (i := 18) (v := ?v18) rfl (by kernel_rfl) (by kernel_rfl) (by kernel_rfl) (fun _ _ _ h => h) (Or.inl ⟨by rfl, ?h18⟩) (by assumption) ?r18
  case h18 => (intro w hSw; (try dsimp only at hSw); go_simp; (try with_reducible rfl))
  try simp only [Act.put]
  refine wpAnyH_take (i := 19) (v := ?v19) rfl (by kernel_rfl) (by kernel_rfl) (by kernel_rfl) (fun _ _ _ h => h) (Or.inl ⟨by rfl, ?h19⟩) (by assumption) ?r19
  case h19 => (intro w hSw; (try dsimp only at hSw); go_simp; (try with_reducible rfl))
  try simp only [Act.put]
  refine wpAnyH_take (i := 21) (v := ?v21) rfl (by kernel_rfl) (by kernel_rfl) (by kernel_rfl) (fun _ _ _ h => h) (Or.inl ⟨by rfl, ?h21⟩) (by assumption) ?r21
  case h21 => (intro w hSw; (try dsimp only at hSw); go_simp; (try with_reducible rfl))
  try simp only [Act.put]
  refine wpAnyH_take (i := 22) (v := ?v22) rfl (by kernel_rfl) (by kernel_rfl) (by kernel_rfl) (fun _ _ _ h => h) (Or.inl ⟨by rfl, ?h22⟩) (by assumption) ?r22
  case h22 => (intro w hSw; (try dsimp only at hSw); go_simp; (try with_reducible rfl))
  try simp only [Act.put]
  refine wpAnyH_ready (rs := [3]) (by kernel_rfl) (by simp) ?_
  refine AllReadyH.cons rfl (fun K hK => ?_) AllReadyH.nil
  go_simp
  (go_at_call 64; (with_reducible refine (HXa.out _ (tab64_below HT3.out (by repeat (first | exact Below.refl _ _ | refine below_drewN ?_ _ | refine Below.alloc ?_ (by first | omega | (simp; omega) | simp) _ | refine Below.setCell ?_ (by first | omega | (simp; omega) | simp) _ | refine Below.trans ?_ (Below.mono (by assumption) (by first | omega | (simp; omega) | simp)) | apply Below.drew)))).mono ?_); rintro e w4 ⟨g4, m4, e4, rfl, hz4, hv4, hs4, hb4⟩; have HZ4 := Lib.hid hz4; have HV4 := Lib.hid hv4; have HS4 := Lib.hid hs4; have hbb4 : Below w3.heap.size w3 w4 := (by repeat (first | exact Below.refl _ _ | refine below_drewN ?_ _ | refine Below.alloc ?_ (by first | omega | (simp; omega) | simp) _ | refine Below.setCell ?_ (by first | omega | (simp; omega) | simp) _ | refine Below.trans ?_ (Below.mono (by assumption) (by first | omega | (simp; omega) | simp)) | apply Below.drew)); have zz4 := hbb4.size; have zy4 := hb4.size; (try simp at zy4); have y40 : w.heap.size < w4.heap.size := (by omega); have y41 : w.heap.size + 1 < w4.heap.size := (by omega); have p40 := (hbb4.cell (p := ⟨w.heap.size, 0, none⟩) l0).trans a0; have p41 := (hbb4.cell (p := ⟨w.heap.size, 1, none⟩) l0).trans a1; have p42 := (hbb4.cell (p := ⟨w.heap.size + 1, 0, none⟩) l1).trans a2; have p43 := (hbb4.cell (p := ⟨w.heap.size + 1, 1, none⟩) l1).trans a3; have HB4 := Lib.hid hbb4; clear hz4 hv4 hs4 hbb4)
  refine hK.out _ _ ?_ (fun hHeld => ?_)
  · (refine ⟨?_, ?_, ?_, ?_⟩ <;> with_reducible assumption)
  clear hK K
  try simp only [Act.put, List.setIfInBounds_toArray, List.set_cons_zero, List.set_cons_succ]
  refine wpAnyH_ready (rs := [7]) (by kernel_rfl) (by simp) ?_
  refine AllReadyH.cons rfl (fun K hK => ?_) AllReadyH.nil
  go_simp
  (go_at_call 64; (with_reducible refine (HXc.out _ (tab64_below HT3.out (by repeat (first | exact Below.refl _ _ | refine below_drewN ?_ _ | refine Below.alloc ?_ (by first | omega | (simp; omega) | simp) _ | refine Below.setCell ?_ (by first | omega | (simp; omega) | simp) _ | refine Below.trans ?_ (Below.mono (by assumption) (by first | omega | (simp; omega) | simp)) | apply Below.drew)))).mono ?_); rintro e w5 ⟨g5, m5, e5, rfl, hz5, hv5, hs5, hb5⟩; have HZ5 := Lib.hid hz5; have HV5 := Lib.hid hv5; have HS5 := Lib.hid hs5; have hbb5 : Below w3.heap.size w3 w5 := (by repeat (first | exact Below.refl _ _ | refine below_drewN ?_ _ | refine Below.alloc ?_ (by first | omega | (simp; omega) | simp) _ | refine Below.setCell ?_ (by first | omega | (simp; omega) | simp) _ | refine Below.trans ?_ (Below.mono (by assumption) (by first | omega | (simp; omega) | simp)) | apply Below.drew)); have zz5 := hbb5.size; have zy5 := hb5.size; (try simp at zy5); have y50 : w.heap.size < w5.heap.size := (by omega); have y51 : w.heap.size + 1 < w5.heap.size := (by omega); have p50 := (hbb5.cell (p := ⟨w.heap.size, 0, none⟩) l0).trans a0; have p51 := (hbb5.cell (p := ⟨w.heap.size, 1, none⟩) l0).trans a1; have p52 := (hbb5.cell (p := ⟨w.heap.size + 1, 0, none⟩) l1).trans a2; have p53 := (hbb5.cell (p := ⟨w.heap.size + 1, 1, none⟩) l1).trans a3; have HB5 := Lib.hid hbb5; clear hz5 hv5 hs5 hbb5)
  refine hK.out _ _ ?_ (fun hHeld => ?_)
  · (refine ⟨?_, ?_, ?_, ?_⟩ <;> with_reducible assumption)
  clear hK K
  try simp only [Act.put, List.setIfInBounds_toArray, List.set_cons_zero, List.set_cons_succ]
  refine wpAnyH_ready (rs := [8]) (by kernel_rfl) (by simp) ?_
  refine AllReadyH.cons rfl (fun K hK => ?_) AllReadyH.nil
  go_simp
  (go_at_call 63; (with_reducible refine (HLE.out _ _ _ _ _ _ (HS4.out.mono (by omega)) (HS5.out.mono (by omega)) _ (HZ4.out.below (by repeat (first | exact Below.refl _ _ | refine below_drewN ?_ _ | refine Below.alloc ?_ (by first | omega | (simp; omega) | simp) _ | refine Below.setCell ?_ (by first | omega | (simp; omega) | simp) _ | refine Below.trans ?_ (Below.mono (by assumption) (by first | omega | (simp; omega) | simp)) | apply Below.drew))) (HZ5.out.below (by repeat (first | exact Below.refl _ _ | refine below_drewN ?_ _ | refine Below.alloc ?_ (by first | omega | (simp; omega) | simp) _ | refine Below.setCell ?_ (by first | omega | (simp; omega) | simp) _ | refine Below.trans ?_ (Below.mono (by assumption) (by first | omega | (simp; omega) | simp)) | apply Below.drew)))).mono ?_); rintro e w6 ⟨g6, m6, e6, rfl, hz6, hv6, hs6, hb6⟩; have HZ6 := Lib.hid hz6; have HV6 := Lib.hid hv6; have HS6 := Lib.hid hs6; have hbb6 : Below w3.heap.size w3 w6 := (by repeat (first | exact Below.refl _ _ | refine below_drewN ?_ _ | refine Below.alloc ?_ (by first | omega | (simp; omega) | simp) _ | refine Below.setCell ?_ (by first | omega | (simp; omega) | simp) _ | refine Below.trans ?_ (Below.mono (by assumption) (by first | omega | (simp; omega) | simp)) | apply Below.drew)); have zz6 := hbb6.size; have zy6 := hb6.size; (try simp at zy6); have y60 : w.heap.size < w6.heap.size := (by omega); have y61 : w.heap.size + 1 < w6.heap.size := (by omega); have p60 := (hbb6.cell (p := ⟨w.heap.size, 0, none⟩) l0).trans a0; have p61 := (hbb6.cell (p := ⟨w.heap.size, 1, none⟩) l0).trans a1; have p62 := (hbb6.cell (p := ⟨w.heap.size + 1, 0, none⟩) l1).trans a2; have p63 := (hbb6.cell (p := ⟨w.heap.size + 1, 1, none⟩) l1).trans a3; have HB6 := Lib.hid hbb6; clear hz6 hv6 hs6 hbb6)
  refine hK.out _ _ ?_ (fun hHeld => ?_)
  · (refine ⟨?_, ?_, ?_, ?_⟩ <;> with_reducible assumption)
  clear hK K
  try simp only [Act.put, List.setIfInBounds_toArray, List.set_cons_zero, List.set_cons_succ]
  refine wpAnyH_ready (rs := [12]) (by kernel_rfl) (by simp) ?_
  refine AllReadyH.cons rfl (fun K hK => ?_) AllReadyH.nil
  go_simp
  (go_at_call 64; (with_reducible refine (HXb.out _ (tab64_below HT3.out (by repeat (first | exact Below.refl _ _ | refine below_drewN ?_ _ | refine Below.alloc ?_ (by first | omega | (simp; omega) | simp) _ | refine Below.setCell ?_ (by first | omega | (simp; omega) | simp) _ | refine Below.trans ?_ (Below.mono (by assumption) (by first | omega | (simp; omega) | simp)) | apply Below.drew)))).mono ?_); rintro e w7 ⟨g7, m7, e7, rfl, hz7, hv7, hs7, hb7⟩; have HZ7 := Lib.hid hz7; have HV7 := Lib.hid hv7; have HS7 := Lib.hid hs7; have hbb7 : Below w3.heap.size w3 w7 := (by repeat (first | exact Below.refl _ _ | refine below_drewN ?_ _ | refine Below.alloc ?_ (by first | omega | (simp; omega) | simp) _ | refine Below.setCell ?_ (by first | omega | (simp; omega) | simp) _ | refine Below.trans ?_ (Below.mono (by assumption) (by first | omega | (simp; omega) | simp)) | apply Below.drew)); have zz7 := hbb7.size; have zy7 := hb7.size; (try simp at zy7); have y70 : w.heap.size < w7.heap.size := (by omega); have y71 : w.heap.size + 1 < w7.heap.size := (by omega); have p70 := (hbb7.cell (p := ⟨w.heap.size, 0, none⟩) l0).trans a0; have p71 := (hbb7.cell (p := ⟨w.heap.size, 1, none⟩) l0).trans a1; have p72 := (hbb7.cell (p := ⟨w.heap.size + 1, 0, none⟩) l1).trans a2; have p73 := (hbb7.cell (p := ⟨w.heap.size + 1, 1, none⟩) l1).trans a3; have HB7 := Lib.hid hbb7; clear hz7 hv7 hs7 hbb7)
  refine hK.out _ _ ?_ (fun hHeld => ?_)
  · (refine ⟨?_, ?_, ?_, ?_⟩ <;> with_reducible assumption)
  clear hK K
  try simp only [Act.put, List.setIfInBounds_toArray, List.set_cons_zero, List.set_cons_succ]
  refine wpAnyH_ready (rs := [16]) (by kernel_rfl) (by simp) ?_
  refine AllReadyH.cons rfl (fun K hK => ?_) AllReadyH.nil
  go_simp
  (go_at_call 64; (with_reducible refine (HXd.out _ (tab64_below HT3.out (by repeat (first | exact Below.refl _ _ | refine below_drewN ?_ _ | refine Below.alloc ?_ (by first | omega | (simp; omega) | simp) _ | refine Below.setCell ?_ (by first | omega | (simp; omega) | simp) _ | refine Below.trans ?_ (Below.mono (by assumption) (by first | omega | (simp; omega) | simp)) | apply Below.drew)))).mono ?_); rintro e w8 ⟨g8, m8, e8, rfl, hz8, hv8, hs8, hb8⟩; have HZ8 := Lib.hid hz8; have HV8 := Lib.hid hv8; have HS8 := Lib.hid hs8; have hbb8 : Below w3.heap.size w3 w8 := (by repeat (first | exact Below.refl _ _ | refine below_drewN ?_ _ | refine Below.alloc ?_ (by first | omega | (simp; omega) | simp) _ | refine Below.setCell ?_ (by first | omega | (simp; omega) | simp) _ | refine Below.trans ?_ (Below.mono (by assumption) (by first | omega | (simp; omega) | simp)) | apply Below.drew)); have zz8 := hbb8.size; have zy8 := hb8.size; (try simp at zy8); have y80 : w.heap.size < w8.heap.size := (by omega); have y81 : w.heap.size + 1 < w8.heap.size := (by omega); have p80 := (hbb8.cell (p := ⟨w.heap.size, 0, none⟩) l0).trans a0; have p81 := (hbb8.cell (p := ⟨w.heap.size, 1, none⟩) l0).trans a1; have p82 := (hbb8.cell (p := ⟨w.heap.size + 1, 0, none⟩) l1).trans a2; have p83 := (hbb8.cell (p := ⟨w.heap.size + 1, 1, none⟩) l1).trans a3; have HB8 := Lib.hid hbb8; clear hz8 hv8 hs8 hbb8)
  refine hK.out _ _ ?_ (fun hHeld => ?_)
  · (refine ⟨?_, ?_, ?_, ?_⟩ <;> with_reducible assumption)
  clear hK K
  try simp only [Act.put, List.setIfInBounds_toArray, List.set_cons_zero, List.set_cons_succ]
  refine wpAnyH_ready (rs := [17]) (by kernel_rfl) (by simp) ?_
  refine AllReadyH.cons rfl (fun K hK => ?_) AllReadyH.nil
  go_simp
  (go_at_call 63; (with_reducible refine (HLE.out _ _ _ _ _ _ (HS7.out.mono (by omega)) (HS8.out.mono (by omega)) _ (HZ7.out.below (by repeat (first | exact Below.refl _ _ | refine below_drewN ?_ _ | refine Below.alloc ?_ (by first | omega | (simp; omega) | simp) _ | refine Below.setCell ?_ (by first | omega | (simp; omega) | simp) _ | refine Below.trans ?_ (Below.mono (by assumption) (by first | omega | (simp; omega) | simp)) | apply Below.drew))) (HZ8.out.below (by repeat (first | exact Below.refl _ _ | refine below_drewN ?_ _ | refine Below.alloc ?_ (by first | omega | (simp; omega) | simp) _ | refine Below.setCell ?_ (by first | omega | (simp; omega) | simp) _ | refine Below.trans ?_ (Below.mono (by assumption) (by first | omega | (simp; omega) | simp)) | apply Below.drew)))).mono ?_); rintro e w9 ⟨g9, m9, e9, rfl, hz9, hv9, hs9, hb9⟩; have HZ9 := Lib.hid hz9; have HV9 := Lib.hid hv9; have HS9 := Lib.hid hs9; have hbb9 : Below w3.heap.size w3 w9 := (by repeat (first | exact Below.refl _ _ | refine below_drewN ?_ _ | refine Below.alloc ?_ (by first | omega | (simp; omega) | simp) _ | refine Below.setCell ?_ (by first | omega | (simp; omega) | simp) _ | refine Below.trans ?_ (Below.mono (by assumption) (by first | omega | (simp; omega) | simp)) | apply Below.drew)); have zz9 := hbb9.size; have zy9 := hb9.size; (try simp at zy9); have y90 : w.heap.size < w9.heap.size := (by omega); have y91 : w.heap.size + 1 < w9.heap.size := (by omega); have p90 := (hbb9.cell (p := ⟨w.heap.size, 0, none⟩) l0).trans a0; have p91 := (hbb9.cell (p := ⟨w.heap.size, 1, none⟩) l0).trans a1; have p92 := (hbb9.cell (p := ⟨w.heap.size + 1, 0, none⟩) l1).trans a2; have p93 := (hbb9.cell (p := ⟨w.heap.size + 1, 1, none⟩) l1).trans a3; have HB9 := Lib.hid hbb9; clear hz9 hv9 hs9 hbb9)
  refine hK.out _ _ ?_ (fun hHeld => ?_)
  · (refine ⟨?_, ?_, ?_, ?_⟩ <;> with_reducible assumption)
  clear hK K
  try simp only [Act.put, List.setIfInBounds_toArray, List.set_cons_zero, List.set_cons_succ]
  refine wpAnyH_ready (rs := [20]) (by kernel_rfl) (by simp) ?_
  refine AllReadyH.cons rfl (fun K hK => ?_) AllReadyH.nil
  go_simp
  (go_at_call 64; (with_reducible refine (HXr.out _ (tab64_below HT3.out (by repeat (first | exact Below.refl _ _ | refine below_drewN ?_ _ | refine Below.alloc ?_ (by first | omega | (simp; omega) | simp) _ | refine Below.setCell ?_ (by first | omega | (simp; omega) | simp) _ | refine Below.trans ?_ (Below.mono (by assumption) (by first | omega | (simp; omega) | simp)) | apply Below.drew)))).mono ?_); rintro e w10 ⟨g10, m10, e10, rfl, hz10, hv10, hs10, hb10⟩; have HZ10 := Lib.hid hz10; have HV10 := Lib.hid hv10; have HS10 := Lib.hid hs10; have hbb10 : Below w3.heap.size w3 w10 := (by repeat (first | exact Below.refl _ _ | refine below_drewN ?_ _ | refine Below.alloc ?_ (by first | omega | (simp; omega) | simp) _ | refine Below.setCell ?_ (by first | omega | (simp; omega) | simp) _ | refine Below.trans ?_ (Below.mono (by assumption) (by first | omega | (simp; omega) | simp)) | apply Below.drew)); have zz10 := hbb10.size; have zy10 := hb10.size; (try simp at zy10); have y100 : w.heap.size < w10.heap.size := (by omega); have y101 : w.heap.size + 1 < w10.heap.size := (by omega); have p100 := (hbb10.cell (p := ⟨w.heap.size, 0, none⟩) l0).trans a0; have p101 := (hbb10.cell (p := ⟨w.heap.size, 1, none⟩) l0).trans a1; have p102 := (hbb10.cell (p := ⟨w.heap.size + 1, 0, none⟩) l1).trans a2; have p103 := (hbb10.cell (p := ⟨w.heap.size + 1, 1, none⟩) l1).trans a3; have HB10 := Lib.hid hbb10; clear hz10 hv10 hs10 hbb10)
  refine hK.out _ _ ?_ (fun hHeld => ?_)
  · (refine ⟨?_, ?_, ?_, ?_⟩ <;> with_reducible assumption)
  clear hK K
  try simp only [Act.put, List.setIfInBounds_toArray, List.set_cons_zero, List.set_cons_succ]
  refine wpAnyH_ready (rs := [23]) (by kernel_rfl) (by simp) ?_
  refine AllReadyH.cons rfl (fun K hK => ?_) AllReadyH.nil
  go_simp
  (go_at_call 64; (with_reducible refine (HXq.out _ (tab64_below HT3.out (by repeat (first | exact Below.refl _ _ | refine below_drewN ?_ _ | refine Below.alloc ?_ (by first | omega | (simp; omega) | simp) _ | refine Below.setCell ?_ (by first | omega | (simp; omega) | simp) _ | refine Below.trans ?_ (Below.mono (by assumption) (by first | omega | (simp; omega) | simp)) | apply Below.drew)))).mono ?_); rintro e w11 ⟨g11, m11, e11, rfl, hz11, hv11, hs11, hb11⟩; have HZ11 := Lib.hid hz11; have HV11 := Lib.hid hv11; have HS11 := Lib.hid hs11; have hbb11 : Below w3.heap.size w3 w11 := (by repeat (first | exact Below.refl _ _ | refine below_drewN ?_ _ | refine Below.alloc ?_ (by first | omega | (simp; omega) | simp) _ | refine Below.setCell ?_ (by first | omega | (simp; omega) | simp) _ | refine Below.trans ?_ (Below.mono (by assumption) (by first | omega | (simp; omega) | simp)) | apply Below.drew)); have zz11 := hbb11.size; have zy11 := hb11.size; (try simp at zy11); have y110 : w.heap.size < w11.heap.size := (by omega); have y111 : w.heap.size + 1 < w11.heap.size := (by omega); have p110 := (hbb11.cell (p := ⟨w.heap.size, 0, none⟩) l0).trans a0; have p111 := (hbb11.cell (p := ⟨w.heap.size, 1, none⟩) l0).trans a1; have p112 := (hbb11.cell (p := ⟨w.heap.size + 1, 0, none⟩) l1).trans a2; have p113 := (hbb11.cell (p := ⟨w.heap.size + 1, 1, none⟩) l1).trans a3; have HB11 := Lib.hid hbb11; clear hz11 hv11 hs11 hbb11)
  refine hK.out _ _ ?_ (fun hHeld => ?_)
  · (refine ⟨?_, ?_, ?_, ?_⟩ <;> with_reducible assumption)
  clear hK K
  try simp only [Act.put, List.setIfInBounds_toArray, List.set_cons_zero, List.set_cons_succ]
  refine wpAnyH_ready (rs := [24]) (by kernel_rfl) (by simp) ?_
  refine AllReadyH.cons rfl (fun K hK => ?_) AllReadyH.nil
  go_simp
  (go_at_call 65; (with_reducible refine (HPL.out _ _ _ _ _ _ (HS10.out.mono (by omega)) (HS11.out.mono (by omega)) _ (HZ10.out.below (by repeat (first | exact Below.refl _ _ | refine below_drewN ?_ _ | refine Below.alloc ?_ (by first | omega | (simp; omega) | simp) _ | refine Below.setCell ?_ (by first | omega | (simp; omega) | simp) _ | refine Below.trans ?_ (Below.mono (by assumption) (by first | omega | (simp; omega) | simp)) | apply Below.drew))) (HZ11.out.below (by repeat (first | exact Below.refl _ _ | refine below_drewN ?_ _ | refine Below.alloc ?_ (by first | omega | (simp; omega) | simp) _ | refine Below.setCell ?_ (by first | omega | (simp; omega) | simp) _ | refine Below.trans ?_ (Below.mono (by assumption) (by first | omega | (simp; omega) | simp)) | apply Below.drew)))).mono ?_); rintro e w12 ⟨g12, m12, e12, rfl, hz12, hv12, hs12, hb12⟩; have HZ12 := Lib.hid hz12; have HV12 := Lib.hid hv12; have HS12 := Lib.hid hs12; have hbb12 : Below w3.heap.size w3 w12 := (by repeat (first | exact Below.refl _ _ | refine below_drewN ?_ _ | refine Below.alloc ?_ (by first | omega | (simp; omega) | simp) _ | refine Below.setCell ?_ (by first | omega | (simp; omega) | simp) _ | refine Below.trans ?_ (Below.mono (by assumption) (by first | omega | (simp; omega) | simp)) | apply Below.drew)); have zz12 := hbb12.size; have zy12 := hb12.size; (try simp at zy12); have y120 : w.heap.size < w12.heap.size := (by omega); have y121 : w.heap.size + 1 < w12.heap.size := (by omega); have p120 := (hbb12.cell (p := ⟨w.heap.size, 0, none⟩) l0).trans a0; have p121 := (hbb12.cell (p := ⟨w.heap.size, 1, none⟩) l0).trans a1; have p122 := (hbb12.cell (p := ⟨w.heap.size + 1, 0, none⟩) l1).trans a2; have p123 := (hbb12.cell (p := ⟨w.heap.size + 1, 1, none⟩) l1).trans a3; have HB12 := Lib.hid hbb12; clear hz12 hv12 hs12 hbb12)
  refine hK.out _ _ ?_ (fun hHeld => ?_)
  · (refine ⟨?_, ?_, ?_, ?_⟩ <;> with_reducible assumption)
  clear hK K
  try simp only [Act.put, List.setIfInBounds_toArray, List.set_cons_zero, List.set_cons_succ]
  refine wpAnyH_ready (rs := [25]) (by kernel_rfl) (by simp) ?_
  refine AllReadyH.cons rfl (fun K hK => ?_) AllReadyH.nil
  go_simp
  (go_at_call 61; (with_reducible refine (HFA.out g6 g9 g12 m6 m9 m12 e6 e9 e12 HS6.out HS9.out HS12.out _ (HZ6.out.below (by repeat (first | exact Below.refl _ _ | refine below_drewN ?_ _ | refine Below.alloc ?_ (by first | omega | (simp; omega) | simp) _ | refine Below.setCell ?_ (by first | omega | (simp; omega) | simp) _ | refine Below.trans ?_ (Below.mono (by assumption) (by first | omega | (simp; omega) | simp)) | apply Below.drew))) (HZ9.out.below (by repeat (first | exact Below.refl _ _ | refine below_drewN ?_ _ | refine Below.alloc ?_ (by first | omega | (simp; omega) | simp) _ | refine Below.setCell ?_ (by first | omega | (simp; omega) | simp) _ | refine Below.trans ?_ (Below.mono (by assumption) (by first | omega | (simp; omega) | simp)) | apply Below.drew))) (HZ12.out.below (by repeat (first | exact Below.refl _ _ | refine below_drewN ?_ _ | refine Below.alloc ?_ (by first | omega | (simp; omega) | simp) _ | refine Below.setCell ?_ (by first | omega | (simp; omega) | simp) _ | refine Below.trans ?_ (Below.mono (by assumption) (by first | omega | (simp; omega) | simp)) | apply Below.drew))) (num_nonneg (HV12.out.trans (by rw [HV10.out, HV11.out])) HRQ.out)).mono ?_); rintro e w13 ⟨rfl, hb13⟩; have hbb13 : Below w3.heap.size w3 w13 := (by repeat (first | exact Below.refl _ _ | refine below_drewN ?_ _ | refine Below.alloc ?_ (by first | omega | (simp; omega) | simp) _ | refine Below.setCell ?_ (by first | omega | (simp; omega) | simp) _ | refine Below.trans ?_ (Below.mono (by assumption) (by first | omega | (simp; omega) | simp)) | apply Below.drew)); have zz13 := hbb13.size; have y130 : w.heap.size < w13.heap.size := (by omega); have y131 : w.heap.size + 1 < w13.heap.size := (by omega); have p130 := (hbb13.cell (p := ⟨w.heap.size, 0, none⟩) l0).trans a0; have p131 := (hbb13.cell (p := ⟨w.heap.size, 1, none⟩) l0).trans a1; have p132 := (hbb13.cell (p := ⟨w.heap.size + 1, 0, none⟩) l1).trans a2; have p133 := (hbb13.cell (p := ⟨w.heap.size + 1, 1, none⟩) l1).trans a3; have HB13 := Lib.hid hbb13; clear hbb13)
  refine hK.out _ _ ?_ (fun hHeld => ?_)
  · (refine ⟨?_, ?_, ?_, ?_⟩ <;> with_reducible assumption)
  clear hK K
  try simp only [Act.put, List.setIfInBounds_toArray, List.set_cons_zero, List.set_cons_succ]
  refine wpAnyH_ready (rs := [26]) (by kernel_rfl) (by simp) ?_
  refine AllReadyH.cons rfl (fun K hK => ?_) AllReadyH.nil
  go_simp
  refine hK.out _ _ ?_ (fun hHeld => ?_)
  · (refine ⟨?_, ?_, ?_, ?_⟩ <;> with_reducible assumption)
  clear hK K
  try simp only [Act.put, List.setIfInBounds_toArray, List.set_cons_zero, List.set_cons_succ]
  refine wpAnyH_done (by kernel_rfl) ?_ _
  have hdec : decide (nv m12 e12 * nv m12 e12 < nv m6 e6 * nv m6 e6 + nv m9 e9 * nv m9 e9) = apartR a b r c d q := by
    unfold apartR nv
    rw [HV12.out, HV6.out, HV9.out, HV10.out, HV11.out, HV4.out, HV5.out, HV7.out, HV8.out]
  rw [hdec]
  clear hdec
  go_wp2
  go_ret
  exact ⟨rfl, by repeat (first | exact Below.refl _ _ | refine below_drewN ?_ _ | refine Below.alloc ?_ (by first | omega | (simp; omega) | simp) _ | refine Below.setCell ?_ (by first | omega | (simp; omega) | simp) _ | refine Below.trans ?_ (Below.mono (by assumption) (by first | omega | (simp; omega) | simp)) | apply Below.drew)⟩
end Go.Proofs.YtbgjcpnbdgljbaaGreatDoor

/- ball.Holds. -/
namespace Go.Proofs.YtbgjcpnbdgljbaaGreatDoor
open Go.RowKit Go.Fil Go.Shelf
attribute [local irreducible] fop fsqrt fup fabs fneg pick
/-- An exact number of a dyad. -/
theorem exactly_dv (d : Dya) (hs : Sz d.m d.e 1100) (w : World) : Calls Tryz.prog 62 #[.agg #[.bool (dn d), .string (ds d), .int .i64 d.e]] w (RNm (dv d) 1100 w) := by
  have h0 : sg (dn d) d.m.natAbs = d.m := sg_self d.m
  have h := exactly_any (dn d) d.m.natAbs d.e 1100 (by omega) (by rw [h0]; exact hs) w
  rw [h0] at h
  exact h
/-- Does a ball hold a number? -/
def holdsR (a b r : Nat) (g h : Dya) : Bool := !decide (fv r * fv r < (dv g - fv a) * (dv g - fv a) + (dv h - fv b) * (dv h - fv b))
set_option maxRecDepth 100000 in
set_option maxHeartbeats 12800000 in
theorem holds_any (a b r : Nat) (g h : Dya) (ha : fin a = true) (la : a < 18446744073709551616) (hb : fin b = true) (lb : b < 18446744073709551616) (hr : fin r = true) (lr : r < 18446744073709551616) (h1 : isWholeS (a, b, r) = false) (hrq : 0 ≤ fv r) (kg : okD g) (kh : okD h) (sg : Sz g.m g.e 1100) (sh : Sz h.m h.e 1100) (w : World) (hT : Tab64 w) :
    Calls Tryz.prog 26 #[.agg #[.complex .f64 a b, .float .f64 r], .agg #[.bool (dn g), .string (ds g), .int .i64 g.e, .bool (dn h), .string (ds h), .int .i64 h.e]] w (RY (holdsR a b r g h) w) := by
  have HW1 := Lib.hid (fun w => iswhole_any a b r w)
  rw [h1] at HW1
  have HCK := Lib.hid (fun w => gcheck_any g h kg kh w)
  have HXa := Lib.hid (fun w hT => bexact_any a la ha w hT)
  have HXb := Lib.hid (fun w hT => bexact_any b lb hb w hT)
  have HXr := Lib.hid (fun w hT => bexact_any r lr hr w hT)
  have HEg := Lib.hid (fun w => exactly_dv g sg w)
  have HEh := Lib.hid (fun w => exactly_dv h sh w)
  have HLE := Lib.hid (fun g1 g2 m1 m2 e1 e2 s1 s2 w hz1 hz2 => nless_any g1 g2 m1 m2 e1 e2 1100 (by omega) s1 s2 w hz1 hz2)
  have HFA := Lib.hid (fun gx gy gr mx my mr ex ey er hx hy hr w hzx hzy hzr h0 => far_pos gx gy gr mx my mr ex ey er (3 * 1100 + 1) (by omega) hx hy hr w hzx hzy hzr h0)
  have HRQ := Lib.hid hrq
  have HT := Lib.hid hT
  have hR : holdsR a b r g h = !decide (fv r * fv r < (dv g - fv a) * (dv g - fv a) + (dv h - fv b) * (dv h - fv b)) := rfl
  have HR := Lib.hid hR
  clear h1 hT hrq la lb lr ha hb hr kg kh sg sh hR
  generalize dv g = vg at *
  generalize dv h = vh at *
  generalize holdsR a b r g h = rr at *
  generalize dn g = ng at *
  generalize ds g = sG at *
  generalize g.e = xg at *
  generalize dn h = nh at *
  generalize ds h = sH at *
  generalize h.e = xh at *
  go_enter Tryz.func26, Tryz.ntmps26
  go_wp2_with (go_at_call 35; (with_reducible refine (HCK.out _).mono ?_); rintro e w3 ⟨rfl, hb1⟩; obtain ⟨hc1, hf1⟩ := bcell hb1; have z1 := hb1.size; (try simp at z1))
  have a0 : w3.cell? ⟨w.heap.size, 0, none⟩ = some (.complex .f64 a b) := by rw [hc1 _ _ (by simp <;> omega)]; simp [go_sem]
  have a1 : w3.cell? ⟨w.heap.size, 1, none⟩ = some (.float .f64 r) := by rw [hc1 _ _ (by simp <;> omega)]; simp [go_sem]
  have a2 : w3.cell? ⟨w.heap.size + 1, 0, none⟩ = some (.bool ng) := by rw [hc1 _ _ (by simp <;> omega)]; simp [go_sem]
  have a3 : w3.cell? ⟨w.heap.size + 1, 1, none⟩ = some (.string sG) := by rw [hc1 _ _ (by simp <;> omega)]; simp [go_sem]
  have a4 : w3.cell? ⟨w.heap.size + 1, 2, none⟩ = some (.int .i64 xg) := by rw [hc1 _ _ (by simp <;> omega)]; simp [go_sem]
  have a5 : w3.cell? ⟨w.heap.size + 1, 3, none⟩ = some (.bool nh) := by rw [hc1 _ _ (by simp <;> omega)]; simp [go_sem]
  have a6 : w3.cell? ⟨w.heap.size + 1, 4, none⟩ = some (.string sH) := by rw [hc1 _ _ (by simp <;> omega)]; simp [go_sem]
  have a7 : w3.cell? ⟨w.heap.size + 1, 5, none⟩ = some (.int .i64 xh) := by rw [hc1 _ _ (by simp <;> omega)]; simp [go_sem]
  have hb3 : Below w.heap.size w w3 := by repeat (first | exact Below.refl _ _ | refine below_drewN ?_ _ | refine Below.alloc ?_ (by first | omega | (simp; omega) | simp) _ | refine Below.setCell ?_ (by first | omega | (simp; omega) | simp) _ | refine Below.trans ?_ (Below.mono (by assumption) (by first | omega | (simp; omega) | simp)) | apply Below.drew)
  have l0 : w.heap.size < w3.heap.size := by omega
  have l1 : w.heap.size + 1 < w3.heap.size := by omega
  have HB3 := Lib.hid hb3
  have HT3 := Lib.hid (tab64_below HT.out hb3)
  clear hc1 hf1 hb1 z1 hb3
  refine wp_region_held_drew (S := fun x => x.cell? ⟨w.heap.size, 0, none⟩ = some (.complex .f64 a b) ∧ x.cell? ⟨w.heap.size, 1, none⟩ = some (.float .f64 r) ∧ x.cell? ⟨w.heap.size + 1, 0, none⟩ = some (.bool ng) ∧ x.cell? ⟨w.heap.size + 1, 1, none⟩ = some (.string sG) ∧ x.cell? ⟨w.heap.size + 1, 2, none⟩ = some (.int .i64 xg) ∧ x.cell? ⟨w.heap.size + 1, 3, none⟩ = some (.bool nh) ∧ x.cell? ⟨w.heap.size + 1, 4, none⟩ = some (.string sH) ∧ x.cell? ⟨w.heap.size + 1, 5, none⟩ = some (.int .i64 xh)) (by kernel_rfl) (by exact ⟨a0, a1, a2, a3, a4, a5, a6, a7⟩) (fun hHeld => ?_)
  refine wpAnyH_take (i := 0) (v := ?v0) rfl (by kernel_rfl) (by kernel_rfl) (by kernel_rfl) (fun _ _ _ h => h) (Or.inl ⟨by kernel_rfl, ?h0⟩) (by assumption) ?r0
  case h0 => (intro w hSw; (try dsimp only at hSw); go_simp; (try with_reducible rfl))
  try simp only [Act.put, List.setIfInBounds_toArray]
  refine wpAnyH_ready (rs := [1]) (by kernel_rfl) (by simp) ?_
  refine AllReadyH.cons rfl (fun K hK => ?_) AllReadyH.nil
  go_simp
  (go_at_call 60; (with_reducible refine (HW1.out _).mono ?_); rintro e w2 ⟨rfl, hb2⟩; have hbb2 : Below w3.heap.size w3 w2 := (by repeat (first | exact Below.refl _ _ | refine below_drewN ?_ _ | refine Below.alloc ?_ (by first | omega | (simp; omega) | simp) _ | refine Below.setCell ?_ (by first | omega | (simp; omega) | simp) _ | refine Below.trans ?_ (Below.mono (by assumption) (by first | omega | (simp; omega) | simp)) | apply Below.drew)); have zz2 := hbb2.size; have zy2 := hb2.size; (try simp at zy2); have y20 : w.heap.size < w2.heap.size := (by omega); have y21 : w.heap.size + 1 < w2.heap.size := (by omega); have p20 := (hbb2.cell (p := ⟨w.heap.size, 0, none⟩) l0).trans a0; have p21 := (hbb2.cell (p := ⟨w.heap.size, 1, none⟩) l0).trans a1; have p22 := (hbb2.cell (p := ⟨w.heap.size + 1, 0, none⟩) l1).trans a2; have p23 := (hbb2.cell (p := ⟨w.heap.size + 1, 1, none⟩) l1).trans a3; have p24 := (hbb2.cell (p := ⟨w.heap.size + 1, 2, none⟩) l1).trans a4; have p25 := (hbb2.cell (p := ⟨w.heap.size + 1, 3, none⟩) l1).trans a5; have p26 := (hbb2.cell (p := ⟨w.heap.size + 1, 4, none⟩) l1).trans a6; have p27 := (hbb2.cell (p := ⟨w.heap.size + 1, 5, none⟩) l1).trans a7; have HB2 := Lib.hid hbb2; clear hbb2)
  refine hK.out _ _ ?_ (fun hHeld => ?_)
  · (refine ⟨?_, ?_, ?_, ?_, ?_, ?_, ?_, ?_⟩ <;> with_reducible assumption)
  clear hK K
  try simp only [Act.put, List.setIfInBounds_toArray, List.set_cons_zero, List.set_cons_succ]
  refine wpAnyH_take (i := 2) (v := ?v2) rfl (by kernel_rfl) (by kernel_rfl) (by kernel_rfl) (fun _ _ _ h => h) (Or.inl ⟨by kernel_rfl, ?h2⟩) (by assumption) ?r2
  case h2 => (intro w hSw; (try dsimp only at hSw); go_simp; (try with_reducible rfl))
  try simp only [Act.put, List.setIfInBounds_toArray]
  refine wpAnyH_take (i := 3) (v := ?v3) rfl (by kernel_rfl) (by kernel_rfl) (by kernel_rfl) (fun _ _ _ h => h) (Or.inl ⟨by kernel_rfl, ?h3⟩) (by assumption) ?r3
  case h3 => (intro w hSw; (try dsimp only at hSw); go_simp; (try with_reducible rfl))
  try simp only [Act.put]
  refine wpAnyH_take (i := 4) (v := ?v4) rfl (by kernel_rfl) (by kernel_rfl) (by kernel_rfl) (fun _ _ _ h => h) (Or.inl ⟨by kernel_rfl, ?h4⟩) (by assumption) ?r4
  case h4 => (intro w hSw; (try dsimp only at hSw); go_simp; (try with_reducible rfl))
  try simp only [Act.put]
  refine wpAnyH_take (i := 6) (v := ?v6) rfl (by kernel_rfl) (by kernel_rfl) (by kernel_rfl) (fun _ _ _ h => h) (Or.inl ⟨by kernel_rfl, ?h6⟩) (by assumption) ?r6
  case h6 => (intro w hSw; (try dsimp only at hSw); go_simp; (try with_reducible rfl))
  try simp only [Act.put]
  refine wpAnyH_take (i := 7) (v := ?v7) rfl (by kernel_rfl) (by kernel_rfl) (by kernel_rfl) (fun _ _ _ h => h) (Or.inl ⟨by kernel_rfl, ?h7⟩) (by assumption) ?r7
  case h7 => (intro w hSw; (try dsimp only at hSw); go_simp; (try with_reducible rfl))
  try simp only [Act.put]
  refine wpAnyH_take (i := 8) (v := ?v8) rfl (by kernel_rfl) (by kernel_rfl) (by kernel_rfl) (fun _ _ _ h => h) (Or.inl ⟨by kernel_rfl, ?h8⟩) (by assumption) ?r8
  case h8 => (intro w hSw; (try dsimp only at hSw); go_simp; (try with_reducible rfl))
  try simp only [Act.put]
  refine wpAnyH_take (i := 11) (v := ?v11) rfl (by kernel_rfl) (by kernel_rfl) (by kernel_rfl) (fun _ _ _ h => h) (Or.inl ⟨by kernel_rfl, ?h11⟩) (by assumption) ?r11
  case h11 => (intro w hSw; (try dsimp only at hSw); go_simp; (try with_reducible rfl))
  try simp only [Act.put]
  refine wpAnyH_take (i := 12) (v := ?v12) rfl (by kernel_rfl) (by kernel_rfl) (by kernel_rfl) (fun _ _ _ h => h) (Or.inl ⟨by kernel_rfl, ?h12⟩) (by assumption) ?r12
  case h12 => (intro w hSw; (try dsimp only at hSw); go_simp; (try with_reducible rfl))
  try simp only [Act.put]
  refine wpAnyH_take (i := 14) (v := ?v14) rfl (by kernel_rfl) (by kernel_rfl) (by kernel_rfl) (fun _ _ _ h => h) (Or.inl ⟨by kernel_rfl, ?h14⟩) (by assumption) ?r14
  case h14 => (intro w hSw; (try dsimp only at hSw); go_simp; (try with_reducible rfl))
  try simp only [Act.put]
  refine wpAnyH_take (i := 15) (v := ?v15) rfl (by kernel_rfl) (by kernel_rfl) (by kernel_rfl) (fun _ _ _ h => h) (Or.inl ⟨by kernel_rfl, ?h15⟩) (by assumption) ?r15
  case h15 => (intro w hSw; (try dsimp only at hSw); go_simp; (try with_reducible rfl))
  try simp only [Act.put]
  refine wpAnyH_take (i := 16) (v := ?v16) rfl (by kernel_rfl) (by kernel_rfl) (by kernel_rfl) (fun _ _ _ h => h) (Or.inl ⟨by kernel_rfl, ?h16⟩) (by assumption) ?r16
  case h16 => (intro w hSw; (try dsimp only at hSw); go_simp; (try with_reducible rfl))
  try simp only [Act.put]
  refine wpAnyH_take (i := 19) (v := ?v19) rfl (by kernel_rfl) (by kernel_rfl) (by kernel_rfl) (fun _ _ _ h => h) (Or.inl ⟨by kernel_rfl, ?h19⟩) (by assumption) ?r19
  case h19 => (intro w hSw; (try dsimp only at hSw); go_simp; (try with_reducible rfl))
  try simp only [Act.put]
  refine wpAnyH_take (i := 20) (v := ?v20) rfl (by kernel_rfl) (by kernel_rfl) (by kernel_rfl) (fun _ _ _ h => h) (Or.inl ⟨by kernel_rfl, ?h20⟩) (by assumption) ?r20
  case h20 => (intro w hSw; (try dsimp only at hSw); go_simp; (try with_reducible rfl))
  try simp only [Act.put]
  refine wpAnyH_ready (rs := [5]) (by kernel_rfl) (by simp) ?_
  refine AllReadyH.cons rfl (fun K hK => ?_) AllReadyH.nil
  go_simp
  (go_at_call 62; (with_reducible refine (HEg.out _).mono ?_); rintro e w4 ⟨g4, m4, e4, rfl, hz4, hv4, hs4, hb4⟩; have HZ4 := Lib.hid hz4; have HV4 := Lib.hid hv4; have HS4 := Lib.hid hs4; have hbb4 : Below w3.heap.size w3 w4 := (by repeat (first | exact Below.refl _ _ | refine below_drewN ?_ _ | refine Below.alloc ?_ (by first | omega | (simp; omega) | simp) _ | refine Below.setCell ?_ (by first | omega | (simp; omega) | simp) _ | refine Below.trans ?_ (Below.mono (by assumption) (by first | omega | (simp; omega) | simp)) | apply Below.drew)); have zz4 := hbb4.size; have zy4 := hb4.size; (try simp at zy4); have y40 : w.heap.size < w4.heap.size := (by omega); have y41 : w.heap.size + 1 < w4.heap.size := (by omega); have p40 := (hbb4.cell (p := ⟨w.heap.size, 0, none⟩) l0).trans a0; have p41 := (hbb4.cell (p := ⟨w.heap.size, 1, none⟩) l0).trans a1; have p42 := (hbb4.cell (p := ⟨w.heap.size + 1, 0, none⟩) l1).trans a2; have p43 := (hbb4.cell (p := ⟨w.heap.size + 1, 1, none⟩) l1).trans a3; have p44 := (hbb4.cell (p := ⟨w.heap.size + 1, 2, none⟩) l1).trans a4; have p45 := (hbb4.cell (p := ⟨w.heap.size + 1, 3, none⟩) l1).trans a5; have p46 := (hbb4.cell (p := ⟨w.heap.size + 1, 4, none⟩) l1).trans a6; have p47 := (hbb4.cell (p := ⟨w.heap.size + 1, 5, none⟩) l1).trans a7; have HB4 := Lib.hid hbb4; clear hz4 hv4 hs4 hbb4)
  refine hK.out _ _ ?_ (fun hHeld => ?_)
  · (refine ⟨?_, ?_, ?_, ?_, ?_, ?_, ?_, ?_⟩ <;> with_reducible assumption)
  clear hK K
  try simp only [Act.put, List.setIfInBounds_toArray, List.set_cons_zero, List.set_cons_succ]
  refine wpAnyH_ready (rs := [9]) (by kernel_rfl) (by simp) ?_
  refine AllReadyH.cons rfl (fun K hK => ?_) AllReadyH.nil
  go_simp
  (go_at_call 64; (with_reducible refine (HXa.out _ (tab64_below HT3.out (by repeat (first | exact Below.refl _ _ | refine below_drewN ?_ _ | refine Below.alloc ?_ (by first | omega | (simp; omega) | simp) _ | refine Below.setCell ?_ (by first | omega | (simp; omega) | simp) _ | refine Below.trans ?_ (Below.mono (by assumption) (by first | omega | (simp; omega) | simp)) | apply Below.drew)))).mono ?_); rintro e w5 ⟨g5, m5, e5, rfl, hz5, hv5, hs5, hb5⟩; have HZ5 := Lib.hid hz5; have HV5 := Lib.hid hv5; have HS5 := Lib.hid hs5; have hbb5 : Below w3.heap.size w3 w5 := (by repeat (first | exact Below.refl _ _ | refine below_drewN ?_ _ | refine Below.alloc ?_ (by first | omega | (simp; omega) | simp) _ | refine Below.setCell ?_ (by first | omega | (simp; omega) | simp) _ | refine Below.trans ?_ (Below.mono (by assumption) (by first | omega | (simp; omega) | simp)) | apply Below.drew)); have zz5 := hbb5.size; have zy5 := hb5.size; (try simp at zy5); have y50 : w.heap.size < w5.heap.size := (by omega); have y51 : w.heap.size + 1 < w5.heap.size := (by omega); have p50 := (hbb5.cell (p := ⟨w.heap.size, 0, none⟩) l0).trans a0; have p51 := (hbb5.cell (p := ⟨w.heap.size, 1, none⟩) l0).trans a1; have p52 := (hbb5.cell (p := ⟨w.heap.size + 1, 0, none⟩) l1).trans a2; have p53 := (hbb5.cell (p := ⟨w.heap.size + 1, 1, none⟩) l1).trans a3; have p54 := (hbb5.cell (p := ⟨w.heap.size + 1, 2, none⟩) l1).trans a4; have p55 := (hbb5.cell (p := ⟨w.heap.size + 1, 3, none⟩) l1).trans a5; have p56 := (hbb5.cell (p := ⟨w.heap.size + 1, 4, none⟩) l1).trans a6; have p57 := (hbb5.cell (p := ⟨w.heap.size + 1, 5, none⟩) l1).trans a7; have HB5 := Lib.hid hbb5; clear hz5 hv5 hs5 hbb5)
  refine hK.out _ _ ?_ (fun hHeld => ?_)
  · (refine ⟨?_, ?_, ?_, ?_, ?_, ?_, ?_, ?_⟩ <;> with_reducible assumption)
  clear hK K
  try simp only [Act.put, List.setIfInBounds_toArray, List.set_cons_zero, List.set_cons_succ]
  refine wpAnyH_ready (rs := [10]) (by kernel_rfl) (by simp) ?_
  refine AllReadyH.cons rfl (fun K hK => ?_) AllReadyH.nil
  go_simp
  (go_at_call 63; (with_reducible refine (HLE.out _ _ _ _ _ _ (HS4.out.mono (by omega)) (HS5.out.mono (by omega)) _ (HZ4.out.below (by repeat (first | exact Below.refl _ _ | refine below_drewN ?_ _ | refine Below.alloc ?_ (by first | omega | (simp; omega) | simp) _ | refine Below.setCell ?_ (by first | omega | (simp; omega) | simp) _ | refine Below.trans ?_ (Below.mono (by assumption) (by first | omega | (simp; omega) | simp)) | apply Below.drew))) (HZ5.out.below (by repeat (first | exact Below.refl _ _ | refine below_drewN ?_ _ | refine Below.alloc ?_ (by first | omega | (simp; omega) | simp) _ | refine Below.setCell ?_ (by first | omega | (simp; omega) | simp) _ | refine Below.trans ?_ (Below.mono (by assumption) (by first | omega | (simp; omega) | simp)) | apply Below.drew)))).mono ?_); rintro e w6 ⟨g6, m6, e6, rfl, hz6, hv6, hs6, hb6⟩; have HZ6 := Lib.hid hz6; have HV6 := Lib.hid hv6; have HS6 := Lib.hid hs6; have hbb6 : Below w3.heap.size w3 w6 := (by repeat (first | exact Below.refl _ _ | refine below_drewN ?_ _ | refine Below.alloc ?_ (by first | omega | (simp; omega) | simp) _ | refine Below.setCell ?_ (by first | omega | (simp; omega) | simp) _ | refine Below.trans ?_ (Below.mono (by assumption) (by first | omega | (simp; omega) | simp)) | apply Below.drew)); have zz6 := hbb6.size; have zy6 := hb6.size; (try simp at zy6); have y60 : w.heap.size < w6.heap.size := (by omega); have y61 : w.heap.size + 1 < w6.heap.size := (by omega); have p60 := (hbb6.cell (p := ⟨w.heap.size, 0, none⟩) l0).trans a0; have p61 := (hbb6.cell (p := ⟨w.heap.size, 1, none⟩) l0).trans a1; have p62 := (hbb6.cell (p := ⟨w.heap.size + 1, 0, none⟩) l1).trans a2; have p63 := (hbb6.cell (p := ⟨w.heap.size + 1, 1, none⟩) l1).trans a3; have p64 := (hbb6.cell (p := ⟨w.heap.size + 1, 2, none⟩) l1).trans a4; have p65 := (hbb6.cell (p := ⟨w.heap.size + 1, 3, none⟩) l1).trans a5; have p66 := (hbb6.cell (p := ⟨w.heap.size + 1, 4, none⟩) l1).trans a6; have p67 := (hbb6.cell (p := ⟨w.heap.size + 1, 5, none⟩) l1).trans a7; have HB6 := Lib.hid hbb6; clear hz6 hv6 hs6 hbb6)
  refine hK.out _ _ ?_ (fun hHeld => ?_)
  · (refine ⟨?_, ?_, ?_, ?_, ?_, ?_, ?_, ?_⟩ <;> with_reducible assumption)
  clear hK K
  try simp only [Act.put, List.setIfInBounds_toArray, List.set_cons_zero, List.set_cons_succ]
  refine wpAnyH_ready (rs := [13]) (by kernel_rfl) (by simp) ?_
  refine AllReadyH.cons rfl (fun K hK => ?_) AllReadyH.nil
  go_simp
  (go_at_call 62; (with_reducible refine (HEh.out _).mono ?_); rintro e w7 ⟨g7, m7, e7, rfl, hz7, hv7, hs7, hb7⟩; have HZ7 := Lib.hid hz7; have HV7 := Lib.hid hv7; have HS7 := Lib.hid hs7; have hbb7 : Below w3.heap.size w3 w7 := (by repeat (first | exact Below.refl _ _ | refine below_drewN ?_ _ | refine Below.alloc ?_ (by first | omega | (simp; omega) | simp) _ | refine Below.setCell ?_ (by first | omega | (simp; omega) | simp) _ | refine Below.trans ?_ (Below.mono (by assumption) (by first | omega | (simp; omega) | simp)) | apply Below.drew)); have zz7 := hbb7.size; have zy7 := hb7.size; (try simp at zy7); have y70 : w.heap.size < w7.heap.size := (by omega); have y71 : w.heap.size + 1 < w7.heap.size := (by omega); have p70 := (hbb7.cell (p := ⟨w.heap.size, 0, none⟩) l0).trans a0; have p71 := (hbb7.cell (p := ⟨w.heap.size, 1, none⟩) l0).trans a1; have p72 := (hbb7.cell (p := ⟨w.heap.size + 1, 0, none⟩) l1).trans a2; have p73 := (hbb7.cell (p := ⟨w.heap.size + 1, 1, none⟩) l1).trans a3; have p74 := (hbb7.cell (p := ⟨w.heap.size + 1, 2, none⟩) l1).trans a4; have p75 := (hbb7.cell (p := ⟨w.heap.size + 1, 3, none⟩) l1).trans a5; have p76 := (hbb7.cell (p := ⟨w.heap.size + 1, 4, none⟩) l1).trans a6; have p77 := (hbb7.cell (p := ⟨w.heap.size + 1, 5, none⟩) l1).trans a7; have HB7 := Lib.hid hbb7; clear hz7 hv7 hs7 hbb7)
  refine hK.out _ _ ?_ (fun hHeld => ?_)
  · (refine ⟨?_, ?_, ?_, ?_, ?_, ?_, ?_, ?_⟩ <;> with_reducible assumption)
  clear hK K
  try simp only [Act.put, List.setIfInBounds_toArray, List.set_cons_zero, List.set_cons_succ]
  refine wpAnyH_ready (rs := [17]) (by kernel_rfl) (by simp) ?_
  refine AllReadyH.cons rfl (fun K hK => ?_) AllReadyH.nil
  go_simp
  (go_at_call 64; (with_reducible refine (HXb.out _ (tab64_below HT3.out (by repeat (first | exact Below.refl _ _ | refine below_drewN ?_ _ | refine Below.alloc ?_ (by first | omega | (simp; omega) | simp) _ | refine Below.setCell ?_ (by first | omega | (simp; omega) | simp) _ | refine Below.trans ?_ (Below.mono (by assumption) (by first | omega | (simp; omega) | simp)) | apply Below.drew)))).mono ?_); rintro e w8 ⟨g8, m8, e8, rfl, hz8, hv8, hs8, hb8⟩; have HZ8 := Lib.hid hz8; have HV8 := Lib.hid hv8; have HS8 := Lib.hid hs8; have hbb8 : Below w3.heap.size w3 w8 := (by repeat (first | exact Below.refl _ _ | refine below_drewN ?_ _ | refine Below.alloc ?_ (by first | omega | (simp; omega) | simp) _ | refine Below.setCell ?_ (by first | omega | (simp; omega) | simp) _ | refine Below.trans ?_ (Below.mono (by assumption) (by first | omega | (simp; omega) | simp)) | apply Below.drew)); have zz8 := hbb8.size; have zy8 := hb8.size; (try simp at zy8); have y80 : w.heap.size < w8.heap.size := (by omega); have y81 : w.heap.size + 1 < w8.heap.size := (by omega); have p80 := (hbb8.cell (p := ⟨w.heap.size, 0, none⟩) l0).trans a0; have p81 := (hbb8.cell (p := ⟨w.heap.size, 1, none⟩) l0).trans a1; have p82 := (hbb8.cell (p := ⟨w.heap.size + 1, 0, none⟩) l1).trans a2; have p83 := (hbb8.cell (p := ⟨w.heap.size + 1, 1, none⟩) l1).trans a3; have p84 := (hbb8.cell (p := ⟨w.heap.size + 1, 2, none⟩) l1).trans a4; have p85 := (hbb8.cell (p := ⟨w.heap.size + 1, 3, none⟩) l1).trans a5; have p86 := (hbb8.cell (p := ⟨w.heap.size + 1, 4, none⟩) l1).trans a6; have p87 := (hbb8.cell (p := ⟨w.heap.size + 1, 5, none⟩) l1).trans a7; have HB8 := Lib.hid hbb8; clear hz8 hv8 hs8 hbb8)
  refine hK.out _ _ ?_ (fun hHeld => ?_)
  · (refine ⟨?_, ?_, ?_, ?_, ?_, ?_, ?_, ?_⟩ <;> with_reducible assumption)
  clear hK K
  try simp only [Act.put, List.setIfInBounds_toArray, List.set_cons_zero, List.set_cons_succ]
  refine wpAnyH_ready (rs := [18]) (by kernel_rfl) (by simp) ?_
  refine AllReadyH.cons rfl (fun K hK => ?_) AllReadyH.nil
  go_simp
  (go_at_call 63; (with_reducible refine (HLE.out _ _ _ _ _ _ (HS7.out.mono (by omega)) (HS8.out.mono (by omega)) _ (HZ7.out.below (by repeat (first | exact Below.refl _ _ | refine below_drewN ?_ _ | refine Below.alloc ?_ (by first | omega | (simp; omega) | simp) _ | refine Below.setCell ?_ (by first | omega | (simp; omega) | simp) _ | refine Below.trans ?_ (Below.mono (by assumption) (by first | omega | (simp; omega) | simp)) | apply Below.drew))) (HZ8.out.below (by repeat (first | exact Below.refl _ _ | refine below_drewN ?_ _ | refine Below.alloc ?_ (by first | omega | (simp; omega) | simp) _ | refine Below.setCell ?_ (by first | omega | (simp; omega) | simp) _ | refine Below.trans ?_ (Below.mono (by assumption) (by first | omega | (simp; omega) | simp)) | apply Below.drew)))).mono ?_); rintro e w9 ⟨g9, m9, e9, rfl, hz9, hv9, hs9, hb9⟩; have HZ9 := Lib.hid hz9; have HV9 := Lib.hid hv9; have HS9 := Lib.hid hs9; have hbb9 : Below w3.heap.size w3 w9 := (by repeat (first | exact Below.refl _ _ | refine below_drewN ?_ _ | refine Below.alloc ?_ (by first | omega | (simp; omega) | simp) _ | refine Below.setCell ?_ (by first | omega | (simp; omega) | simp) _ | refine Below.trans ?_ (Below.mono (by assumption) (by first | omega | (simp; omega) | simp)) | apply Below.drew)); have zz9 := hbb9.size; have zy9 := hb9.size; (try simp at zy9); have y90 : w.heap.size < w9.heap.size := (by omega); have y91 : w.heap.size + 1 < w9.heap.size := (by omega); have p90 := (hbb9.cell (p := ⟨w.heap.size, 0, none⟩) l0).trans a0; have p91 := (hbb9.cell (p := ⟨w.heap.size, 1, none⟩) l0).trans a1; have p92 := (hbb9.cell (p := ⟨w.heap.size + 1, 0, none⟩) l1).trans a2; have p93 := (hbb9.cell (p := ⟨w.heap.size + 1, 1, none⟩) l1).trans a3; have p94 := (hbb9.cell (p := ⟨w.heap.size + 1, 2, none⟩) l1).trans a4; have p95 := (hbb9.cell (p := ⟨w.heap.size + 1, 3, none⟩) l1).trans a5; have p96 := (hbb9.cell (p := ⟨w.heap.size + 1, 4, none⟩) l1).trans a6; have p97 := (hbb9.cell (p := ⟨w.heap.size + 1, 5, none⟩) l1).trans a7; have HB9 := Lib.hid hbb9; clear hz9 hv9 hs9 hbb9)
  refine hK.out _ _ ?_ (fun hHeld => ?_)
  · (refine ⟨?_, ?_, ?_, ?_, ?_, ?_, ?_, ?_⟩ <;> with_reducible assumption)
  clear hK K
  try simp only [Act.put, List.setIfInBounds_toArray, List.set_cons_zero, List.set_cons_succ]
  refine wpAnyH_ready (rs := [21]) (by kernel_rfl) (by simp) ?_
  refine AllReadyH.cons rfl (fun K hK => ?_) AllReadyH.nil
  go_simp
  (go_at_call 64; (with_reducible refine (HXr.out _ (tab64_below HT3.out (by repeat (first | exact Below.refl _ _ | refine below_drewN ?_ _ | refine Below.alloc ?_ (by first | omega | (simp; omega) | simp) _ | refine Below.setCell ?_ (by first | omega | (simp; omega) | simp) _ | refine Below.trans ?_ (Below.mono (by assumption) (by first | omega | (simp; omega) | simp)) | apply Below.drew)))).mono ?_); rintro e w10 ⟨g10, m10, e10, rfl, hz10, hv10, hs10, hb10⟩; have HZ10 := Lib.hid hz10; have HV10 := Lib.hid hv10; have HS10 := Lib.hid hs10; have hbb10 : Below w3.heap.size w3 w10 := (by repeat (first | exact Below.refl _ _ | refine below_drewN ?_ _ | refine Below.alloc ?_ (by first | omega | (simp; omega) | simp) _ | refine Below.setCell ?_ (by first | omega | (simp; omega) | simp) _ | refine Below.trans ?_ (Below.mono (by assumption) (by first | omega | (simp; omega) | simp)) | apply Below.drew)); have zz10 := hbb10.size; have zy10 := hb10.size; (try simp at zy10); have y100 : w.heap.size < w10.heap.size := (by omega); have y101 : w.heap.size + 1 < w10.heap.size := (by omega); have p100 := (hbb10.cell (p := ⟨w.heap.size, 0, none⟩) l0).trans a0; have p101 := (hbb10.cell (p := ⟨w.heap.size, 1, none⟩) l0).trans a1; have p102 := (hbb10.cell (p := ⟨w.heap.size + 1, 0, none⟩) l1).trans a2; have p103 := (hbb10.cell (p := ⟨w.heap.size + 1, 1, none⟩) l1).trans a3; have p104 := (hbb10.cell (p := ⟨w.heap.size + 1, 2, none⟩) l1).trans a4; have p105 := (hbb10.cell (p := ⟨w.heap.size + 1, 3, none⟩) l1).trans a5; have p106 := (hbb10.cell (p := ⟨w.heap.size + 1, 4, none⟩) l1).trans a6; have p107 := (hbb10.cell (p := ⟨w.heap.size + 1, 5, none⟩) l1).trans a7; have HB10 := Lib.hid hbb10; clear hz10 hv10 hs10 hbb10)
  refine hK.out _ _ ?_ (fun hHeld => ?_)
  · (refine ⟨?_, ?_, ?_, ?_, ?_, ?_, ?_, ?_⟩ <;> with_reducible assumption)
  clear hK K
  try simp only [Act.put, List.setIfInBounds_toArray, List.set_cons_zero, List.set_cons_succ]
  refine wpAnyH_ready (rs := [22]) (by kernel_rfl) (by simp) ?_
  refine AllReadyH.cons rfl (fun K hK => ?_) AllReadyH.nil
  go_simp
  (go_at_call 61; (with_reducible refine (HFA.out g6 g9 g10 m6 m9 m10 e6 e9 e10 HS6.out HS9.out (HS10.out.mono (by omega)) _ (HZ6.out.below (by repeat (first | exact Below.refl _ _ | refine below_drewN ?_ _ | refine Below.alloc ?_ (by first | omega | (simp; omega) | simp) _ | refine Below.setCell ?_ (by first | omega | (simp; omega) | simp) _ | refine Below.trans ?_ (Below.mono (by assumption) (by first | omega | (simp; omega) | simp)) | apply Below.drew))) (HZ9.out.below (by repeat (first | exact Below.refl _ _ | refine below_drewN ?_ _ | refine Below.alloc ?_ (by first | omega | (simp; omega) | simp) _ | refine Below.setCell ?_ (by first | omega | (simp; omega) | simp) _ | refine Below.trans ?_ (Below.mono (by assumption) (by first | omega | (simp; omega) | simp)) | apply Below.drew))) (HZ10.out.below (by repeat (first | exact Below.refl _ _ | refine below_drewN ?_ _ | refine Below.alloc ?_ (by first | omega | (simp; omega) | simp) _ | refine Below.setCell ?_ (by first | omega | (simp; omega) | simp) _ | refine Below.trans ?_ (Below.mono (by assumption) (by first | omega | (simp; omega) | simp)) | apply Below.drew))) (num_nonneg HV10.out HRQ.out)).mono ?_); rintro e w13 ⟨rfl, hb13⟩; have hbb13 : Below w3.heap.size w3 w13 := (by repeat (first | exact Below.refl _ _ | refine below_drewN ?_ _ | refine Below.alloc ?_ (by first | omega | (simp; omega) | simp) _ | refine Below.setCell ?_ (by first | omega | (simp; omega) | simp) _ | refine Below.trans ?_ (Below.mono (by assumption) (by first | omega | (simp; omega) | simp)) | apply Below.drew)); have zz13 := hbb13.size; have y130 : w.heap.size < w13.heap.size := (by omega); have y131 : w.heap.size + 1 < w13.heap.size := (by omega); have p130 := (hbb13.cell (p := ⟨w.heap.size, 0, none⟩) l0).trans a0; have p131 := (hbb13.cell (p := ⟨w.heap.size, 1, none⟩) l0).trans a1; have p132 := (hbb13.cell (p := ⟨w.heap.size + 1, 0, none⟩) l1).trans a2; have p133 := (hbb13.cell (p := ⟨w.heap.size + 1, 1, none⟩) l1).trans a3; have p134 := (hbb13.cell (p := ⟨w.heap.size + 1, 2, none⟩) l1).trans a4; have p135 := (hbb13.cell (p := ⟨w.heap.size + 1, 3, none⟩) l1).trans a5; have p136 := (hbb13.cell (p := ⟨w.heap.size + 1, 4, none⟩) l1).trans a6; have p137 := (hbb13.cell (p := ⟨w.heap.size + 1, 5, none⟩) l1).trans a7; have HB13 := Lib.hid hbb13; clear hbb13)
  refine hK.out _ _ ?_ (fun hHeld => ?_)
  · (refine ⟨?_, ?_, ?_, ?_, ?_, ?_, ?_, ?_⟩ <;> with_reducible assumption)
  clear hK K
  try simp only [Act.put, List.setIfInBounds_toArray, List.set_cons_zero, List.set_cons_succ]
  refine wpAnyH_take (i := 23) (v := ?v23) rfl (by kernel_rfl) (by kernel_rfl) (by kernel_rfl) (fun _ _ _ h => h) (Or.inl ⟨by kernel_rfl, ?h23⟩) (by assumption) ?r23
  case h23 => (intro w hSw; (try dsimp only at hSw); go_simp; (try with_reducible rfl))
  try simp only [Act.put, List.setIfInBounds_toArray]
  refine wpAnyH_take (i := 24) (v := ?v24) rfl (by kernel_rfl) (by kernel_rfl) (by kernel_rfl) (fun _ _ _ h => h) (Or.inl ⟨by kernel_rfl, ?h24⟩) (by assumption) ?r24
  case h24 => (intro w hSw; (try dsimp only at hSw); go_simp; (try with_reducible rfl))
  try simp only [Act.put]
  refine wpAnyH_ready (rs := [25]) (by kernel_rfl) (by simp) ?_
  refine AllReadyH.cons rfl (fun K hK => ?_) AllReadyH.nil
  go_simp
  refine hK.out _ _ ?_ (fun hHeld => ?_)
  · (refine ⟨?_, ?_, ?_, ?_, ?_, ?_, ?_, ?_⟩ <;> with_reducible assumption)
  clear hK K
  try simp only [Act.put, List.setIfInBounds_toArray, List.set_cons_zero, List.set_cons_succ]
  refine wpAnyH_done (by kernel_rfl) ?_ _
  have hdec : (!decide (nv m10 e10 * nv m10 e10 < nv m6 e6 * nv m6 e6 + nv m9 e9 * nv m9 e9)) = rr := by
    rw [HR.out]
    unfold nv
    rw [HV10.out, HV6.out, HV9.out, HV4.out, HV5.out, HV7.out, HV8.out]
  rw [hdec]
  clear hdec
  go_wp2
  go_ret
  exact ⟨rfl, by repeat (first | exact Below.refl _ _ | refine below_drewN ?_ _ | refine Below.alloc ?_ (by first | omega | (simp; omega) | simp) _ | refine Below.setCell ?_ (by first | omega | (simp; omega) | simp) _ | refine Below.trans ?_ (Below.mono (by assumption) (by first | omega | (simp; omega) | simp)) | apply Below.drew)⟩
end Go.Proofs.YtbgjcpnbdgljbaaGreatDoor
