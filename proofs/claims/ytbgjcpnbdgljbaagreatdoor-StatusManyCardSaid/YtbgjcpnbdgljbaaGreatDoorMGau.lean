/- The contracts of gauss.Check, all, and of the keeper. -/
import Derived.Test.YtbgjcpnbdgljbaaGreatDoorMDyg
namespace Go.Proofs.YtbgjcpnbdgljbaaGreatDoor
open Go.RowKit Go.Fil Go.Shelf

abbrev Gs := Dya × Dya
def okG (g : Gs) : Prop := okD g.1 ∧ okD g.2
set_option maxRecDepth 100000 in
set_option maxHeartbeats 1600000 in
theorem gcheck_any (a b : Dya) (ha : okD a) (hb : okD b) (w : World) :
    Calls Tryz.prog 35 #[.agg #[.bool (dn a), .string (ds a), .int .i64 a.e, .bool (dn b), .string (ds b), .int .i64 b.e]] w fun e w' => e = .returned (.int .i64 0) ∧ Below w.heap.size w w' := by
  have HA := Lib.hid (dcheckV a ha)
  have HB := Lib.hid (dcheckV b hb)
  clear ha hb
  generalize dn a = na at *
  generalize ds a = sa at *
  generalize a.e = xa at *
  generalize dn b = nb at *
  generalize ds b = sb at *
  generalize b.e = xb at *
  go_enter Tryz.func35, Tryz.ntmps35
  go_wp2_with (first
    | (go_at_call 83; (with_reducible refine (HA.out _).mono ?_); rintro e w1 ⟨rfl, hb⟩; obtain ⟨hc, hf⟩ := bcell hb; (try simp only [World.heap_drewN, World.cell?_drewN, World.frozen?_drewN] at hc hf); have z0 : w.heap.size < w1.heap.size := (by have := hb.size; try simp at this; omega))
    | (go_at_call 83; (with_reducible refine (HB.out _).mono ?_); rintro e w2 ⟨rfl, hb2⟩))
  go_ret
  exact ⟨rfl, by repeat (first | exact Below.refl _ _ | refine below_drewN ?_ _ | refine Below.alloc ?_ (by first | omega | (simp; omega) | simp) _ | refine Below.setCell ?_ (by first | omega | (simp; omega) | simp) _ | refine Below.trans ?_ (Below.mono (by assumption) (by first | omega | (simp; omega) | simp)) | apply Below.drew)⟩
/-- Two numbers in a slice. -/
def TwoG (w : World) (g : Nat) (a b c d : Dya) : Prop := w.cell? ⟨g, 0, none⟩ = some (.bool (dn a)) ∧ w.cell? ⟨g, 1, none⟩ = some (.string (ds a)) ∧ w.cell? ⟨g, 2, none⟩ = some (.int .i64 a.e) ∧ w.cell? ⟨g, 3, none⟩ = some (.bool (dn b)) ∧ w.cell? ⟨g, 4, none⟩ = some (.string (ds b)) ∧ w.cell? ⟨g, 5, none⟩ = some (.int .i64 b.e) ∧ w.cell? ⟨g, 6, none⟩ = some (.bool (dn c)) ∧ w.cell? ⟨g, 7, none⟩ = some (.string (ds c)) ∧ w.cell? ⟨g, 8, none⟩ = some (.int .i64 c.e) ∧ w.cell? ⟨g, 9, none⟩ = some (.bool (dn d)) ∧ w.cell? ⟨g, 10, none⟩ = some (.string (ds d)) ∧ w.cell? ⟨g, 11, none⟩ = some (.int .i64 d.e)
set_option maxRecDepth 100000 in
set_option maxHeartbeats 1600000 in
theorem gall_any (a b c d : Dya) (ha : okD a) (hb : okD b) (hc : okD c) (hd : okD d) (g : Nat) (w : World) (hg : g < w.heap.size) (hT : TwoG w g a b c d) :
    Calls Tryz.prog 41 #[.slice (some ⟨g, 0, none⟩) 2 2] w fun e w' => e = .returned (.bool true) ∧ Below w.heap.size w w' := by
  obtain ⟨h0, h1, h2, h3, h4, h5, h6, h7, h8, h9, h10, h11⟩ := hT
  have HA := Lib.hid (gcheck_any a b ha hb)
  have HB := Lib.hid (gcheck_any c d hc hd)
  clear ha hb hc hd
  generalize dn a = na at *
  generalize ds a = sa at *
  generalize a.e = xa at *
  generalize dn b = nb at *
  generalize ds b = sb at *
  generalize b.e = xb at *
  generalize dn c = nc at *
  generalize ds c = sc at *
  generalize c.e = xc at *
  generalize dn d = nd at *
  generalize ds d = sd at *
  generalize d.e = xd at *
  go_enter Tryz.func41, Tryz.ntmps41
  go_wp2
  refine wp_loop_rounds 3 ?_
  rw [rounds_succ]
  go_wp2_with (go_at_call 35; refine (HA.out _).mono ?_; rintro e w1 ⟨rfl, hb1⟩; have hsz := hb1.size; (try simp at hsz); have hbw : Below w.heap.size w w1 := (by repeat (first | exact Below.refl _ _ | refine below_drewN ?_ _ | refine Below.alloc ?_ (by first | omega | (simp; omega) | simp) _ | refine Below.setCell ?_ (by first | omega | (simp; omega) | simp) _ | refine Below.trans ?_ (Below.mono (by assumption) (by first | omega | (simp; omega) | simp)) | apply Below.drew)); have k6 := (hbw.cell (p := ⟨g, 6, none⟩) hg).trans h6; have k7 := (hbw.cell (p := ⟨g, 7, none⟩) hg).trans h7; have k8 := (hbw.cell (p := ⟨g, 8, none⟩) hg).trans h8; have k9 := (hbw.cell (p := ⟨g, 9, none⟩) hg).trans h9; have k10 := (hbw.cell (p := ⟨g, 10, none⟩) hg).trans h10; have k11 := (hbw.cell (p := ⟨g, 11, none⟩) hg).trans h11; have hg1 : g < w1.heap.size := (by omega))
  rw [rounds_succ]
  go_wp2_with (go_at_call 35; refine (HB.out _).mono ?_; rintro e w2 ⟨rfl, hb2⟩)
  rw [rounds_succ]
  go_wp2
  go_ret
  exact ⟨rfl, by repeat (first | exact Below.refl _ _ | refine below_drewN ?_ _ | refine Below.alloc ?_ (by first | omega | (simp; omega) | simp) _ | refine Below.setCell ?_ (by first | omega | (simp; omega) | simp) _ | refine Below.trans ?_ (Below.mono (by assumption) (by first | omega | (simp; omega) | simp)) | apply Below.drew)⟩
/-- What a kept function has caught: the keeper (no error yet), and the operation. -/
structure KeptAt (w : World) (kb ob k N : Nat) : Prop where
  c1 : w.cell? ⟨kb, 0, none⟩ = some (.pointer (some ⟨k, 0, none⟩))
  c2 : w.cell? ⟨ob, 0, none⟩ = some (.func (.func N) #[] #[])
  c3 : w.heap[k]? = some (.cells #[.int .i64 0] 84 (0, 0))
  l1 : kb < w.heap.size
  l2 : ob < w.heap.size
theorem KeptAt.l3 {w : World} {kb ob k N : Nat} (h : KeptAt w kb ob k N) : k < w.heap.size := by
  rcases Nat.lt_or_ge k w.heap.size with hh | hh
  · exact hh
  · have := h.c3
    rw [Array.getElem?_eq_none hh] at this; cases this
theorem KeptAt.below {w w' : World} {kb ob k N : Nat} (h : KeptAt w kb ob k N) (hb : Below w.heap.size w w') : KeptAt w' kb ob k N :=
  ⟨(hb.cell (p := ⟨kb, 0, none⟩) h.l1).trans h.c1, (hb.cell (p := ⟨ob, 0, none⟩) h.l2).trans h.c2, by rw [hb.block k h.l3]; exact h.c3, Nat.lt_of_lt_of_le h.l1 hb.size, Nat.lt_of_lt_of_le h.l2 hb.size⟩
theorem KeptAt.c4 {w : World} {kb ob k N : Nat} (h : KeptAt w kb ob k N) : w.cell? ⟨k, 0, none⟩ = some (.int .i64 0) ∧ w.frozen? ⟨k, 0, none⟩ = false := by
  refine ⟨?_, frozen_of_row w k 0 _ _ h.c3⟩
  rw [cell_of_row w k 0 _ _ (0, 0) h.c3]; rfl
/-- What stands there is written anew. -/
theorem below_again {B : Nat} {w w1 : World} {k : Nat} (hb : Below B w w1) (h : w1.heap[k]? = some (.cells #[.int .i64 0] 84 (0, 0))) : Below B w (w1.setCell ⟨k, 0, none⟩ (.int .i64 0)) := by
  have h1 := heap_setCell_same w1 k 0 _ _ (.int .i64 0) h
  refine ⟨hb.os, hb.tape, hb.output, by simpa using hb.size, fun i hi => ?_⟩
  by_cases hik : i = k
  · subst hik
    rw [h1, ← hb.block i hi, h]; rfl
  · rw [heap_setCell_other _ ⟨k, 0, none⟩ i _ (fun e => hik (by simp [e]))]
    exact hb.block i hi
set_option maxRecDepth 100000 in
theorem mkept_any (k N : Nat) (w : World) :
    Calls Tryz.prog 42 #[.pointer (some ⟨k, 0, none⟩), .func (.func N) #[] #[]] w fun e w' => e = .returned (.func (.func 88) #[] #[.pointer (some ⟨w.heap.size, 0, none⟩), .pointer (some ⟨w.heap.size + 1, 0, none⟩)]) ∧ w' = (w.alloc (.cells #[.pointer (some ⟨k, 0, none⟩)] 82)).alloc (.cells #[.func (.func N) #[] #[]] 87) := by
  have hmf : ∀ (fn : Fn) (first cap : Array Value) (w : World), (Instr.makeFunc fn first cap).run Tryz.prog w = .ok (.func fn first cap) w := fun _ _ _ _ => rfl
  go_enter Tryz.func42, Tryz.ntmps42
  go_wp2
  go_ret
  exact ⟨rfl, rfl⟩
set_option maxRecDepth 100000 in
set_option maxHeartbeats 3200000 in
theorem kept_add (a b D : Dya) (kb ob k : Nat) (w : World) (hk : KeptAt w kb ob k 43) (hT : Tab w)
    (hop : ∀ w : World, Tab w → Calls Tryz.prog 43 #[.agg #[.bool (dn a), .string (ds a), .int .i64 a.e], .agg #[.bool (dn b), .string (ds b), .int .i64 b.e]] w (RDv D w)) :
    Calls Tryz.prog 88 #[.agg #[.bool (dn a), .string (ds a), .int .i64 a.e], .agg #[.bool (dn b), .string (ds b), .int .i64 b.e], .pointer (some ⟨kb, 0, none⟩), .pointer (some ⟨ob, 0, none⟩)] w fun e w' => e = .returned (.agg #[.bool (dn D), .string (ds D), .int .i64 D.e]) ∧ Below w.heap.size w w' := by
  have HOP := Lib.hid hop
  have HK := Lib.hid hk
  have HT := Lib.hid hT
  have q1 := hk.c1
  have q2 := hk.c2
  obtain ⟨q3, q4⟩ := hk.c4
  have p1 := hk.l1
  have p2 := hk.l2
  have p3 := hk.l3
  clear hop hk hT
  unfold RDv at HOP
  generalize dn a = na at *
  generalize ds a = sa at *
  generalize a.e = xa at *
  generalize dn b = nb at *
  generalize ds b = sb at *
  generalize b.e = xb at *
  generalize dn D = nd at *
  generalize ds D = sd at *
  generalize D.e = xd at *
  have hb3 : Below w.heap.size w (((w.alloc (.cells #[.bool na, .string sa, .int .i64 xa] 29)).alloc (.cells #[.bool nb, .string sb, .int .i64 xb] 29)).alloc (.cells #[.bool false, .string ⟨#[]⟩, .int .i64 0] 29)) := by repeat (first | exact Below.refl _ _ | refine below_drewN ?_ _ | refine Below.alloc ?_ (by first | omega | (simp; omega) | simp) _ | refine Below.setCell ?_ (by first | omega | (simp; omega) | simp) _ | refine Below.trans ?_ (Below.mono (by assumption) (by first | omega | (simp; omega) | simp)) | apply Below.drew)
  have w1' := (hb3.cell (p := ⟨kb, 0, none⟩) p1).trans q1
  have w2' := (hb3.cell (p := ⟨ob, 0, none⟩) p2).trans q2
  have w3' := (hb3.cell (p := ⟨k, 0, none⟩) p3).trans q3
  clear hb3 q1 q2 q3
  go_enter Tryz.func88, Tryz.ntmps88
  go_wp2_with (go_at_call 43; refine (HOP.out _ (HT.out.below (by repeat (first | exact Below.refl _ _ | refine below_drewN ?_ _ | refine Below.alloc ?_ (by first | omega | (simp; omega) | simp) _ | refine Below.setCell ?_ (by first | omega | (simp; omega) | simp) _ | refine Below.trans ?_ (Below.mono (by assumption) (by first | omega | (simp; omega) | simp)) | apply Below.drew)))).mono ?_; rintro e w1 ⟨rfl, hb⟩; have HB1 := Lib.hid (show Below w.heap.size w w1 by repeat (first | exact Below.refl _ _ | refine below_drewN ?_ _ | refine Below.alloc ?_ (by first | omega | (simp; omega) | simp) _ | refine Below.setCell ?_ (by first | omega | (simp; omega) | simp) _ | refine Below.trans ?_ (Below.mono (by assumption) (by first | omega | (simp; omega) | simp)) | apply Below.drew)); have HK1 := Lib.hid (HK.out.below HB1.out); have q1' := HK1.out.c1; have q3' := HK1.out.c4.1; have q4' := HK1.out.c4.2; have p1' := HK1.out.l1; have p3' := HK1.out.l3; obtain ⟨hc, hf⟩ := bcell hb; (try simp only [World.heap_drewN, World.cell?_drewN, World.frozen?_drewN] at hc hf); have z0 : w.heap.size < w1.heap.size := (by have := hb.size; try simp at this; omega); have z2 : w.heap.size + 1 + 1 < w1.heap.size := (by have := hb.size; (try simp at this); omega); have j1 : k ≠ w.heap.size := (by omega); have j2 : k ≠ w.heap.size + 1 + 1 := (by omega); have j3 : k ≠ w1.heap.size := (by omega); have j4 : kb ≠ w1.heap.size := (by omega); have j5 : w.heap.size + 1 + 1 ≠ w1.heap.size := (by omega))
  have hba := below_again HB1.out HK1.out.c3
  have hsz1 := HB1.out.size
  exact bodyPost_ret (v := .agg #[.bool nd, .string sd, .int .i64 xd]) (by simp [results, Tryz.results88, go_sem, *]) rfl ⟨rfl, (((hba.setCell (by simp; omega) _).setCell (by simp; omega) _).setCell (by simp; omega) _).alloc (by simp; omega) _⟩
set_option maxRecDepth 100000 in
set_option maxHeartbeats 3200000 in
theorem kept_sub (a b D : Dya) (kb ob k : Nat) (w : World) (hk : KeptAt w kb ob k 47) (hT : Tab w)
    (hop : ∀ w : World, Tab w → Calls Tryz.prog 47 #[.agg #[.bool (dn a), .string (ds a), .int .i64 a.e], .agg #[.bool (dn b), .string (ds b), .int .i64 b.e]] w (RDv D w)) :
    Calls Tryz.prog 88 #[.agg #[.bool (dn a), .string (ds a), .int .i64 a.e], .agg #[.bool (dn b), .string (ds b), .int .i64 b.e], .pointer (some ⟨kb, 0, none⟩), .pointer (some ⟨ob, 0, none⟩)] w fun e w' => e = .returned (.agg #[.bool (dn D), .string (ds D), .int .i64 D.e]) ∧ Below w.heap.size w w' := by
  have HOP := Lib.hid hop
  have HK := Lib.hid hk
  have HT := Lib.hid hT
  have q1 := hk.c1
  have q2 := hk.c2
  obtain ⟨q3, q4⟩ := hk.c4
  have p1 := hk.l1
  have p2 := hk.l2
  have p3 := hk.l3
  clear hop hk hT
  unfold RDv at HOP
  generalize dn a = na at *
  generalize ds a = sa at *
  generalize a.e = xa at *
  generalize dn b = nb at *
  generalize ds b = sb at *
  generalize b.e = xb at *
  generalize dn D = nd at *
  generalize ds D = sd at *
  generalize D.e = xd at *
  have hb3 : Below w.heap.size w (((w.alloc (.cells #[.bool na, .string sa, .int .i64 xa] 29)).alloc (.cells #[.bool nb, .string sb, .int .i64 xb] 29)).alloc (.cells #[.bool false, .string ⟨#[]⟩, .int .i64 0] 29)) := by repeat (first | exact Below.refl _ _ | refine below_drewN ?_ _ | refine Below.alloc ?_ (by first | omega | (simp; omega) | simp) _ | refine Below.setCell ?_ (by first | omega | (simp; omega) | simp) _ | refine Below.trans ?_ (Below.mono (by assumption) (by first | omega | (simp; omega) | simp)) | apply Below.drew)
  have w1' := (hb3.cell (p := ⟨kb, 0, none⟩) p1).trans q1
  have w2' := (hb3.cell (p := ⟨ob, 0, none⟩) p2).trans q2
  have w3' := (hb3.cell (p := ⟨k, 0, none⟩) p3).trans q3
  clear hb3 q1 q2 q3
  go_enter Tryz.func88, Tryz.ntmps88
  go_wp2_with (go_at_call 47; refine (HOP.out _ (HT.out.below (by repeat (first | exact Below.refl _ _ | refine below_drewN ?_ _ | refine Below.alloc ?_ (by first | omega | (simp; omega) | simp) _ | refine Below.setCell ?_ (by first | omega | (simp; omega) | simp) _ | refine Below.trans ?_ (Below.mono (by assumption) (by first | omega | (simp; omega) | simp)) | apply Below.drew)))).mono ?_; rintro e w1 ⟨rfl, hb⟩; have HB1 := Lib.hid (show Below w.heap.size w w1 by repeat (first | exact Below.refl _ _ | refine below_drewN ?_ _ | refine Below.alloc ?_ (by first | omega | (simp; omega) | simp) _ | refine Below.setCell ?_ (by first | omega | (simp; omega) | simp) _ | refine Below.trans ?_ (Below.mono (by assumption) (by first | omega | (simp; omega) | simp)) | apply Below.drew)); have HK1 := Lib.hid (HK.out.below HB1.out); have q1' := HK1.out.c1; have q3' := HK1.out.c4.1; have q4' := HK1.out.c4.2; have p1' := HK1.out.l1; have p3' := HK1.out.l3; obtain ⟨hc, hf⟩ := bcell hb; (try simp only [World.heap_drewN, World.cell?_drewN, World.frozen?_drewN] at hc hf); have z0 : w.heap.size < w1.heap.size := (by have := hb.size; try simp at this; omega); have z2 : w.heap.size + 1 + 1 < w1.heap.size := (by have := hb.size; (try simp at this); omega); have j1 : k ≠ w.heap.size := (by omega); have j2 : k ≠ w.heap.size + 1 + 1 := (by omega); have j3 : k ≠ w1.heap.size := (by omega); have j4 : kb ≠ w1.heap.size := (by omega); have j5 : w.heap.size + 1 + 1 ≠ w1.heap.size := (by omega))
  have hba := below_again HB1.out HK1.out.c3
  have hsz1 := HB1.out.size
  exact bodyPost_ret (v := .agg #[.bool nd, .string sd, .int .i64 xd]) (by simp [results, Tryz.results88, go_sem, *]) rfl ⟨rfl, (((hba.setCell (by simp; omega) _).setCell (by simp; omega) _).setCell (by simp; omega) _).alloc (by simp; omega) _⟩
set_option maxRecDepth 100000 in
set_option maxHeartbeats 3200000 in
theorem kept_mul (a b D : Dya) (kb ob k : Nat) (w : World) (hk : KeptAt w kb ob k 48) (hT : Tab w)
    (hop : ∀ w : World, Tab w → Calls Tryz.prog 48 #[.agg #[.bool (dn a), .string (ds a), .int .i64 a.e], .agg #[.bool (dn b), .string (ds b), .int .i64 b.e]] w (RDv D w)) :
    Calls Tryz.prog 88 #[.agg #[.bool (dn a), .string (ds a), .int .i64 a.e], .agg #[.bool (dn b), .string (ds b), .int .i64 b.e], .pointer (some ⟨kb, 0, none⟩), .pointer (some ⟨ob, 0, none⟩)] w fun e w' => e = .returned (.agg #[.bool (dn D), .string (ds D), .int .i64 D.e]) ∧ Below w.heap.size w w' := by
  have HOP := Lib.hid hop
  have HK := Lib.hid hk
  have HT := Lib.hid hT
  have q1 := hk.c1
  have q2 := hk.c2
  obtain ⟨q3, q4⟩ := hk.c4
  have p1 := hk.l1
  have p2 := hk.l2
  have p3 := hk.l3
  clear hop hk hT
  unfold RDv at HOP
  generalize dn a = na at *
  generalize ds a = sa at *
  generalize a.e = xa at *
  generalize dn b = nb at *
  generalize ds b = sb at *
  generalize b.e = xb at *
  generalize dn D = nd at *
  generalize ds D = sd at *
  generalize D.e = xd at *
  have hb3 : Below w.heap.size w (((w.alloc (.cells #[.bool na, .string sa, .int .i64 xa] 29)).alloc (.cells #[.bool nb, .string sb, .int .i64 xb] 29)).alloc (.cells #[.bool false, .string ⟨#[]⟩, .int .i64 0] 29)) := by repeat (first | exact Below.refl _ _ | refine below_drewN ?_ _ | refine Below.alloc ?_ (by first | omega | (simp; omega) | simp) _ | refine Below.setCell ?_ (by first | omega | (simp; omega) | simp) _ | refine Below.trans ?_ (Below.mono (by assumption) (by first | omega | (simp; omega) | simp)) | apply Below.drew)
  have w1' := (hb3.cell (p := ⟨kb, 0, none⟩) p1).trans q1
  have w2' := (hb3.cell (p := ⟨ob, 0, none⟩) p2).trans q2
  have w3' := (hb3.cell (p := ⟨k, 0, none⟩) p3).trans q3
  clear hb3 q1 q2 q3
  go_enter Tryz.func88, Tryz.ntmps88
  go_wp2_with (go_at_call 48; refine (HOP.out _ (HT.out.below (by repeat (first | exact Below.refl _ _ | refine below_drewN ?_ _ | refine Below.alloc ?_ (by first | omega | (simp; omega) | simp) _ | refine Below.setCell ?_ (by first | omega | (simp; omega) | simp) _ | refine Below.trans ?_ (Below.mono (by assumption) (by first | omega | (simp; omega) | simp)) | apply Below.drew)))).mono ?_; rintro e w1 ⟨rfl, hb⟩; have HB1 := Lib.hid (show Below w.heap.size w w1 by repeat (first | exact Below.refl _ _ | refine below_drewN ?_ _ | refine Below.alloc ?_ (by first | omega | (simp; omega) | simp) _ | refine Below.setCell ?_ (by first | omega | (simp; omega) | simp) _ | refine Below.trans ?_ (Below.mono (by assumption) (by first | omega | (simp; omega) | simp)) | apply Below.drew)); have HK1 := Lib.hid (HK.out.below HB1.out); have q1' := HK1.out.c1; have q3' := HK1.out.c4.1; have q4' := HK1.out.c4.2; have p1' := HK1.out.l1; have p3' := HK1.out.l3; obtain ⟨hc, hf⟩ := bcell hb; (try simp only [World.heap_drewN, World.cell?_drewN, World.frozen?_drewN] at hc hf); have z0 : w.heap.size < w1.heap.size := (by have := hb.size; try simp at this; omega); have z2 : w.heap.size + 1 + 1 < w1.heap.size := (by have := hb.size; (try simp at this); omega); have j1 : k ≠ w.heap.size := (by omega); have j2 : k ≠ w.heap.size + 1 + 1 := (by omega); have j3 : k ≠ w1.heap.size := (by omega); have j4 : kb ≠ w1.heap.size := (by omega); have j5 : w.heap.size + 1 + 1 ≠ w1.heap.size := (by omega))
  have hba := below_again HB1.out HK1.out.c3
  have hsz1 := HB1.out.size
  exact bodyPost_ret (v := .agg #[.bool nd, .string sd, .int .i64 xd]) (by simp [results, Tryz.results88, go_sem, *]) rfl ⟨rfl, (((hba.setCell (by simp; omega) _).setCell (by simp; omega) _).setCell (by simp; omega) _).alloc (by simp; omega) _⟩
set_option maxRecDepth 100000 in
set_option maxHeartbeats 3200000 in
theorem part_any (a : Dya) (k : Nat) (w : World) (hk : w.cell? ⟨k, 0, none⟩ = some (.int .i64 0)) (hkl : k < w.heap.size) :
    Calls Tryz.prog 158 #[.pointer (some ⟨k, 0, none⟩), .agg #[.bool (dn a), .string (ds a), .int .i64 a.e]] w (RDv a w) := by
  unfold RDv
  generalize dn a = na at *
  generalize ds a = sa at *
  generalize a.e = xa at *
  have hb3 : Below w.heap.size w ((w.alloc (.cells #[.bool na, .string sa, .int .i64 xa] 29)).alloc (.cells #[.bool false, .string ⟨#[]⟩, .int .i64 0] 29)) := by repeat (first | exact Below.refl _ _ | refine below_drewN ?_ _ | refine Below.alloc ?_ (by first | omega | (simp; omega) | simp) _ | refine Below.setCell ?_ (by first | omega | (simp; omega) | simp) _ | refine Below.trans ?_ (Below.mono (by assumption) (by first | omega | (simp; omega) | simp)) | apply Below.drew)
  have w1' := (hb3.cell (p := ⟨k, 0, none⟩) hkl).trans hk
  clear hb3 hk
  go_enter Tryz.func158, Tryz.ntmps158
  go_wp2
  exact bodyPost_ret (v := .tuple #[.agg #[.bool na, .string sa, .int .i64 xa], .int .i64 0]) (by simp [results, Tryz.results158, go_sem, *]) rfl ⟨rfl, by repeat (first | exact Below.refl _ _ | refine below_drewN ?_ _ | refine Below.alloc ?_ (by first | omega | (simp; omega) | simp) _ | refine Below.setCell ?_ (by first | omega | (simp; omega) | simp) _ | refine Below.trans ?_ (Below.mono (by assumption) (by first | omega | (simp; omega) | simp)) | apply Below.drew)⟩
/-- What a function that makes an exact number answers. -/
def RGv (a b : Dya) (w : World) (en : Ending) (w' : World) : Prop := en = .returned (.tuple #[.agg #[.bool (dn a), .string (ds a), .int .i64 a.e, .bool (dn b), .string (ds b), .int .i64 b.e], .int .i64 0]) ∧ Below w.heap.size w w'
set_option maxRecDepth 100000 in
set_option maxHeartbeats 3200000 in
theorem number_any (a b : Dya) (k : Nat) (w : World) (hk : w.cell? ⟨k, 0, none⟩ = some (.int .i64 0)) (hkl : k < w.heap.size) :
    Calls Tryz.prog 44 #[.pointer (some ⟨k, 0, none⟩), .agg #[.bool (dn a), .string (ds a), .int .i64 a.e], .agg #[.bool (dn b), .string (ds b), .int .i64 b.e]] w (RGv a b w) := by
  unfold RGv
  generalize dn a = na at *
  generalize ds a = sa at *
  generalize a.e = xa at *
  generalize dn b = nb at *
  generalize ds b = sb at *
  generalize b.e = xb at *
  have hb3 : Below w.heap.size w (((w.alloc (.cells #[.bool na, .string sa, .int .i64 xa] 29)).alloc (.cells #[.bool nb, .string sb, .int .i64 xb] 29)).alloc (.cells #[.bool false, .string ⟨#[]⟩, .int .i64 0, .bool false, .string ⟨#[]⟩, .int .i64 0] 31)) := by repeat (first | exact Below.refl _ _ | refine below_drewN ?_ _ | refine Below.alloc ?_ (by first | omega | (simp; omega) | simp) _ | refine Below.setCell ?_ (by first | omega | (simp; omega) | simp) _ | refine Below.trans ?_ (Below.mono (by assumption) (by first | omega | (simp; omega) | simp)) | apply Below.drew)
  have w1' := (hb3.cell (p := ⟨k, 0, none⟩) hkl).trans hk
  clear hb3 hk
  go_enter Tryz.func44, Tryz.ntmps44
  go_wp2
  exact bodyPost_ret (v := .tuple #[.agg #[.bool na, .string sa, .int .i64 xa, .bool nb, .string sb, .int .i64 xb], .int .i64 0]) (by simp [results, Tryz.results44, go_sem, *]) rfl ⟨rfl, by repeat (first | exact Below.refl _ _ | refine below_drewN ?_ _ | refine Below.alloc ?_ (by first | omega | (simp; omega) | simp) _ | refine Below.setCell ?_ (by first | omega | (simp; omega) | simp) _ | refine Below.trans ?_ (Below.mono (by assumption) (by first | omega | (simp; omega) | simp)) | apply Below.drew)⟩
end Go.Proofs.YtbgjcpnbdgljbaaGreatDoor

/- The contracts of gauss.Dot, Norm, Add, Sub, Mul, Complex, Neg, Conj. -/
namespace Go.Proofs.YtbgjcpnbdgljbaaGreatDoor
open Go.RowKit Go.Fil Go.Shelf

theorem mkept_at (k N : Nat) (w : World) (hk : w.heap[k]? = some (.cells #[.int .i64 0] 84 (0, 0))) :
    Calls Tryz.prog 42 #[.pointer (some ⟨k, 0, none⟩), .func (.func N) #[] #[]] w fun e w' => e = .returned (.func (.func 88) #[] #[.pointer (some ⟨w.heap.size, 0, none⟩), .pointer (some ⟨w.heap.size + 1, 0, none⟩)]) ∧ KeptAt w' w.heap.size (w.heap.size + 1) k N ∧ w'.heap[k]? = some (.cells #[.int .i64 0] 84 (0, 0)) ∧ Below w.heap.size w w' := by
  refine (mkept_any k N w).mono ?_
  rintro e w' ⟨he, rfl⟩
  have hb : Below w.heap.size w ((w.alloc (.cells #[.pointer (some ⟨k, 0, none⟩)] 82)).alloc (.cells #[.func (.func N) #[] #[]] 87)) := by repeat (first | exact Below.refl _ _ | refine below_drewN ?_ _ | refine Below.alloc ?_ (by first | omega | (simp; omega) | simp) _ | refine Below.setCell ?_ (by first | omega | (simp; omega) | simp) _ | refine Below.trans ?_ (Below.mono (by assumption) (by first | omega | (simp; omega) | simp)) | apply Below.drew)
  have hl : k < w.heap.size := by
    rcases Nat.lt_or_ge k w.heap.size with hh | hh
    · exact hh
    · rw [Array.getElem?_eq_none hh] at hk; cases hk
  have h3 := (hb.block k hl).trans hk
  exact ⟨he, ⟨by simp [go_sem], by simp [go_sem], h3, by simp <;> omega, by simp <;> omega⟩, h3, hb⟩
theorem keeper_new (w : World) : (w.alloc (.cells #[.int .i64 0] 84)).heap[w.heap.size]? = some (.cells #[.int .i64 0] 84 (0, 0)) := by
  exact fresh_row w _
theorem cell6 {w : World} {g b o : Nat} {u0 u1 u2 u3 u4 u5 : Value} (h : g ≠ b) : ((((((w.setCell ⟨g, 0, none⟩ u0).setCell ⟨g, 1, none⟩ u1).setCell ⟨g, 2, none⟩ u2).setCell ⟨g, 3, none⟩ u3).setCell ⟨g, 4, none⟩ u4).setCell ⟨g, 5, none⟩ u5).cell? ⟨b, o, none⟩ = w.cell? ⟨b, o, none⟩ := by
  repeat rw [World.cell?_setCell_other _ _ _ _ (fun e => h (by injection e))]
/-- Two numbers in two blocks. -/
def TwoB (w : World) (g h : Nat) (v0 v1 v2 v3 v4 v5 v6 v7 v8 v9 v10 v11 : Value) : Prop := w.cell? ⟨g, 0, none⟩ = some v0 ∧ w.cell? ⟨g, 1, none⟩ = some v1 ∧ w.cell? ⟨g, 2, none⟩ = some v2 ∧ w.cell? ⟨g, 3, none⟩ = some v3 ∧ w.cell? ⟨g, 4, none⟩ = some v4 ∧ w.cell? ⟨g, 5, none⟩ = some v5 ∧ w.cell? ⟨h, 0, none⟩ = some v6 ∧ w.cell? ⟨h, 1, none⟩ = some v7 ∧ w.cell? ⟨h, 2, none⟩ = some v8 ∧ w.cell? ⟨h, 3, none⟩ = some v9 ∧ w.cell? ⟨h, 4, none⟩ = some v10 ∧ w.cell? ⟨h, 5, none⟩ = some v11
theorem TwoB.below {w w' : World} {g h B : Nat} {v0 v1 v2 v3 v4 v5 v6 v7 v8 v9 v10 v11 : Value} (k : TwoB w g h v0 v1 v2 v3 v4 v5 v6 v7 v8 v9 v10 v11) (hb : Below B w w') (hg : g < B) (hh : h < B) : TwoB w' g h v0 v1 v2 v3 v4 v5 v6 v7 v8 v9 v10 v11 := by
  unfold TwoB at *
  refine ⟨?_, ?_, ?_, ?_, ?_, ?_, ?_, ?_, ?_, ?_, ?_, ?_⟩
  all_goals first | rw [hb.cell (p := ⟨g, _, none⟩) hg] | rw [hb.cell (p := ⟨h, _, none⟩) hh]
  all_goals first | exact k.1 | exact k.2.1 | exact k.2.2.1 | exact k.2.2.2.1 | exact k.2.2.2.2.1 | exact k.2.2.2.2.2.1 | exact k.2.2.2.2.2.2.1 | exact k.2.2.2.2.2.2.2.1 | exact k.2.2.2.2.2.2.2.2.1 | exact k.2.2.2.2.2.2.2.2.2.1 | exact k.2.2.2.2.2.2.2.2.2.2.1 | exact k.2.2.2.2.2.2.2.2.2.2.2
set_option maxRecDepth 100000 in
set_option maxHeartbeats 6400000 in
theorem gadd_gen (a b c d p q : Dya) (ha : okD a) (hb : okD b) (hc : okD c) (hd : okD d) (o0 : ∀ w : World, Tab w → Calls Tryz.prog 43 #[.agg #[.bool (dn a), .string (ds a), .int .i64 a.e], .agg #[.bool (dn c), .string (ds c), .int .i64 c.e]] w (RDv p w)) (o1 : ∀ w : World, Tab w → Calls Tryz.prog 43 #[.agg #[.bool (dn b), .string (ds b), .int .i64 b.e], .agg #[.bool (dn d), .string (ds d), .int .i64 d.e]] w (RDv q w)) (w : World) (hT : Tab w) :
    Calls Tryz.prog 13 #[.agg #[.bool (dn a), .string (ds a), .int .i64 a.e, .bool (dn b), .string (ds b), .int .i64 b.e], .agg #[.bool (dn c), .string (ds c), .int .i64 c.e, .bool (dn d), .string (ds d), .int .i64 d.e]] w (RGv p q w) := by
  have HAL := Lib.hid (gall_any a b c d ha hb hc hd)
  have HT := Lib.hid hT
  have HO0 := Lib.hid (fun kb ob k w hk hT => kept_add a c p kb ob k w hk hT o0)
  have HO1 := Lib.hid (fun kb ob k w hk hT => kept_add b d q kb ob k w hk hT o1)
  have HL := Lib.hid (number_any p q)
  clear ha hb hc hd hT o0 o1
  unfold TwoG at HAL
  unfold RGv at HL ⊢
  generalize dn a = na at *
  generalize ds a = sa at *
  generalize a.e = xa at *
  generalize dn b = nb at *
  generalize ds b = sb at *
  generalize b.e = xb at *
  generalize dn c = nc at *
  generalize ds c = sc at *
  generalize c.e = xc at *
  generalize dn d = nd at *
  generalize ds d = sd at *
  generalize d.e = xd at *
  generalize dn p = np at *
  generalize ds p = sp at *
  generalize p.e = xp at *
  generalize dn q = nq at *
  generalize ds q = sq at *
  generalize q.e = xq at *
  go_enter Tryz.func13, Tryz.ntmps13
  go_wp2_with (go_at_call 41; refine (HAL.out _ _ ?_ ?_).mono ?_; simp; simp [go_sem]; rintro e w1 ⟨rfl, hb⟩; obtain ⟨hc, hf⟩ := bcell hb; (try simp only [World.heap_drewN, World.cell?_drewN, World.frozen?_drewN] at hc hf); have z0 : w.heap.size < w1.heap.size := (by have := hb.size; (try simp at this); omega); have z1 : w.heap.size + 1 < w1.heap.size := (by have := hb.size; (try simp at this); omega); have z2 : w.heap.size + 1 + 1 < w1.heap.size := (by have := hb.size; (try simp at this); omega); have z3 : w.heap.size + 2 < w1.heap.size := (by omega))
  have HB1 := Lib.hid (show Below w.heap.size w w1 by repeat (first | exact Below.refl _ _ | refine below_drewN ?_ _ | refine Below.alloc ?_ (by first | omega | (simp; omega) | simp) _ | refine Below.setCell ?_ (by first | omega | (simp; omega) | simp) _ | refine Below.trans ?_ (Below.mono (by assumption) (by first | omega | (simp; omega) | simp)) | apply Below.drew))
  have HT1 := Lib.hid (HT.out.below HB1.out)
  have l0 : w.heap.size < w1.heap.size := by omega
  have l1 : w.heap.size + 1 < w1.heap.size := by omega
  have l2 : w.heap.size + 1 + 1 < w1.heap.size := by omega
  have m0 : w1.cell? ⟨w.heap.size, 0, none⟩ = some (.bool na) := by rw [hc _ _ (by simp <;> omega)] <;> try simp [go_sem]
  have m1 : w1.cell? ⟨w.heap.size, 1, none⟩ = some (.string sa) := by rw [hc _ _ (by simp <;> omega)] <;> try simp [go_sem]
  have m2 : w1.cell? ⟨w.heap.size, 2, none⟩ = some (.int .i64 xa) := by rw [hc _ _ (by simp <;> omega)] <;> try simp [go_sem]
  have m3 : w1.cell? ⟨w.heap.size, 3, none⟩ = some (.bool nb) := by rw [hc _ _ (by simp <;> omega)] <;> try simp [go_sem]
  have m4 : w1.cell? ⟨w.heap.size, 4, none⟩ = some (.string sb) := by rw [hc _ _ (by simp <;> omega)] <;> try simp [go_sem]
  have m5 : w1.cell? ⟨w.heap.size, 5, none⟩ = some (.int .i64 xb) := by rw [hc _ _ (by simp <;> omega)] <;> try simp [go_sem]
  have m6 : w1.cell? ⟨w.heap.size + 1, 0, none⟩ = some (.bool nc) := by rw [hc _ _ (by simp <;> omega)] <;> try simp [go_sem]
  have m7 : w1.cell? ⟨w.heap.size + 1, 1, none⟩ = some (.string sc) := by rw [hc _ _ (by simp <;> omega)] <;> try simp [go_sem]
  have m8 : w1.cell? ⟨w.heap.size + 1, 2, none⟩ = some (.int .i64 xc) := by rw [hc _ _ (by simp <;> omega)] <;> try simp [go_sem]
  have m9 : w1.cell? ⟨w.heap.size + 1, 3, none⟩ = some (.bool nd) := by rw [hc _ _ (by simp <;> omega)] <;> try simp [go_sem]
  have m10 : w1.cell? ⟨w.heap.size + 1, 4, none⟩ = some (.string sd) := by rw [hc _ _ (by simp <;> omega)] <;> try simp [go_sem]
  have m11 : w1.cell? ⟨w.heap.size + 1, 5, none⟩ = some (.int .i64 xd) := by rw [hc _ _ (by simp <;> omega)] <;> try simp [go_sem]
  have rc0 : w1.cell? ⟨w.heap.size + 1 + 1, 0, none⟩ = some (.bool false) := by rw [hc _ _ (by simp <;> omega)] <;> try simp [go_sem]
  have rf0 : w1.frozen? ⟨w.heap.size + 1 + 1, 0, none⟩ = false := by rw [hf _ _ (by simp <;> omega)] <;> try simp [go_sem]
  have rc1 : w1.cell? ⟨w.heap.size + 1 + 1, 1, none⟩ = some (.string ⟨#[]⟩) := by rw [hc _ _ (by simp <;> omega)] <;> try simp [go_sem]
  have rf1 : w1.frozen? ⟨w.heap.size + 1 + 1, 1, none⟩ = false := by rw [hf _ _ (by simp <;> omega)] <;> try simp [go_sem]
  have rc2 : w1.cell? ⟨w.heap.size + 1 + 1, 2, none⟩ = some (.int .i64 0) := by rw [hc _ _ (by simp <;> omega)] <;> try simp [go_sem]
  have rf2 : w1.frozen? ⟨w.heap.size + 1 + 1, 2, none⟩ = false := by rw [hf _ _ (by simp <;> omega)] <;> try simp [go_sem]
  have rc3 : w1.cell? ⟨w.heap.size + 1 + 1, 3, none⟩ = some (.bool false) := by rw [hc _ _ (by simp <;> omega)] <;> try simp [go_sem]
  have rf3 : w1.frozen? ⟨w.heap.size + 1 + 1, 3, none⟩ = false := by rw [hf _ _ (by simp <;> omega)] <;> try simp [go_sem]
  have rc4 : w1.cell? ⟨w.heap.size + 1 + 1, 4, none⟩ = some (.string ⟨#[]⟩) := by rw [hc _ _ (by simp <;> omega)] <;> try simp [go_sem]
  have rf4 : w1.frozen? ⟨w.heap.size + 1 + 1, 4, none⟩ = false := by rw [hf _ _ (by simp <;> omega)] <;> try simp [go_sem]
  have rc5 : w1.cell? ⟨w.heap.size + 1 + 1, 5, none⟩ = some (.int .i64 0) := by rw [hc _ _ (by simp <;> omega)] <;> try simp [go_sem]
  have rf5 : w1.frozen? ⟨w.heap.size + 1 + 1, 5, none⟩ = false := by rw [hf _ _ (by simp <;> omega)] <;> try simp [go_sem]
  have T1 : TwoB w1 (w.heap.size) (w.heap.size + 1) (.bool na) (.string sa) (.int .i64 xa) (.bool nb) (.string sb) (.int .i64 xb) (.bool nc) (.string sc) (.int .i64 xc) (.bool nd) (.string sd) (.int .i64 xd) := ⟨m0, m1, m2, m3, m4, m5, m6, m7, m8, m9, m10, m11⟩
  clear hc hf hb z0 z1 z2 z3 HAL HT m0 m1 m2 m3 m4 m5 m6 m7 m8 m9 m10 m11
  have j1 : w.heap.size + 1 + 1 ≠ w.heap.size := by omega
  have j2 : w.heap.size + 1 + 1 ≠ w.heap.size + 1 := by omega
  have RC0 := Lib.hid rc0
  have RF0 := Lib.hid rf0
  have RC1 := Lib.hid rc1
  have RF1 := Lib.hid rf1
  have RC2 := Lib.hid rc2
  have RF2 := Lib.hid rf2
  have RC3 := Lib.hid rc3
  have RF3 := Lib.hid rf3
  have RC4 := Lib.hid rc4
  have RF4 := Lib.hid rf4
  have RC5 := Lib.hid rc5
  have RF5 := Lib.hid rf5
  clear rc0 rf0 rc1 rf1 rc2 rf2 rc3 rf3 rc4 rf4 rc5 rf5
  go_wp2_with fail
  have HK0 := Lib.hid (keeper_new w1)
  have HBK0 := Lib.hid (alloc_below w1 (.cells #[.int .i64 0] 84))
  refine (mkept_at _ _ _ HK0.out).mono ?_
  rintro e u0 ⟨rfl, hka, hkk, hbk⟩
  (try simp only [heap_size_alloc'] at hka)
  have HK1 := Lib.hid hkk
  have HA0 := Lib.hid hka
  have HBK1 := Lib.hid (below_of HBK0.out hbk HBK0.out.size)
  clear hka hkk hbk
  go_wp2
  have T2 := T1.below HBK1.out l0 l1
  have HT2 := Lib.hid (HT1.out.below HBK1.out)
  go_region_held3 (fun x => x.cell? ⟨w.heap.size, 0, none⟩ = some (.bool na) ∧ x.cell? ⟨w.heap.size, 1, none⟩ = some (.string sa) ∧ x.cell? ⟨w.heap.size, 2, none⟩ = some (.int .i64 xa) ∧ x.cell? ⟨w.heap.size, 3, none⟩ = some (.bool nb) ∧ x.cell? ⟨w.heap.size, 4, none⟩ = some (.string sb) ∧ x.cell? ⟨w.heap.size, 5, none⟩ = some (.int .i64 xb) ∧ x.cell? ⟨w.heap.size + 1, 0, none⟩ = some (.bool nc) ∧ x.cell? ⟨w.heap.size + 1, 1, none⟩ = some (.string sc) ∧ x.cell? ⟨w.heap.size + 1, 2, none⟩ = some (.int .i64 xc) ∧ x.cell? ⟨w.heap.size + 1, 3, none⟩ = some (.bool nd) ∧ x.cell? ⟨w.heap.size + 1, 4, none⟩ = some (.string sd) ∧ x.cell? ⟨w.heap.size + 1, 5, none⟩ = some (.int .i64 xd))
    ((first | (show TwoB _ _ _ _ _ _ _ _ _ _ _ _ _ _ _; with_reducible assumption) | (simp only [World.cell?_drew]; show TwoB _ _ _ _ _ _ _ _ _ _ _ _ _ _ _; with_reducible assumption) | (simp only [cell6 j1, cell6 j2]; show TwoB _ _ _ _ _ _ _ _ _ _ _ _ _ _ _; with_reducible assumption)))
    (first
    | (go_at_call 88; (with_reducible refine (HO0.out _ _ _ _ ((HA0.out).below (Below.refl _ _).drew) ((HT2.out).below (Below.refl _ _).drew)).mono ?_); rintro en y0 ⟨rfl, hq'⟩; have hq := undrew hq'; have HY0 := Lib.hid (below_of HBK1.out hq HBK1.out.size); have TY0 := T1.below HY0.out l0 l1; have HTY0 := Lib.hid (HT2.out.below hq); have KAdd0 := Lib.hid (HA0.out.below hq); clear hq hq')
    | (go_at_call 88; (with_reducible refine (HO1.out _ _ _ _ ((KAdd0.out)) ((HTY0.out))).mono ?_); rintro en y1 ⟨rfl, hq'⟩; have hq := hq'; have HY1 := Lib.hid (below_of HY0.out hq HY0.out.size); have TY1 := T1.below HY1.out l0 l1; have HTY1 := Lib.hid (HTY0.out.below hq); have KAdd1 := Lib.hid (KAdd0.out.below hq); clear hq hq')
    | (go_at_call 44; (with_reducible refine (HL.out _ _ ?_ ?_).mono ?_); exact KAdd1.out.c4.1; exact KAdd1.out.l3; rintro en z ⟨rfl, hq⟩; have HZ := Lib.hid (below_of HY1.out hq HY1.out.size); have TZ := T1.below HZ.out l0 l1; clear hq; have rc0' := (HZ.out.cell (p := ⟨w.heap.size + 1 + 1, 0, none⟩) l2).trans RC0.out; have rf0' := (HZ.out.frozen (p := ⟨w.heap.size + 1 + 1, 0, none⟩) l2).trans RF0.out; have rc1' := (HZ.out.cell (p := ⟨w.heap.size + 1 + 1, 1, none⟩) l2).trans RC1.out; have rf1' := (HZ.out.frozen (p := ⟨w.heap.size + 1 + 1, 1, none⟩) l2).trans RF1.out; have rc2' := (HZ.out.cell (p := ⟨w.heap.size + 1 + 1, 2, none⟩) l2).trans RC2.out; have rf2' := (HZ.out.frozen (p := ⟨w.heap.size + 1 + 1, 2, none⟩) l2).trans RF2.out; have rc3' := (HZ.out.cell (p := ⟨w.heap.size + 1 + 1, 3, none⟩) l2).trans RC3.out; have rf3' := (HZ.out.frozen (p := ⟨w.heap.size + 1 + 1, 3, none⟩) l2).trans RF3.out; have rc4' := (HZ.out.cell (p := ⟨w.heap.size + 1 + 1, 4, none⟩) l2).trans RC4.out; have rf4' := (HZ.out.frozen (p := ⟨w.heap.size + 1 + 1, 4, none⟩) l2).trans RF4.out; have rc5' := (HZ.out.cell (p := ⟨w.heap.size + 1 + 1, 5, none⟩) l2).trans RC5.out; have rf5' := (HZ.out.frozen (p := ⟨w.heap.size + 1 + 1, 5, none⟩) l2).trans RF5.out))
  go_wp2
  have hbw : Below w.heap.size w z := HB1.out.trans (HZ.out.mono HB1.out.size)
  have l6 := Nat.lt_of_lt_of_le l2 HZ.out.size
  exact bodyPost_ret (v := .tuple #[.agg #[.bool np, .string sp, .int .i64 xp, .bool nq, .string sq, .int .i64 xq], .int .i64 0]) (by simp [results, Tryz.results13, go_sem, rc0', rc1', rc2', rc3', rc4', rc5']) rfl ⟨rfl, ((((((hbw.setCell (by show w.heap.size ≤ w.heap.size + 1 + 1; omega) _).setCell (by show w.heap.size ≤ w.heap.size + 1 + 1; omega) _).setCell (by show w.heap.size ≤ w.heap.size + 1 + 1; omega) _).setCell (by show w.heap.size ≤ w.heap.size + 1 + 1; omega) _).setCell (by show w.heap.size ≤ w.heap.size + 1 + 1; omega) _).setCell (by show w.heap.size ≤ w.heap.size + 1 + 1; omega) _)⟩
set_option maxRecDepth 100000 in
set_option maxHeartbeats 6400000 in
theorem gsub_gen (a b c d p q : Dya) (ha : okD a) (hb : okD b) (hc : okD c) (hd : okD d) (o0 : ∀ w : World, Tab w → Calls Tryz.prog 47 #[.agg #[.bool (dn a), .string (ds a), .int .i64 a.e], .agg #[.bool (dn c), .string (ds c), .int .i64 c.e]] w (RDv p w)) (o1 : ∀ w : World, Tab w → Calls Tryz.prog 47 #[.agg #[.bool (dn b), .string (ds b), .int .i64 b.e], .agg #[.bool (dn d), .string (ds d), .int .i64 d.e]] w (RDv q w)) (w : World) (hT : Tab w) :
    Calls Tryz.prog 18 #[.agg #[.bool (dn a), .string (ds a), .int .i64 a.e, .bool (dn b), .string (ds b), .int .i64 b.e], .agg #[.bool (dn c), .string (ds c), .int .i64 c.e, .bool (dn d), .string (ds d), .int .i64 d.e]] w (RGv p q w) := by
  have HAL := Lib.hid (gall_any a b c d ha hb hc hd)
  have HT := Lib.hid hT
  have HO0 := Lib.hid (fun kb ob k w hk hT => kept_sub a c p kb ob k w hk hT o0)
  have HO1 := Lib.hid (fun kb ob k w hk hT => kept_sub b d q kb ob k w hk hT o1)
  have HL := Lib.hid (number_any p q)
  clear ha hb hc hd hT o0 o1
  unfold TwoG at HAL
  unfold RGv at HL ⊢
  generalize dn a = na at *
  generalize ds a = sa at *
  generalize a.e = xa at *
  generalize dn b = nb at *
  generalize ds b = sb at *
  generalize b.e = xb at *
  generalize dn c = nc at *
  generalize ds c = sc at *
  generalize c.e = xc at *
  generalize dn d = nd at *
  generalize ds d = sd at *
  generalize d.e = xd at *
  generalize dn p = np at *
  generalize ds p = sp at *
  generalize p.e = xp at *
  generalize dn q = nq at *
  generalize ds q = sq at *
  generalize q.e = xq at *
  go_enter Tryz.func18, Tryz.ntmps18
  go_wp2_with (go_at_call 41; refine (HAL.out _ _ ?_ ?_).mono ?_; simp; simp [go_sem]; rintro e w1 ⟨rfl, hb⟩; obtain ⟨hc, hf⟩ := bcell hb; (try simp only [World.heap_drewN, World.cell?_drewN, World.frozen?_drewN] at hc hf); have z0 : w.heap.size < w1.heap.size := (by have := hb.size; (try simp at this); omega); have z1 : w.heap.size + 1 < w1.heap.size := (by have := hb.size; (try simp at this); omega); have z2 : w.heap.size + 1 + 1 < w1.heap.size := (by have := hb.size; (try simp at this); omega); have z3 : w.heap.size + 2 < w1.heap.size := (by omega))
  have HB1 := Lib.hid (show Below w.heap.size w w1 by repeat (first | exact Below.refl _ _ | refine below_drewN ?_ _ | refine Below.alloc ?_ (by first | omega | (simp; omega) | simp) _ | refine Below.setCell ?_ (by first | omega | (simp; omega) | simp) _ | refine Below.trans ?_ (Below.mono (by assumption) (by first | omega | (simp; omega) | simp)) | apply Below.drew))
  have HT1 := Lib.hid (HT.out.below HB1.out)
  have l0 : w.heap.size < w1.heap.size := by omega
  have l1 : w.heap.size + 1 < w1.heap.size := by omega
  have l2 : w.heap.size + 1 + 1 < w1.heap.size := by omega
  have m0 : w1.cell? ⟨w.heap.size, 0, none⟩ = some (.bool na) := by rw [hc _ _ (by simp <;> omega)] <;> try simp [go_sem]
  have m1 : w1.cell? ⟨w.heap.size, 1, none⟩ = some (.string sa) := by rw [hc _ _ (by simp <;> omega)] <;> try simp [go_sem]
  have m2 : w1.cell? ⟨w.heap.size, 2, none⟩ = some (.int .i64 xa) := by rw [hc _ _ (by simp <;> omega)] <;> try simp [go_sem]
  have m3 : w1.cell? ⟨w.heap.size, 3, none⟩ = some (.bool nb) := by rw [hc _ _ (by simp <;> omega)] <;> try simp [go_sem]
  have m4 : w1.cell? ⟨w.heap.size, 4, none⟩ = some (.string sb) := by rw [hc _ _ (by simp <;> omega)] <;> try simp [go_sem]
  have m5 : w1.cell? ⟨w.heap.size, 5, none⟩ = some (.int .i64 xb) := by rw [hc _ _ (by simp <;> omega)] <;> try simp [go_sem]
  have m6 : w1.cell? ⟨w.heap.size + 1, 0, none⟩ = some (.bool nc) := by rw [hc _ _ (by simp <;> omega)] <;> try simp [go_sem]
  have m7 : w1.cell? ⟨w.heap.size + 1, 1, none⟩ = some (.string sc) := by rw [hc _ _ (by simp <;> omega)] <;> try simp [go_sem]
  have m8 : w1.cell? ⟨w.heap.size + 1, 2, none⟩ = some (.int .i64 xc) := by rw [hc _ _ (by simp <;> omega)] <;> try simp [go_sem]
  have m9 : w1.cell? ⟨w.heap.size + 1, 3, none⟩ = some (.bool nd) := by rw [hc _ _ (by simp <;> omega)] <;> try simp [go_sem]
  have m10 : w1.cell? ⟨w.heap.size + 1, 4, none⟩ = some (.string sd) := by rw [hc _ _ (by simp <;> omega)] <;> try simp [go_sem]
  have m11 : w1.cell? ⟨w.heap.size + 1, 5, none⟩ = some (.int .i64 xd) := by rw [hc _ _ (by simp <;> omega)] <;> try simp [go_sem]
  have rc0 : w1.cell? ⟨w.heap.size + 1 + 1, 0, none⟩ = some (.bool false) := by rw [hc _ _ (by simp <;> omega)] <;> try simp [go_sem]
  have rf0 : w1.frozen? ⟨w.heap.size + 1 + 1, 0, none⟩ = false := by rw [hf _ _ (by simp <;> omega)] <;> try simp [go_sem]
  have rc1 : w1.cell? ⟨w.heap.size + 1 + 1, 1, none⟩ = some (.string ⟨#[]⟩) := by rw [hc _ _ (by simp <;> omega)] <;> try simp [go_sem]
  have rf1 : w1.frozen? ⟨w.heap.size + 1 + 1, 1, none⟩ = false := by rw [hf _ _ (by simp <;> omega)] <;> try simp [go_sem]
  have rc2 : w1.cell? ⟨w.heap.size + 1 + 1, 2, none⟩ = some (.int .i64 0) := by rw [hc _ _ (by simp <;> omega)] <;> try simp [go_sem]
  have rf2 : w1.frozen? ⟨w.heap.size + 1 + 1, 2, none⟩ = false := by rw [hf _ _ (by simp <;> omega)] <;> try simp [go_sem]
  have rc3 : w1.cell? ⟨w.heap.size + 1 + 1, 3, none⟩ = some (.bool false) := by rw [hc _ _ (by simp <;> omega)] <;> try simp [go_sem]
  have rf3 : w1.frozen? ⟨w.heap.size + 1 + 1, 3, none⟩ = false := by rw [hf _ _ (by simp <;> omega)] <;> try simp [go_sem]
  have rc4 : w1.cell? ⟨w.heap.size + 1 + 1, 4, none⟩ = some (.string ⟨#[]⟩) := by rw [hc _ _ (by simp <;> omega)] <;> try simp [go_sem]
  have rf4 : w1.frozen? ⟨w.heap.size + 1 + 1, 4, none⟩ = false := by rw [hf _ _ (by simp <;> omega)] <;> try simp [go_sem]
  have rc5 : w1.cell? ⟨w.heap.size + 1 + 1, 5, none⟩ = some (.int .i64 0) := by rw [hc _ _ (by simp <;> omega)] <;> try simp [go_sem]
  have rf5 : w1.frozen? ⟨w.heap.size + 1 + 1, 5, none⟩ = false := by rw [hf _ _ (by simp <;> omega)] <;> try simp [go_sem]
  have T1 : TwoB w1 (w.heap.size) (w.heap.size + 1) (.bool na) (.string sa) (.int .i64 xa) (.bool nb) (.string sb) (.int .i64 xb) (.bool nc) (.string sc) (.int .i64 xc) (.bool nd) (.string sd) (.int .i64 xd) := ⟨m0, m1, m2, m3, m4, m5, m6, m7, m8, m9, m10, m11⟩
  clear hc hf hb z0 z1 z2 z3 HAL HT m0 m1 m2 m3 m4 m5 m6 m7 m8 m9 m10 m11
  have j1 : w.heap.size + 1 + 1 ≠ w.heap.size := by omega
  have j2 : w.heap.size + 1 + 1 ≠ w.heap.size + 1 := by omega
  have RC0 := Lib.hid rc0
  have RF0 := Lib.hid rf0
  have RC1 := Lib.hid rc1
  have RF1 := Lib.hid rf1
  have RC2 := Lib.hid rc2
  have RF2 := Lib.hid rf2
  have RC3 := Lib.hid rc3
  have RF3 := Lib.hid rf3
  have RC4 := Lib.hid rc4
  have RF4 := Lib.hid rf4
  have RC5 := Lib.hid rc5
  have RF5 := Lib.hid rf5
  clear rc0 rf0 rc1 rf1 rc2 rf2 rc3 rf3 rc4 rf4 rc5 rf5
  go_wp2_with fail
  have HK0 := Lib.hid (keeper_new w1)
  have HBK0 := Lib.hid (alloc_below w1 (.cells #[.int .i64 0] 84))
  refine (mkept_at _ _ _ HK0.out).mono ?_
  rintro e u0 ⟨rfl, hka, hkk, hbk⟩
  (try simp only [heap_size_alloc'] at hka)
  have HK1 := Lib.hid hkk
  have HA0 := Lib.hid hka
  have HBK1 := Lib.hid (below_of HBK0.out hbk HBK0.out.size)
  clear hka hkk hbk
  go_wp2
  have T2 := T1.below HBK1.out l0 l1
  have HT2 := Lib.hid (HT1.out.below HBK1.out)
  go_region_held3 (fun x => x.cell? ⟨w.heap.size, 0, none⟩ = some (.bool na) ∧ x.cell? ⟨w.heap.size, 1, none⟩ = some (.string sa) ∧ x.cell? ⟨w.heap.size, 2, none⟩ = some (.int .i64 xa) ∧ x.cell? ⟨w.heap.size, 3, none⟩ = some (.bool nb) ∧ x.cell? ⟨w.heap.size, 4, none⟩ = some (.string sb) ∧ x.cell? ⟨w.heap.size, 5, none⟩ = some (.int .i64 xb) ∧ x.cell? ⟨w.heap.size + 1, 0, none⟩ = some (.bool nc) ∧ x.cell? ⟨w.heap.size + 1, 1, none⟩ = some (.string sc) ∧ x.cell? ⟨w.heap.size + 1, 2, none⟩ = some (.int .i64 xc) ∧ x.cell? ⟨w.heap.size + 1, 3, none⟩ = some (.bool nd) ∧ x.cell? ⟨w.heap.size + 1, 4, none⟩ = some (.string sd) ∧ x.cell? ⟨w.heap.size + 1, 5, none⟩ = some (.int .i64 xd))
    ((first | (show TwoB _ _ _ _ _ _ _ _ _ _ _ _ _ _ _; with_reducible assumption) | (simp only [World.cell?_drew]; show TwoB _ _ _ _ _ _ _ _ _ _ _ _ _ _ _; with_reducible assumption) | (simp only [cell6 j1, cell6 j2]; show TwoB _ _ _ _ _ _ _ _ _ _ _ _ _ _ _; with_reducible assumption)))
    (first
    | (go_at_call 88; (with_reducible refine (HO0.out _ _ _ _ ((HA0.out).below (Below.refl _ _).drew) ((HT2.out).below (Below.refl _ _).drew)).mono ?_); rintro en y0 ⟨rfl, hq'⟩; have hq := undrew hq'; have HY0 := Lib.hid (below_of HBK1.out hq HBK1.out.size); have TY0 := T1.below HY0.out l0 l1; have HTY0 := Lib.hid (HT2.out.below hq); have KSub0 := Lib.hid (HA0.out.below hq); clear hq hq')
    | (go_at_call 88; (with_reducible refine (HO1.out _ _ _ _ ((KSub0.out)) ((HTY0.out))).mono ?_); rintro en y1 ⟨rfl, hq'⟩; have hq := hq'; have HY1 := Lib.hid (below_of HY0.out hq HY0.out.size); have TY1 := T1.below HY1.out l0 l1; have HTY1 := Lib.hid (HTY0.out.below hq); have KSub1 := Lib.hid (KSub0.out.below hq); clear hq hq')
    | (go_at_call 44; (with_reducible refine (HL.out _ _ ?_ ?_).mono ?_); exact KSub1.out.c4.1; exact KSub1.out.l3; rintro en z ⟨rfl, hq⟩; have HZ := Lib.hid (below_of HY1.out hq HY1.out.size); have TZ := T1.below HZ.out l0 l1; clear hq; have rc0' := (HZ.out.cell (p := ⟨w.heap.size + 1 + 1, 0, none⟩) l2).trans RC0.out; have rf0' := (HZ.out.frozen (p := ⟨w.heap.size + 1 + 1, 0, none⟩) l2).trans RF0.out; have rc1' := (HZ.out.cell (p := ⟨w.heap.size + 1 + 1, 1, none⟩) l2).trans RC1.out; have rf1' := (HZ.out.frozen (p := ⟨w.heap.size + 1 + 1, 1, none⟩) l2).trans RF1.out; have rc2' := (HZ.out.cell (p := ⟨w.heap.size + 1 + 1, 2, none⟩) l2).trans RC2.out; have rf2' := (HZ.out.frozen (p := ⟨w.heap.size + 1 + 1, 2, none⟩) l2).trans RF2.out; have rc3' := (HZ.out.cell (p := ⟨w.heap.size + 1 + 1, 3, none⟩) l2).trans RC3.out; have rf3' := (HZ.out.frozen (p := ⟨w.heap.size + 1 + 1, 3, none⟩) l2).trans RF3.out; have rc4' := (HZ.out.cell (p := ⟨w.heap.size + 1 + 1, 4, none⟩) l2).trans RC4.out; have rf4' := (HZ.out.frozen (p := ⟨w.heap.size + 1 + 1, 4, none⟩) l2).trans RF4.out; have rc5' := (HZ.out.cell (p := ⟨w.heap.size + 1 + 1, 5, none⟩) l2).trans RC5.out; have rf5' := (HZ.out.frozen (p := ⟨w.heap.size + 1 + 1, 5, none⟩) l2).trans RF5.out))
  go_wp2
  have hbw : Below w.heap.size w z := HB1.out.trans (HZ.out.mono HB1.out.size)
  have l6 := Nat.lt_of_lt_of_le l2 HZ.out.size
  exact bodyPost_ret (v := .tuple #[.agg #[.bool np, .string sp, .int .i64 xp, .bool nq, .string sq, .int .i64 xq], .int .i64 0]) (by simp [results, Tryz.results18, go_sem, rc0', rc1', rc2', rc3', rc4', rc5']) rfl ⟨rfl, ((((((hbw.setCell (by show w.heap.size ≤ w.heap.size + 1 + 1; omega) _).setCell (by show w.heap.size ≤ w.heap.size + 1 + 1; omega) _).setCell (by show w.heap.size ≤ w.heap.size + 1 + 1; omega) _).setCell (by show w.heap.size ≤ w.heap.size + 1 + 1; omega) _).setCell (by show w.heap.size ≤ w.heap.size + 1 + 1; omega) _).setCell (by show w.heap.size ≤ w.heap.size + 1 + 1; omega) _)⟩
set_option maxRecDepth 100000 in
set_option maxHeartbeats 6400000 in
theorem gdot_gen (a b c d p q r : Dya) (ha : okD a) (hb : okD b) (hc : okD c) (hd : okD d) (o0 : ∀ w : World, Tab w → Calls Tryz.prog 48 #[.agg #[.bool (dn a), .string (ds a), .int .i64 a.e], .agg #[.bool (dn c), .string (ds c), .int .i64 c.e]] w (RDv p w)) (o1 : ∀ w : World, Tab w → Calls Tryz.prog 48 #[.agg #[.bool (dn b), .string (ds b), .int .i64 b.e], .agg #[.bool (dn d), .string (ds d), .int .i64 d.e]] w (RDv q w)) (o2 : ∀ w : World, Tab w → Calls Tryz.prog 43 #[.agg #[.bool (dn p), .string (ds p), .int .i64 p.e], .agg #[.bool (dn q), .string (ds q), .int .i64 q.e]] w (RDv r w)) (w : World) (hT : Tab w) :
    Calls Tryz.prog 97 #[.agg #[.bool (dn a), .string (ds a), .int .i64 a.e, .bool (dn b), .string (ds b), .int .i64 b.e], .agg #[.bool (dn c), .string (ds c), .int .i64 c.e, .bool (dn d), .string (ds d), .int .i64 d.e]] w (RDv r w) := by
  have HAL := Lib.hid (gall_any a b c d ha hb hc hd)
  have HT := Lib.hid hT
  have HO0 := Lib.hid (fun kb ob k w hk hT => kept_mul a c p kb ob k w hk hT o0)
  have HO1 := Lib.hid (fun kb ob k w hk hT => kept_mul b d q kb ob k w hk hT o1)
  have HO2 := Lib.hid (fun kb ob k w hk hT => kept_add p q r kb ob k w hk hT o2)
  have HL := Lib.hid (part_any r)
  clear ha hb hc hd hT o0 o1 o2
  unfold TwoG at HAL
  unfold RDv at HL ⊢
  generalize dn a = na at *
  generalize ds a = sa at *
  generalize a.e = xa at *
  generalize dn b = nb at *
  generalize ds b = sb at *
  generalize b.e = xb at *
  generalize dn c = nc at *
  generalize ds c = sc at *
  generalize c.e = xc at *
  generalize dn d = nd at *
  generalize ds d = sd at *
  generalize d.e = xd at *
  generalize dn p = np at *
  generalize ds p = sp at *
  generalize p.e = xp at *
  generalize dn q = nq at *
  generalize ds q = sq at *
  generalize q.e = xq at *
  generalize dn r = nr at *
  generalize ds r = sr at *
  generalize r.e = xr at *
  go_enter Tryz.func97, Tryz.ntmps97
  go_wp2_with (go_at_call 41; refine (HAL.out _ _ ?_ ?_).mono ?_; simp; simp [go_sem]; rintro e w1 ⟨rfl, hb⟩; obtain ⟨hc, hf⟩ := bcell hb; (try simp only [World.heap_drewN, World.cell?_drewN, World.frozen?_drewN] at hc hf); have z0 : w.heap.size < w1.heap.size := (by have := hb.size; (try simp at this); omega); have z1 : w.heap.size + 1 < w1.heap.size := (by have := hb.size; (try simp at this); omega); have z2 : w.heap.size + 1 + 1 < w1.heap.size := (by have := hb.size; (try simp at this); omega); have z3 : w.heap.size + 2 < w1.heap.size := (by omega))
  have HB1 := Lib.hid (show Below w.heap.size w w1 by repeat (first | exact Below.refl _ _ | refine below_drewN ?_ _ | refine Below.alloc ?_ (by first | omega | (simp; omega) | simp) _ | refine Below.setCell ?_ (by first | omega | (simp; omega) | simp) _ | refine Below.trans ?_ (Below.mono (by assumption) (by first | omega | (simp; omega) | simp)) | apply Below.drew))
  have HT1 := Lib.hid (HT.out.below HB1.out)
  have l0 : w.heap.size < w1.heap.size := by omega
  have l1 : w.heap.size + 1 < w1.heap.size := by omega
  have l2 : w.heap.size + 1 + 1 < w1.heap.size := by omega
  have m0 : w1.cell? ⟨w.heap.size, 0, none⟩ = some (.bool na) := by rw [hc _ _ (by simp <;> omega)] <;> try simp [go_sem]
  have m1 : w1.cell? ⟨w.heap.size, 1, none⟩ = some (.string sa) := by rw [hc _ _ (by simp <;> omega)] <;> try simp [go_sem]
  have m2 : w1.cell? ⟨w.heap.size, 2, none⟩ = some (.int .i64 xa) := by rw [hc _ _ (by simp <;> omega)] <;> try simp [go_sem]
  have m3 : w1.cell? ⟨w.heap.size, 3, none⟩ = some (.bool nb) := by rw [hc _ _ (by simp <;> omega)] <;> try simp [go_sem]
  have m4 : w1.cell? ⟨w.heap.size, 4, none⟩ = some (.string sb) := by rw [hc _ _ (by simp <;> omega)] <;> try simp [go_sem]
  have m5 : w1.cell? ⟨w.heap.size, 5, none⟩ = some (.int .i64 xb) := by rw [hc _ _ (by simp <;> omega)] <;> try simp [go_sem]
  have m6 : w1.cell? ⟨w.heap.size + 1, 0, none⟩ = some (.bool nc) := by rw [hc _ _ (by simp <;> omega)] <;> try simp [go_sem]
  have m7 : w1.cell? ⟨w.heap.size + 1, 1, none⟩ = some (.string sc) := by rw [hc _ _ (by simp <;> omega)] <;> try simp [go_sem]
  have m8 : w1.cell? ⟨w.heap.size + 1, 2, none⟩ = some (.int .i64 xc) := by rw [hc _ _ (by simp <;> omega)] <;> try simp [go_sem]
  have m9 : w1.cell? ⟨w.heap.size + 1, 3, none⟩ = some (.bool nd) := by rw [hc _ _ (by simp <;> omega)] <;> try simp [go_sem]
  have m10 : w1.cell? ⟨w.heap.size + 1, 4, none⟩ = some (.string sd) := by rw [hc _ _ (by simp <;> omega)] <;> try simp [go_sem]
  have m11 : w1.cell? ⟨w.heap.size + 1, 5, none⟩ = some (.int .i64 xd) := by rw [hc _ _ (by simp <;> omega)] <;> try simp [go_sem]
  have rc0 : w1.cell? ⟨w.heap.size + 1 + 1, 0, none⟩ = some (.bool false) := by rw [hc _ _ (by simp <;> omega)] <;> try simp [go_sem]
  have rf0 : w1.frozen? ⟨w.heap.size + 1 + 1, 0, none⟩ = false := by rw [hf _ _ (by simp <;> omega)] <;> try simp [go_sem]
  have rc1 : w1.cell? ⟨w.heap.size + 1 + 1, 1, none⟩ = some (.string ⟨#[]⟩) := by rw [hc _ _ (by simp <;> omega)] <;> try simp [go_sem]
  have rf1 : w1.frozen? ⟨w.heap.size + 1 + 1, 1, none⟩ = false := by rw [hf _ _ (by simp <;> omega)] <;> try simp [go_sem]
  have rc2 : w1.cell? ⟨w.heap.size + 1 + 1, 2, none⟩ = some (.int .i64 0) := by rw [hc _ _ (by simp <;> omega)] <;> try simp [go_sem]
  have rf2 : w1.frozen? ⟨w.heap.size + 1 + 1, 2, none⟩ = false := by rw [hf _ _ (by simp <;> omega)] <;> try simp [go_sem]
  have T1 : TwoB w1 (w.heap.size) (w.heap.size + 1) (.bool na) (.string sa) (.int .i64 xa) (.bool nb) (.string sb) (.int .i64 xb) (.bool nc) (.string sc) (.int .i64 xc) (.bool nd) (.string sd) (.int .i64 xd) := ⟨m0, m1, m2, m3, m4, m5, m6, m7, m8, m9, m10, m11⟩
  clear hc hf hb z0 z1 z2 z3 HAL HT m0 m1 m2 m3 m4 m5 m6 m7 m8 m9 m10 m11
  have j1 : w.heap.size + 1 + 1 ≠ w.heap.size := by omega
  have j2 : w.heap.size + 1 + 1 ≠ w.heap.size + 1 := by omega
  have RC0 := Lib.hid rc0
  have RF0 := Lib.hid rf0
  have RC1 := Lib.hid rc1
  have RF1 := Lib.hid rf1
  have RC2 := Lib.hid rc2
  have RF2 := Lib.hid rf2
  clear rc0 rf0 rc1 rf1 rc2 rf2
  go_wp2_with fail
  have HK0 := Lib.hid (keeper_new w1)
  have HBK0 := Lib.hid (alloc_below w1 (.cells #[.int .i64 0] 84))
  refine (mkept_at _ _ _ HK0.out).mono ?_
  rintro e u0 ⟨rfl, hka, hkk, hbk⟩
  (try simp only [heap_size_alloc'] at hka)
  have HK1 := Lib.hid hkk
  have HA0 := Lib.hid hka
  have HBK1 := Lib.hid (below_of HBK0.out hbk HBK0.out.size)
  clear hka hkk hbk
  go_wp2_with fail
  refine (mkept_at _ _ _ HK1.out).mono ?_
  rintro e u1 ⟨rfl, hka, hkk, hbk⟩
  (try simp only [heap_size_alloc'] at hka)
  have HK2 := Lib.hid hkk
  have HA1 := Lib.hid hka
  have HBK2 := Lib.hid (below_of HBK1.out hbk HBK1.out.size)
  have HA0_1 := Lib.hid (HA0.out.below hbk)
  clear hka hkk hbk
  go_wp2
  have T2 := T1.below HBK2.out l0 l1
  have HT2 := Lib.hid (HT1.out.below HBK2.out)
  go_region_held3 (fun x => x.cell? ⟨w.heap.size, 0, none⟩ = some (.bool na) ∧ x.cell? ⟨w.heap.size, 1, none⟩ = some (.string sa) ∧ x.cell? ⟨w.heap.size, 2, none⟩ = some (.int .i64 xa) ∧ x.cell? ⟨w.heap.size, 3, none⟩ = some (.bool nb) ∧ x.cell? ⟨w.heap.size, 4, none⟩ = some (.string sb) ∧ x.cell? ⟨w.heap.size, 5, none⟩ = some (.int .i64 xb) ∧ x.cell? ⟨w.heap.size + 1, 0, none⟩ = some (.bool nc) ∧ x.cell? ⟨w.heap.size + 1, 1, none⟩ = some (.string sc) ∧ x.cell? ⟨w.heap.size + 1, 2, none⟩ = some (.int .i64 xc) ∧ x.cell? ⟨w.heap.size + 1, 3, none⟩ = some (.bool nd) ∧ x.cell? ⟨w.heap.size + 1, 4, none⟩ = some (.string sd) ∧ x.cell? ⟨w.heap.size + 1, 5, none⟩ = some (.int .i64 xd))
    ((first | (show TwoB _ _ _ _ _ _ _ _ _ _ _ _ _ _ _; with_reducible assumption) | (simp only [World.cell?_drew]; show TwoB _ _ _ _ _ _ _ _ _ _ _ _ _ _ _; with_reducible assumption) | (simp only [cell3 j1, cell3 j2]; show TwoB _ _ _ _ _ _ _ _ _ _ _ _ _ _ _; with_reducible assumption)))
    (first
    | (go_at_call 88; (with_reducible refine (HO0.out _ _ _ _ ((HA1.out).below (Below.refl _ _).drew) ((HT2.out).below (Below.refl _ _).drew)).mono ?_); rintro en y0 ⟨rfl, hq'⟩; have hq := undrew hq'; have HY0 := Lib.hid (below_of HBK2.out hq HBK2.out.size); have TY0 := T1.below HY0.out l0 l1; have HTY0 := Lib.hid (HT2.out.below hq); have KAdd0 := Lib.hid (HA0_1.out.below hq); have KMul0 := Lib.hid (HA1.out.below hq); clear hq hq')
    | (go_at_call 88; (with_reducible refine (HO1.out _ _ _ _ ((KMul0.out)) ((HTY0.out))).mono ?_); rintro en y1 ⟨rfl, hq'⟩; have hq := hq'; have HY1 := Lib.hid (below_of HY0.out hq HY0.out.size); have TY1 := T1.below HY1.out l0 l1; have HTY1 := Lib.hid (HTY0.out.below hq); have KAdd1 := Lib.hid (KAdd0.out.below hq); have KMul1 := Lib.hid (KMul0.out.below hq); clear hq hq')
    | (go_at_call 88; (with_reducible refine (HO2.out _ _ _ _ ((KAdd1.out)) ((HTY1.out))).mono ?_); rintro en y2 ⟨rfl, hq'⟩; have hq := hq'; have HY2 := Lib.hid (below_of HY1.out hq HY1.out.size); have TY2 := T1.below HY2.out l0 l1; have HTY2 := Lib.hid (HTY1.out.below hq); have KAdd2 := Lib.hid (KAdd1.out.below hq); have KMul2 := Lib.hid (KMul1.out.below hq); clear hq hq')
    | (go_at_call 158; (with_reducible refine (HL.out _ _ ?_ ?_).mono ?_); exact KAdd2.out.c4.1; exact KAdd2.out.l3; rintro en z ⟨rfl, hq⟩; have HZ := Lib.hid (below_of HY2.out hq HY2.out.size); have TZ := T1.below HZ.out l0 l1; clear hq; have rc0' := (HZ.out.cell (p := ⟨w.heap.size + 1 + 1, 0, none⟩) l2).trans RC0.out; have rf0' := (HZ.out.frozen (p := ⟨w.heap.size + 1 + 1, 0, none⟩) l2).trans RF0.out; have rc1' := (HZ.out.cell (p := ⟨w.heap.size + 1 + 1, 1, none⟩) l2).trans RC1.out; have rf1' := (HZ.out.frozen (p := ⟨w.heap.size + 1 + 1, 1, none⟩) l2).trans RF1.out; have rc2' := (HZ.out.cell (p := ⟨w.heap.size + 1 + 1, 2, none⟩) l2).trans RC2.out; have rf2' := (HZ.out.frozen (p := ⟨w.heap.size + 1 + 1, 2, none⟩) l2).trans RF2.out))
  go_wp2
  have hbw : Below w.heap.size w z := HB1.out.trans (HZ.out.mono HB1.out.size)
  have l6 := Nat.lt_of_lt_of_le l2 HZ.out.size
  exact bodyPost_ret (v := .tuple #[.agg #[.bool nr, .string sr, .int .i64 xr], .int .i64 0]) (by simp [results, Tryz.results97, go_sem, rc0', rc1', rc2']) rfl ⟨rfl, (((hbw.setCell (by show w.heap.size ≤ w.heap.size + 1 + 1; omega) _).setCell (by show w.heap.size ≤ w.heap.size + 1 + 1; omega) _).setCell (by show w.heap.size ≤ w.heap.size + 1 + 1; omega) _)⟩
set_option maxRecDepth 100000 in
set_option maxHeartbeats 6400000 in
theorem gmul_gen (a b c d p q r s t v : Dya) (ha : okD a) (hb : okD b) (hc : okD c) (hd : okD d) (o0 : ∀ w : World, Tab w → Calls Tryz.prog 48 #[.agg #[.bool (dn a), .string (ds a), .int .i64 a.e], .agg #[.bool (dn c), .string (ds c), .int .i64 c.e]] w (RDv p w)) (o1 : ∀ w : World, Tab w → Calls Tryz.prog 48 #[.agg #[.bool (dn b), .string (ds b), .int .i64 b.e], .agg #[.bool (dn d), .string (ds d), .int .i64 d.e]] w (RDv q w)) (o2 : ∀ w : World, Tab w → Calls Tryz.prog 47 #[.agg #[.bool (dn p), .string (ds p), .int .i64 p.e], .agg #[.bool (dn q), .string (ds q), .int .i64 q.e]] w (RDv r w)) (o3 : ∀ w : World, Tab w → Calls Tryz.prog 48 #[.agg #[.bool (dn a), .string (ds a), .int .i64 a.e], .agg #[.bool (dn d), .string (ds d), .int .i64 d.e]] w (RDv s w)) (o4 : ∀ w : World, Tab w → Calls Tryz.prog 48 #[.agg #[.bool (dn b), .string (ds b), .int .i64 b.e], .agg #[.bool (dn c), .string (ds c), .int .i64 c.e]] w (RDv t w)) (o5 : ∀ w : World, Tab w → Calls Tryz.prog 43 #[.agg #[.bool (dn s), .string (ds s), .int .i64 s.e], .agg #[.bool (dn t), .string (ds t), .int .i64 t.e]] w (RDv v w)) (w : World) (hT : Tab w) :
    Calls Tryz.prog 16 #[.agg #[.bool (dn a), .string (ds a), .int .i64 a.e, .bool (dn b), .string (ds b), .int .i64 b.e], .agg #[.bool (dn c), .string (ds c), .int .i64 c.e, .bool (dn d), .string (ds d), .int .i64 d.e]] w (RGv r v w) := by
  have HAL := Lib.hid (gall_any a b c d ha hb hc hd)
  have HT := Lib.hid hT
  have HO0 := Lib.hid (fun kb ob k w hk hT => kept_mul a c p kb ob k w hk hT o0)
  have HO1 := Lib.hid (fun kb ob k w hk hT => kept_mul b d q kb ob k w hk hT o1)
  have HO2 := Lib.hid (fun kb ob k w hk hT => kept_sub p q r kb ob k w hk hT o2)
  have HO3 := Lib.hid (fun kb ob k w hk hT => kept_mul a d s kb ob k w hk hT o3)
  have HO4 := Lib.hid (fun kb ob k w hk hT => kept_mul b c t kb ob k w hk hT o4)
  have HO5 := Lib.hid (fun kb ob k w hk hT => kept_add s t v kb ob k w hk hT o5)
  have HL := Lib.hid (number_any r v)
  clear ha hb hc hd hT o0 o1 o2 o3 o4 o5
  unfold TwoG at HAL
  unfold RGv at HL ⊢
  generalize dn a = na at *
  generalize ds a = sa at *
  generalize a.e = xa at *
  generalize dn b = nb at *
  generalize ds b = sb at *
  generalize b.e = xb at *
  generalize dn c = nc at *
  generalize ds c = sc at *
  generalize c.e = xc at *
  generalize dn d = nd at *
  generalize ds d = sd at *
  generalize d.e = xd at *
  generalize dn p = np at *
  generalize ds p = sp at *
  generalize p.e = xp at *
  generalize dn q = nq at *
  generalize ds q = sq at *
  generalize q.e = xq at *
  generalize dn r = nr at *
  generalize ds r = sr at *
  generalize r.e = xr at *
  generalize dn s = ns at *
  generalize ds s = ss at *
  generalize s.e = xs at *
  generalize dn t = nt at *
  generalize ds t = st at *
  generalize t.e = xt at *
  generalize dn v = nv at *
  generalize ds v = sv at *
  generalize v.e = xv at *
  go_enter Tryz.func16, Tryz.ntmps16
  go_wp2_with (go_at_call 41; refine (HAL.out _ _ ?_ ?_).mono ?_; simp; simp [go_sem]; rintro e w1 ⟨rfl, hb⟩; obtain ⟨hc, hf⟩ := bcell hb; (try simp only [World.heap_drewN, World.cell?_drewN, World.frozen?_drewN] at hc hf); have z0 : w.heap.size < w1.heap.size := (by have := hb.size; (try simp at this); omega); have z1 : w.heap.size + 1 < w1.heap.size := (by have := hb.size; (try simp at this); omega); have z2 : w.heap.size + 1 + 1 < w1.heap.size := (by have := hb.size; (try simp at this); omega); have z3 : w.heap.size + 2 < w1.heap.size := (by omega))
  have HB1 := Lib.hid (show Below w.heap.size w w1 by repeat (first | exact Below.refl _ _ | refine below_drewN ?_ _ | refine Below.alloc ?_ (by first | omega | (simp; omega) | simp) _ | refine Below.setCell ?_ (by first | omega | (simp; omega) | simp) _ | refine Below.trans ?_ (Below.mono (by assumption) (by first | omega | (simp; omega) | simp)) | apply Below.drew))
  have HT1 := Lib.hid (HT.out.below HB1.out)
  have l0 : w.heap.size < w1.heap.size := by omega
  have l1 : w.heap.size + 1 < w1.heap.size := by omega
  have l2 : w.heap.size + 1 + 1 < w1.heap.size := by omega
  have m0 : w1.cell? ⟨w.heap.size, 0, none⟩ = some (.bool na) := by rw [hc _ _ (by simp <;> omega)] <;> try simp [go_sem]
  have m1 : w1.cell? ⟨w.heap.size, 1, none⟩ = some (.string sa) := by rw [hc _ _ (by simp <;> omega)] <;> try simp [go_sem]
  have m2 : w1.cell? ⟨w.heap.size, 2, none⟩ = some (.int .i64 xa) := by rw [hc _ _ (by simp <;> omega)] <;> try simp [go_sem]
  have m3 : w1.cell? ⟨w.heap.size, 3, none⟩ = some (.bool nb) := by rw [hc _ _ (by simp <;> omega)] <;> try simp [go_sem]
  have m4 : w1.cell? ⟨w.heap.size, 4, none⟩ = some (.string sb) := by rw [hc _ _ (by simp <;> omega)] <;> try simp [go_sem]
  have m5 : w1.cell? ⟨w.heap.size, 5, none⟩ = some (.int .i64 xb) := by rw [hc _ _ (by simp <;> omega)] <;> try simp [go_sem]
  have m6 : w1.cell? ⟨w.heap.size + 1, 0, none⟩ = some (.bool nc) := by rw [hc _ _ (by simp <;> omega)] <;> try simp [go_sem]
  have m7 : w1.cell? ⟨w.heap.size + 1, 1, none⟩ = some (.string sc) := by rw [hc _ _ (by simp <;> omega)] <;> try simp [go_sem]
  have m8 : w1.cell? ⟨w.heap.size + 1, 2, none⟩ = some (.int .i64 xc) := by rw [hc _ _ (by simp <;> omega)] <;> try simp [go_sem]
  have m9 : w1.cell? ⟨w.heap.size + 1, 3, none⟩ = some (.bool nd) := by rw [hc _ _ (by simp <;> omega)] <;> try simp [go_sem]
  have m10 : w1.cell? ⟨w.heap.size + 1, 4, none⟩ = some (.string sd) := by rw [hc _ _ (by simp <;> omega)] <;> try simp [go_sem]
  have m11 : w1.cell? ⟨w.heap.size + 1, 5, none⟩ = some (.int .i64 xd) := by rw [hc _ _ (by simp <;> omega)] <;> try simp [go_sem]
  have rc0 : w1.cell? ⟨w.heap.size + 1 + 1, 0, none⟩ = some (.bool false) := by rw [hc _ _ (by simp <;> omega)] <;> try simp [go_sem]
  have rf0 : w1.frozen? ⟨w.heap.size + 1 + 1, 0, none⟩ = false := by rw [hf _ _ (by simp <;> omega)] <;> try simp [go_sem]
  have rc1 : w1.cell? ⟨w.heap.size + 1 + 1, 1, none⟩ = some (.string ⟨#[]⟩) := by rw [hc _ _ (by simp <;> omega)] <;> try simp [go_sem]
  have rf1 : w1.frozen? ⟨w.heap.size + 1 + 1, 1, none⟩ = false := by rw [hf _ _ (by simp <;> omega)] <;> try simp [go_sem]
  have rc2 : w1.cell? ⟨w.heap.size + 1 + 1, 2, none⟩ = some (.int .i64 0) := by rw [hc _ _ (by simp <;> omega)] <;> try simp [go_sem]
  have rf2 : w1.frozen? ⟨w.heap.size + 1 + 1, 2, none⟩ = false := by rw [hf _ _ (by simp <;> omega)] <;> try simp [go_sem]
  have rc3 : w1.cell? ⟨w.heap.size + 1 + 1, 3, none⟩ = some (.bool false) := by rw [hc _ _ (by simp <;> omega)] <;> try simp [go_sem]
  have rf3 : w1.frozen? ⟨w.heap.size + 1 + 1, 3, none⟩ = false := by rw [hf _ _ (by simp <;> omega)] <;> try simp [go_sem]
  have rc4 : w1.cell? ⟨w.heap.size + 1 + 1, 4, none⟩ = some (.string ⟨#[]⟩) := by rw [hc _ _ (by simp <;> omega)] <;> try simp [go_sem]
  have rf4 : w1.frozen? ⟨w.heap.size + 1 + 1, 4, none⟩ = false := by rw [hf _ _ (by simp <;> omega)] <;> try simp [go_sem]
  have rc5 : w1.cell? ⟨w.heap.size + 1 + 1, 5, none⟩ = some (.int .i64 0) := by rw [hc _ _ (by simp <;> omega)] <;> try simp [go_sem]
  have rf5 : w1.frozen? ⟨w.heap.size + 1 + 1, 5, none⟩ = false := by rw [hf _ _ (by simp <;> omega)] <;> try simp [go_sem]
  have T1 : TwoB w1 (w.heap.size) (w.heap.size + 1) (.bool na) (.string sa) (.int .i64 xa) (.bool nb) (.string sb) (.int .i64 xb) (.bool nc) (.string sc) (.int .i64 xc) (.bool nd) (.string sd) (.int .i64 xd) := ⟨m0, m1, m2, m3, m4, m5, m6, m7, m8, m9, m10, m11⟩
  clear hc hf hb z0 z1 z2 z3 HAL HT m0 m1 m2 m3 m4 m5 m6 m7 m8 m9 m10 m11
  have j1 : w.heap.size + 1 + 1 ≠ w.heap.size := by omega
  have j2 : w.heap.size + 1 + 1 ≠ w.heap.size + 1 := by omega
  have RC0 := Lib.hid rc0
  have RF0 := Lib.hid rf0
  have RC1 := Lib.hid rc1
  have RF1 := Lib.hid rf1
  have RC2 := Lib.hid rc2
  have RF2 := Lib.hid rf2
  have RC3 := Lib.hid rc3
  have RF3 := Lib.hid rf3
  have RC4 := Lib.hid rc4
  have RF4 := Lib.hid rf4
  have RC5 := Lib.hid rc5
  have RF5 := Lib.hid rf5
  clear rc0 rf0 rc1 rf1 rc2 rf2 rc3 rf3 rc4 rf4 rc5 rf5
  go_wp2_with fail
  have HK0 := Lib.hid (keeper_new w1)
  have HBK0 := Lib.hid (alloc_below w1 (.cells #[.int .i64 0] 84))
  refine (mkept_at _ _ _ HK0.out).mono ?_
  rintro e u0 ⟨rfl, hka, hkk, hbk⟩
  (try simp only [heap_size_alloc'] at hka)
  have HK1 := Lib.hid hkk
  have HA0 := Lib.hid hka
  have HBK1 := Lib.hid (below_of HBK0.out hbk HBK0.out.size)
  clear hka hkk hbk
  go_wp2_with fail
  refine (mkept_at _ _ _ HK1.out).mono ?_
  rintro e u1 ⟨rfl, hka, hkk, hbk⟩
  (try simp only [heap_size_alloc'] at hka)
  have HK2 := Lib.hid hkk
  have HA1 := Lib.hid hka
  have HBK2 := Lib.hid (below_of HBK1.out hbk HBK1.out.size)
  have HA0_1 := Lib.hid (HA0.out.below hbk)
  clear hka hkk hbk
  go_wp2_with fail
  refine (mkept_at _ _ _ HK2.out).mono ?_
  rintro e u2 ⟨rfl, hka, hkk, hbk⟩
  (try simp only [heap_size_alloc'] at hka)
  have HK3 := Lib.hid hkk
  have HA2 := Lib.hid hka
  have HBK3 := Lib.hid (below_of HBK2.out hbk HBK2.out.size)
  have HA0_2 := Lib.hid (HA0_1.out.below hbk)
  have HA1_2 := Lib.hid (HA1.out.below hbk)
  clear hka hkk hbk
  go_wp2
  have T2 := T1.below HBK3.out l0 l1
  have HT2 := Lib.hid (HT1.out.below HBK3.out)
  go_region_held3 (fun x => x.cell? ⟨w.heap.size, 0, none⟩ = some (.bool na) ∧ x.cell? ⟨w.heap.size, 1, none⟩ = some (.string sa) ∧ x.cell? ⟨w.heap.size, 2, none⟩ = some (.int .i64 xa) ∧ x.cell? ⟨w.heap.size, 3, none⟩ = some (.bool nb) ∧ x.cell? ⟨w.heap.size, 4, none⟩ = some (.string sb) ∧ x.cell? ⟨w.heap.size, 5, none⟩ = some (.int .i64 xb) ∧ x.cell? ⟨w.heap.size + 1, 0, none⟩ = some (.bool nc) ∧ x.cell? ⟨w.heap.size + 1, 1, none⟩ = some (.string sc) ∧ x.cell? ⟨w.heap.size + 1, 2, none⟩ = some (.int .i64 xc) ∧ x.cell? ⟨w.heap.size + 1, 3, none⟩ = some (.bool nd) ∧ x.cell? ⟨w.heap.size + 1, 4, none⟩ = some (.string sd) ∧ x.cell? ⟨w.heap.size + 1, 5, none⟩ = some (.int .i64 xd))
    ((first | (show TwoB _ _ _ _ _ _ _ _ _ _ _ _ _ _ _; with_reducible assumption) | (simp only [World.cell?_drew]; show TwoB _ _ _ _ _ _ _ _ _ _ _ _ _ _ _; with_reducible assumption) | (simp only [cell6 j1, cell6 j2]; show TwoB _ _ _ _ _ _ _ _ _ _ _ _ _ _ _; with_reducible assumption)))
    (first
    | (go_at_call 88; (with_reducible refine (HO0.out _ _ _ _ ((HA2.out).below (Below.refl _ _).drew) ((HT2.out).below (Below.refl _ _).drew)).mono ?_); rintro en y0 ⟨rfl, hq'⟩; have hq := undrew hq'; have HY0 := Lib.hid (below_of HBK3.out hq HBK3.out.size); have TY0 := T1.below HY0.out l0 l1; have HTY0 := Lib.hid (HT2.out.below hq); have KAdd0 := Lib.hid (HA0_2.out.below hq); have KSub0 := Lib.hid (HA1_2.out.below hq); have KMul0 := Lib.hid (HA2.out.below hq); clear hq hq')
    | (go_at_call 88; (with_reducible refine (HO1.out _ _ _ _ ((KMul0.out)) ((HTY0.out))).mono ?_); rintro en y1 ⟨rfl, hq'⟩; have hq := hq'; have HY1 := Lib.hid (below_of HY0.out hq HY0.out.size); have TY1 := T1.below HY1.out l0 l1; have HTY1 := Lib.hid (HTY0.out.below hq); have KAdd1 := Lib.hid (KAdd0.out.below hq); have KSub1 := Lib.hid (KSub0.out.below hq); have KMul1 := Lib.hid (KMul0.out.below hq); clear hq hq')
    | (go_at_call 88; (with_reducible refine (HO2.out _ _ _ _ ((KSub1.out)) ((HTY1.out))).mono ?_); rintro en y2 ⟨rfl, hq'⟩; have hq := hq'; have HY2 := Lib.hid (below_of HY1.out hq HY1.out.size); have TY2 := T1.below HY2.out l0 l1; have HTY2 := Lib.hid (HTY1.out.below hq); have KAdd2 := Lib.hid (KAdd1.out.below hq); have KSub2 := Lib.hid (KSub1.out.below hq); have KMul2 := Lib.hid (KMul1.out.below hq); clear hq hq')
    | (go_at_call 88; (with_reducible refine (HO3.out _ _ _ _ ((KMul2.out)) ((HTY2.out))).mono ?_); rintro en y3 ⟨rfl, hq'⟩; have hq := hq'; have HY3 := Lib.hid (below_of HY2.out hq HY2.out.size); have TY3 := T1.below HY3.out l0 l1; have HTY3 := Lib.hid (HTY2.out.below hq); have KAdd3 := Lib.hid (KAdd2.out.below hq); have KSub3 := Lib.hid (KSub2.out.below hq); have KMul3 := Lib.hid (KMul2.out.below hq); clear hq hq')
    | (go_at_call 88; (with_reducible refine (HO4.out _ _ _ _ ((KMul3.out)) ((HTY3.out))).mono ?_); rintro en y4 ⟨rfl, hq'⟩; have hq := hq'; have HY4 := Lib.hid (below_of HY3.out hq HY3.out.size); have TY4 := T1.below HY4.out l0 l1; have HTY4 := Lib.hid (HTY3.out.below hq); have KAdd4 := Lib.hid (KAdd3.out.below hq); have KSub4 := Lib.hid (KSub3.out.below hq); have KMul4 := Lib.hid (KMul3.out.below hq); clear hq hq')
    | (go_at_call 88; (with_reducible refine (HO5.out _ _ _ _ ((KAdd4.out)) ((HTY4.out))).mono ?_); rintro en y5 ⟨rfl, hq'⟩; have hq := hq'; have HY5 := Lib.hid (below_of HY4.out hq HY4.out.size); have TY5 := T1.below HY5.out l0 l1; have HTY5 := Lib.hid (HTY4.out.below hq); have KAdd5 := Lib.hid (KAdd4.out.below hq); have KSub5 := Lib.hid (KSub4.out.below hq); have KMul5 := Lib.hid (KMul4.out.below hq); clear hq hq')
    | (go_at_call 44; (with_reducible refine (HL.out _ _ ?_ ?_).mono ?_); exact KAdd5.out.c4.1; exact KAdd5.out.l3; rintro en z ⟨rfl, hq⟩; have HZ := Lib.hid (below_of HY5.out hq HY5.out.size); have TZ := T1.below HZ.out l0 l1; clear hq; have rc0' := (HZ.out.cell (p := ⟨w.heap.size + 1 + 1, 0, none⟩) l2).trans RC0.out; have rf0' := (HZ.out.frozen (p := ⟨w.heap.size + 1 + 1, 0, none⟩) l2).trans RF0.out; have rc1' := (HZ.out.cell (p := ⟨w.heap.size + 1 + 1, 1, none⟩) l2).trans RC1.out; have rf1' := (HZ.out.frozen (p := ⟨w.heap.size + 1 + 1, 1, none⟩) l2).trans RF1.out; have rc2' := (HZ.out.cell (p := ⟨w.heap.size + 1 + 1, 2, none⟩) l2).trans RC2.out; have rf2' := (HZ.out.frozen (p := ⟨w.heap.size + 1 + 1, 2, none⟩) l2).trans RF2.out; have rc3' := (HZ.out.cell (p := ⟨w.heap.size + 1 + 1, 3, none⟩) l2).trans RC3.out; have rf3' := (HZ.out.frozen (p := ⟨w.heap.size + 1 + 1, 3, none⟩) l2).trans RF3.out; have rc4' := (HZ.out.cell (p := ⟨w.heap.size + 1 + 1, 4, none⟩) l2).trans RC4.out; have rf4' := (HZ.out.frozen (p := ⟨w.heap.size + 1 + 1, 4, none⟩) l2).trans RF4.out; have rc5' := (HZ.out.cell (p := ⟨w.heap.size + 1 + 1, 5, none⟩) l2).trans RC5.out; have rf5' := (HZ.out.frozen (p := ⟨w.heap.size + 1 + 1, 5, none⟩) l2).trans RF5.out))
  go_wp2
  have hbw : Below w.heap.size w z := HB1.out.trans (HZ.out.mono HB1.out.size)
  have l6 := Nat.lt_of_lt_of_le l2 HZ.out.size
  exact bodyPost_ret (v := .tuple #[.agg #[.bool nr, .string sr, .int .i64 xr, .bool nv, .string sv, .int .i64 xv], .int .i64 0]) (by simp [results, Tryz.results16, go_sem, rc0', rc1', rc2', rc3', rc4', rc5']) rfl ⟨rfl, ((((((hbw.setCell (by show w.heap.size ≤ w.heap.size + 1 + 1; omega) _).setCell (by show w.heap.size ≤ w.heap.size + 1 + 1; omega) _).setCell (by show w.heap.size ≤ w.heap.size + 1 + 1; omega) _).setCell (by show w.heap.size ≤ w.heap.size + 1 + 1; omega) _).setCell (by show w.heap.size ≤ w.heap.size + 1 + 1; omega) _).setCell (by show w.heap.size ≤ w.heap.size + 1 + 1; omega) _)⟩
end Go.Proofs.YtbgjcpnbdgljbaaGreatDoor

/- The contracts of gauss.Complex, Norm, Add, Sub, Mul. -/
namespace Go.Proofs.YtbgjcpnbdgljbaaGreatDoor
open Go.RowKit Go.Fil Go.Shelf

set_option maxRecDepth 100000 in
set_option maxHeartbeats 3200000 in
theorem gcomplex_any (x y : Nat) (hx : x < 18446744073709551616) (hy : y < 18446744073709551616) (fx : fin x = true) (fy : fin y = true) (w : World) (hT : Tab w) :
    Calls Tryz.prog 22 #[.complex .f64 x y] w (RGv (flD x) (flD y) w) := by
  have HFX := Lib.hid (dfloat_any x hx fx)
  have HFY := Lib.hid (dfloat_any y hy fy)
  have hb0 := alloc_below w (.cells #[.bool false, .string ⟨#[]⟩, .int .i64 0, .bool false, .string ⟨#[]⟩, .int .i64 0] 31)
  have HT0 := Lib.hid (hT.below hb0)
  clear hx hy fx fy hT hb0
  unfold RDv at HFX HFY
  unfold RGv
  generalize dn (flD x) = na at *
  generalize ds (flD x) = sa at *
  generalize (flD x).e = xa at *
  generalize dn (flD y) = nb at *
  generalize ds (flD y) = sb at *
  generalize (flD y).e = xb at *
  go_enter Tryz.func22, Tryz.ntmps22
  go_wp2_with fail
  refine (HFX.out _ HT0.out).mono ?_
  rintro en w1 ⟨rfl, hb1⟩
  have HB1 := Lib.hid hb1
  have s1 := hb1.size
  simp only [heap_size_alloc'] at s1
  have HT1 := Lib.hid ((HT0.out.below hb1).below (alloc_below w1 (.cells #[.bool na, .string sa, .int .i64 xa] 29)))
  clear hb1
  go_wp2_with fail
  refine (HFY.out _ HT1.out).mono ?_
  rintro en w2 ⟨rfl, hb2⟩
  have s2 := hb2.size
  simp only [heap_size_alloc'] at s2
  have c0 : w2.cell? ⟨w1.heap.size, 0, none⟩ = some (.bool na) := (hb2.cell (p := ⟨w1.heap.size, 0, none⟩) (by simp)).trans (by simp [go_sem])
  have c1 : w2.cell? ⟨w1.heap.size, 1, none⟩ = some (.string sa) := (hb2.cell (p := ⟨w1.heap.size, 1, none⟩) (by simp)).trans (by simp [go_sem])
  have c2 : w2.cell? ⟨w1.heap.size, 2, none⟩ = some (.int .i64 xa) := (hb2.cell (p := ⟨w1.heap.size, 2, none⟩) (by simp)).trans (by simp [go_sem])
  have HB2 := Lib.hid (show Below (w.heap.size + 1) (w.alloc (.cells #[.bool false, .string ⟨#[]⟩, .int .i64 0, .bool false, .string ⟨#[]⟩, .int .i64 0] 31)) w2 from
    ((HB1.out.mono (by simp)).alloc (by omega) _).trans (hb2.mono (by simp; omega)))
  have hbw : Below w.heap.size w w2 := (alloc_below w _).trans (HB2.out.mono (by omega))
  clear hb2
  have r0 : w2.cell? ⟨w.heap.size, 0, none⟩ = some (.bool false) := (HB2.out.cell (p := ⟨w.heap.size, 0, none⟩) (by simp)).trans (by simp [go_sem])
  have r1 : w2.cell? ⟨w.heap.size, 1, none⟩ = some (.string ⟨#[]⟩) := (HB2.out.cell (p := ⟨w.heap.size, 1, none⟩) (by simp)).trans (by simp [go_sem])
  have r2 : w2.cell? ⟨w.heap.size, 2, none⟩ = some (.int .i64 0) := (HB2.out.cell (p := ⟨w.heap.size, 2, none⟩) (by simp)).trans (by simp [go_sem])
  have r3 : w2.cell? ⟨w.heap.size, 3, none⟩ = some (.bool false) := (HB2.out.cell (p := ⟨w.heap.size, 3, none⟩) (by simp)).trans (by simp [go_sem])
  have r4 : w2.cell? ⟨w.heap.size, 4, none⟩ = some (.string ⟨#[]⟩) := (HB2.out.cell (p := ⟨w.heap.size, 4, none⟩) (by simp)).trans (by simp [go_sem])
  have r5 : w2.cell? ⟨w.heap.size, 5, none⟩ = some (.int .i64 0) := (HB2.out.cell (p := ⟨w.heap.size, 5, none⟩) (by simp)).trans (by simp [go_sem])
  have f0 : ∀ o, w2.frozen? ⟨w.heap.size, o, none⟩ = false := fun o => (HB2.out.frozen (p := ⟨w.heap.size, o, none⟩) (by simp)).trans (by simp [go_sem])
  have HBW := Lib.hid hbw
  clear hbw
  have l1 : w.heap.size < w1.heap.size := by omega
  have l2 : w1.heap.size < w2.heap.size := by omega
  have l3 : w.heap.size < w2.heap.size := by omega
  have l4 : w.heap.size ≠ w1.heap.size := by omega
  have l5 : w1.heap.size ≠ w.heap.size := by omega
  go_wp2
  exact bodyPost_ret (v := .tuple #[.agg #[.bool na, .string sa, .int .i64 xa, .bool nb, .string sb, .int .i64 xb], .int .i64 0]) (by simp [results, Tryz.results22, go_sem, r0, r1, r2, r3, r4, r5, l3]) rfl ⟨rfl, ((((((HBW.out.setCell (by show w.heap.size ≤ w.heap.size; omega) _).setCell (by show w.heap.size ≤ w.heap.size; omega) _).setCell (by show w.heap.size ≤ w.heap.size; omega) _).setCell (by show w.heap.size ≤ w.heap.size; omega) _).setCell (by show w.heap.size ≤ w.heap.size; omega) _).setCell (by show w.heap.size ≤ w.heap.size; omega) _).alloc (by simp; omega) _⟩
/-- Two dyads whose sum fits. -/
def AddFit (a b : Dya) : Prop := max a.e b.e - min a.e b.e ≤ 131080 ∧ fitD (addD a b)
instance (a b : Dya) : Decidable (AddFit a b) := by unfold AddFit; exact inferInstance
theorem okD_mul {a b : Dya} (h : fitD (mulD a b)) : okD (mulD a b) := okD_mk h
theorem okD_add {a b : Dya} (ha : okD a) (hb : okD b) (h : fitD (addD a b)) : okD (addD a b) := by
  unfold addD at *
  split
  · exact hb
  · rename_i h0
    rw [if_neg h0] at h
    split
    · exact ha
    · rename_i h1
      rw [if_neg h1] at h
      exact okD_mk h
theorem gadd_any (a b c d : Dya) (ha : okD a) (hb : okD b) (hc : okD c) (hd : okD d) (h1 : AddFit a c) (h2 : AddFit b d) (w : World) (hT : Tab w) :
    Calls Tryz.prog 13 #[.agg #[.bool (dn a), .string (ds a), .int .i64 a.e, .bool (dn b), .string (ds b), .int .i64 b.e], .agg #[.bool (dn c), .string (ds c), .int .i64 c.e, .bool (dn d), .string (ds d), .int .i64 d.e]] w (RGv (addD a c) (addD b d) w) :=
  gadd_gen a b c d _ _ ha hb hc hd (fun w t => dadd_any a c ha hc h1.1 h1.2 w t) (fun w t => dadd_any b d hb hd h2.1 h2.2 w t) w hT
theorem gsub_any (a b c d : Dya) (ha : okD a) (hb : okD b) (hc : okD c) (hd : okD d) (h1 : AddFit a (negD c)) (h2 : AddFit b (negD d)) (w : World) (hT : Tab w) :
    Calls Tryz.prog 18 #[.agg #[.bool (dn a), .string (ds a), .int .i64 a.e, .bool (dn b), .string (ds b), .int .i64 b.e], .agg #[.bool (dn c), .string (ds c), .int .i64 c.e, .bool (dn d), .string (ds d), .int .i64 d.e]] w (RGv (addD a (negD c)) (addD b (negD d)) w) :=
  gsub_gen a b c d _ _ ha hb hc hd (fun w t => dsub_any a c ha hc h1.1 h1.2 w t) (fun w t => dsub_any b d hb hd h2.1 h2.2 w t) w hT
theorem gdot_any (a b c d : Dya) (ha : okD a) (hb : okD b) (hc : okD c) (hd : okD d) (h1 : fitD (mulD a c)) (h2 : fitD (mulD b d)) (h3 : AddFit (mulD a c) (mulD b d)) (w : World) (hT : Tab w) :
    Calls Tryz.prog 97 #[.agg #[.bool (dn a), .string (ds a), .int .i64 a.e, .bool (dn b), .string (ds b), .int .i64 b.e], .agg #[.bool (dn c), .string (ds c), .int .i64 c.e, .bool (dn d), .string (ds d), .int .i64 d.e]] w (RDv (addD (mulD a c) (mulD b d)) w) :=
  gdot_gen a b c d _ _ _ ha hb hc hd (fun w t => dmul_any a c ha hc h1 w t) (fun w t => dmul_any b d hb hd h2 w t) (fun w t => dadd_any _ _ (okD_mul h1) (okD_mul h2) h3.1 h3.2 w t) w hT
theorem gmul_any (a b c d : Dya) (ha : okD a) (hb : okD b) (hc : okD c) (hd : okD d) (h1 : fitD (mulD a c)) (h2 : fitD (mulD b d)) (h3 : AddFit (mulD a c) (negD (mulD b d))) (h4 : fitD (mulD a d)) (h5 : fitD (mulD b c)) (h6 : AddFit (mulD a d) (mulD b c)) (w : World) (hT : Tab w) :
    Calls Tryz.prog 16 #[.agg #[.bool (dn a), .string (ds a), .int .i64 a.e, .bool (dn b), .string (ds b), .int .i64 b.e], .agg #[.bool (dn c), .string (ds c), .int .i64 c.e, .bool (dn d), .string (ds d), .int .i64 d.e]] w (RGv (addD (mulD a c) (negD (mulD b d))) (addD (mulD a d) (mulD b c)) w) :=
  gmul_gen a b c d _ _ _ _ _ _ ha hb hc hd (fun w t => dmul_any a c ha hc h1 w t) (fun w t => dmul_any b d hb hd h2 w t) (fun w t => dsub_any _ _ (okD_mul h1) (okD_mul h2) h3.1 h3.2 w t) (fun w t => dmul_any a d ha hd h4 w t) (fun w t => dmul_any b c hb hc h5 w t) (fun w t => dadd_any _ _ (okD_mul h4) (okD_mul h5) h6.1 h6.2 w t) w hT
set_option maxRecDepth 100000 in
set_option maxHeartbeats 3200000 in
theorem gnorm_any (a b : Dya) (ha : okD a) (hb : okD b) (h1 : fitD (mulD a a)) (h2 : fitD (mulD b b)) (h3 : AddFit (mulD a a) (mulD b b)) (w : World) (hT : Tab w) :
    Calls Tryz.prog 50 #[.agg #[.bool (dn a), .string (ds a), .int .i64 a.e, .bool (dn b), .string (ds b), .int .i64 b.e]] w (RDv (addD (mulD a a) (mulD b b)) w) := by
  have HD := Lib.hid (gdot_any a b a b ha hb ha hb h1 h2 h3)
  have HT := Lib.hid hT
  clear ha hb h1 h2 h3 hT
  generalize addD (mulD a a) (mulD b b) = D at *
  unfold RDv at HD ⊢
  generalize dn a = na at *
  generalize ds a = sa at *
  generalize a.e = xa at *
  generalize dn b = nb at *
  generalize ds b = sb at *
  generalize b.e = xb at *
  generalize dn D = nd at *
  generalize ds D = sd at *
  generalize D.e = xd at *
  go_enter Tryz.func50, Tryz.ntmps50
  go_wp2_with (go_at_call 97; refine (HD.out _ (HT.out.below (by repeat (first | exact Below.refl _ _ | refine below_drewN ?_ _ | refine Below.alloc ?_ (by first | omega | (simp; omega) | simp) _ | refine Below.setCell ?_ (by first | omega | (simp; omega) | simp) _ | refine Below.trans ?_ (Below.mono (by assumption) (by first | omega | (simp; omega) | simp)) | apply Below.drew)))).mono ?_; rintro e w1 ⟨rfl, hb⟩; obtain ⟨hc, hf⟩ := bcell hb; (try simp only [World.heap_drewN, World.cell?_drewN, World.frozen?_drewN] at hc hf); have z0 : w.heap.size < w1.heap.size := (by have := hb.size; (try simp at this); omega); have z1 : w.heap.size + 1 < w1.heap.size := (by have := hb.size; (try simp at this); omega); have q0 : (w1.cell? ⟨w.heap.size + 1, 0, none⟩) = some (.bool false) := (by rw [hc _ _ (by simp <;> omega)]; simp [go_sem]); have q1 : (w1.cell? ⟨w.heap.size + 1, 1, none⟩) = some (.string ⟨#[]⟩) := (by rw [hc _ _ (by simp <;> omega)]; simp [go_sem]); have q2 : (w1.cell? ⟨w.heap.size + 1, 2, none⟩) = some (.int .i64 0) := (by rw [hc _ _ (by simp <;> omega)]; simp [go_sem]))
  exact bodyPost_ret (v := .tuple #[.agg #[.bool nd, .string sd, .int .i64 xd], .int .i64 0]) (by simp [results, Tryz.results50, go_sem, q0, q1, q2]) rfl ⟨rfl, by repeat (first | exact Below.refl _ _ | refine below_drewN ?_ _ | refine Below.alloc ?_ (by first | omega | (simp; omega) | simp) _ | refine Below.setCell ?_ (by first | omega | (simp; omega) | simp) _ | refine Below.trans ?_ (Below.mono (by assumption) (by first | omega | (simp; omega) | simp)) | apply Below.drew)⟩
end Go.Proofs.YtbgjcpnbdgljbaaGreatDoor
