/- The contracts of status' Tell, New; filigreelaw19's lives. -/
import Derived.Test.YtbgjcpnbdgljbaaGreatDoorMSte
namespace Go.Proofs.YtbgjcpnbdgljbaaGreatDoor
open Go.RowKit Go.Fil Go.Shelf
attribute [local irreducible] fop fsqrt fup fabs fneg pick fmax hiS sizeP sizeQ

theorem Both.s1 {w : World} {A1 A2 : Option Addr} (h : Both w A1 A2) : Seq w w.heap.size A1 (zsq.map cv) := h.1
theorem Both.s2 {w : World} {A1 A2 : Option Addr} (h : Both w A1 A2) : Seq w w.heap.size A2 (oneSt.map cv) := h.2
theorem Seq.setOther {w : World} {B g i : Nat} {A : Option Addr} {xs : List Value} {v : Value} (h : Seq w B A xs) (hne : ∀ b o, A = some ⟨b, o, none⟩ → b ≠ g) : Seq (w.setCell ⟨g, i, none⟩ v) B A xs := by
  rcases h with h | ⟨b, o, hA, hb, hc⟩
  · exact .inl h
  · refine .inr ⟨b, o, hA, hb, fun k u hu => ?_⟩
    rw [World.cell?_setCell_other _ _ _ _ (fun e => hne b o hA (by injection e with e1; exact e1.symm))]
    exact hc k u hu
set_option maxRecDepth 100000 in
theorem tell_any (j : Nat) (A1 A2 : Option Addr) (c1 c2 : Nat) (w : World) (h : JAt w j A1 A2 c1 c2) (hT : Tab w) :
    Calls Tryz.prog 69 #[.pointer (some ⟨j, 0, none⟩), .agg #[.complex .f64 4617315517961601024 0, .float .f64 4602678819172646912]] w fun e w' => e = .returned (.int .u8 2) ∧ Below w.heap.size w w' := by
  have HW := Lib.hid (fun w h hT => witness_any j A1 A2 c1 c2 w h hT)
  have H := Lib.hid h
  have HT := Lib.hid hT
  clear h hT
  go_enter Tryz.func69, Tryz.ntmps69
  go_wp2_with (go_at_call 67; refine (HW.out _ (H.out.below (by repeat (first | exact Below.refl _ _ | refine below_drewN ?_ _ | refine Below.alloc ?_ (by first | omega | (simp; omega) | simp) _ | refine Below.setCell ?_ (by first | omega | (simp; omega) | simp) _ | refine Below.trans ?_ (Below.mono (by assumption) (by first | omega | (simp; omega) | simp)) | apply Below.drew))) (HT.out.below (by repeat (first | exact Below.refl _ _ | refine below_drewN ?_ _ | refine Below.alloc ?_ (by first | omega | (simp; omega) | simp) _ | refine Below.setCell ?_ (by first | omega | (simp; omega) | simp) _ | refine Below.trans ?_ (Below.mono (by assumption) (by first | omega | (simp; omega) | simp)) | apply Below.drew)))).mono ?_; rintro en w1 ⟨rfl, hb⟩; obtain ⟨hc, hf⟩ := bcell hb; (try simp only [World.heap_drewN, World.cell?_drewN, World.frozen?_drewN] at hc hf); have z0 : w.heap.size < w1.heap.size := (by have := hb.size; try simp at this; omega))
  go_ret
  exact ⟨rfl, by repeat (first | exact Below.refl _ _ | refine below_drewN ?_ _ | refine Below.alloc ?_ (by first | omega | (simp; omega) | simp) _ | refine Below.setCell ?_ (by first | omega | (simp; omega) | simp) _ | refine Below.trans ?_ (Below.mono (by assumption) (by first | omega | (simp; omega) | simp)) | apply Below.drew)⟩
set_option maxRecDepth 100000 in
set_option maxHeartbeats 3200000 in
theorem copied_any (b1 b2 c1 c2 : Nat) (w : World) (h : Both w (some ⟨b1, 0, none⟩) (some ⟨b2, 0, none⟩)) :
    Calls Tryz.prog 128 #[.agg #[.slice (some ⟨b1, 0, none⟩) 3 c1, .slice (some ⟨b2, 0, none⟩) 1 c2]] w fun e w' => ∃ A1 A2 d1 d2, e = .returned (.agg #[.slice A1 3 d1, .slice A2 1 d2]) ∧ Both w' A1 A2 ∧ Below w.heap.size w w' := by
  have hb0 : Below w.heap.size w ((w.alloc (.cells #[.slice (some ⟨b1, 0, none⟩) 3 c1, .slice (some ⟨b2, 0, none⟩) 1 c2] 68)).alloc (.cells #[.slice none 0 0, .slice none 0 0] 68)) := by repeat (first | exact Below.refl _ _ | refine below_drewN ?_ _ | refine Below.alloc ?_ (by first | omega | (simp; omega) | simp) _ | refine Below.setCell ?_ (by first | omega | (simp; omega) | simp) _ | refine Below.trans ?_ (Below.mono (by assumption) (by first | omega | (simp; omega) | simp)) | apply Below.drew)
  have HC1 := Lib.hid (fun (w : World) (hs : Seq w w.heap.size (some ⟨b1, 0, none⟩) (zsq.map cv)) => clone_any b1 0 3 c1 zsq rfl (by decide) w hs)
  have HC2 := Lib.hid (fun (w : World) (hs : Seq w w.heap.size (some ⟨b2, 0, none⟩) (oneSt.map cv)) => clone_any b2 0 1 c2 oneSt rfl (by decide) w hs)
  have HBO := Lib.hid (h.below hb0)
  have hx0 : ((w.alloc (.cells #[.slice (some ⟨b1, 0, none⟩) 3 c1, .slice (some ⟨b2, 0, none⟩) 1 c2] 68)).alloc (.cells #[.slice none 0 0, .slice none 0 0] 68)).cell? ⟨w.heap.size, 0, none⟩ = some (.slice (some ⟨b1, 0, none⟩) 3 c1) := by simp [go_sem]
  have hx1 : ((w.alloc (.cells #[.slice (some ⟨b1, 0, none⟩) 3 c1, .slice (some ⟨b2, 0, none⟩) 1 c2] 68)).alloc (.cells #[.slice none 0 0, .slice none 0 0] 68)).cell? ⟨w.heap.size, 1, none⟩ = some (.slice (some ⟨b2, 0, none⟩) 1 c2) := by simp [go_sem]
  clear h hb0
  go_enter Tryz.func128, Tryz.ntmps128
  go_wp2
  have hb1 : Below w.heap.size w ((w.alloc (.cells #[.slice (some ⟨b1, 0, none⟩) 3 c1, .slice (some ⟨b2, 0, none⟩) 1 c2] 68)).alloc (.cells #[.slice none 0 0, .slice none 0 0] 68)) := by repeat (first | exact Below.refl _ _ | refine below_drewN ?_ _ | refine Below.alloc ?_ (by first | omega | (simp; omega) | simp) _ | refine Below.setCell ?_ (by first | omega | (simp; omega) | simp) _ | refine Below.trans ?_ (Below.mono (by assumption) (by first | omega | (simp; omega) | simp)) | apply Below.drew)
  have hres0 : ((w.alloc (.cells #[.slice (some ⟨b1, 0, none⟩) 3 c1, .slice (some ⟨b2, 0, none⟩) 1 c2] 68)).alloc (.cells #[.slice none 0 0, .slice none 0 0] 68)).cell? ⟨w.heap.size + 1, 0, none⟩ = some (.slice none 0 0) := by simp [go_sem]
  have hres1 : ((w.alloc (.cells #[.slice (some ⟨b1, 0, none⟩) 3 c1, .slice (some ⟨b2, 0, none⟩) 1 c2] 68)).alloc (.cells #[.slice none 0 0, .slice none 0 0] 68)).cell? ⟨w.heap.size + 1, 1, none⟩ = some (.slice none 0 0) := by simp [go_sem]
  have hrf : ∀ o, ((w.alloc (.cells #[.slice (some ⟨b1, 0, none⟩) 3 c1, .slice (some ⟨b2, 0, none⟩) 1 c2] 68)).alloc (.cells #[.slice none 0 0, .slice none 0 0] 68)).frozen? ⟨w.heap.size + 1, o, none⟩ = false := fun o => by simp [go_sem]
  have hsz : ((w.alloc (.cells #[.slice (some ⟨b1, 0, none⟩) 3 c1, .slice (some ⟨b2, 0, none⟩) 1 c2] 68)).alloc (.cells #[.slice none 0 0, .slice none 0 0] 68)).heap.size = w.heap.size + 1 + 1 := by simp
  generalize ((w.alloc (.cells #[.slice (some ⟨b1, 0, none⟩) 3 c1, .slice (some ⟨b2, 0, none⟩) 1 c2] 68)).alloc (.cells #[.slice none 0 0, .slice none 0 0] 68)) = u at *
  have HBU := Lib.hid hb1
  have l0 : w.heap.size < u.heap.size := by omega
  have l1 : w.heap.size + 1 < u.heap.size := by omega
  have HR0 := Lib.hid hres0
  have HR1 := Lib.hid hres1
  have HRF := Lib.hid hrf
  clear hb1 hsz hres0 hres1 hrf
  go_region_held3 (fun x => x.cell? ⟨w.heap.size, 0, none⟩ = some (.slice (some ⟨b1, 0, none⟩) 3 c1) ∧ x.cell? ⟨w.heap.size, 1, none⟩ = some (.slice (some ⟨b2, 0, none⟩) 1 c2))
    ((refine ⟨?_, ?_⟩ <;> first | with_reducible assumption | (simp only [World.cell?_drew]; with_reducible assumption) | (rw [cell_set2 (by omega)]; with_reducible assumption)))
    (first
    | (go_at_call 190; (with_reducible refine (HC1.out _ (HBO.out.below (Below.refl _ _).drew).s1).mono ?_); rintro en w1 ⟨A1, d1, rfl, hq1, hn1, hb'⟩; have HN1 := Lib.hid hn1; clear hn1; have hb := undrew hb'; have HB1 := Lib.hid hb; have HQ1 := Lib.hid hq1; have p0 := (hb.cell (p := ⟨w.heap.size, 0, none⟩) l0).trans hx0; have p1 := (hb.cell (p := ⟨w.heap.size, 1, none⟩) l0).trans hx1; clear hb hb' hq1)
    | (go_at_call 190; (with_reducible refine (HC2.out _ (HBO.out.below HB1.out).s2).mono ?_); rintro en w2 ⟨A2, d2, rfl, hq2, hn2, hb⟩; have HN2 := Lib.hid hn2; clear hn2; have HB2 := Lib.hid hb; have HQ2 := Lib.hid hq2; have HQ12 := Lib.hid ((HQ1.out.below hb (Nat.le_refl _)).more hb.size); have t0 := (hb.cell (p := ⟨w.heap.size, 0, none⟩) (Nat.lt_of_lt_of_le l0 HB1.out.size)).trans p0; have t1 := (hb.cell (p := ⟨w.heap.size, 1, none⟩) (Nat.lt_of_lt_of_le l0 HB1.out.size)).trans p1; have HBB := Lib.hid (below_of HB1.out hb HB1.out.size); have E0 := (HBB.out.cell (p := ⟨w.heap.size + 1, 0, none⟩) l1).trans HR0.out; have E1 := (HBB.out.cell (p := ⟨w.heap.size + 1, 1, none⟩) l1).trans HR1.out; have EF : ∀ o, w2.frozen? ⟨w.heap.size + 1, o, none⟩ = false := (fun o => (HBB.out.frozen (p := ⟨w.heap.size + 1, o, none⟩) l1).trans (HRF.out o)); clear hb hq2))
  go_wp2
  have hbw : Below w.heap.size w w2 := HBU.out.trans (HBB.out.mono HBU.out.size)
  refine bodyPost_ret (v := .agg #[.slice A1 3 d1, .slice A2 1 d2]) (by simp [results, Tryz.results128, go_sem, E0, E1]) rfl ⟨A1, A2, d1, d2, rfl, ?_, (hbw.setCell (by show w.heap.size ≤ w.heap.size + 1; omega) _).setCell (by show w.heap.size ≤ w.heap.size + 1; omega) _⟩
  have k1 : ∀ b o, A1 = some ⟨b, o, none⟩ → b ≠ w.heap.size + 1 := fun b o hA => by have := HN1.out b o hA; simp at this; omega
  have k2 : ∀ b o, A2 = some ⟨b, o, none⟩ → b ≠ w.heap.size + 1 := fun b o hA => by have := HN2.out b o hA; have := HB1.out.size; omega
  exact ⟨by simpa using (HQ12.out.setOther k1).setOther k1, by simpa using (HQ2.out.setOther k2).setOther k2⟩
end Go.Proofs.YtbgjcpnbdgljbaaGreatDoor

/- The contracts of status.New of z^2 - 1, and of filigreelaw19's lives. -/
namespace Go.Proofs.YtbgjcpnbdgljbaaGreatDoor
open Go.RowKit Go.Fil Go.Shelf
attribute [local irreducible] fop fsqrt fup fabs fneg pick fmax hiS sizeP sizeQ

theorem Seq.set {w : World} {B g i : Nat} {A : Option Addr} {xs : List Value} {v : Value} (h : Seq w B A xs) (hB : B ≤ g) : Seq (w.setCell ⟨g, i, none⟩ v) B A xs := by
  rcases h with h | ⟨b, o, hA, hb, hc⟩
  · exact .inl h
  · refine .inr ⟨b, o, hA, hb, fun k u hu => ?_⟩
    rw [World.cell?_setCell_other _ _ _ _ (fun e => by injection e; omega)]
    exact hc k u hu
/-- A new judge. -/
def RJ (w : World) (e : Ending) (w' : World) : Prop := ∃ j A1 A2 d1 d2, e = .returned (.tuple #[.pointer (some ⟨j, 0, none⟩), .int .i64 0]) ∧ JAt w' j A1 A2 d1 d2 ∧ Below w.heap.size w w'
theorem judge_made {w w2 w3 : World} {A1 A2 : Option Addr} {d1 d2 : Nat} (hb : Both w2 A1 A2) (hw : Below w.heap.size w w2) (h3 : Below (w2.alloc (.cells #[.slice A1 3 d1, .slice A2 1 d2, .int .i64 100, .slice none 0 0, .float .f64 0, .bool false, .bool true] 194)).heap.size (w2.alloc (.cells #[.slice A1 3 d1, .slice A2 1 d2, .int .i64 100, .slice none 0 0, .float .f64 0, .bool false, .bool true] 194)) w3) :
    JAt ((w3.setCell ⟨w2.heap.size, 4, none⟩ (.float .f64 4613937818241073154)).setCell ⟨w2.heap.size, 5, none⟩ (.bool true)) w2.heap.size A1 A2 d1 d2 ∧ Below w.heap.size w ((w3.setCell ⟨w2.heap.size, 4, none⟩ (.float .f64 4613937818241073154)).setCell ⟨w2.heap.size, 5, none⟩ (.bool true)) := by
  have hj : w3.heap[w2.heap.size]? = some (.cells #[.slice A1 3 d1, .slice A2 1 d2, .int .i64 100, .slice none 0 0, .float .f64 0, .bool false, .bool true] 194 (0, 0)) := (h3.block _ (by simp)).trans (fresh_row w2 _)
  have h1 := heap_setCell_same w3 w2.heap.size 4 _ _ (.float .f64 4613937818241073154) hj
  have h2 := heap_setCell_same _ w2.heap.size 5 _ _ (.bool true) h1
  have hbw : Below w2.heap.size w2 w3 := (alloc_below w2 _).trans (h3.mono (by simp))
  have s3 := hbw.size
  refine ⟨⟨h2, ?_, ?_⟩, ?_⟩
  · exact (((hb.1.below hbw (Nat.le_refl _)).set (Nat.le_refl _)).set (Nat.le_refl _)).more (by simpa using s3)
  · exact (((hb.2.below hbw (Nat.le_refl _)).set (Nat.le_refl _)).set (Nat.le_refl _)).more (by simpa using s3)
  · exact ((hw.trans (hbw.mono hw.size)).setCell hw.size _).setCell hw.size _
set_option maxRecDepth 100000 in
set_option maxHeartbeats 3200000 in
theorem new_any (b1 b2 : Nat) (w : World) (h : Both w (some ⟨b1, 0, none⟩) (some ⟨b2, 0, none⟩)) :
    Calls Tryz.prog 66 #[.agg #[.slice (some ⟨b1, 0, none⟩) 3 3, .slice (some ⟨b2, 0, none⟩) 1 1], .int .i64 100, .slice none 0 0] w (RJ w) := by
  have HM := Lib.hid (fun (w : World) (h : Both w (some ⟨b1, 0, none⟩) (some ⟨b2, 0, none⟩)) => mc_any (some ⟨b1, 0, none⟩) (some ⟨b2, 0, none⟩) 3 1 w h.s1 h.s2)
  have HCO := Lib.hid (fun (w : World) (h : Both w (some ⟨b1, 0, none⟩) (some ⟨b2, 0, none⟩)) => copied_any b1 b2 3 1 w h)
  have HRA := Lib.hid (fun (w : World) (h : Both w (some ⟨b1, 0, none⟩) (some ⟨b2, 0, none⟩)) => radius_any b1 b2 w h.s1 h.s2)
  have HBO := Lib.hid h
  clear h
  go_enter Tryz.func66, Tryz.ntmps66
  go_wp2_with (go_at_call 71; refine (HM.out _ (HBO.out.below (by repeat (first | exact Below.refl _ _ | refine below_drewN ?_ _ | refine Below.alloc ?_ (by first | omega | (simp; omega) | simp) _ | refine Below.setCell ?_ (by first | omega | (simp; omega) | simp) _ | refine Below.trans ?_ (Below.mono (by assumption) (by first | omega | (simp; omega) | simp)) | apply Below.drew)))).mono ?_; rintro en w1 ⟨rfl, hb⟩; have HB1 := Lib.hid (show Below w.heap.size w w1 by repeat (first | exact Below.refl _ _ | refine below_drewN ?_ _ | refine Below.alloc ?_ (by first | omega | (simp; omega) | simp) _ | refine Below.setCell ?_ (by first | omega | (simp; omega) | simp) _ | refine Below.trans ?_ (Below.mono (by assumption) (by first | omega | (simp; omega) | simp)) | apply Below.drew)); have z0 : w.heap.size < w1.heap.size := (by have := hb.size; (try simp at this); omega); have k0 := (hb.cell (p := ⟨w.heap.size, 0, none⟩) (by simp)).trans (show _ = some (.slice (some ⟨b1, 0, none⟩) 3 3) by simp [go_sem]); have k1 := (hb.cell (p := ⟨w.heap.size, 1, none⟩) (by simp)).trans (show _ = some (.slice (some ⟨b2, 0, none⟩) 1 1) by simp [go_sem]); clear hb)
  refine wp_loop_rounds 1 ?_
  rw [rounds_succ]
  go_wp2_with (first
    | (go_at_call 128; refine (HCO.out _ (HBO.out.below HB1.out)).mono ?_; rintro en w2 ⟨A1, A2, d1, d2, rfl, hbo, hb⟩; have HBN := Lib.hid hbo; have HB2 := Lib.hid (HB1.out.trans (hb.mono HB1.out.size)); have z2 : w.heap.size < w2.heap.size := Nat.lt_of_lt_of_le z0 hb.size; have t0 := (hb.cell (p := ⟨w.heap.size, 0, none⟩) z0).trans k0; have t1 := (hb.cell (p := ⟨w.heap.size, 1, none⟩) z0).trans k1; clear hbo hb)
    | (go_at_call 129; refine (clonet_nil _).mono ?_; rintro en w' ⟨rfl, rfl⟩)
    | (go_at_call 130; refine (HRA.out _ (HBO.out.below (HB2.out.alloc HB2.out.size _))).mono ?_; rintro en w3 ⟨rfl, hb⟩; have HB3 := Lib.hid hb; have hj : w3.heap[w2.heap.size]? = _ := (hb.block w2.heap.size (by simp)).trans (fresh_row w2 _); have f4 := frozen_of_row w3 w2.heap.size 4 _ _ hj; have f5 := frozen_of_row w3 w2.heap.size 5 _ _ hj; have c4 : w3.cell? ⟨w2.heap.size, 4, none⟩ = some (.float .f64 0) := (by rw [cell_of_row w3 _ 4 _ _ (0, 0) hj]; rfl); have c5 : w3.cell? ⟨w2.heap.size, 5, none⟩ = some (.bool false) := (by rw [cell_of_row w3 _ 5 _ _ (0, 0) hj]; rfl); clear hb hj))
  go_ret2
  obtain ⟨m1, m2⟩ := judge_made (d1 := d1) (d2 := d2) HBN.out HB2.out HB3.out
  exact ⟨_, A1, A2, d1, d2, rfl, m1, m2⟩
end Go.Proofs.YtbgjcpnbdgljbaaGreatDoor

/- The contract of filigreelaw19.lives; StatusNames, StatusAgrees walked. -/
namespace Go.Proofs.YtbgjcpnbdgljbaaGreatDoor
open Go.RowKit Go.Fil Go.Shelf
attribute [local irreducible] fop fsqrt fup fabs fneg pick fmax hiS sizeP sizeQ

theorem both_new (w : World) : Both ((w.alloc (.cells #[.complex .f64 13830554455654793216 0, .complex .f64 0 0, .complex .f64 4607182418800017408 0] 41)).alloc (.cells #[.complex .f64 4607182418800017408 0] 41)) (some ⟨w.heap.size, 0, none⟩) (some ⟨w.heap.size + 1, 0, none⟩) := by
  refine ⟨.inr ⟨w.heap.size, 0, rfl, by simp <;> omega, fun k u hu => ?_⟩, .inr ⟨w.heap.size + 1, 0, rfl, by simp, fun k u hu => ?_⟩⟩
  · rw [Nat.zero_add, cell_alloc_lt _ _ (by simp), World.cell?_alloc_at _ _ _ _ (by simp)]
    match k, hu with
    | 0, hu => exact hu
    | 1, hu => exact hu
    | 2, hu => exact hu
    | k + 3, hu => simp [zsq] at hu
  · have hsz : w.heap.size + 1 = (w.alloc (.cells #[.complex .f64 13830554455654793216 0, .complex .f64 0 0, .complex .f64 4607182418800017408 0] 41)).heap.size := by simp
    rw [Nat.zero_add, hsz, World.cell?_alloc_at _ _ _ _ (by simp)]
    match k, hu with
    | 0, hu => exact hu
    | k + 1, hu => simp [oneSt] at hu
set_option maxRecDepth 100000 in
set_option maxHeartbeats 3200000 in
theorem slives_any (w : World) (hT : Tab w) : Calls Tryz.prog 29 #[] w fun e w' => e = .returned (.bool true) ∧ Below w.heap.size w w' := by
  have e1 : (FloatKind.f64.format.order 4613937818241073154 4613937818241073152 == some .gt) = true := by decide +kernel
  have e2 : (FloatKind.f64.format.order 4613937818241073154 4613940070040886837 == some .lt) = true := by decide +kernel
  have HN := Lib.hid (new_any w.heap.size (w.heap.size + 1) _ (both_new w))
  have HT := Lib.hid hT
  clear hT
  go_enter Tryz.func29, Tryz.ntmps29
  go_wp2_with (first
    | (go_at_call 66; refine (HN.out).mono ?_; rintro en w1 ⟨j, A1, A2, d1, d2, rfl, hj, hb⟩; have HJ := Lib.hid hj; have HB1 := Lib.hid (show Below w.heap.size w w1 by repeat (first | exact Below.refl _ _ | refine below_drewN ?_ _ | refine Below.alloc ?_ (by first | omega | (simp; omega) | simp) _ | refine Below.setCell ?_ (by first | omega | (simp; omega) | simp) _ | refine Below.trans ?_ (Below.mono (by assumption) (by first | omega | (simp; omega) | simp)) | apply Below.drew)); clear hj hb)
    | (go_at_call 67; refine (witness_any j A1 A2 d1 d2 _ HJ.out (HT.out.below HB1.out)).mono ?_; rintro en w2 ⟨rfl, hb2⟩; have HJ2 := Lib.hid (HJ.out.below (hb2.alloc hb2.size (.cells #[.int .u8 2, .int .i64 0, .int .i64 0] 121))); have HB2 := Lib.hid ((HB1.out.trans (hb2.mono HB1.out.size)).alloc (Nat.le_trans HB1.out.size hb2.size) (.cells #[.int .u8 2, .int .i64 0, .int .i64 0] 121)); clear hb2)
    | (go_at_call 68; refine (jradius_any j A1 A2 d1 d2 _ HJ2.out).mono ?_; rintro en w' ⟨rfl, n, rfl⟩)
    | (go_at_call 69; refine (tell_any j A1 A2 d1 d2 _ (HJ2.out.below (by repeat (first | exact Below.refl _ _ | refine below_drewN ?_ _ | refine Below.alloc ?_ (by first | omega | (simp; omega) | simp) _ | refine Below.setCell ?_ (by first | omega | (simp; omega) | simp) _ | refine Below.trans ?_ (Below.mono (by assumption) (by first | omega | (simp; omega) | simp)) | apply Below.drew))) ((HT.out.below HB2.out).below (by repeat (first | exact Below.refl _ _ | refine below_drewN ?_ _ | refine Below.alloc ?_ (by first | omega | (simp; omega) | simp) _ | refine Below.setCell ?_ (by first | omega | (simp; omega) | simp) _ | refine Below.trans ?_ (Below.mono (by assumption) (by first | omega | (simp; omega) | simp)) | apply Below.drew)))).mono ?_; rintro en w3 ⟨rfl, hb3⟩; have HJ3 := Lib.hid ((HJ2.out.below (show Below _ _ _ by repeat (first | exact Below.refl _ _ | refine below_drewN ?_ _ | refine Below.alloc ?_ (by first | omega | (simp; omega) | simp) _ | refine Below.setCell ?_ (by first | omega | (simp; omega) | simp) _ | refine Below.trans ?_ (Below.mono (by assumption) (by first | omega | (simp; omega) | simp)) | apply Below.drew))).below hb3))
    | (go_at_call 70; refine (steps_any j A1 A2 d1 d2 _ HJ3.out).mono ?_; rintro en w' ⟨rfl, rfl⟩))
  have hb2 := HB2.out
  go_ret
  exact ⟨rfl, (below_drewN hb2 n).trans (hb3.mono (by simpa using hb2.size))⟩
set_option maxRecDepth 100000 in
theorem statusNames_any (w : World) (hT : Tab w) : Calls Tryz.prog 5 #[] w fun e w' => e = .returned (.bool true) ∧ Below w.heap.size w w' := by
  have H := Lib.hid (slives_any w hT)
  clear hT
  go_enter Tryz.func5, Tryz.ntmps5
  go_wp2_with (go_at_call 29; refine (H.out).mono ?_; rintro e w1 ⟨rfl, hb⟩)
  go_ret
  exact ⟨rfl, hb⟩
def agreeS (a b : Int) : Bool := !((a == 1 && b == 2) || (a == 2 && b == 1))
set_option maxRecDepth 100000 in
theorem agree_any (a b : Int) (w : World) : Calls Tryz.prog 30 #[.int .u8 a, .int .u8 b] w fun e w' => e = .returned (.bool (agreeS a b)) ∧ w = w' := by
  unfold agreeS
  cases h1 : a == 1 <;> cases h2 : a == 2 <;> cases h3 : b == 1 <;> cases h4 : b == 2
  all_goals
    go_enter Tryz.func30, Tryz.ntmps30
    go_wp2
    go_ret
    exact ⟨rfl, rfl⟩
set_option maxRecDepth 100000 in
theorem statusAgrees_any (a b : Int) (w : World) (hT : Tab w) : Calls Tryz.prog 6 #[.int .u8 a, .int .u8 b] w fun e w' => e = .returned (.bool true) ∧ Below w.heap.size w w' := by
  have H := Lib.hid (slives_any w hT)
  have HA := Lib.hid (agree_any a b)
  clear hT
  cases h1 : a == 1 <;> cases h2 : a == 2 <;> cases h3 : b == 1 <;> cases h4 : b == 2
  all_goals
    have HG := Lib.hid (show agreeS a b = _ by unfold agreeS; rw [h1, h2, h3, h4])
    have HA2 := Lib.hid (fun w => by have h := HA.out w; rw [HG.out] at h; simp only [Bool.and_true, Bool.and_false, Bool.or_false, Bool.or_true, Bool.not_true, Bool.not_false] at h; exact h)
    go_enter Tryz.func6, Tryz.ntmps6
    go_wp2_with (first
      | (go_at_call 30; refine (HA2.out _).mono ?_; rintro e w' ⟨rfl, rfl⟩)
      | (go_at_call 29; refine (H.out).mono ?_; rintro e w1 ⟨rfl, hb⟩))
    go_ret
    exact ⟨rfl, hb⟩
end Go.Proofs.YtbgjcpnbdgljbaaGreatDoor
