/- The contracts of dyad.Mul, Sub. -/
import Derived.Test.YtbgjcpnbdgljbaaGreatDoorMDyd
namespace Go.Proofs.YtbgjcpnbdgljbaaGreatDoor
open Go.RowKit Go.Fil Go.Shelf

theorem cell3 {w : World} {g b o i j k : Nat} {u v x : Value} (h : g ≠ b) : (((w.setCell ⟨g, i, none⟩ u).setCell ⟨g, j, none⟩ v).setCell ⟨g, k, none⟩ x).cell? ⟨b, o, none⟩ = w.cell? ⟨b, o, none⟩ := by
  rw [World.cell?_setCell_other _ _ _ _ (fun e => h (by injection e)), World.cell?_setCell_other _ _ _ _ (fun e => h (by injection e)), World.cell?_setCell_other _ _ _ _ (fun e => h (by injection e))]
set_option maxRecDepth 100000 in
set_option maxHeartbeats 6400000 in
theorem dmul_any (a b : Dya) (ha : okD a) (hb : okD b) (hf : fitD (mulD a b)) (w : World) (hT : Tab w) :
    Calls Tryz.prog 48 #[.agg #[.bool (dn a), .string (ds a), .int .i64 a.e], .agg #[.bool (dn b), .string (ds b), .int .i64 b.e]] w (RDv (mulD a b) w) := by
  have HAL := Lib.hid (dall_any a b ha hb)
  have HWA := Lib.hid (dwholeV a ha)
  have HWB := Lib.hid (dwholeV b hb)
  have hfa := ha.fit
  have hfb := hb.fit
  unfold fitD at hfa hfb
  have hmd : mulD a b = mkD (a.m * b.m) (a.e + b.e) := rfl
  rw [hmd] at hf ⊢
  clear hmd ha hb
  unfold Two at HAL
  unfold RDv
  have b8 := hfa.2.1
  have b9 := hfa.2.2
  have b10 := hfb.2.1
  have b11 := hfb.2.2
  have HLA := Lib.hid hfa.1
  have HLB := Lib.hid hfb.1
  have HF := Lib.hid hf
  have HT := Lib.hid hT
  clear hf hfa hfb hT
  generalize hdn : mkD (a.m * b.m) (a.e + b.e) = D at *
  have HDN := Lib.hid hdn
  clear hdn
  generalize dn a = na at *
  generalize ds a = sa at *
  generalize a.e = xa at *
  generalize a.m = ma at *
  generalize dn b = nb at *
  generalize ds b = sb at *
  generalize b.e = xb at *
  generalize b.m = mb at *
  have HSM := Lib.hid (show bl (ma * mb).natAbs ≤ 1073741824 by
    rw [Int.natAbs_mul]
    have := bl_mul ma.natAbs mb.natAbs
    have := HLA.out
    have := HLB.out
    omega)
  go_enter Tryz.func48, Tryz.ntmps48
  go_wp2_with (go_at_call 89; refine (HAL.out _ _ ?_ ?_).mono ?_; simp; simp [go_sem]; rintro e w1 ⟨rfl, hb⟩; obtain ⟨hc, hf⟩ := bcell hb; (try simp only [World.heap_drewN, World.cell?_drewN, World.frozen?_drewN] at hc hf); have z0 : w.heap.size < w1.heap.size := (by have := hb.size; (try simp at this); omega); have z1 : w.heap.size + 1 < w1.heap.size := (by have := hb.size; (try simp at this); omega); have z2 : w.heap.size + 1 + 1 < w1.heap.size := (by have := hb.size; (try simp at this); omega); have z3 : w.heap.size + 2 < w1.heap.size := (by omega))
  refine (HWA.out _).mono ?_
  rintro en w4 ⟨g, rfl, hi4, hb4, hg4⟩
  have s4 := hb4.size
  have HB1 := Lib.hid (show Below w.heap.size w w1 by repeat (first | exact Below.refl _ _ | refine below_drewN ?_ _ | refine Below.alloc ?_ (by first | omega | (simp; omega) | simp) _ | refine Below.setCell ?_ (by first | omega | (simp; omega) | simp) _ | refine Below.trans ?_ (Below.mono (by assumption) (by first | omega | (simp; omega) | simp)) | apply Below.drew))
  have HB4 := Lib.hid hb4
  have HI4 := Lib.hid hi4
  have HT4 := Lib.hid (HT.out.below (HB1.out.trans (hb4.mono HB1.out.size)))
  obtain ⟨hc4, hf4⟩ := bcell hb4
  have hb4' := hb4
  clear hi4 hb4
  have l0 : w.heap.size < w1.heap.size := by omega
  have l1 : w.heap.size + 1 < w1.heap.size := by omega
  have m2 : w1.cell? ⟨w.heap.size, 2, none⟩ = some (.int .i64 xa) := by rw [hc _ _ (by simp <;> omega)] <;> try simp [go_sem]
  have m3 : w1.cell? ⟨w.heap.size + 1, 0, none⟩ = some (.bool nb) := by rw [hc _ _ (by simp <;> omega)] <;> try simp [go_sem]
  have m4 : w1.cell? ⟨w.heap.size + 1, 1, none⟩ = some (.string sb) := by rw [hc _ _ (by simp <;> omega)] <;> try simp [go_sem]
  have m5 : w1.cell? ⟨w.heap.size + 1, 2, none⟩ = some (.int .i64 xb) := by rw [hc _ _ (by simp <;> omega)] <;> try simp [go_sem]
  have rc0 : w1.cell? ⟨w.heap.size + 1 + 1, 0, none⟩ = some (.bool false) := by rw [hc _ _ (by simp <;> omega)] <;> try simp [go_sem]
  have rf0 : w1.frozen? ⟨w.heap.size + 1 + 1, 0, none⟩ = false := by rw [hf _ _ (by simp <;> omega)] <;> try simp [go_sem]
  have rc1 : w1.cell? ⟨w.heap.size + 1 + 1, 1, none⟩ = some (.string ⟨#[]⟩) := by rw [hc _ _ (by simp <;> omega)] <;> try simp [go_sem]
  have rf1 : w1.frozen? ⟨w.heap.size + 1 + 1, 1, none⟩ = false := by rw [hf _ _ (by simp <;> omega)] <;> try simp [go_sem]
  have rc2 : w1.cell? ⟨w.heap.size + 1 + 1, 2, none⟩ = some (.int .i64 0) := by rw [hc _ _ (by simp <;> omega)] <;> try simp [go_sem]
  have rf2 : w1.frozen? ⟨w.heap.size + 1 + 1, 2, none⟩ = false := by rw [hf _ _ (by simp <;> omega)] <;> try simp [go_sem]
  have k2 := (hb4'.cell (p := ⟨w.heap.size, 2, none⟩) l0).trans m2; have k3 := (hb4'.cell (p := ⟨w.heap.size + 1, 0, none⟩) l1).trans m3; have k4 := (hb4'.cell (p := ⟨w.heap.size + 1, 1, none⟩) l1).trans m4; have k5 := (hb4'.cell (p := ⟨w.heap.size + 1, 2, none⟩) l1).trans m5
  go_wp2
  have j1 : w.heap.size + 1 + 1 ≠ w.heap.size := by omega
  have j2 : w.heap.size + 1 + 1 ≠ w.heap.size + 1 := by omega
  have v0 : w.heap.size + 2 < w1.heap.size := z3
  have e1 : -1073741824 ≤ xa + xb := by omega
  have e2 : xa + xb ≤ 1073741824 := by omega
  have hsum : IntKind.i64.wrap (xa + xb) = xa + xb := IntWalk.i64_in _ (by omega)
  have g0 : w.heap.size + 2 < w4.heap.size := Nat.lt_of_lt_of_le v0 s4
  clear hc hf hc4 hf4 HAL HWA hb hb4' b8 b9 b10 b11 z0 z1 z2 z3
  go_region_held3 (fun x => x.cell? ⟨w.heap.size, 2, none⟩ = some (.int .i64 xa) ∧ x.cell? ⟨w.heap.size + 1, 0, none⟩ = some (.bool nb) ∧ x.cell? ⟨w.heap.size + 1, 1, none⟩ = some (.string sb) ∧ x.cell? ⟨w.heap.size + 1, 2, none⟩ = some (.int .i64 xb))
    ((refine ⟨?_, ?_, ?_, ?_⟩ <;> first | with_reducible assumption | (simp only [World.cell?_drew]; with_reducible assumption) | ((first | rw [cell3 j1] | rw [cell3 j2]); with_reducible assumption)))
    (first
    | (go_at_call 91; refine (HWB.out _).mono ?_; rintro en w5 ⟨g2, rfl, hi5, hb5', hg5⟩; have hb5 := undrew hb5'; clear hb5'; have hne : g ≠ g2 := Nat.ne_of_lt (Nat.lt_of_lt_of_le HI4.out.lt hg5); have HB5 := Lib.hid (below_of HB4.out hb5 s4); have HIA5 := Lib.hid (HI4.out.below hb5); have HIB5 := Lib.hid hi5; have hf5 := (bcell HB5.out).2; have q2 := (HB5.out.cell (p := ⟨w.heap.size, 2, none⟩) l0).trans m2; have q3 := (HB5.out.cell (p := ⟨w.heap.size + 1, 0, none⟩) l1).trans m3; have q4 := (HB5.out.cell (p := ⟨w.heap.size + 1, 1, none⟩) l1).trans m4; have q5 := (HB5.out.cell (p := ⟨w.heap.size + 1, 2, none⟩) l1).trans m5; clear hi5 hb5; have s5 := HB5.out.size)
    | (go_at_call 96; refine (imul_any g g g2 ma mb (Nat.le_trans HLA.out (by decide)) (Nat.le_trans HLB.out (by decide)) _ HIA5.out.blk HIA5.out HIB5.out).mono ?_; rintro en w6 ⟨rfl, hi6, hg6⟩; have HB6 := Lib.hid (grow_mid HB5.out hg6 hg4); have HI6 := Lib.hid hi6; have HT6 := Lib.hid (HT.out.below (HB1.out.trans (HB6.out.mono HB1.out.size))); have p2 := (HB6.out.cell (p := ⟨w.heap.size, 2, none⟩) l0).trans m2; have p3 := (HB6.out.cell (p := ⟨w.heap.size + 1, 0, none⟩) l1).trans m3; have p4 := (HB6.out.cell (p := ⟨w.heap.size + 1, 1, none⟩) l1).trans m4; have p5 := (HB6.out.cell (p := ⟨w.heap.size + 1, 2, none⟩) l1).trans m5; clear hi6 hg6; have s6 := HB6.out.size)
    | (go_at_call 93; refine (madeV_any g _ _ HSM.out e1 e2 (by rw [HDN.out]; exact HF.out) _ HI6.out HT6.out).mono ?_; rw [HDN.out]; rintro en w9 ⟨rfl, hb9⟩; have HB9 := Lib.hid (below_of HB6.out hb9 s6); clear hb9; have rc0' := (HB9.out.cell (p := ⟨w.heap.size + 1 + 1, 0, none⟩) v0).trans rc0; have rf0' := (HB9.out.frozen (p := ⟨w.heap.size + 1 + 1, 0, none⟩) v0).trans rf0; have rc1' := (HB9.out.cell (p := ⟨w.heap.size + 1 + 1, 1, none⟩) v0).trans rc1; have rf1' := (HB9.out.frozen (p := ⟨w.heap.size + 1 + 1, 1, none⟩) v0).trans rf1; have rc2' := (HB9.out.cell (p := ⟨w.heap.size + 1 + 1, 2, none⟩) v0).trans rc2; have rf2' := (HB9.out.frozen (p := ⟨w.heap.size + 1 + 1, 2, none⟩) v0).trans rf2; have n2 := (HB9.out.cell (p := ⟨w.heap.size, 2, none⟩) l0).trans m2; have n3 := (HB9.out.cell (p := ⟨w.heap.size + 1, 0, none⟩) l1).trans m3; have n4 := (HB9.out.cell (p := ⟨w.heap.size + 1, 1, none⟩) l1).trans m4; have n5 := (HB9.out.cell (p := ⟨w.heap.size + 1, 2, none⟩) l1).trans m5; have s9 := HB9.out.size; have v2 : w.heap.size + 2 < w9.heap.size := Nat.lt_of_lt_of_le v0 s9))
  go_wp2
  have hbw : Below w.heap.size w w9 := HB1.out.trans (HB9.out.mono HB1.out.size)
  exact bodyPost_ret (v := .tuple #[.agg #[.bool (dn D), .string (ds D), .int .i64 D.e], .int .i64 0]) (by simp [results, Tryz.results48, go_sem, *]) rfl ⟨rfl, by repeat (first | exact Below.refl _ _ | refine below_drewN ?_ _ | refine Below.alloc ?_ (by first | omega | (simp; omega) | simp) _ | refine Below.setCell ?_ (by first | omega | (simp; omega) | simp) _ | refine Below.trans ?_ (Below.mono (by assumption) (by first | omega | (simp; omega) | simp)) | apply Below.drew)⟩
set_option maxRecDepth 100000 in
set_option maxHeartbeats 3200000 in
theorem dsub_any (a b : Dya) (ha : okD a) (hb : okD b) (hd : max a.e b.e - min a.e b.e ≤ 131080) (hf : fitD (addD a (negD b))) (w : World) (hT : Tab w) :
    Calls Tryz.prog 47 #[.agg #[.bool (dn a), .string (ds a), .int .i64 a.e], .agg #[.bool (dn b), .string (ds b), .int .i64 b.e]] w (RDv (addD a (negD b)) w) := by
  have HAL := Lib.hid (dall_any a b ha hb)
  have HNG := Lib.hid (dnegV b hb)
  have HAD := Lib.hid (dadd_any a (negD b) ha (okD_neg hb) hd hf)
  have HT := Lib.hid hT
  clear ha hb hd hf hT
  unfold Two at HAL
  unfold RDv at HAD ⊢
  generalize dn a = na at *
  generalize ds a = sa at *
  generalize a.e = xa at *
  generalize dn b = nb at *
  generalize ds b = sb at *
  generalize b.e = xb at *
  generalize addD a (negD b) = D at *
  generalize negD b = M at *
  go_enter Tryz.func47, Tryz.ntmps47
  go_wp2_with (go_at_call 89; refine (HAL.out _ _ ?_ ?_).mono ?_; simp; simp [go_sem]; rintro e w1 ⟨rfl, hb⟩; obtain ⟨hc, hf⟩ := bcell hb; (try simp only [World.heap_drewN, World.cell?_drewN, World.frozen?_drewN] at hc hf); have z0 : w.heap.size < w1.heap.size := (by have := hb.size; (try simp at this); omega); have z1 : w.heap.size + 1 < w1.heap.size := (by have := hb.size; (try simp at this); omega); have z2 : w.heap.size + 1 + 1 < w1.heap.size := (by have := hb.size; (try simp at this); omega); have z3 : w.heap.size + 2 < w1.heap.size := (by omega))
  have HB1 := Lib.hid (show Below w.heap.size w w1 by repeat (first | exact Below.refl _ _ | refine below_drewN ?_ _ | refine Below.alloc ?_ (by first | omega | (simp; omega) | simp) _ | refine Below.setCell ?_ (by first | omega | (simp; omega) | simp) _ | refine Below.trans ?_ (Below.mono (by assumption) (by first | omega | (simp; omega) | simp)) | apply Below.drew))
  have HT1 := Lib.hid (HT.out.below HB1.out)
  have l0 : w.heap.size < w1.heap.size := by omega
  have l1 : w.heap.size + 1 < w1.heap.size := by omega
  have l2 : w.heap.size + 1 + 1 < w1.heap.size := by omega
  have m0 : w1.cell? ⟨w.heap.size, 0, none⟩ = some (.bool na) := by rw [hc _ _ (by simp <;> omega)] <;> try simp [go_sem]
  have m1 : w1.cell? ⟨w.heap.size, 1, none⟩ = some (.string sa) := by rw [hc _ _ (by simp <;> omega)] <;> try simp [go_sem]
  have m2 : w1.cell? ⟨w.heap.size, 2, none⟩ = some (.int .i64 xa) := by rw [hc _ _ (by simp <;> omega)] <;> try simp [go_sem]
  have m3 : w1.cell? ⟨w.heap.size + 1, 0, none⟩ = some (.bool nb) := by rw [hc _ _ (by simp <;> omega)] <;> try simp [go_sem]
  have m4 : w1.cell? ⟨w.heap.size + 1, 1, none⟩ = some (.string sb) := by rw [hc _ _ (by simp <;> omega)] <;> try simp [go_sem]
  have m5 : w1.cell? ⟨w.heap.size + 1, 2, none⟩ = some (.int .i64 xb) := by rw [hc _ _ (by simp <;> omega)] <;> try simp [go_sem]
  have rc0 : w1.cell? ⟨w.heap.size + 1 + 1, 0, none⟩ = some (.bool false) := by rw [hc _ _ (by simp <;> omega)] <;> try simp [go_sem]
  have rc1 : w1.cell? ⟨w.heap.size + 1 + 1, 1, none⟩ = some (.string ⟨#[]⟩) := by rw [hc _ _ (by simp <;> omega)] <;> try simp [go_sem]
  have rc2 : w1.cell? ⟨w.heap.size + 1 + 1, 2, none⟩ = some (.int .i64 0) := by rw [hc _ _ (by simp <;> omega)] <;> try simp [go_sem]
  have rf0 : w1.frozen? ⟨w.heap.size + 1 + 1, 0, none⟩ = false := by rw [hf _ _ (by simp <;> omega)] <;> try simp [go_sem]
  have rf1 : w1.frozen? ⟨w.heap.size + 1 + 1, 1, none⟩ = false := by rw [hf _ _ (by simp <;> omega)] <;> try simp [go_sem]
  have rf2 : w1.frozen? ⟨w.heap.size + 1 + 1, 2, none⟩ = false := by rw [hf _ _ (by simp <;> omega)] <;> try simp [go_sem]
  have j1 : w.heap.size + 1 + 1 ≠ w.heap.size := by omega
  have j2 : w.heap.size + 1 + 1 ≠ w.heap.size + 1 := by omega
  clear hc hf hb z0 z1 z2 z3 HAL HT
  go_region_held3 (fun x => x.cell? ⟨w.heap.size, 0, none⟩ = some (.bool na) ∧ x.cell? ⟨w.heap.size, 1, none⟩ = some (.string sa) ∧ x.cell? ⟨w.heap.size, 2, none⟩ = some (.int .i64 xa) ∧ x.cell? ⟨w.heap.size + 1, 0, none⟩ = some (.bool nb) ∧ x.cell? ⟨w.heap.size + 1, 1, none⟩ = some (.string sb) ∧ x.cell? ⟨w.heap.size + 1, 2, none⟩ = some (.int .i64 xb))
    ((refine ⟨?_, ?_, ?_, ?_, ?_, ?_⟩ <;> first | with_reducible assumption | (simp only [World.cell?_drew]; with_reducible assumption) | ((first | rw [cell3 j1] | rw [cell3 j2]); with_reducible assumption)))
    (first
    | (go_at_call 95; refine (HNG.out _).mono ?_; rintro en w5 ⟨rfl, hb5'⟩; have HB5 := Lib.hid (undrew hb5'); clear hb5'; have q0 := (HB5.out.cell (p := ⟨w.heap.size, 0, none⟩) l0).trans m0; have q1 := (HB5.out.cell (p := ⟨w.heap.size, 1, none⟩) l0).trans m1; have q2 := (HB5.out.cell (p := ⟨w.heap.size, 2, none⟩) l0).trans m2; have q3 := (HB5.out.cell (p := ⟨w.heap.size + 1, 0, none⟩) l1).trans m3; have q4 := (HB5.out.cell (p := ⟨w.heap.size + 1, 1, none⟩) l1).trans m4; have q5 := (HB5.out.cell (p := ⟨w.heap.size + 1, 2, none⟩) l1).trans m5)
    | (go_at_call 43; refine (HAD.out _ (HT1.out.below HB5.out)).mono ?_; rintro en w6 ⟨rfl, hb6⟩; have HB6 := Lib.hid (below_of HB5.out hb6 HB5.out.size); clear hb6; have p0 := (HB6.out.cell (p := ⟨w.heap.size, 0, none⟩) l0).trans m0; have p1 := (HB6.out.cell (p := ⟨w.heap.size, 1, none⟩) l0).trans m1; have p2 := (HB6.out.cell (p := ⟨w.heap.size, 2, none⟩) l0).trans m2; have p3 := (HB6.out.cell (p := ⟨w.heap.size + 1, 0, none⟩) l1).trans m3; have p4 := (HB6.out.cell (p := ⟨w.heap.size + 1, 1, none⟩) l1).trans m4; have p5 := (HB6.out.cell (p := ⟨w.heap.size + 1, 2, none⟩) l1).trans m5; have rc0' := (HB6.out.cell (p := ⟨w.heap.size + 1 + 1, 0, none⟩) l2).trans rc0; have rf0' := (HB6.out.frozen (p := ⟨w.heap.size + 1 + 1, 0, none⟩) l2).trans rf0; have rc1' := (HB6.out.cell (p := ⟨w.heap.size + 1 + 1, 1, none⟩) l2).trans rc1; have rf1' := (HB6.out.frozen (p := ⟨w.heap.size + 1 + 1, 1, none⟩) l2).trans rf1; have rc2' := (HB6.out.cell (p := ⟨w.heap.size + 1 + 1, 2, none⟩) l2).trans rc2; have rf2' := (HB6.out.frozen (p := ⟨w.heap.size + 1 + 1, 2, none⟩) l2).trans rf2))
  go_wp2
  have hbw : Below w.heap.size w w6 := HB1.out.trans (HB6.out.mono HB1.out.size)
  have l6 := Nat.lt_of_lt_of_le l2 HB6.out.size
  exact bodyPost_ret (v := .tuple #[.agg #[.bool (dn D), .string (ds D), .int .i64 D.e], .int .i64 0]) (by simp [results, Tryz.results47, go_sem, *]) rfl ⟨rfl, by repeat (first | exact Below.refl _ _ | refine below_drewN ?_ _ | refine Below.alloc ?_ (by first | omega | (simp; omega) | simp) _ | refine Below.setCell ?_ (by first | omega | (simp; omega) | simp) _ | refine Below.trans ?_ (Below.mono (by assumption) (by first | omega | (simp; omega) | simp)) | apply Below.drew)⟩
end Go.Proofs.YtbgjcpnbdgljbaaGreatDoor

/- The contracts of dyad.Top, sign, and of Cmp where the tops are unlike. -/
namespace Go.Proofs.YtbgjcpnbdgljbaaGreatDoor
open Go.RowKit Go.Fil Go.Shelf

set_option maxRecDepth 100000 in
set_option maxHeartbeats 3200000 in
theorem dtop_any (a : Dya) (ha : okD a) (h0 : a.m ≠ 0) (w : World) :
    Calls Tryz.prog 159 #[.agg #[.bool (dn a), .string (ds a), .int .i64 a.e]] w fun e w' => e = .returned (.tuple #[.int .i64 (topD a), .bool true]) ∧ Below w.heap.size w w' := by
  have HSG := Lib.hid (dsignV a ha)
  have HWA := Lib.hid (dwholeV a ha)
  have hfa := ha.fit
  unfold fitD at hfa
  have hsa : (a.m.sign == 0) = false := by
    rw [beq_eq_false_iff_ne]
    exact fun h => h0 (Int.sign_eq_zero_iff_zero.1 h)
  have HTD := Lib.hid (show (bl a.m.natAbs : Int) - 1 + a.e = topD a from rfl)
  have b8 := hfa.2.1
  have b9 := hfa.2.2
  have b1 : (bl a.m.natAbs : Int) ≤ 131072 := by omega
  have HLA := Lib.hid (show (dig a.m.natAbs).length ≤ 274877906944 from Nat.le_trans (dig_len_lim hfa.1) (by decide))
  clear ha h0 hfa
  generalize dn a = na at *
  generalize ds a = sa at *
  generalize topD a = TA at *
  generalize a.e = xa at *
  generalize a.m = ma at *
  generalize ma.sign = sga at *
  generalize hbl : bl ma.natAbs = L at *
  have b0 : (0 : Int) ≤ (L : Int) := by omega
  have HBL := Lib.hid hbl
  clear hbl
  go_enter Tryz.func159, Tryz.ntmps159
  go_wp2_with (go_at_call 90; refine (HSG.out _).mono ?_; rintro e w1 ⟨rfl, hb⟩; obtain ⟨hc, hf⟩ := bcell hb; (try simp only [World.heap_drewN, World.cell?_drewN, World.frozen?_drewN] at hc hf); have z0 : w.heap.size < w1.heap.size := (by have := hb.size; try simp at this; omega))
  have HB1 := Lib.hid (show Below w.heap.size w w1 by repeat (first | exact Below.refl _ _ | refine below_drewN ?_ _ | refine Below.alloc ?_ (by first | omega | (simp; omega) | simp) _ | refine Below.setCell ?_ (by first | omega | (simp; omega) | simp) _ | refine Below.trans ?_ (Below.mono (by assumption) (by first | omega | (simp; omega) | simp)) | apply Below.drew))
  have l0 : w.heap.size < w1.heap.size := by omega
  have m0 : w1.cell? ⟨w.heap.size, 0, none⟩ = some (.bool na) := by rw [hc _ _ (by simp <;> omega)] <;> try simp [go_sem]
  have m1 : w1.cell? ⟨w.heap.size, 1, none⟩ = some (.string sa) := by rw [hc _ _ (by simp <;> omega)] <;> try simp [go_sem]
  have m2 : w1.cell? ⟨w.heap.size, 2, none⟩ = some (.int .i64 xa) := by rw [hc _ _ (by simp <;> omega)] <;> try simp [go_sem]
  have hs1 : IntKind.i64.wrap ((L : Int) - 1) = (L : Int) - 1 := IntWalk.i64_in _ (by omega)
  have hs2 : IntKind.i64.wrap ((L : Int) - 1 + xa) = (L : Int) - 1 + xa := IntWalk.i64_in _ (by omega)
  clear hc hf hb z0 HSG b8 b9 b1 b0
  go_region_held3 (fun x => x.cell? ⟨w.heap.size, 0, none⟩ = some (.bool na) ∧ x.cell? ⟨w.heap.size, 1, none⟩ = some (.string sa) ∧ x.cell? ⟨w.heap.size, 2, none⟩ = some (.int .i64 xa))
    ((refine ⟨?_, ?_, ?_⟩ <;> first | with_reducible assumption | (simp only [World.cell?_drew]; with_reducible assumption)))
    (first
    | (go_at_call 91; refine (HWA.out _).mono ?_; rintro en w5 ⟨g, rfl, hi5, hb5', hg5⟩; have HB5 := Lib.hid (undrew hb5'); have HI5 := Lib.hid hi5; clear hb5' hi5 hg5; have q0 := (HB5.out.cell (p := ⟨w.heap.size, 0, none⟩) l0).trans m0; have q1 := (HB5.out.cell (p := ⟨w.heap.size, 1, none⟩) l0).trans m1; have q2 := (HB5.out.cell (p := ⟨w.heap.size, 2, none⟩) l0).trans m2)
    | (go_at_call 207; refine (ibitlen_any g ma HLA.out _ HI5.out).mono ?_; rw [HBL.out]; rintro en w' ⟨rfl, hw'⟩; have hw2 := hw'.symm; clear hw'; subst hw2))
  go_wp2
  have hbw : Below w.heap.size w w5 := HB1.out.trans (HB5.out.mono HB1.out.size)
  have hT := HTD.out
  clear HTD
  subst hT
  go_ret2
  exact ⟨rfl, hbw⟩
theorem dsg_any (n : Int) (w : World) : Calls Tryz.prog 255 #[.int .i64 n] w fun e w' => e = .returned (.int .i64 n.sign) ∧ w = w' := by
  rcases sign_vals n with ⟨h1, e1⟩ | ⟨h1, e1⟩ | ⟨h1, e1⟩
  all_goals
    rw [e1]
    have HE := Lib.hid e1
    clear e1
    try subst h1
    try (have h2 : ¬ n < 0 := by omega)
    go_enter Tryz.func255, Tryz.ntmps255
    go_wp2
    go_ret
    exact ⟨rfl, rfl⟩
set_option maxRecDepth 100000 in
set_option maxHeartbeats 3200000 in
theorem dcmp_tops (a b : Dya) (ha : okD a) (hb : okD b) (h0 : 0 < a.m) (h1 : 0 < b.m) (ht : topD a ≠ topD b) (w : World) :
    Calls Tryz.prog 251 #[.agg #[.bool (dn a), .string (ds a), .int .i64 a.e], .agg #[.bool (dn b), .string (ds b), .int .i64 b.e]] w fun e w' => e = .returned (.tuple #[.int .i64 (topD a - topD b).sign, .int .i64 0]) ∧ Below w.heap.size w w' := by
  have HAL := Lib.hid (dall_any a b ha hb)
  have hsa := dsignV a ha
  have hsb := dsignV b hb
  rw [Int.sign_eq_one_of_pos h0] at hsa
  rw [Int.sign_eq_one_of_pos h1] at hsb
  have HSG := Lib.hid hsa
  have HSH := Lib.hid hsb
  have HTA := Lib.hid (dtop_any a ha (by omega))
  have HTB := Lib.hid (dtop_any b hb (by omega))
  have hfa := ha.fit
  have hfb := hb.fit
  unfold fitD at hfa hfb
  have b1 : -2000000 ≤ topD a ∧ topD a ≤ 2000000 := by unfold topD; omega
  have b2 : -2000000 ≤ topD b ∧ topD b ≤ 2000000 := by unfold topD; omega
  obtain ⟨b11, b12⟩ := b1
  obtain ⟨b21, b22⟩ := b2
  have hne : (topD a == topD b) = false := by rw [beq_eq_false_iff_ne]; exact ht
  clear ha hb h0 h1 hfa hfb hsa hsb ht
  unfold Two at HAL
  generalize dn a = na at *
  generalize ds a = sa at *
  generalize topD a = TA at *
  generalize a.e = xa at *
  generalize dn b = nb at *
  generalize ds b = sb at *
  generalize topD b = TB at *
  generalize b.e = xb at *
  have hsgn : (TA - TB).sign = -1 ∨ (TA - TB).sign = 0 ∨ (TA - TB).sign = 1 := by
    rcases sign_vals (TA - TB) with ⟨h1, e1⟩ | ⟨h1, e1⟩ | ⟨h1, e1⟩ <;> omega
  obtain ⟨sg, hsg⟩ : ∃ s, (TA - TB).sign = s := ⟨_, rfl⟩
  rw [hsg] at hsgn
  have c1 : -1 ≤ sg := by omega
  have c2 : sg ≤ 1 := by omega
  clear hsgn
  have HSGN := Lib.hid hsg
  clear hsg
  rw [HSGN.out]
  go_enter Tryz.func251, Tryz.ntmps251
  go_wp2_with (go_at_call 89; refine (HAL.out _ _ ?_ ?_).mono ?_; simp; simp [go_sem]; rintro e w1 ⟨rfl, hb⟩; obtain ⟨hc, hf⟩ := bcell hb; (try simp only [World.heap_drewN, World.cell?_drewN, World.frozen?_drewN] at hc hf); have z0 : w.heap.size < w1.heap.size := (by have := hb.size; (try simp at this); omega); have z1 : w.heap.size + 1 < w1.heap.size := (by have := hb.size; (try simp at this); omega))
  have HB1 := Lib.hid (show Below w.heap.size w w1 by repeat (first | exact Below.refl _ _ | refine below_drewN ?_ _ | refine Below.alloc ?_ (by first | omega | (simp; omega) | simp) _ | refine Below.setCell ?_ (by first | omega | (simp; omega) | simp) _ | refine Below.trans ?_ (Below.mono (by assumption) (by first | omega | (simp; omega) | simp)) | apply Below.drew))
  have l0 : w.heap.size < w1.heap.size := by omega
  have l1 : w.heap.size + 1 < w1.heap.size := by omega
  have m0 : w1.cell? ⟨w.heap.size, 0, none⟩ = some (.bool na) := by rw [hc _ _ (by simp <;> omega)] <;> try simp [go_sem]
  have m1 : w1.cell? ⟨w.heap.size, 1, none⟩ = some (.string sa) := by rw [hc _ _ (by simp <;> omega)] <;> try simp [go_sem]
  have m2 : w1.cell? ⟨w.heap.size, 2, none⟩ = some (.int .i64 xa) := by rw [hc _ _ (by simp <;> omega)] <;> try simp [go_sem]
  have m3 : w1.cell? ⟨w.heap.size + 1, 0, none⟩ = some (.bool nb) := by rw [hc _ _ (by simp <;> omega)] <;> try simp [go_sem]
  have m4 : w1.cell? ⟨w.heap.size + 1, 1, none⟩ = some (.string sb) := by rw [hc _ _ (by simp <;> omega)] <;> try simp [go_sem]
  have m5 : w1.cell? ⟨w.heap.size + 1, 2, none⟩ = some (.int .i64 xb) := by rw [hc _ _ (by simp <;> omega)] <;> try simp [go_sem]
  clear hc hf hb z0 z1 HAL
  go_region_held3 (fun x => x.cell? ⟨w.heap.size, 0, none⟩ = some (.bool na) ∧ x.cell? ⟨w.heap.size, 1, none⟩ = some (.string sa) ∧ x.cell? ⟨w.heap.size, 2, none⟩ = some (.int .i64 xa) ∧ x.cell? ⟨w.heap.size + 1, 0, none⟩ = some (.bool nb) ∧ x.cell? ⟨w.heap.size + 1, 1, none⟩ = some (.string sb) ∧ x.cell? ⟨w.heap.size + 1, 2, none⟩ = some (.int .i64 xb))
    ((refine ⟨?_, ?_, ?_, ?_, ?_, ?_⟩ <;> first | with_reducible assumption | (simp only [World.cell?_drew]; with_reducible assumption)))
    (first
    | (go_at_call 90; (with_reducible refine (HSG.out _).mono ?_); rintro en w5 ⟨rfl, hb5'⟩; have HB5 := Lib.hid (undrew hb5'); clear hb5'; have q0 := (HB5.out.cell (p := ⟨w.heap.size, 0, none⟩) l0).trans m0; have q1 := (HB5.out.cell (p := ⟨w.heap.size, 1, none⟩) l0).trans m1; have q2 := (HB5.out.cell (p := ⟨w.heap.size, 2, none⟩) l0).trans m2; have q3 := (HB5.out.cell (p := ⟨w.heap.size + 1, 0, none⟩) l1).trans m3; have q4 := (HB5.out.cell (p := ⟨w.heap.size + 1, 1, none⟩) l1).trans m4; have q5 := (HB5.out.cell (p := ⟨w.heap.size + 1, 2, none⟩) l1).trans m5)
    | (go_at_call 90; (with_reducible refine (HSH.out _).mono ?_); rintro en w6 ⟨rfl, hb6⟩; have HB6 := Lib.hid (below_of HB5.out hb6 HB5.out.size); clear hb6; have p0 := (HB6.out.cell (p := ⟨w.heap.size, 0, none⟩) l0).trans m0; have p1 := (HB6.out.cell (p := ⟨w.heap.size, 1, none⟩) l0).trans m1; have p2 := (HB6.out.cell (p := ⟨w.heap.size, 2, none⟩) l0).trans m2; have p3 := (HB6.out.cell (p := ⟨w.heap.size + 1, 0, none⟩) l1).trans m3; have p4 := (HB6.out.cell (p := ⟨w.heap.size + 1, 1, none⟩) l1).trans m4; have p5 := (HB6.out.cell (p := ⟨w.heap.size + 1, 2, none⟩) l1).trans m5))
  go_wp2_with (first
    | (go_at_call 159; (with_reducible refine (HTA.out _).mono ?_); rintro en w7 ⟨rfl, hb7⟩; have HB7 := Lib.hid (below_of HB6.out hb7 HB6.out.size); clear hb7; have r0 := (HB7.out.cell (p := ⟨w.heap.size, 0, none⟩) l0).trans m0; have r1 := (HB7.out.cell (p := ⟨w.heap.size, 1, none⟩) l0).trans m1; have r2 := (HB7.out.cell (p := ⟨w.heap.size, 2, none⟩) l0).trans m2; have r3 := (HB7.out.cell (p := ⟨w.heap.size + 1, 0, none⟩) l1).trans m3; have r4 := (HB7.out.cell (p := ⟨w.heap.size + 1, 1, none⟩) l1).trans m4; have r5 := (HB7.out.cell (p := ⟨w.heap.size + 1, 2, none⟩) l1).trans m5)
    | (go_at_call 159; (with_reducible refine (HTB.out _).mono ?_); rintro en w8 ⟨rfl, hb8⟩; have HB8 := Lib.hid (below_of HB7.out hb8 HB7.out.size); clear hb8; have t0 := (HB8.out.cell (p := ⟨w.heap.size, 0, none⟩) l0).trans m0; have t1 := (HB8.out.cell (p := ⟨w.heap.size, 1, none⟩) l0).trans m1; have t2 := (HB8.out.cell (p := ⟨w.heap.size, 2, none⟩) l0).trans m2; have t3 := (HB8.out.cell (p := ⟨w.heap.size + 1, 0, none⟩) l1).trans m3; have t4 := (HB8.out.cell (p := ⟨w.heap.size + 1, 1, none⟩) l1).trans m4; have t5 := (HB8.out.cell (p := ⟨w.heap.size + 1, 2, none⟩) l1).trans m5)
    | (go_at_call 255; refine (dsg_any _ _).mono ?_; rw [HSGN.out]; rintro en w' ⟨rfl, rfl⟩))
  have hbw : Below w.heap.size w w8 := HB1.out.trans (HB8.out.mono HB1.out.size)
  go_ret2
  exact ⟨rfl, hbw⟩
end Go.Proofs.YtbgjcpnbdgljbaaGreatDoor
