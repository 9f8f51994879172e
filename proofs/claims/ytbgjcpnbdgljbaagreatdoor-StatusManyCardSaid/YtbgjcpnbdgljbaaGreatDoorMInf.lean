/- The contract of package wide's Int: Add, two numbers of one sign. -/
import Derived.Test.YtbgjcpnbdgljbaaGreatDoorMIne
namespace Go.Proofs.YtbgjcpnbdgljbaaGreatDoor
open Go.RowKit Go.Fil Go.Shelf

theorem quiet_mk {P : Program} {f : FuncId} {args : Array Value} {w : World} {n : Nat} {v : Value} (h : Calls P f args (w.drewN n) fun e w' => e = .returned v ∧ ∃ j, (w.drewN n).drewN j = w') :
    Calls P f args (w.drewN n) fun e w'' => e = .returned v ∧ ∃ m, w'' = w.drewN m := h.mono fun _ _ ⟨he, j, hj⟩ => ⟨he, n + j, by rw [← hj, World.drewN_drewN]⟩
theorem undrews {w w0 w1 : World} (h : Below w0.heap.size w0 w1) (e1 : w0.heap = w.heap) (e2 : w0.os = w.os) (e3 : w0.tape = w.tape) (e4 : w0.output = w.output) : Below w.heap.size w w1 :=
  ⟨h.os.trans e2, h.tape.trans e3, h.output.trans e4, by rw [← e1]; exact h.size, fun k hk => by rw [← e1]; exact h.block k (by rw [e1]; exact hk)⟩
set_option maxRecDepth 100000 in
set_option maxHeartbeats 6400000 in
theorem iadd_same (g f1 f2 : Nat) (y z : Int) (hl1 : bl y.natAbs ≤ 137438953472) (hl2 : bl z.natAbs ≤ 137438953472) (w : World) (hb : IntBlk w g) (hy : IntAt w f1 y) (hz : IntAt w f2 z)
    (hq : decide (y < 0) = decide (z < 0)) :
    Calls Tryz.prog 94 #[.pointer (some ⟨g, 0, none⟩), .pointer (some ⟨f1, 0, none⟩), .pointer (some ⟨f2, 0, none⟩)] w (RI g (y + z) w) := by
  have hfl1 := hy.lt
  have hfl2 := hz.lt
  have hL := dig_len_lim (Nat.le_trans (bl_add y.natAbs z.natAbs) (Nat.add_le_add (Nat.max_le.2 ⟨hl1, hl2⟩) (Nat.le_refl 1)))
  have hz1 : sg (decide (y < 0)) (y.natAbs + z.natAbs) = y + z := by
    have e1 := sg_self y
    have e2 := sg_self z
    unfold sg at *
    rw [← hq] at e2
    split <;> simp_all <;> omega
  have HZ := Lib.hid hz1
  clear hz1
  have hm1 : (dig y.natAbs).length ≤ 549755813888 := Nat.le_trans (dig_len_lim hl1) (by decide)
  have hm2 : (dig z.natAbs).length ≤ 549755813888 := Nat.le_trans (dig_len_lim hl2) (by decide)
  obtain ⟨A1, c1, h, _, hs1, _⟩ := hy
  obtain ⟨h1, h2, _, _⟩ := blk_cells h
  obtain ⟨A2, c2, h', _, hs2, _⟩ := hz
  obtain ⟨h3, h4, _, _⟩ := blk_cells h'
  have HS1 := Lib.hid hs1
  have HS2 := Lib.hid hs2
  have HB := Lib.hid hb
  clear h h' hs1 hs2 hb
  have hM1 := Lib.hid (Nat.le_trans hm1 (show 549755813888 ≤ 9223372036854775807 by decide))
  have hM2 := Lib.hid (Nat.le_trans hm2 (show 549755813888 ≤ 9223372036854775807 by decide))
  have hM3 := Lib.hid (Nat.le_trans hm1 (show 549755813888 ≤ 1099511627776 by decide))
  have hM4 := Lib.hid (Nat.le_trans hm2 (show 549755813888 ≤ 1099511627776 by decide))
  rw [← hq] at h3
  clear hq
  generalize hq1 : decide (y < 0) = q1 at *
  have HQ1 := Lib.hid hq1
  clear hq1
  go_enter Tryz.func94, Tryz.ntmps94
  go_wp2
  go_quiet ((go_at_call 154; exact quiet_mk (cmp_any _ _ _ _ _ _ hM1.out hM2.out _ _ HS1.out HS2.out)))
  go_wp2_with fail
  go_quiet (fail)
  go_wp2_with fail

  go_region_with (first
    | (go_at_call 155; refine (wplus_any _ _ _ _ _ _ ?_ ?_ _ ?_ ?_).mono ?_; exact hM3.out; exact hM4.out; exact HS1.out; exact HS2.out; rintro e w1 ⟨A', c', rfl, hc', hs', hd', hbe0⟩; have hbe := undrews (w := w) hbe0 rfl rfl rfl rfl; clear hbe0; obtain ⟨hce, hfe⟩ := bcell hbe)
    | (go_at_call 148; refine (laid_any _ _ _ _ _ ?_ _ ?_).mono ?_; omega; exact HB.out.below hbe; rintro e w2 ⟨rfl, hw2⟩; have HW2 := Lib.hid hw2; clear hw2))
  all_goals
    go_wp2
    go_ret
    rw [HW2.out]
    exact ri_laid HB.out hbe _ hc' hs' hd' HZ.out
end Go.Proofs.YtbgjcpnbdgljbaaGreatDoor

/- The contract of package wide's Int: Add, the second magnitude greater. -/
namespace Go.Proofs.YtbgjcpnbdgljbaaGreatDoor
open Go.RowKit Go.Fil Go.Shelf

set_option maxRecDepth 100000 in
set_option maxHeartbeats 6400000 in
theorem iadd_lt (g f1 f2 : Nat) (y z : Int) (hl1 : bl y.natAbs ≤ 137438953472) (hl2 : bl z.natAbs ≤ 137438953472) (w : World) (hb : IntBlk w g) (hy : IntAt w f1 y) (hz : IntAt w f2 z)
    (hq : decide (y < 0) ≠ decide (z < 0)) (hlt : y.natAbs < z.natAbs) :
    Calls Tryz.prog 94 #[.pointer (some ⟨g, 0, none⟩), .pointer (some ⟨f1, 0, none⟩), .pointer (some ⟨f2, 0, none⟩)] w (RI g (y + z) w) := by
  have hfl1 := hy.lt
  have hfl2 := hz.lt
  have hL := dig_len_lim (Nat.le_trans (bl_mono (Nat.sub_le z.natAbs y.natAbs)) hl2)
  have hz1 : sg (decide (z < 0)) (z.natAbs - y.natAbs) = y + z := by
    unfold sg
    by_cases h1 : y < 0 <;> by_cases h2 : z < 0 <;> simp_all <;> omega
  have HZ := Lib.hid hz1
  have hcm : cmpS y.natAbs z.natAbs < 0 := by rw [cmpS_lt hlt]; decide
  have HLT := Lib.hid (Nat.le_of_lt hlt)
  clear hz1 hlt
  have hm1 : (dig y.natAbs).length ≤ 549755813888 := Nat.le_trans (dig_len_lim hl1) (by decide)
  have hm2 : (dig z.natAbs).length ≤ 549755813888 := Nat.le_trans (dig_len_lim hl2) (by decide)
  obtain ⟨A1, c1, h, _, hs1, _⟩ := hy
  obtain ⟨h1, h2, _, _⟩ := blk_cells h
  obtain ⟨A2, c2, h', _, hs2, _⟩ := hz
  obtain ⟨h3, h4, _, _⟩ := blk_cells h'
  have HS1 := Lib.hid hs1
  have HS2 := Lib.hid hs2
  have HB := Lib.hid hb
  clear h h' hs1 hs2 hb
  have hM1 := Lib.hid (Nat.le_trans hm1 (show 549755813888 ≤ 9223372036854775807 by decide))
  have hM2 := Lib.hid (Nat.le_trans hm2 (show 549755813888 ≤ 9223372036854775807 by decide))
  have hM3 := Lib.hid (Nat.le_trans hm2 (show 549755813888 ≤ 1099511627776 by decide))
  generalize hq1 : decide (y < 0) = q1 at *
  generalize hq2 : decide (z < 0) = q2 at *
  have hne : (q1 == q2) = false := by simpa using hq
  have HQ1 := Lib.hid hq1
  have HQ2 := Lib.hid hq2
  clear hq1 hq2 hq
  go_enter Tryz.func94, Tryz.ntmps94
  go_wp2
  go_quiet ((go_at_call 154; exact quiet_mk (cmp_any _ _ _ _ _ _ hM1.out hM2.out _ _ HS1.out HS2.out)))
  go_wp2_with fail
  go_quiet (fail)
  go_wp2_with fail

  go_region_with (first
    | (go_at_call 156; refine (wless_any _ _ _ _ _ _ HLT.out ?_ _ ?_ ?_).mono ?_; exact hM3.out; exact HS2.out; exact HS1.out; rintro e w1 ⟨A', c', rfl, hc', hs', hd', hbe0⟩; have hbe := undrews (w := w) hbe0 rfl rfl rfl rfl; clear hbe0; obtain ⟨hce, hfe⟩ := bcell hbe)
    | (go_at_call 148; refine (laid_any _ _ _ _ _ ?_ _ ?_).mono ?_; omega; exact HB.out.below hbe; rintro e w2 ⟨rfl, hw2⟩; have HW2 := Lib.hid hw2; clear hw2))
  all_goals
    go_wp2
    go_ret
    rw [HW2.out]
    exact ri_laid HB.out hbe _ hc' hs' hd' HZ.out
end Go.Proofs.YtbgjcpnbdgljbaaGreatDoor

/- The contract of package wide's Int: Add, the second magnitude not greater. -/
namespace Go.Proofs.YtbgjcpnbdgljbaaGreatDoor
open Go.RowKit Go.Fil Go.Shelf

set_option maxRecDepth 100000 in
set_option maxHeartbeats 6400000 in
theorem iadd_ge (g f1 f2 : Nat) (y z : Int) (hl1 : bl y.natAbs ≤ 137438953472) (hl2 : bl z.natAbs ≤ 137438953472) (w : World) (hb : IntBlk w g) (hy : IntAt w f1 y) (hz : IntAt w f2 z)
    (hq : decide (y < 0) ≠ decide (z < 0)) (hge : z.natAbs ≤ y.natAbs) :
    Calls Tryz.prog 94 #[.pointer (some ⟨g, 0, none⟩), .pointer (some ⟨f1, 0, none⟩), .pointer (some ⟨f2, 0, none⟩)] w (RI g (y + z) w) := by
  have hfl1 := hy.lt
  have hfl2 := hz.lt
  have hL := dig_len_lim (Nat.le_trans (bl_mono (Nat.sub_le y.natAbs z.natAbs)) hl1)
  have hz1 : sg (decide (y < 0)) (y.natAbs - z.natAbs) = y + z := by
    unfold sg
    by_cases h1 : y < 0 <;> by_cases h2 : z < 0 <;> simp_all <;> omega
  have HZ := Lib.hid hz1
  have hcm : ¬ cmpS y.natAbs z.natAbs < 0 := by
    unfold cmpS
    rw [if_neg (by omega)]
    split <;> omega
  have HLT := Lib.hid hge
  clear hz1 hge
  have hm1 : (dig y.natAbs).length ≤ 549755813888 := Nat.le_trans (dig_len_lim hl1) (by decide)
  have hm2 : (dig z.natAbs).length ≤ 549755813888 := Nat.le_trans (dig_len_lim hl2) (by decide)
  obtain ⟨A1, c1, h, _, hs1, _⟩ := hy
  obtain ⟨h1, h2, _, _⟩ := blk_cells h
  obtain ⟨A2, c2, h', _, hs2, _⟩ := hz
  obtain ⟨h3, h4, _, _⟩ := blk_cells h'
  have HS1 := Lib.hid hs1
  have HS2 := Lib.hid hs2
  have HB := Lib.hid hb
  clear h h' hs1 hs2 hb
  have hM1 := Lib.hid (Nat.le_trans hm1 (show 549755813888 ≤ 9223372036854775807 by decide))
  have hM2 := Lib.hid (Nat.le_trans hm2 (show 549755813888 ≤ 9223372036854775807 by decide))
  have hM3 := Lib.hid (Nat.le_trans hm1 (show 549755813888 ≤ 1099511627776 by decide))
  generalize hq1 : decide (y < 0) = q1 at *
  generalize hq2 : decide (z < 0) = q2 at *
  have hne : (q1 == q2) = false := by simpa using hq
  have HQ1 := Lib.hid hq1
  have HQ2 := Lib.hid hq2
  clear hq1 hq2 hq
  go_enter Tryz.func94, Tryz.ntmps94
  go_wp2
  go_quiet ((go_at_call 154; exact quiet_mk (cmp_any _ _ _ _ _ _ hM1.out hM2.out _ _ HS1.out HS2.out)))
  go_wp2_with fail
  go_quiet (fail)
  go_wp2_with fail

  go_region_with (first
    | (go_at_call 156; refine (wless_any _ _ _ _ _ _ HLT.out ?_ _ ?_ ?_).mono ?_; exact hM3.out; exact HS1.out; exact HS2.out; rintro e w1 ⟨A', c', rfl, hc', hs', hd', hbe0⟩; have hbe := undrews (w := w) hbe0 rfl rfl rfl rfl; clear hbe0; obtain ⟨hce, hfe⟩ := bcell hbe)
    | (go_at_call 148; refine (laid_any _ _ _ _ _ ?_ _ ?_).mono ?_; omega; exact HB.out.below hbe; rintro e w2 ⟨rfl, hw2⟩; have HW2 := Lib.hid hw2; clear hw2))
  all_goals
    go_wp2
    go_ret
    rw [HW2.out]
    exact ri_laid HB.out hbe _ hc' hs' hd' HZ.out
end Go.Proofs.YtbgjcpnbdgljbaaGreatDoor
