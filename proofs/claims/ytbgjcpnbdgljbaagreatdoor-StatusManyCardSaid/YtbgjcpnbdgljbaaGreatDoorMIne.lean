/- The contracts of package wide's Int: Lsh, Mul, Neg, Abs. -/
import Derived.Test.YtbgjcpnbdgljbaaGreatDoorMInt
import Derived.Test.YtbgjcpnbdgljbaaGreatDoorMDig
import Derived.Deep.RegionWith
namespace Go.Proofs.YtbgjcpnbdgljbaaGreatDoor
open Go.RowKit Go.Fil Go.Shelf

/-- An Int that a method has written. -/
def RI (g : Nat) (z : Int) (w : World) (e : Ending) (w' : World) : Prop := e = .returned (.pointer (some ⟨g, 0, none⟩)) ∧ IntAt w' g z ∧ w.grownBy w' (some g)
theorem IntBlk.below {w w' : World} {g : Nat} (h : IntBlk w g) (hb : Below w.heap.size w w') : IntBlk w' g := by
  obtain ⟨u, v, h⟩ := h
  have hl : g < w.heap.size := by
    rcases Nat.lt_or_ge g w.heap.size with hh | hh
    · exact hh
    · rw [Array.getElem?_eq_none hh] at h; cases h
  exact ⟨u, v, by rw [hb.block g hl]; exact h⟩
theorem IntAt.blk {w : World} {g : Nat} {z : Int} (h : IntAt w g z) : IntBlk w g := by
  obtain ⟨A, c, h, _⟩ := h
  exact ⟨_, _, h⟩
theorem grown_of_below {w w' : World} {row : Option Nat} (h : Below w.heap.size w w') : w.grownBy w' row := ⟨h.os, h.tape, h.output, h.size, fun k hk _ => h.block k hk⟩
theorem grown_trans {w w1 w2 : World} {g : Nat} (h : Below w.heap.size w w1) (k : w1.grownBy w2 (some g)) : w.grownBy w2 (some g) :=
  ⟨k.os.trans h.os, k.tape.trans h.tape, k.output.trans h.output, Nat.le_trans h.size k.size, fun i hi hne => (k.block i (Nat.lt_of_lt_of_le hi h.size) hne).trans (h.block i hi)⟩
/-- A sign and a magnitude. -/
def sg (neg : Bool) (n : Nat) : Int := if neg then -(n : Int) else n
theorem sg_abs (neg : Bool) (n : Nat) : (sg neg n).natAbs = n := by unfold sg; split <;> omega
theorem sg_self (z : Int) : sg (decide (z < 0)) z.natAbs = z := by unfold sg; split <;> simp_all <;> omega
theorem sg_neg (neg : Bool) (n : Nat) : (neg && decide (0 < (dig n).length)) = decide (sg neg n < 0) := by
  unfold sg
  by_cases h0 : n = 0
  · subst h0; rw [dig_zero]; cases neg <;> simp
  · have := dig_length_pos h0
    cases neg <;> simp <;> omega
theorem sg_mul_pow (z : Int) (n : Nat) : sg (decide (z < 0)) (z.natAbs * 2 ^ n) = z * 2 ^ n := by
  have h := sg_self z
  unfold sg at h ⊢
  split
  · rename_i hd
    rw [if_pos hd] at h
    conv => rhs; rw [← h]
    rw [Int.neg_mul]; simp
  · rename_i hd
    rw [if_neg hd] at h
    conv => rhs; rw [← h]
    simp
theorem sg_mul (y z : Int) : sg ((decide (y < 0)) != (decide (z < 0))) (y.natAbs * z.natAbs) = y * z := by
  have h1 := sg_self y
  have h2 := sg_self z
  conv => rhs; rw [← h1, ← h2]
  unfold sg
  cases decide (y < 0) <;> cases decide (z < 0) <;> simp [Int.neg_mul, Int.mul_neg]
theorem ri_laid {w w1 : World} {g : Nat} (hb : IntBlk w g) (hbe : Below w.heap.size w w1) {A : Option Addr} {c n : Nat} (neg : Bool) (hc : (dig n).length ≤ c) (hs : Seq w1 w1.heap.size A ((dig n).map u32v)) (hd : dty w1 A) {z : Int} (hz : sg neg n = z) :
    RI g z w (.returned (.pointer (some ⟨g, 0, none⟩))) ((w1.setCell ⟨g, 0, none⟩ (.bool (neg && decide (0 < (dig n).length)))).setCell ⟨g, 1, none⟩ (.slice A (dig n).length c)) := by
  subst hz
  rw [sg_neg]
  have ha := sg_abs neg n
  generalize sg neg n = z at *
  subst ha
  obtain ⟨h1, h2⟩ := laid_world (hb.below hbe) hc hs hd
  exact ⟨rfl, h1, grown_trans hbe h2⟩
theorem undrew {w w1 : World} (h : Below w.drew.heap.size w.drew w1) : Below w.heap.size w w1 := ⟨h.os, h.tape, h.output, h.size, h.block⟩
theorem dig_len_lim {a k : Nat} (h : bl a ≤ k) : (dig a).length ≤ k := Nat.le_trans (dig_length_bl a) h
set_option maxRecDepth 100000 in
set_option maxHeartbeats 3200000 in
theorem ilsh_any (g f n : Nat) (z : Int) (hl : bl z.natAbs ≤ 137438953472) (hn : n ≤ 137438953472) (w : World) (hb : IntBlk w g) (hz : IntAt w f z) :
    Calls Tryz.prog 92 #[.pointer (some ⟨g, 0, none⟩), .pointer (some ⟨f, 0, none⟩), .int .u64 (n : Int)] w (RI g (z * 2 ^ n) w) := by
  have hfl := hz.lt
  have hL := dig_len_lim (Nat.le_trans (bl_shl z.natAbs n) (Nat.add_le_add hl hn))
  have hl1 : (dig z.natAbs).length ≤ 274877906944 := Nat.le_trans (dig_len_lim hl) (by decide)
  obtain ⟨A, c, h, hc, hs, hd⟩ := hz
  obtain ⟨h1, h2, h3, h4⟩ := blk_cells h
  have HS := Lib.hid hs
  have HB := Lib.hid hb
  have HZ := Lib.hid (sg_mul_pow z n)
  clear h hs hd hb hc h3 h4
  generalize hq : decide (z < 0) = q at *
  have HQ := Lib.hid hq
  clear hq
  go_enter Tryz.func92, Tryz.ntmps92
  go_wp2
  go_region_with (first
    | (go_at_call 149; refine (wleft_any _ _ _ _ hl1 ?_ _ ?_).mono ?_; omega; exact HS.out; rintro e w1 ⟨A', c', rfl, hc', hs', hd', hbe0⟩; have hbe := undrew hbe0; clear hbe0; obtain ⟨hce, hfe⟩ := bcell hbe)
    | (go_at_call 148; refine (laid_any _ _ _ _ _ ?_ _ ?_).mono ?_; omega; exact HB.out.below hbe; rintro e w2 ⟨rfl, hw2⟩; have HW2 := Lib.hid hw2; clear hw2))
  all_goals
    go_wp2
    go_ret
    rw [HW2.out]
    exact ri_laid HB.out hbe _ hc' hs' hd' HZ.out
set_option maxRecDepth 100000 in
set_option maxHeartbeats 3200000 in
theorem iabs_any (g f : Nat) (z : Int) (hl : bl z.natAbs ≤ 137438953472) (w : World) (hb : IntBlk w g) (hz : IntAt w f z) :
    Calls Tryz.prog 152 #[.pointer (some ⟨g, 0, none⟩), .pointer (some ⟨f, 0, none⟩)] w (RI g (z.natAbs : Int) w) := by
  have hL := dig_len_lim hl
  obtain ⟨A, c, h, hc, hs, hd⟩ := hz
  obtain ⟨h1, h2, h3, h4⟩ := blk_cells h
  have HS := Lib.hid hs
  have HB := Lib.hid hb
  clear h hs hb h3 h4
  go_enter Tryz.func152, Tryz.ntmps152
  go_wp2_with (go_at_call 148; refine (laid_any _ _ _ _ _ ?_ _ ?_).mono ?_; omega; exact HB.out; rintro e w2 ⟨rfl, hw2⟩; have HW2 := Lib.hid hw2; clear hw2)
  go_ret
  rw [HW2.out]
  exact ri_laid HB.out (Below.refl _ _) false hc HS.out hd rfl
set_option maxRecDepth 100000 in
set_option maxHeartbeats 3200000 in
theorem ineg_any (g f : Nat) (z : Int) (hl : bl z.natAbs ≤ 137438953472) (w : World) (hb : IntBlk w g) (hz : IntAt w f z) :
    Calls Tryz.prog 124 #[.pointer (some ⟨g, 0, none⟩), .pointer (some ⟨f, 0, none⟩)] w (RI g (-z) w) := by
  have hL := dig_len_lim hl
  have hz1 : sg (!decide (z < 0)) z.natAbs = -z := by
    have h := sg_self z
    unfold sg at h ⊢
    cases hd : decide (z < 0) <;> simp_all <;> omega
  obtain ⟨A, c, h, hc, hs, hd⟩ := hz
  obtain ⟨h1, h2, h3, h4⟩ := blk_cells h
  have HS := Lib.hid hs
  have HB := Lib.hid hb
  have HZ := Lib.hid hz1
  clear h hs hb h3 h4 hz1
  generalize hq : decide (z < 0) = q at *
  have HQ := Lib.hid hq
  clear hq
  go_enter Tryz.func124, Tryz.ntmps124
  go_wp2
  go_region_with (go_at_call 148; refine (laid_any _ _ _ _ _ ?_ _ ?_).mono ?_; omega; exact HB.out; rintro e w2 ⟨rfl, hw2⟩; have HW2 := Lib.hid hw2; clear hw2)
  all_goals
    go_wp2
    go_ret
    rw [HW2.out]
    exact ri_laid (w := w) (w1 := w.drew) HB.out (Below.refl _ _).drew _ hc HS.out hd HZ.out
set_option maxRecDepth 100000 in
set_option maxHeartbeats 6400000 in
theorem imul_any (g f1 f2 : Nat) (y z : Int) (hl1 : bl y.natAbs ≤ 137438953472) (hl2 : bl z.natAbs ≤ 137438953472) (w : World) (hb : IntBlk w g) (hy : IntAt w f1 y) (hz : IntAt w f2 z) :
    Calls Tryz.prog 96 #[.pointer (some ⟨g, 0, none⟩), .pointer (some ⟨f1, 0, none⟩), .pointer (some ⟨f2, 0, none⟩)] w (RI g (y * z) w) := by
  have hfl1 := hy.lt
  have hfl2 := hz.lt
  have hL := dig_len_lim (Nat.le_trans (bl_mul y.natAbs z.natAbs) (Nat.add_le_add hl1 hl2))
  have hm1 : (dig y.natAbs).length ≤ 549755813888 := Nat.le_trans (dig_len_lim hl1) (by decide)
  have hm2 : (dig z.natAbs).length ≤ 549755813888 := Nat.le_trans (dig_len_lim hl2) (by decide)
  have HZ := Lib.hid (sg_mul y z)
  obtain ⟨A1, c1, h, _, hs1, _⟩ := hy
  obtain ⟨h1, h2, _, _⟩ := blk_cells h
  obtain ⟨A2, c2, h', _, hs2, _⟩ := hz
  obtain ⟨h3, h4, _, _⟩ := blk_cells h'
  have HS1 := Lib.hid hs1
  have HS2 := Lib.hid hs2
  have HB := Lib.hid hb
  clear h h' hs1 hs2 hb
  generalize hq1 : decide (y < 0) = q1 at *
  generalize hq2 : decide (z < 0) = q2 at *
  have HQ1 := Lib.hid hq1
  have HQ2 := Lib.hid hq2
  clear hq1 hq2
  go_enter Tryz.func96, Tryz.ntmps96
  go_wp2
  go_region_with (first
    | (go_at_call 157; refine (wtimes_any _ _ _ _ _ _ hm1 hm2 _ ?_ ?_).mono ?_; exact HS1.out; exact HS2.out; rintro e w1 ⟨A', c', rfl, hc', hs', hd', hbe0⟩; have hbe := undrew hbe0; clear hbe0; obtain ⟨hce, hfe⟩ := bcell hbe)
    | (go_at_call 148; refine (laid_any _ _ _ _ _ ?_ _ ?_).mono ?_; omega; exact HB.out.below hbe; rintro e w2 ⟨rfl, hw2⟩; have HW2 := Lib.hid hw2; clear hw2))
  all_goals
    go_wp2
    go_ret
    rw [HW2.out]
    exact ri_laid HB.out hbe _ hc' hs' hd' HZ.out
end Go.Proofs.YtbgjcpnbdgljbaaGreatDoor
