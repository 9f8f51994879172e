/- The contracts of package wide's Int: Rsh of a number that is not below 0, Cmp, Sub. -/
import Derived.Test.YtbgjcpnbdgljbaaGreatDoorMInf
namespace Go.Proofs.YtbgjcpnbdgljbaaGreatDoor
open Go.RowKit Go.Fil Go.Shelf

set_option maxRecDepth 100000 in
set_option maxHeartbeats 3200000 in
theorem irsh_any (g f n a : Nat) (hl : bl a ≤ 137438953472) (hn : n ≤ 137438953472) (w : World) (hb : IntBlk w g) (hz : IntAt w f (a : Int)) :
    Calls Tryz.prog 151 #[.pointer (some ⟨g, 0, none⟩), .pointer (some ⟨f, 0, none⟩), .int .u64 (n : Int)] w (RI g ((a / 2 ^ n : Nat) : Int) w) := by
  have hfl := hz.lt
  have hL := dig_len_lim (Nat.le_trans (bl_mono (Nat.div_le_self a (2 ^ n))) hl)
  have hl1 : (dig a).length ≤ 274877906944 := Nat.le_trans (dig_len_lim hl) (by decide)
  obtain ⟨A, c, h, hc, hs, _⟩ := hz
  rw [show decide ((a : Int) < 0) = false by simp] at h
  rw [Int.natAbs_natCast] at h hc hs
  obtain ⟨h1, h2, _, _⟩ := blk_cells h
  have HS := Lib.hid hs
  have HB := Lib.hid hb
  clear h hs hb
  go_enter Tryz.func151, Tryz.ntmps151
  go_wp2_with (first
    | (go_at_call 205; refine (wright_any _ _ _ _ hl1 hc ?_ _ ?_).mono ?_; omega; exact HS.out; rintro e w1 ⟨A', c', rfl, hc', hs', hd', hbe⟩; obtain ⟨hce, hfe⟩ := bcell hbe)
    | (go_at_call 148; refine (laid_any _ _ _ _ _ ?_ _ ?_).mono ?_; omega; exact HB.out.below hbe; rintro e w2 ⟨rfl, hw2⟩; have HW2 := Lib.hid hw2; clear hw2))
  go_ret
  rw [HW2.out]
  exact ri_laid HB.out hbe false hc' hs' hd' rfl
/-- What a comparison of whole numbers answers. -/
def cmpZ (y z : Int) : Int := if y < z then -1 else if y = z then 0 else 1
theorem cmpZ_neg {y z : Int} (h1 : y < 0) (h2 : z < 0) : cmpS z.natAbs y.natAbs = cmpZ y z := by
  unfold cmpS cmpZ
  by_cases h3 : y < z
  · rw [if_pos h3, if_pos (by omega)]
  · rw [if_neg h3, if_neg (by omega)]
    by_cases h4 : y = z
    · rw [if_pos h4, if_pos (by omega)]
    · rw [if_neg h4, if_neg (by omega)]
theorem cmpZ_pos {y z : Int} (h1 : 0 ≤ y) (h2 : 0 ≤ z) : cmpS y.natAbs z.natAbs = cmpZ y z := by
  unfold cmpS cmpZ
  by_cases h3 : y < z
  · rw [if_pos h3, if_pos (by omega)]
  · rw [if_neg h3, if_neg (by omega)]
    by_cases h4 : y = z
    · rw [if_pos h4, if_pos (by omega)]
    · rw [if_neg h4, if_neg (by omega)]
theorem sign_vals (y : Int) : (y < 0 ∧ y.sign = -1) ∨ (y = 0 ∧ y.sign = 0) ∨ (0 < y ∧ y.sign = 1) := by
  rcases Int.lt_trichotomy y 0 with h | h | h
  · exact .inl ⟨h, Int.sign_eq_neg_one_of_neg h⟩
  · exact .inr (.inl ⟨h, by rw [h]; rfl⟩)
  · exact .inr (.inr ⟨h, Int.sign_eq_one_of_pos h⟩)
set_option maxRecDepth 100000 in
set_option maxHeartbeats 3200000 in
theorem icmp_ne (f1 f2 : Nat) (y z : Int) (hl1 : bl y.natAbs ≤ 137438953472) (hl2 : bl z.natAbs ≤ 137438953472) (w : World) (hy : IntAt w f1 y) (hz : IntAt w f2 z) (hne : y.sign ≠ z.sign) :
    Calls Tryz.prog 210 #[.pointer (some ⟨f1, 0, none⟩), .pointer (some ⟨f2, 0, none⟩)] w fun e w' => e = .returned (.int .i64 (cmpZ y z)) ∧ w = w' := by
  have hm1 : (dig y.natAbs).length ≤ 274877906944 := Nat.le_trans (dig_len_lim hl1) (by decide)
  have hm2 : (dig z.natAbs).length ≤ 274877906944 := Nat.le_trans (dig_len_lim hl2) (by decide)
  have HY := Lib.hid hy
  have HZ := Lib.hid hz
  have hn : (y.sign != z.sign) = true := by simpa using hne
  have hv1 := sign_vals y
  have hv2 := sign_vals z
  by_cases hlt : y.sign < z.sign
  · have hc : cmpZ y z = -1 := by unfold cmpZ; rw [if_pos (by omega)]
    rw [hc]
    clear hy hz hc hne hv1 hv2
    go_enter Tryz.func210, Tryz.ntmps210
    go_wp2_with (first
      | (go_at_call 121; (with_reducible refine (isign_any f1 y hm1 _ HY.out).mono ?_); rintro e w' ⟨rfl, rfl⟩)
      | (go_at_call 121; (with_reducible refine (isign_any f2 z hm2 _ HZ.out).mono ?_); rintro e w' ⟨rfl, rfl⟩))
    go_ret
    exact ⟨rfl, rfl⟩
  · have hc : cmpZ y z = 1 := by unfold cmpZ; rw [if_neg (by omega), if_neg (by rintro rfl; exact hne rfl)]
    rw [hc]
    clear hy hz hc hne hv1 hv2
    go_enter Tryz.func210, Tryz.ntmps210
    go_wp2_with (first
      | (go_at_call 121; (with_reducible refine (isign_any f1 y hm1 _ HY.out).mono ?_); rintro e w' ⟨rfl, rfl⟩)
      | (go_at_call 121; (with_reducible refine (isign_any f2 z hm2 _ HZ.out).mono ?_); rintro e w' ⟨rfl, rfl⟩))
    go_ret
    exact ⟨rfl, rfl⟩
set_option maxRecDepth 100000 in
set_option maxHeartbeats 3200000 in
theorem icmp_eq (f1 f2 : Nat) (y z : Int) (hl1 : bl y.natAbs ≤ 137438953472) (hl2 : bl z.natAbs ≤ 137438953472) (w : World) (hy : IntAt w f1 y) (hz : IntAt w f2 z) (hne : y.sign = z.sign) :
    Calls Tryz.prog 210 #[.pointer (some ⟨f1, 0, none⟩), .pointer (some ⟨f2, 0, none⟩)] w fun e w' => e = .returned (.int .i64 (cmpZ y z)) ∧ ∃ j, w.drewN j = w' := by
  have hm1 : (dig y.natAbs).length ≤ 274877906944 := Nat.le_trans (dig_len_lim hl1) (by decide)
  have hm2 : (dig z.natAbs).length ≤ 274877906944 := Nat.le_trans (dig_len_lim hl2) (by decide)
  have hM1 := Lib.hid (Nat.le_trans hm1 (show 274877906944 ≤ 9223372036854775807 by decide))
  have hM2 := Lib.hid (Nat.le_trans hm2 (show 274877906944 ≤ 9223372036854775807 by decide))
  have HY := Lib.hid hy
  have HZ := Lib.hid hz
  have hn : (y.sign != z.sign) = false := by simpa using hne
  have hv1 := sign_vals y
  have hv2 := sign_vals z
  obtain ⟨A1, c1, h, _, hs1, _⟩ := hy
  obtain ⟨A2, c2, h', _, hs2, _⟩ := hz
  have HS1 := Lib.hid hs1
  have HS2 := Lib.hid hs2
  clear hs1 hs2
  by_cases hlt : y < 0
  · have hc := cmpZ_neg hlt (show z < 0 by omega)
    rw [← hc]
    rw [show decide (y < 0) = true by simpa using hlt] at h
    obtain ⟨h1, h2, _, _⟩ := blk_cells h
    obtain ⟨h3, h4, _, _⟩ := blk_cells h'
    clear hc hne hv1 hv2 h h' h3
    go_enter Tryz.func210, Tryz.ntmps210
    go_wp2_with (first
      | (go_at_call 121; (with_reducible refine (isign_any f1 y hm1 _ HY.out).mono ?_); rintro e w' ⟨rfl, rfl⟩)
      | (go_at_call 121; (with_reducible refine (isign_any f2 z hm2 _ HZ.out).mono ?_); rintro e w' ⟨rfl, rfl⟩))
    go_quiet ((go_at_call 154; exact quiet_mk (cmp_any _ _ _ _ _ _ hM2.out hM1.out _ _ HS2.out HS1.out)))
    go_wp2
    go_ret
    exact ⟨rfl, _, rfl⟩
  · have hc := cmpZ_pos (show 0 ≤ y by omega) (show 0 ≤ z by omega)
    rw [← hc]
    rw [show decide (y < 0) = false by simpa using hlt] at h
    obtain ⟨h1, h2, _, _⟩ := blk_cells h
    obtain ⟨h3, h4, _, _⟩ := blk_cells h'
    clear hc hne hv1 hv2 h h' h3
    go_enter Tryz.func210, Tryz.ntmps210
    go_wp2_with (first
      | (go_at_call 121; (with_reducible refine (isign_any f1 y hm1 _ HY.out).mono ?_); rintro e w' ⟨rfl, rfl⟩)
      | (go_at_call 121; (with_reducible refine (isign_any f2 z hm2 _ HZ.out).mono ?_); rintro e w' ⟨rfl, rfl⟩))
    go_quiet ((go_at_call 154; exact quiet_mk (cmp_any _ _ _ _ _ _ hM1.out hM2.out _ _ HS1.out HS2.out)))
    go_wp2
    go_ret
    exact ⟨rfl, _, rfl⟩
theorem icmp_any (f1 f2 : Nat) (y z : Int) (hl1 : bl y.natAbs ≤ 137438953472) (hl2 : bl z.natAbs ≤ 137438953472) (w : World) (hy : IntAt w f1 y) (hz : IntAt w f2 z) :
    Calls Tryz.prog 210 #[.pointer (some ⟨f1, 0, none⟩), .pointer (some ⟨f2, 0, none⟩)] w fun e w' => e = .returned (.int .i64 (cmpZ y z)) ∧ ∃ j, w.drewN j = w' := by
  by_cases h : y.sign = z.sign
  · exact icmp_eq f1 f2 y z hl1 hl2 w hy hz h
  · exact (icmp_ne f1 f2 y z hl1 hl2 w hy hz h).mono fun e w' ⟨h1, h2⟩ => ⟨h1, 0, h2⟩
theorem iadd_any (g f1 f2 : Nat) (y z : Int) (hl1 : bl y.natAbs ≤ 137438953472) (hl2 : bl z.natAbs ≤ 137438953472) (w : World) (hb : IntBlk w g) (hy : IntAt w f1 y) (hz : IntAt w f2 z) :
    Calls Tryz.prog 94 #[.pointer (some ⟨g, 0, none⟩), .pointer (some ⟨f1, 0, none⟩), .pointer (some ⟨f2, 0, none⟩)] w (RI g (y + z) w) := by
  by_cases h : decide (y < 0) = decide (z < 0)
  · exact iadd_same g f1 f2 y z hl1 hl2 w hb hy hz h
  · rcases Nat.lt_or_ge y.natAbs z.natAbs with h1 | h1
    · exact iadd_lt g f1 f2 y z hl1 hl2 w hb hy hz h h1
    · exact iadd_ge g f1 f2 y z hl1 hl2 w hb hy hz h h1
end Go.Proofs.YtbgjcpnbdgljbaaGreatDoor

/- The contracts of package wide's Int: SetUint64, NewInt, Uint64. -/
namespace Go.Proofs.YtbgjcpnbdgljbaaGreatDoor
open Go.RowKit Go.Fil Go.Shelf

theorem fresh_row (w : World) (o : Obj) : (w.alloc o).heap[w.heap.size]? = some o := by
  show (w.heap.push o)[w.heap.size]? = some o
  rw [Array.getElem?_push, if_pos rfl]
theorem Seq.fresh (w : World) (cs : Array Value) (t : TypeId) (B : Nat) (hB : w.heap.size < B) : Seq (w.alloc (.cells cs t (0, 0))) B (some ⟨w.heap.size, 0, none⟩) cs.toList := by
  refine .inr ⟨w.heap.size, 0, rfl, hB, fun k v hk => ?_⟩
  rw [cell_of_row _ w.heap.size _ _ _ (0, 0) (fresh_row w _), Nat.zero_add, ← Array.getElem?_toList]
  exact hk
theorem alloc_below (w : World) (o : Obj) : Below w.heap.size w (w.alloc o) := (Below.refl _ _).alloc (Nat.le_refl _) o
set_option maxRecDepth 100000 in
set_option maxHeartbeats 3200000 in
theorem isetu_any (g x : Nat) (hx : x < 18446744073709551616) (w : World) (hb : IntBlk w g) :
    Calls Tryz.prog 126 #[.pointer (some ⟨g, 0, none⟩), .int .u64 (x : Int)] w (RI g (x : Int) w) := by
  have HB := Lib.hid hb
  have i0 : (0 : Int) ≤ (x : Int) := by omega
  have i1 : (x : Int) < 18446744073709551616 := by omega
  have hbe := alloc_below w (.cells #[.int .u32 ((x : Int) % 4294967296), .int .u32 ((x : Int) / 4294967296)] 244)
  have hseq : Seq (w.alloc (.cells #[.int .u32 ((x : Int) % 4294967296), .int .u32 ((x : Int) / 4294967296)] 244)) (w.heap.size + 1) (some ⟨w.heap.size, 0, none⟩) ([x % 4294967296, x / 4294967296].map u32v) := by
    have := Seq.fresh w #[.int .u32 ((x : Int) % 4294967296), .int .u32 ((x : Int) / 4294967296)] 244 (w.heap.size + 1) (by omega)
    exact this
  have hdt : dty (w.alloc (.cells #[.int .u32 ((x : Int) % 4294967296), .int .u32 ((x : Int) / 4294967296)] 244)) (some ⟨w.heap.size, 0, none⟩) := by
    intro b o hA
    injection hA with hA
    injection hA with h1 h2
    subst h1
    exact ⟨_, fresh_row w _⟩
  have hval : val [x % 4294967296, x / 4294967296] = x := by simp only [val]; omega
  have hok : dok [x % 4294967296, x / 4294967296] := by
    intro d hd
    simp only [List.mem_cons, List.not_mem_nil, or_false] at hd
    omega
  have hsz : (w.alloc (.cells #[.int .u32 ((x : Int) % 4294967296), .int .u32 ((x : Int) / 4294967296)] 244)).heap.size = w.heap.size + 1 := by simp
  generalize hW : w.alloc (.cells #[.int .u32 ((x : Int) % 4294967296), .int .u32 ((x : Int) / 4294967296)] 244) = W at *
  have hcut := cut_any (some ⟨w.heap.size, 0, none⟩) 2 2 [x % 4294967296, x / 4294967296] rfl (Nat.le_refl 2) (by decide) hok (w.heap.size + 1) W hseq
  rw [hval] at hcut
  have hL : (dig x).length ≤ 2 := dig_length_le (by simpa using hx)
  have HSEQ := Lib.hid hseq
  have HC := Lib.hid hcut
  have HBE := Lib.hid hbe
  have HDT := Lib.hid hdt
  have HSZ := Lib.hid hsz
  have HW := Lib.hid hW
  clear hseq hcut hb hbe hdt hval hok hsz hW
  go_enter Tryz.func126, Tryz.ntmps126
  go_wp2_with (first
    | (go_at_call 186; rw [HW.out]; refine HC.out.mono ?_; rintro e w' ⟨rfl, hd, rfl⟩; have HD := Lib.hid hd; clear hd)
    | (go_at_call 148; refine (laid_any _ _ _ _ _ ?_ _ ?_).mono ?_; omega; exact HB.out.below HBE.out; rintro e w2 ⟨rfl, hw2⟩; have HW2 := Lib.hid hw2; clear hw2))
  go_ret
  rw [HW2.out]
  refine ri_laid HB.out HBE.out false hL ?_ HDT.out rfl
  have h6 := HSEQ.out.take (dig x).length
  rw [← List.map_take, HD.out] at h6
  rw [HSZ.out]
  exact h6
theorem or_zero64 {x : Nat} (h : x < 18446744073709551616) : bits .or .u64 0 (x : Int) = (x : Int) := by
  have := u64_or_nat 0 x (by decide) h
  rw [Nat.zero_or] at this
  exact this
/-- A new Int. -/
def RN (z : Int) (w : World) (e : Ending) (w' : World) : Prop := ∃ g, e = .returned (.pointer (some ⟨g, 0, none⟩)) ∧ IntAt w' g z ∧ Below w.heap.size w w' ∧ w.heap.size ≤ g
theorem int_neg_store {w : World} {g n : Nat} (h : IntAt w g (n : Int)) (hn : n ≠ 0) : IntAt (w.setCell ⟨g, 0, none⟩ (.bool true)) g (-(n : Int)) ∧ w.grownBy (w.setCell ⟨g, 0, none⟩ (.bool true)) (some g) := by
  obtain ⟨A, c, h, hc, hs, hd⟩ := h
  have hg : w.grownBy (w.setCell ⟨g, 0, none⟩ (.bool true)) (some g) :=
    ⟨rfl, rfl, rfl, by simp, fun k _ hk => by rw [heap_setCell_other _ ⟨g, 0, none⟩ k _ (fun e => hk (by simp [e]))]⟩
  obtain ⟨hs', hd'⟩ := hs.grown hd hg h (by decide)
  rw [Int.natAbs_natCast] at *
  refine ⟨⟨A, c, ?_, by rw [Int.natAbs_neg, Int.natAbs_natCast]; exact hc, by rw [Int.natAbs_neg, Int.natAbs_natCast]; exact hs', hd'⟩, hg⟩
  have h1 := heap_setCell_same w g 0 _ _ (.bool true) h
  rw [h1, Int.natAbs_neg, Int.natAbs_natCast, show decide (-(n : Int) < 0) = true by simp; omega]; rfl
theorem blk_fresh (w : World) : IntBlk (w.alloc (.cells #[.bool false, .slice none 0 0] 183)) w.heap.size := ⟨_, _, fresh_row w _⟩
theorem grow_fresh {w w1 : World} {o : Obj} (h : (w.alloc o).grownBy w1 (some w.heap.size)) : Below w.heap.size w w1 :=
  (alloc_below w o).grown h (by simp) (fun k hk => by injection hk with hk; omega)
set_option maxRecDepth 100000 in
set_option maxHeartbeats 3200000 in
theorem newint_pos (n : Nat) (hn : n < 9223372036854775808) (w : World) : Calls Tryz.prog 166 #[.int .i64 (n : Int)] w (RN (n : Int) w) := by
  have i0 : (0 : Int) ≤ (n : Int) := by omega
  have i2 : ¬ (n : Int) < 0 := by omega
  have e1 : IntKind.u64.wrap (n : Int) = (n : Int) := by rw [wrap_u64']; omega
  have HN := Lib.hid (show n < 18446744073709551616 by omega)
  clear hn
  go_enter Tryz.func166, Tryz.ntmps166
  go_wp2_with (go_at_call 126; refine (isetu_any _ n HN.out _ ?_).mono ?_; exact blk_fresh w; rintro e w1 ⟨rfl, hi, hg⟩; have HI := Lib.hid hi; have HG := Lib.hid hg; clear hi hg)
  go_ret
  exact ⟨_, rfl, HI.out, grow_fresh HG.out, Nat.le_refl _⟩
set_option maxRecDepth 100000 in
set_option maxHeartbeats 3200000 in
theorem newint_neg (n : Nat) (h0 : 0 < n) (hn : n ≤ 9223372036854775808) (w : World) : Calls Tryz.prog 166 #[.int .i64 (-(n : Int))] w (RN (-(n : Int)) w) := by
  have i0 : -(n : Int) < 0 := by omega
  have e1 : IntKind.u64.wrap (-(n : Int)) = ((18446744073709551616 - n : Nat) : Int) := by rw [wrap_u64']; omega
  have e2 : IntKind.u64.wrap (-((18446744073709551616 - n : Nat) : Int)) = (n : Int) := by rw [wrap_u64']; omega
  have HM := Lib.hid (show 18446744073709551616 - n < 18446744073709551616 by omega)
  have HN := Lib.hid (show n < 18446744073709551616 by omega)
  have HZ := Lib.hid (show n ≠ 0 by omega)
  clear hn h0
  generalize 18446744073709551616 - n = m at *
  go_enter Tryz.func166, Tryz.ntmps166
  go_wp2_with (first
    | (go_at_call 126; (with_reducible refine (isetu_any _ m HM.out _ ?_).mono ?_); exact blk_fresh w; rintro e w1 ⟨rfl, hi, hg⟩; have HI := Lib.hid hi; have HG := Lib.hid hg; clear hi hg)
    | (go_at_call 126; (with_reducible refine (isetu_any _ n HN.out _ ?_).mono ?_); exact HI.out.blk; rintro e w2 ⟨rfl, hi, hg⟩; have HI2 := Lib.hid hi; have HG2 := Lib.hid hg; clear hg; obtain ⟨A', c', hblk, _, _, _⟩ := hi; obtain ⟨b1, b2, b3, b4⟩ := blk_cells hblk; clear hblk b2 b4))
  go_ret
  obtain ⟨k1, k2⟩ := int_neg_store HI2.out HZ.out
  have hb1 := grow_fresh HG.out
  have hb2 := hb1.grown HG2.out hb1.size (fun k hk => by injection hk with hk; omega)
  exact ⟨_, rfl, k1, hb2.grown k2 hb2.size (fun k hk => by injection hk with hk; omega), Nat.le_refl _⟩
set_option maxRecDepth 100000 in
set_option maxHeartbeats 3200000 in
theorem iu64_any (g a : Nat) (ha : a < 18446744073709551616) (w : World) (hz : IntAt w g (a : Int)) :
    Calls Tryz.prog 208 #[.pointer (some ⟨g, 0, none⟩)] w fun e w' => e = .returned (.int .u64 (a : Int)) ∧ w = w' := by
  have hlen : (dig a).length ≤ 2 := dig_length_le (by simpa using ha)
  obtain ⟨A, c, h, _, hs, _⟩ := hz
  rw [Int.natAbs_natCast] at h hs
  obtain ⟨h1, h2, _, _⟩ := blk_cells h
  clear h h1
  have hval := val_dig a
  have hok := dig_ok a
  rcases Nat.lt_or_ge (dig a).length 1 with h0 | h0
  · have e0 : (dig a).length = 0 := by omega
    have ea : a = 0 := by
      rw [List.eq_nil_of_length_eq_zero e0] at hval; simpa [val] using hval.symm
    subst ea
    rw [e0] at h2
    clear hs hval e0 hlen h0
    go_enter Tryz.func208, Tryz.ntmps208
    go_wp2
    refine wp_loop_rounds 1 ?_
    rw [rounds_succ]
    go_wp2
    go_ret
    exact ⟨rfl, rfl⟩
  · rcases Nat.lt_or_ge (dig a).length 2 with h1 | h1
    · have e0 : (dig a).length = 1 := by omega
      obtain ⟨b, o, rfl, hb, hcl⟩ := hs.dat (k := 0) (by omega)
      have hv : a = nd (dig a) 0 := by
        have := val_take_nd (dig a) 0
        rw [List.take_of_length_le (by omega), hval] at this
        simpa [val] using this
      rw [e0] at h2
      rw [Nat.add_zero] at hcl
      have d0 := nd_lt hok 0
      generalize nd (dig a) 0 = d at *
      have e1 : a = d := hv
      subst e1
      clear hs hval e0 hlen h0 h1 hok
      have m1 : min (1 : Int) 2 = 1 := by decide
      have s1 : (1 : Int) - 1 = 0 := by decide
      go_enter Tryz.func208, Tryz.ntmps208
      go_wp2
      refine wp_loop_rounds 2 ?_
      rw [rounds_succ]
      go_wp2
      rw [rounds_succ]
      go_wp2
      go_ret
      rw [or_zero64 (by omega)]
      exact ⟨rfl, rfl⟩
    · have e0 : (dig a).length = 2 := by omega
      obtain ⟨b, o, rfl, hb, hcl⟩ := hs.dat (k := 0) (by omega)
      obtain ⟨b', o', hA, hb', hcl'⟩ := hs.dat (k := 1) (by omega)
      injection hA with hA
      injection hA with hA1 hA2
      subst hA1 hA2
      have hv : a = nd (dig a) 0 + 4294967296 * nd (dig a) 1 := by
        have h1 := val_take_nd (dig a) 0
        have h2 := val_take_nd (dig a) 1
        rw [List.take_of_length_le (by omega), hval] at h2
        rw [h1] at h2
        simpa [val] using h2
      rw [e0] at h2
      rw [Nat.add_zero] at hcl
      have d0 := nd_lt hok 0
      have d1 := nd_lt hok 1
      generalize nd (dig a) 0 = d at *
      generalize nd (dig a) 1 = c1 at *
      have HV := Lib.hid hv
      clear hs hval e0 hlen h0 h1 hok hv
      have m1 : min (2 : Int) 2 = 2 := by decide
      have s1 : (2 : Int) - 1 = 1 := by decide
      have s2 : (1 : Int) - 1 = 0 := by decide
      go_enter Tryz.func208, Tryz.ntmps208
      go_wp2
      refine wp_loop_rounds 3 ?_
      rw [rounds_succ]
      go_wp2
      rw [rounds_succ]
      go_wp2
      rw [rounds_succ]
      go_wp2
      go_ret
      have hd0 := d0
      have hd1 := d1
      rw [or_zero64 (by omega)]
      have e1 : IntKind.u64.wrap ((c1 : Int) * 4294967296) = ((c1 * 4294967296 : Nat) : Int) := by rw [wrap_u64']; omega
      have e2 : (c1 * 4294967296 : Nat) ||| d = d + c1 * 4294967296 := by
        rw [Nat.or_comm]; exact or_add (r := 32) (by omega)
      have e3 := u64_or_nat (c1 * 4294967296) d (by omega) (by omega)
      rw [e1, e3, e2]
      have e5 : d + c1 * 4294967296 = a := by have := HV.out; omega
      rw [e5]
      exact ⟨rfl, rfl⟩
end Go.Proofs.YtbgjcpnbdgljbaaGreatDoor

/- The contract of package wide's Int: SetBytes. -/
namespace Go.Proofs.YtbgjcpnbdgljbaaGreatDoor
open Go.RowKit Go.Fil Go.Shelf

def u8v (d : Nat) : Value := .int .u8 (d : Int)
/-- A byte's cell. -/
theorem Seq.dat8 {w : World} {B : Nat} {A : Option Addr} {l : List Nat} (h : Seq w B A (l.map u8v)) {k : Nat} (hk : k < l.length) :
    ∃ b o, A = some ⟨b, o, none⟩ ∧ b < B ∧ w.cell? ⟨b, o + k, none⟩ = some (.int .u8 (bnd l k : Int)) := by
  have h0 : (l.map u8v)[k]? = some (u8v (bnd l k)) := by rw [List.getElem?_map, bnd_some hk]; rfl
  rcases h with h | ⟨b, o, hA, hb, hc⟩
  · rw [h] at h0; simp at h0
  · exact ⟨b, o, hA, hb, hc _ _ h0⟩
theorem bnd_all {l : List Nat} (h : ∀ d ∈ l, d < 256) (k : Nat) : bnd l k < 256 := bnd_lt h k
set_option maxRecDepth 100000 in
set_option maxHeartbeats 6400000 in
theorem isetb_any (g : Nat) (A1 : Option Addr) (n c1 : Nat) (l : List Nat) (hn : l.length = n) (h1 : n ≤ 68719476736) (hok : ∀ d ∈ l, d < 256) (w : World) (hb : IntBlk w g) (hs1 : Seq w w.heap.size A1 (l.map u8v)) :
    Calls Tryz.prog 123 #[.pointer (some ⟨g, 0, none⟩), .slice A1 n c1] w (RI g (bval l.reverse : Int) w) := by
  obtain ⟨i0, hi, hz0, hz1, hz2⟩ := info_parts Tryz.infoD
  have HB := Lib.hid hb
  have HS1 := Lib.hid hs1
  have HN1 := Lib.hid hn
  have HOK := Lib.hid hok
  clear hb hs1 hn hok
  obtain ⟨m, hm⟩ : ∃ m, n / 4 + 1 = m := ⟨_, rfl⟩
  have hm' : (n : Int) / 4 + 1 = (m : Int) := by omega
  have hm4 : n < 4 * m := by omega
  have hmn : m ≤ n + 1 := by omega
  have HM := Lib.hid hm
  clear hm
  have hp : (0 : Int) ≤ (m : Int) := by omega
  go_enter Tryz.func123, Tryz.ntmps123
  go_wp2_with (at_make; refine wpList_make_full _ rfl _ _ 181 rfl w.heap.size 244 i0 (.int .u32 0) 1 Tryz.underlying181 hi hz0 hz1 _ _ _ _ m rfl rfl (by omega) (by omega) ?b2 ?b3 (Nat.le_refl _) ?_)
  case b2 => first | omega | (rw [hz2]; omega)
  case b3 => unfold maxLen; omega
  intro w1 hown hgrow
  have hb1 : Below w.heap.size w w1 := (Below.refl _ _).grown hgrow (Nat.le_refl _) (fun k hk => by cases hk)
  rw [zeros_u32] at hown
  have HOWN := Lib.hid hown
  have HB1 := Lib.hid hb1
  clear hown hgrow hb1
  go_wp2
  go_loopw [16] (fun i wr => ∃ (p : Nat) (os : List Nat), p ≤ n ∧ i = .int .i64 (p : Int) ∧ os.length = m ∧ Hid (dok os) ∧ Hid (val os = 256 ^ (n - p) * bval (l.take p).reverse) ∧
      wr.ownsRow w.heap.size 244 1 (.slice (some ⟨w.heap.size, 0, none⟩) m m) m (os.map u32v) ∧ Below w.heap.size w wr) (fun i _ => n - (intOf i).toNat)
  case atStart => exact ⟨0, List.replicate m 0, Nat.zero_le _, rfl, by simp, Lib.hid (dok_zeros _), Lib.hid (by rw [val_zeros]; simp [bval]), HOWN.out, HB1.out⟩
  case round =>
    obtain ⟨p, os, hp1, rfl, hlen, hdo, hv, hown, hbe⟩ := hrel
    by_cases hlt : p < n
    · obtain ⟨bb, o, rfl, hbb, hcl⟩ := (HS1.out.below hbe (Nat.le_refl _)).dat8 (k := p) (by have := HN1.out; omega)
      have i0' : (0 : Int) ≤ (p : Int) := by omega
      have i1 : (p : Int) < (n : Int) := by omega
      have d1 := bnd_all HOK.out p
      obtain ⟨k, hk⟩ : ∃ k, n - 1 - p = k := ⟨_, rfl⟩
      have hk' : (n : Int) - 1 - (p : Int) = (k : Int) := by omega
      obtain ⟨q, hq⟩ : ∃ q, k / 4 = q := ⟨_, rfl⟩
      obtain ⟨r, hr⟩ : ∃ r, k % 4 = r := ⟨_, rfl⟩
      have hq' : (k : Int) / 4 = (q : Int) := by omega
      have hr' : (k : Int) % 4 = (r : Int) := by omega
      have hr4 : r < 4 := by omega
      have hqm : (q : Int) < (m : Int) := by omega
      have hqm' : q < m := by omega
      have hkn : (k : Int) ≤ (n : Int) := by omega
      have HK := Lib.hid hk
      have HQ := Lib.hid hq
      have HR := Lib.hid hr
      clear hk hq hr
      have HOWN2 := Lib.hid hown
      have HBE := Lib.hid hbe
      have hfz : wr.frozen? ⟨w.heap.size, q, none⟩ = false := hown.frozenAt q
      have hcu : wr.cell? ⟨w.heap.size, q, none⟩ = some (.int .u32 (nd os q : Int)) := by
        rw [hown.cellAt q (by omega), List.getElem?_map, nd_some (by omega)]; rfl
      clear hown hbe
      have HD1 := Lib.hid d1
      have j2 : (0 : Int) ≤ (q : Int) := by omega
      have j3 : (0 : Int) ≤ (k : Int) := by omega
      have j4 : (0 : Int) ≤ (r : Int) := by omega
      have j5 : (r : Int) < 4 := by omega
      go_wp2
      have d3 := nd_lt hdo.out q
      have d1 := HD1.out
      have hv' : val os = 256 ^ (k + 1) * bval (l.take p).reverse := by
        have h := hv.out
        have hk := HK.out
        rwa [show n - p = k + 1 by omega] at h
      have st := setbytes_step (k := k) hdo.out hv' d1 (by have := HQ.out; omega)
      rw [HQ.out, HR.out] at st
      obtain ⟨st1, st2⟩ := st
      have hc2 : bnd l p * 2 ^ (8 * r) < 4294967296 := by
        have h1 := Nat.pow_le_pow_right (show 0 < 2 by decide) (show 8 * r ≤ 24 by omega)
        have h2 := Nat.mul_le_mul (show bnd l p ≤ 255 by omega) h1
        omega
      have exy : (bnd l p : Int) * 2 ^ (r * 8) % 4294967296 = ((bnd l p * 2 ^ (8 * r) : Nat) : Int) := by
        rw [Nat.mul_comm 8 r] at hc2 ⊢
        have e1 : (bnd l p : Int) * 2 ^ (r * 8) = ((bnd l p * 2 ^ (r * 8) : Nat) : Int) := by simp
        rw [e1]; omega
      have hb0 := u32_or_nat (nd os q) (bnd l p * 2 ^ (8 * r)) d3 hc2
      rw [exy, hb0]
      refine ⟨⟨p + 1, os.set q (nd os q ||| (bnd l p * 2 ^ (8 * r))), by omega, by go_num, by simpa using hlen, Lib.hid (dok_set hdo.out st2 _), Lib.hid ?_, ?_, HBE.out.setCell (Nat.le_refl _) _⟩, by simp [intOf]; omega⟩
      · have hk := HK.out
        rw [st1, show n - (p + 1) = k by omega, bval_take_rev (by have := HN1.out; omega)]
      · rw [← set_u32]; exact (HOWN2.out.stored q _).1
    · obtain rfl : p = n := by omega
      have HOWN2 := Lib.hid hown
      have HBE := Lib.hid hbe
      have hval : val os = bval l.reverse := by
        have h2 := hv.out
        rw [List.take_of_length_le (by have := HN1.out; omega), Nat.sub_self] at h2
        simpa using h2
      have hL : (dig (bval l.reverse)).length ≤ m := by
        rw [← hval, ← hlen]
        exact dig_length_le (val_lt hdo.out)
      have HVAL := Lib.hid hval
      clear hown hbe hval
      go_wp2_with (first
        | (go_at_call 186; refine (cut_any _ m m os hlen (Nat.le_refl _) ?_ hdo.out _ _ (own_seq HOWN2.out)).mono ?_; omega; rintro e w' ⟨rfl, hd, rfl⟩; rw [HVAL.out] at hd ⊢; have HD := Lib.hid hd; clear hd)
        | (go_at_call 148; refine (laid_any _ _ _ _ _ ?_ _ ?_).mono ?_; omega; exact HB.out.below HBE.out; rintro e w2 ⟨rfl, hw2⟩; have HW2 := Lib.hid hw2; clear hw2))
      go_ret
      rw [HW2.out]
      refine ri_laid HB.out HBE.out false hL ?_ (own_dty HOWN2.out) rfl
      have h6 := (own_seq HOWN2.out).take (dig (bval l.reverse)).length
      rw [← List.map_take, HD.out] at h6
      exact h6
end Go.Proofs.YtbgjcpnbdgljbaaGreatDoor

/- The contract of package wide's Int: Bytes. -/
namespace Go.Proofs.YtbgjcpnbdgljbaaGreatDoor
open Go.RowKit Go.Fil Go.Shelf

theorem Tryz.infoU8 : (Tryz.prog.info? 5).map (fun i => (i.zero, i.size, i.bytes)) = some (some (.int .u8 0), 1, 1) := by kernel_rfl
theorem zeros_u8 (n : Nat) : (madeCells #[.int .u8 0] n).toList = (List.replicate n 0).map u8v := by
  rw [toList_madeCells_one, List.map_replicate]; rfl
theorem set_u8 (l : List Nat) (j d : Nat) : (l.map u8v).set j (.int .u8 (d : Int)) = (l.set j d).map u8v := by rw [List.map_set]; rfl
/-- What Bytes answers. -/
def RBy (l : List Nat) (w : World) (e : Ending) (w' : World) : Prop := ∃ A, e = .returned (.slice A l.length l.length) ∧ Seq w' w'.heap.size A (l.map u8v) ∧ Below w.heap.size w w'
set_option maxRecDepth 100000 in
set_option maxHeartbeats 6400000 in
theorem ibytes_any (g a : Nat) (hl : bl a ≤ 137438953472) (w : World) (hz : IntAt w g (a : Int)) :
    Calls Tryz.prog 153 #[.pointer (some ⟨g, 0, none⟩)] w (RBy (bbs a) w) := by
  have hgl := hz.lt
  obtain ⟨i0, hi, hz0, hz1, hz2⟩ := info_parts Tryz.infoU8
  have hl1 : (dig a).length ≤ 274877906944 := Nat.le_trans (dig_len_lim hl) (by decide)
  have hbn := bbs_length a
  obtain ⟨A, c, h, hc, hs, _⟩ := hz
  rw [Int.natAbs_natCast] at h hc hs
  obtain ⟨h1, h2, _, _⟩ := blk_cells h
  have HS := Lib.hid hs
  clear h hs h1
  obtain ⟨n, hn⟩ : ∃ n, (bl a + 7) / 8 = n := ⟨_, rfl⟩
  have hn' : ((bl a : Int) + 7) / 8 = (n : Int) := by omega
  have hnb : n ≤ 17179869185 := by omega
  rw [hn] at hbn
  have HBN := Lib.hid hbn
  have HN := Lib.hid hn
  clear hn hbn
  have hp : (0 : Int) ≤ (n : Int) := by omega
  go_enter Tryz.func153, Tryz.ntmps153
  go_wp2_with (first
    | (go_at_call 206; refine (wsize_any _ _ _ hl1 _ HS.out).mono ?_; rintro e w' ⟨rfl, rfl⟩)
    | (at_make; refine wpList_make_full _ rfl _ _ 185 rfl w'.heap.size 5 i0 (.int .u8 0) 1 Tryz.underlying185 hi hz0 hz1 _ _ _ _ n rfl rfl (by omega) (by omega) ?b2 ?b3 (Nat.le_refl _) ?_))
  case b2 => first | omega | (rw [hz2]; omega)
  case b3 => unfold maxLen; omega
  intro w1 hown hgrow
  have hb1 : Below w'.heap.size w' w1 := (Below.refl _ _).grown hgrow (Nat.le_refl _) (fun k hk => by cases hk)
  rw [zeros_u8] at hown
  have HOWN := Lib.hid hown
  have HB1 := Lib.hid hb1
  clear hown hgrow hb1
  go_wp2
  go_loopw [17] (fun i wr => ∃ (p : Nat) (os : List Nat), p ≤ n ∧ i = .int .i64 (p : Int) ∧ os.length = n ∧ Hid (∀ j, j < p → bnd os (n - 1 - j) = bnd (bdig a) j) ∧
      wr.ownsRow w'.heap.size 5 1 (.slice (some ⟨w'.heap.size, 0, none⟩) n n) n (os.map u8v) ∧ Below w'.heap.size w' wr) (fun i _ => n - (intOf i).toNat)
  case atStart => exact ⟨0, List.replicate n 0, Nat.zero_le _, rfl, by simp, Lib.hid (fun j hj => by omega), HOWN.out, HB1.out⟩
  case round =>
    obtain ⟨p, os, hp1, rfl, hlen, hv, hown, hbe⟩ := hrel
    by_cases hlt : p < n
    · obtain ⟨q, hq⟩ : ∃ q, p / 4 = q := ⟨_, rfl⟩
      obtain ⟨r, hr⟩ : ∃ r, p % 4 = r := ⟨_, rfl⟩
      obtain ⟨k, hk⟩ : ∃ k, n - 1 - p = k := ⟨_, rfl⟩
      have hqd : q < (dig a).length := by
        have h1 := HN.out
        rcases Nat.lt_or_ge q (dig a).length with hh | hh
        · exact hh
        · exfalso
          have h2 : bl a ≤ 32 * q := by
            refine bl_le_of_lt (Nat.lt_of_lt_of_le (dig_length_lt a) ?_)
            rw [show (4294967296 : Nat) = 2 ^ 32 from rfl, ← Nat.pow_mul]
            exact Nat.pow_le_pow_right (by decide) (by omega)
          omega
      obtain ⟨bb, o, rfl, hbb, hcl⟩ := (HS.out.below hbe (Nat.le_refl _)).dat (k := q) hqd
      have hg2 := hbe.cell (p := ⟨g, 1, none⟩) hgl
      rw [h2] at hg2
      have i0' : (0 : Int) ≤ (p : Int) := by omega
      have i1 : (p : Int) < (n : Int) := by omega
      have d1 := nd_lt (dig_ok a) q
      have hk' : (n : Int) - 1 - (p : Int) = (k : Int) := by omega
      have hq' : (p : Int) / 4 = (q : Int) := by omega
      have hr' : (p : Int) % 4 = (r : Int) := by omega
      have hr4 : r < 4 := by omega
      have hqm : (q : Int) < ((dig a).length : Int) := by omega
      have hkn : (k : Int) < (n : Int) := by omega
      have HK := Lib.hid hk
      have HQ := Lib.hid hq
      have HR := Lib.hid hr
      clear hk hq hr
      have HOWN2 := Lib.hid hown
      have HBE := Lib.hid hbe
      have hfz : wr.frozen? ⟨w'.heap.size, k, none⟩ = false := hown.frozenAt k
      have hcu : wr.cell? ⟨w'.heap.size, k, none⟩ = some (.int .u8 (bnd os k : Int)) := by
        rw [hown.cellAt k (by omega), List.getElem?_map, bnd_some (by omega)]; rfl
      clear hown hbe
      have HD1 := Lib.hid d1
      have j2 : (0 : Int) ≤ (q : Int) := by omega
      have j3 : (0 : Int) ≤ (k : Int) := by omega
      have j4 : (0 : Int) ≤ (r : Int) := by omega
      have j5 : (r : Int) < 4 := by omega
      generalize hL : (dig a).length = L at *
      have HL := Lib.hid hL
      clear hL
      go_wp2
      have hbt := byte_of_dig a p
      rw [HQ.out, HR.out] at hbt
      have hlt8 := bnd_lt (bdig_ok a) p
      have exy : (nd (dig a) q : Int) / 2 ^ (r * 8) % 256 = (bnd (bdig a) p : Int) := by
        rw [← hbt, Nat.mul_comm 8 r]
        simp
      rw [exy]
      refine ⟨⟨p + 1, os.set k (bnd (bdig a) p), by omega, by go_num, by simpa using hlen, Lib.hid (fun j hj => ?_), ?_, HBE.out.setCell (Nat.le_refl _) _⟩, by simp [intOf]; omega⟩
      · have hk := HK.out
        rw [bnd_set]
        by_cases hjp : j = p
        · subst hjp
          rw [if_pos ⟨by omega, by omega⟩]
        · rw [if_neg (by omega)]
          exact hv.out j (by omega)
      · rw [← set_u8]; exact (HOWN2.out.stored k _).1
    · obtain rfl : p = n := by omega
      have HOWN2 := Lib.hid hown
      have HBE := Lib.hid hbe
      clear hown hbe
      go_wp2
      go_ret
      have hos : os = bbs a := by
        have hb := HBN.out
        refine List.ext_getElem (by omega) (fun i k1 k2 => ?_)
        have h1 := hv.out (p - 1 - i) (by omega)
        rw [show p - 1 - (p - 1 - i) = i by omega, ← rev_get a (by omega)] at h1
        rw [hb, show p - 1 - (p - 1 - i) = i by omega] at h1
        rw [← bnd_eq, ← bnd_eq]
        exact h1
      subst hos
      refine ⟨_, by rw [HBN.out]; rfl, own_seq HOWN2.out, HBE.out⟩
end Go.Proofs.YtbgjcpnbdgljbaaGreatDoor
