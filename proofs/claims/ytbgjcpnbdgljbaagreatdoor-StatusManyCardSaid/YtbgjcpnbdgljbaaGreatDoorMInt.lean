/- The contracts of math/bits.Len32, TrailingZeros32, and of package wide's digits: size, low. -/
import Derived.Test.YtbgjcpnbdgljbaaGreatDoorMDgs
import Derived.Shelf.Small.Bits
import Derived.Shelf.Spec.TrailingZeros
namespace Go.Proofs.YtbgjcpnbdgljbaaGreatDoor
open Go.RowKit Go.Fil Go.Shelf

theorem bl_half {x : Nat} (h : x ≠ 0) : bl x = 1 + bl (x / 2) := by
  by_cases h1 : x = 1
  · subst h1; decide +kernel
  · have h2 : x / 2 ≠ 0 := by omega
    obtain ⟨j, hj⟩ : ∃ j, bl (x / 2) = j + 1 := ⟨(x / 2).log2, by unfold bl; rw [if_neg h2]⟩
    have c1 := bl_le h2
    have c2 := bl_lt (x / 2)
    rw [hj] at c1 c2
    rw [Nat.add_sub_cancel] at c1
    have e1 : 2 ^ (j + 1) = 2 * 2 ^ j := by rw [Nat.pow_succ, Nat.mul_comm]
    have e2 : 2 ^ (j + 1 + 1) = 2 * 2 ^ (j + 1) := by rw [Nat.pow_succ, Nat.mul_comm]
    rw [hj, bl_eq (k := j + 1) (by omega) (by omega)]; omega
theorem bl_zero : bl 0 = 0 := by simp [bl]
theorem bitLenAux_bl (f x : Nat) (h : x < 2 ^ f) : Lib.bitLenAux f x = bl x := by
  induction f generalizing x with
  | zero => have : x = 0 := by simpa using h
            subst this; rw [bl_zero]; rfl
  | succ f ih =>
    unfold Lib.bitLenAux
    split
    · rename_i h0; subst h0; rw [bl_zero]
    · rename_i h0
      rw [Nat.pow_succ] at h
      rw [ih _ (by omega), bl_half h0]
theorem bitLen_bl {x : Nat} (h : x < 4294967296) : Lib.bitLen x = bl x := by
  unfold Lib.bitLen
  exact bitLenAux_bl 64 x (Nat.lt_of_lt_of_le h (by decide))
theorem ctz_tz {x : Nat} (h0 : x ≠ 0) (h : x < 4294967296) : Lib.ctz 32 x = tz x := by
  obtain ⟨m, hm, _⟩ := Lib.ctzFrom_spec 32 x (by omega) h
  have e : Lib.ctz 32 x = Lib.ctzFrom 32 x := by simp [Lib.ctz, h0]
  rw [e]
  conv => rhs; rw [hm]
  exact (tz_of (by omega) _).symm
def lays128_ren : Go.Shelf.Ren := ⟨fun | 128 => 239 | n => n, fun | 51 => 244 | 3 => 3 | 4 => 4 | 46 => 156 | 5 => 5 | 9 => 9 | n => n, fun | n => n⟩
theorem lays128 : Go.Proofs.Lays.n128 Tryz.prog lays128_ren := {
  mixed := by kernel_rfl
  f128 := Tryz.func239.trans (congrArg some (by kernel_rfl))
  t3 := Tryz.underlying3
  a3 := Tryz.isAgg3
  z3 := Tryz.sizeOf3
  v3 := Tryz.zeroValue3
  t4 := Tryz.underlying4
  a4 := Tryz.isAgg4
  z4 := Tryz.sizeOf4
  v4 := Tryz.zeroValue4
  t5 := Tryz.underlying5
  a5 := Tryz.isAgg5
  z5 := Tryz.sizeOf5
  v5 := Tryz.zeroValue5
  t9 := Tryz.underlying9
  a9 := Tryz.isAgg9
  z9 := Tryz.sizeOf9
  v9 := Tryz.zeroValue9
  t46 := Tryz.underlying156
  a46 := Tryz.isAgg156
  z46 := Tryz.sizeOf156
  v46 := Tryz.zeroValue156
  t51 := Tryz.underlying244
  a51 := Tryz.isAgg244
  z51 := Tryz.sizeOf244
  v51 := Tryz.zeroValue244 }
theorem len32_any (x : Nat) (h : x < 4294967296) (w : World) : Calls Tryz.prog 239 #[.int .u32 (x : Int)] w fun e w' => e = .returned (.int .i64 (bl x : Int)) ∧ w' = w :=
  (Any.bits_Len32 lays128 (x : Int) w (by omega) (by omega)).mono fun e w' ⟨h1, h2⟩ => ⟨by rw [h1, Int.toNat_natCast, bitLen_bl h], h2⟩
set_option maxHeartbeats 1000000 in
theorem tz32_core (x k idx : Nat) (w : World) (hx0 : ((x : Int) == 0) = false)
    (key : bits BinOp.and IntKind.u32 (x : Int) (-(x : Int) % 4294967296) * 125613361 % 4294967296 / 134217728 = (idx : Int))
    (hi : idx < 32) (hcell : w.cell? ⟨2, idx, none⟩ = some (.int .u8 k)) (hk : k < 32) :
    Calls Tryz.prog 238 #[.int .u32 (x : Int)] w fun e w' => e = .returned (.int .i64 k) ∧ w' = w := by
  go_enter Tryz.func238, Tryz.ntmps238
  go_wp2_with (simp only [key])
  go_ret
  exact ⟨rfl, rfl⟩
theorem tz32_any (x : Nat) (h0 : x ≠ 0) (hx : x < 4294967296) (w : World) (hT : TabAt 2 Lib.deBruijn32tab w) :
    Calls Tryz.prog 238 #[.int .u32 (x : Int)] w fun e w' => e = .returned (.int .i64 (tz x : Int)) ∧ w' = w := by
  obtain ⟨hlow, hk⟩ := Lib.lowest_bit 32 x h0 hx
  obtain ⟨hi, htab⟩ := Lib.deBruijn32_at _ hk
  have hcell := hT _ hi
  rw [htab] at hcell
  have h := tz32_core x _ _ w (by simp; omega) (tz32_key x _ hx h0 hlow) hi hcell hk
  rw [ctz_tz h0 hx] at h
  exact h
end Go.Proofs.YtbgjcpnbdgljbaaGreatDoor

/- The contracts of package wide's digits: size, low. -/
namespace Go.Proofs.YtbgjcpnbdgljbaaGreatDoor
open Go.RowKit Go.Fil Go.Shelf

theorem top_ne {a k : Nat} (h : (dig a).length = k + 1) : nd (dig a) k ≠ 0 := by
  have hn := dig_noz a (nd (dig a) k) (by rw [List.getLast?_eq_getElem?, h, Nat.add_sub_cancel]; exact nd_some (by omega))
  exact hn
set_option maxRecDepth 100000 in
set_option maxHeartbeats 1600000 in
theorem wsize_any (A1 : Option Addr) (c1 a : Nat) (h1 : (dig a).length ≤ 274877906944) (w : World) (hs1 : Seq w w.heap.size A1 ((dig a).map u32v)) :
    Calls Tryz.prog 206 #[.slice A1 (dig a).length c1] w fun e w' => e = .returned (.int .i64 (bl a : Int)) ∧ w' = w := by
  by_cases h0 : a = 0
  · subst h0
    rw [show (dig 0).length = 0 by rw [dig_zero]; rfl, bl_zero]
    go_enter Tryz.func206, Tryz.ntmps206
    go_wp2
    go_ret
    exact ⟨rfl, rfl⟩
  · have hpos := dig_length_pos h0
    obtain ⟨k, hk⟩ : ∃ k, (dig a).length = k + 1 := ⟨(dig a).length - 1, by omega⟩
    obtain ⟨b, o, rfl, hb, hcl⟩ := hs1.dat (k := k) (by omega)
    have ht := top_ne hk
    have hbl := bl_top (dig_ok a) hk ht
    rw [val_dig] at hbl
    have HBL := Lib.hid hbl
    have d1 := nd_lt (dig_ok a) k
    have hbb : bl (nd (dig a) k) ≤ 32 := by
      obtain ⟨j, hj⟩ : ∃ j, bl (nd (dig a) k) = j + 1 := ⟨(nd (dig a) k).log2, by unfold bl; rw [if_neg ht]⟩
      have c1 := bl_le ht
      rw [hj, Nat.add_sub_cancel] at c1
      rcases Nat.lt_or_ge j 32 with hh | hh
      · omega
      · have : 2 ^ 32 ≤ 2 ^ j := Nat.pow_le_pow_right (by decide) hh
        omega
    rw [hk]
    have hkb : k < 274877906944 := by omega
    clear hs1 hbl h1 hk hpos
    have i0 : (0 : Int) ≤ (k : Int) := by omega
    have i1 : (k : Int) < (k : Int) + 1 := by omega
    have hne : ((k : Int) + 1 == 0) = false := by rw [beq_eq_false_iff_ne]; omega
    go_enter Tryz.func206, Tryz.ntmps206
    go_wp2_with (go_at_call 239; refine (len32_any _ d1 _).mono ?_; rintro e w' ⟨rfl, rfl⟩)
    go_ret
    rw [HBL.out]
    exact ⟨by simp, rfl⟩
set_option maxRecDepth 100000 in
set_option maxHeartbeats 1600000 in
theorem wlow_any (A1 : Option Addr) (c1 a : Nat) (ha : a ≠ 0) (h1 : (dig a).length ≤ 274877906944) (w : World) (hs1 : Seq w w.heap.size A1 ((dig a).map u32v)) (hT : TabAt 2 Lib.deBruijn32tab w) :
    Calls Tryz.prog 204 #[.slice A1 (dig a).length c1] w fun e w' => e = .returned (.int .u64 (tz a : Int)) ∧ w' = w := by
  generalize hn1 : (dig a).length = n1 at h1
  have HS1 := Lib.hid hs1
  have HN1 := Lib.hid hn1
  have HT := Lib.hid hT
  clear hs1 hn1 hT
  go_enter Tryz.func204, Tryz.ntmps204
  go_wp2
  go_loopw [7] (fun i wr => ∃ p : Nat, p ≤ n1 ∧ i = .int .i64 (p : Int) ∧ Hid (val ((dig a).take p) = 0) ∧ wr = w) (fun i _ => n1 - (intOf i).toNat)
  case atStart => exact ⟨0, Nat.zero_le _, rfl, by show val _ = 0; simp [val], rfl⟩
  case round =>
    obtain ⟨p, hp1, rfl, hv, rfl⟩ := hrel
    by_cases hlt : p < n1
    · obtain ⟨b, o, rfl, hb, hcl⟩ := HS1.out.dat (k := p) (by have := HN1.out; omega)
      have i0 : (0 : Int) ≤ (p : Int) := by omega
      have i1 : (p : Int) < (n1 : Int) := by omega
      have d1 := nd_lt (dig_ok a) p
      by_cases hz : nd (dig a) p = 0
      · have e1 : ((nd (dig a) p : Int) != 0) = false := by rw [hz]; rfl
        have HZ := Lib.hid hz
        clear hz
        go_wp2
        refine ⟨⟨p + 1, by omega, by go_num, ?_, trivial⟩, by simp [intOf]; omega⟩
        show val _ = 0
        rw [val_take_nd, hv.out, HZ.out, Nat.mul_zero]
      · have e1 : ((nd (dig a) p : Int) != 0) = true := by simp; omega
        have hlow := tz_low (dig_ok a) hv.out hz
        rw [val_dig] at hlow
        have HLOW := Lib.hid hlow
        have htz : tz (nd (dig a) p) < 32 := by rw [← ctz_tz hz d1]; exact (Lib.lowest_bit 32 _ hz d1).2
        clear hlow
        go_wp2_with (go_at_call 238; refine (tz32_any _ hz d1 _ HT.out).mono ?_; rintro e w' ⟨rfl, rfl⟩)
        go_ret
        rw [HLOW.out]
        exact ⟨by simp, rfl⟩
    · exfalso
      have h := hv.out
      rw [List.take_of_length_le (by have := HN1.out; omega), val_dig] at h
      exact ha h
end Go.Proofs.YtbgjcpnbdgljbaaGreatDoor

/- Package wide's Int: a number behind a pointer. -/
namespace Go.Proofs.YtbgjcpnbdgljbaaGreatDoor
open Go.RowKit Go.Fil Go.Shelf

/-- An Int in memory. -/
def IntAt (w : World) (g : Nat) (z : Int) : Prop :=
  ∃ A c, w.heap[g]? = some (.cells #[.bool (decide (z < 0)), .slice A (dig z.natAbs).length c] 183 (0, 0)) ∧ (dig z.natAbs).length ≤ c ∧ Seq w w.heap.size A ((dig z.natAbs).map u32v) ∧ dty w A
theorem Seq.grown {w w' : World} {g : Nat} {A : Option Addr} {xs : List Value} {cs : Array Value} {t : TypeId} (h : Seq w w.heap.size A xs) (hd : dty w A) (hg : w.grownBy w' (some g)) (hgt : w.heap[g]? = some (.cells cs t (0, 0))) (ht : t ≠ 244) :
    Seq w' w'.heap.size A xs ∧ dty w' A := by
  have hne : ∀ b o, A = some ⟨b, o, none⟩ → b ≠ g := by
    intro b o hA hb
    subst hb
    obtain ⟨cs', h'⟩ := hd b o hA
    rw [hgt] at h'
    injection h' with h'
    injection h' with _ h1 _
    exact ht h1
  refine ⟨?_, fun b o hA => ?_⟩
  · rcases h with h | ⟨b, o, hA, hb, hc⟩
    · exact .inl h
    · refine .inr ⟨b, o, hA, Nat.lt_of_lt_of_le hb hg.size, fun k u hu => ?_⟩
      rw [World.cell?_of_block (w := w) (hg.block b hb (fun e => hne b o hA (by injection e)))]
      exact hc k u hu
  · obtain ⟨cs', h'⟩ := hd b o hA
    have hb : b < w.heap.size := by
      rcases Nat.lt_or_ge b w.heap.size with hh | hh
      · exact hh
      · rw [Array.getElem?_eq_none hh] at h'; cases h'
    exact ⟨cs', by rw [hg.block b hb (fun e => hne b o hA (by injection e))]; exact h'⟩
theorem Seq.grownNone {w w' : World} {A : Option Addr} {xs : List Value} (h : Seq w w.heap.size A xs) (hd : dty w A) (hb : Below w.heap.size w w') : Seq w' w'.heap.size A xs ∧ dty w' A := by
  refine ⟨(h.below hb (Nat.le_refl _)).more hb.size, fun b o hA => ?_⟩
  obtain ⟨cs', h'⟩ := hd b o hA
  have hlt : b < w.heap.size := by
    rcases Nat.lt_or_ge b w.heap.size with hh | hh
    · exact hh
    · rw [Array.getElem?_eq_none hh] at h'; cases h'
  exact ⟨cs', by rw [hb.block b hlt]; exact h'⟩
theorem IntAt.lt {w : World} {g : Nat} {z : Int} (h : IntAt w g z) : g < w.heap.size := by
  obtain ⟨A, c, h', _⟩ := h
  rcases Nat.lt_or_ge g w.heap.size with hh | hh
  · exact hh
  · rw [Array.getElem?_eq_none hh] at h'; cases h'
theorem IntAt.below {w w' : World} {g : Nat} {z : Int} (h : IntAt w g z) (hb : Below w.heap.size w w') : IntAt w' g z := by
  have hl := h.lt
  obtain ⟨A, c, h', hc, hs, hd⟩ := h
  obtain ⟨hs', hd'⟩ := hs.grownNone hd hb
  exact ⟨A, c, by rw [hb.block g hl]; exact h', hc, hs', hd'⟩
theorem IntAt.grown {w w' : World} {g f : Nat} {z y : Int} (h : IntAt w g z) (hf : IntAt w f y) (hg : w.grownBy w' (some f)) (hne : g ≠ f) : IntAt w' g z := by
  have hl := h.lt
  obtain ⟨A, c, h', hc, hs, hd⟩ := h
  obtain ⟨_, _, hf', _⟩ := hf
  obtain ⟨hs', hd'⟩ := hs.grown hd hg hf' (by decide)
  exact ⟨A, c, by rw [hg.block g hl (fun e => hne (by injection e))]; exact h', hc, hs', hd'⟩
end Go.Proofs.YtbgjcpnbdgljbaaGreatDoor

/- The contracts of package wide's Int. -/
namespace Go.Proofs.YtbgjcpnbdgljbaaGreatDoor
open Go.RowKit Go.Fil Go.Shelf

/-- An Int's block, whatever it holds. -/
def IntBlk (w : World) (g : Nat) : Prop := ∃ u v, w.heap[g]? = some (.cells #[u, v] 183 (0, 0))
theorem blk_cells {w : World} {g : Nat} {u v : Value} (h : w.heap[g]? = some (.cells #[u, v] 183 (0, 0))) :
    w.cell? ⟨g, 0, none⟩ = some u ∧ w.cell? ⟨g, 1, none⟩ = some v ∧ w.frozen? ⟨g, 0, none⟩ = false ∧ w.frozen? ⟨g, 1, none⟩ = false := by
  refine ⟨?_, ?_, frozen_of_row w g 0 _ _ h, frozen_of_row w g 1 _ _ h⟩
  · rw [cell_of_row w g 0 _ _ (0, 0) h]; rfl
  · rw [cell_of_row w g 1 _ _ (0, 0) h]; rfl
theorem laid_any (g : Nat) (neg : Bool) (A : Option Addr) (n c : Nat) (hn : n ≤ 9223372036854775807) (w : World) (hb : IntBlk w g) :
    Calls Tryz.prog 148 #[.pointer (some ⟨g, 0, none⟩), .bool neg, .slice A n c] w fun e w' =>
      e = .returned (.pointer (some ⟨g, 0, none⟩)) ∧ w' = (w.setCell ⟨g, 0, none⟩ (.bool (neg && decide (0 < n)))).setCell ⟨g, 1, none⟩ (.slice A n c) := by
  obtain ⟨u, v, h⟩ := hb
  obtain ⟨h1, h2, h3, h4⟩ := blk_cells h
  clear h
  cases neg
  · go_enter Tryz.func148, Tryz.ntmps148
    go_wp2
    go_ret
    exact ⟨rfl, rfl⟩
  · by_cases hp : 0 < n
    · have hp' : (0 : Int) < (n : Int) := by omega
      have HP := Lib.hid hp
      go_enter Tryz.func148, Tryz.ntmps148
      go_wp2
      go_ret
      exact ⟨rfl, by simp [HP.out]⟩
    · obtain rfl : n = 0 := by omega
      go_enter Tryz.func148, Tryz.ntmps148
      go_wp2
      go_ret
      exact ⟨rfl, rfl⟩
/-- What stands behind laid. -/
theorem laid_world {w : World} {g : Nat} (hb : IntBlk w g) {A : Option Addr} {c : Nat} {z : Int} (hc : (dig z.natAbs).length ≤ c) (hs : Seq w w.heap.size A ((dig z.natAbs).map u32v)) (hd : dty w A) :
    IntAt ((w.setCell ⟨g, 0, none⟩ (.bool (decide (z < 0)))).setCell ⟨g, 1, none⟩ (.slice A (dig z.natAbs).length c)) g z ∧
    w.grownBy ((w.setCell ⟨g, 0, none⟩ (.bool (decide (z < 0)))).setCell ⟨g, 1, none⟩ (.slice A (dig z.natAbs).length c)) (some g) := by
  obtain ⟨u, v, h⟩ := hb
  have hg : w.grownBy ((w.setCell ⟨g, 0, none⟩ (.bool (decide (z < 0)))).setCell ⟨g, 1, none⟩ (.slice A (dig z.natAbs).length c)) (some g) :=
    ⟨rfl, rfl, rfl, by simp, fun k _ hk => by
      rw [heap_setCell_other _ ⟨g, 1, none⟩ k _ (fun e => hk (by simp [e])), heap_setCell_other _ ⟨g, 0, none⟩ k _ (fun e => hk (by simp [e]))]⟩
  obtain ⟨hs', hd'⟩ := hs.grown hd hg h (by decide)
  refine ⟨⟨A, c, ?_, hc, hs', hd'⟩, hg⟩
  have h1 := heap_setCell_same w g 0 _ _ (.bool (decide (z < 0))) h
  have h2 := heap_setCell_same _ g 1 _ _ (.slice A (dig z.natAbs).length c) h1
  rw [h2]; rfl
end Go.Proofs.YtbgjcpnbdgljbaaGreatDoor

/- The contracts of package wide's Int: Sign. -/
namespace Go.Proofs.YtbgjcpnbdgljbaaGreatDoor
open Go.RowKit Go.Fil Go.Shelf

theorem isign_any (g : Nat) (z : Int) (hl : (dig z.natAbs).length ≤ 274877906944) (w : World) (hz : IntAt w g z) :
    Calls Tryz.prog 121 #[.pointer (some ⟨g, 0, none⟩)] w fun e w' => e = .returned (.int .i64 z.sign) ∧ w' = w := by
  obtain ⟨A, c, h, _, _, _⟩ := hz
  obtain ⟨h1, h2, h3, h4⟩ := blk_cells h
  clear h
  by_cases h0 : z = 0
  · subst h0
    rw [show (0 : Int).natAbs = 0 from rfl, show (dig 0).length = 0 by rw [dig_zero]; rfl] at h2
    go_enter Tryz.func121, Tryz.ntmps121
    go_wp2
    go_ret
    exact ⟨rfl, rfl⟩
  · have hp := dig_length_pos (n := z.natAbs) (by omega)
    generalize (dig z.natAbs).length = n at *
    have hne : ((n : Int) == 0) = false := by rw [beq_eq_false_iff_ne]; omega
    by_cases hn : z < 0
    · have hs : z.sign = -1 := Int.sign_eq_neg_one_of_neg hn
      rw [show decide (z < 0) = true by simpa using hn] at h1
      rw [hs]
      clear hs
      go_enter Tryz.func121, Tryz.ntmps121
      go_wp2
      go_ret
      exact ⟨rfl, rfl⟩
    · have hs : z.sign = 1 := Int.sign_eq_one_of_pos (by omega)
      rw [show decide (z < 0) = false by simpa using hn] at h1
      rw [hs]
      clear hs
      go_enter Tryz.func121, Tryz.ntmps121
      go_wp2
      go_ret
      exact ⟨rfl, rfl⟩
end Go.Proofs.YtbgjcpnbdgljbaaGreatDoor

/- The contracts of package wide's Int: BitLen, TrailingZeroBits. -/
namespace Go.Proofs.YtbgjcpnbdgljbaaGreatDoor
open Go.RowKit Go.Fil Go.Shelf

theorem ibitlen_any (g : Nat) (z : Int) (hl : (dig z.natAbs).length ≤ 274877906944) (w : World) (hz : IntAt w g z) :
    Calls Tryz.prog 207 #[.pointer (some ⟨g, 0, none⟩)] w fun e w' => e = .returned (.int .i64 (bl z.natAbs : Int)) ∧ w' = w := by
  obtain ⟨A, c, h, _, hs, _⟩ := hz
  obtain ⟨h1, h2, h3, h4⟩ := blk_cells h
  have HS := Lib.hid hs
  clear h hs
  go_enter Tryz.func207, Tryz.ntmps207
  go_wp2_with (go_at_call 206; refine (wsize_any _ _ _ hl _ HS.out).mono ?_; rintro e w' ⟨rfl, rfl⟩)
  go_ret
  exact ⟨rfl, rfl⟩
theorem itz_any (g : Nat) (z : Int) (h0 : z ≠ 0) (hl : (dig z.natAbs).length ≤ 274877906944) (w : World) (hz : IntAt w g z) (hT : TabAt 2 Lib.deBruijn32tab w) :
    Calls Tryz.prog 150 #[.pointer (some ⟨g, 0, none⟩)] w fun e w' => e = .returned (.int .u64 (tz z.natAbs : Int)) ∧ w' = w := by
  obtain ⟨A, c, h, _, hs, _⟩ := hz
  obtain ⟨h1, h2, h3, h4⟩ := blk_cells h
  have HS := Lib.hid hs
  have HT := Lib.hid hT
  clear h hs hT
  go_enter Tryz.func150, Tryz.ntmps150
  go_wp2_with (go_at_call 204; refine (wlow_any _ _ _ (by omega) hl _ HS.out HT.out).mono ?_; rintro e w' ⟨rfl, rfl⟩)
  go_ret
  exact ⟨rfl, rfl⟩
end Go.Proofs.YtbgjcpnbdgljbaaGreatDoor
