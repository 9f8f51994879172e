/- orbit.Each's closure of the map 2z at 0: the contract of an iterator. -/
import Derived.Test.YtbgjcpnbdgljbaaGreatDoorMKba
import Derived.RangeFuncNested
import Derived.RangeFuncBound
import Derived.RangeFuncCalls
import Derived.RangeFuncLeaves
import Derived.Shelf.Abstract
import Derived.Shelf.RegionOpen
import Derived.WalkKit
import Derived.OwnWalkIn
import Derived.TacticsInMore
import Derived.LoopNIn
import Derived.LoopIn
namespace Go.Proofs.YtbgjcpnbdgljbaaGreatDoor
open Go.RowKit Go.Fil Go.Shelf
attribute [local irreducible] fop fsqrt fup fabs fneg pick
attribute [local go_sem] Oper.semAt_some

/-- Whatever is cells lies as it lay. -/
structure KC (W W' : World) : Prop where
  os : W'.os = W.os
  tape : W'.tape = W.tape
  output : W'.output = W.output
  size : W.heap.size ≤ W'.heap.size
  block : ∀ (k : Nat) (o : Obj), W.heap[k]? = some o → o.isCells = true → W'.heap[k]? = some o
theorem KC.trans {A B C : World} (h : KC A B) (k : KC B C) : KC A C :=
  ⟨k.os.trans h.os, k.tape.trans h.tape, k.output.trans h.output, Nat.le_trans h.size k.size, fun i o hi ho => k.block i o (h.block i o hi ho) ho⟩
theorem KC.of {A B : World} (h : Below A.heap.size A B) : KC A B :=
  ⟨h.os, h.tape, h.output, h.size, fun i _ hi _ => (h.block i (Array.getElem?_eq_some_iff.1 hi).1).trans hi⟩
theorem KC.cell {A B : World} (h : KC A B) {p : Addr} {v : Value} (hv : A.cell? p = some v) : B.cell? p = some v := by
  unfold World.cell? at hv ⊢
  split at hv
  case h_1 c x y he => rw [h.block _ _ he rfl]; exact hv
  case h_2 => cases hv
theorem KC.seq {A B : World} {n : Nat} {p : Option Addr} {xs : List Value} (h : KC A B) (hs : Seq A n p xs) : Seq B n p xs := by
  rcases hs with hs | ⟨b, o, hp, hb, hc⟩
  · exact .inl hs
  · exact .inr ⟨b, o, hp, hb, fun k v hk => h.cell (hc k v hk)⟩
theorem KC.mp {A B : World} {n : Nat} {A1 A2 : Option Addr} (h : KC A B) (hM : Mp A n A1 A2) : Mp B n A1 A2 := ⟨h.seq hM.p, h.seq hM.q⟩
theorem KC.frozen {A B : World} (h : KC A B) {p : Addr} {v : Value} (hv : A.cell? p = some v) : B.frozen? p = A.frozen? p := by
  unfold World.cell? at hv
  split at hv
  case h_1 c x y he => exact World.frozen?_of_block ((h.block _ _ he rfl).trans he.symm)
  case h_2 => cases hv
/-- Storing what a cell holds changes nothing. -/
theorem setCell_self {w : World} {p : Addr} {v : Value} (h : w.cell? p = some v) : w.setCell p v = w := by
  unfold World.cell? at h
  split at h
  case h_1 c x y he =>
    split at h
    · cases h
    · rename_i hs
      have hs' : p.spot.isSome = false := by simpa using hs
      have hh : (w.setCell p v).heap = w.heap := by
        apply Array.ext
        · simp
        · intro i h1 h2
          unfold World.setCell
          simp only [hs', Bool.false_eq_true, if_false, Array.getElem_modify]
          split
          · rename_i e
            subst e
            have he' := (Array.getElem?_eq_some_iff.1 he).2
            have e9 : c.setIfInBounds p.off v = c := by
              obtain ⟨h3, h4⟩ := Array.getElem?_eq_some_iff.1 h
              rw [← h4]
              apply Array.ext
              · simp
              · intro j g1 g2
                rw [Array.getElem_setIfInBounds (by simpa using g1)]
                split
                · rename_i e; subst e; rfl
                · rfl
            rw [he']
            simp only [e9]
          · rfl
      have h0 : w.setCell p v = { w with heap := (w.setCell p v).heap } := rfl
      rw [h0, hh]
  case h_2 => cases h
theorem each1 (n0 : Nat) {A1 A2 : Option Addr} {c1 c2 m z l : Nat} (J Jx : List Nat → World → Prop) (W : World) (hJ : AbidesFrom W.heap.size J)
    (hY : ∀ (pre : List Nat) (x : Nat) W1, J pre W1 → pre.length < 4097 → YieldAt Fence.wide 3 Tryz.prog l #[.int .i64 (x : Int), .agg #[.complex .f64 0 0, .bool false]] W1 fun e W' =>
      (e = .returned (.bool true) ∧ J (pre ++ [x]) W' ∧ KC W1 W') ∨ (e = .returned (.bool false) ∧ Jx (pre ++ [x]) W'))
    (hE : EachAt W m z A1 A2 c1 c2) (hm : m < n0) (hz : z < n0) (hn : n0 ≤ W.heap.size) (hM : Mp W n0 A1 A2) (h0 : J [] W) :
    CallsIn Fence.wide 4 Tryz.prog 199 #[.func (.yield l) #[] #[], .pointer (some ⟨m, 0, none⟩), .pointer (some ⟨z, 0, none⟩)] W fun e W' => (∃ v, e = .returned v) ∧
      ((∃ ys, ys = List.range 4097 ∧ J ys W') ∨ (∃ pre, (∃ k, k ≤ 4097 ∧ pre = List.range k) ∧ Jx pre W')) := by
  have HM := Lib.hid hM
  obtain ⟨m0, m1, z0, z1⟩ := hE
  have HO := Lib.hid (fun w (h : Mp w w.heap.size A1 A2) => omay0 (c1 := c1) (c2 := c2) h)
  have HA := Lib.hid (fun w (h : Mp w w.heap.size A1 A2) => ratAt0 (c1 := c1) (c2 := c2) h)
  clear hM
  refine callsIn_of_wp Tryz.func199 rfl trivial ?_ rfl
  simp only [Tryz.ntmps199, List.size_toArray, List.length_cons, List.length_nil, Nat.reduceAdd, Nat.reduceSub, Array.replicate_succ, Array.replicate_zero, List.push_toArray, List.append_toArray, List.nil_append, List.cons_append]
  gi_wp2
  refine ⟨trivial, callsIn_wide.2 ((HO.out _ (HM.out.more hn)).mono ?_)⟩
  rintro e w1 ⟨rfl, hb1⟩
  have hJ1 : J [] w1 := hJ _ _ _ none h0 ⟨hb1.os, hb1.tape, hb1.output, hb1.size, fun k hk _ => hb1.block k hk⟩ (fun r h => by cases h)
  have hml : m < W.heap.size := Nat.lt_of_lt_of_le hm hn
  have hzl : z < W.heap.size := Nat.lt_of_lt_of_le hz hn
  have m0' := (hb1.cell (p := ⟨m, 0, none⟩) hml).trans m0
  have m1' := (hb1.cell (p := ⟨m, 1, none⟩) hml).trans m1
  have z0' := (hb1.cell (p := ⟨z, 0, none⟩) hzl).trans z0
  have z1' := (hb1.cell (p := ⟨z, 1, none⟩) hzl).trans z1
  gi_wp2
  have hmf1 : KC W w1 := KC.of hb1
  have hnw : n0 ≤ w1.heap.size := Nat.le_trans hn hb1.size
  gi_loopw [4, 6] (fun c i wr => ∃ k : Nat, k ≤ 4097 ∧ i = .int .i64 k ∧ c = .bool true ∧ J (List.range k) wr ∧ wr.cell? ⟨w1.heap.size, 0, none⟩ = some (.complex .f64 0 0) ∧ wr.cell? ⟨w1.heap.size, 1, none⟩ = some (.bool false) ∧ wr.frozen? ⟨w1.heap.size, 0, none⟩ = false ∧ wr.frozen? ⟨w1.heap.size, 1, none⟩ = false ∧ KC w1 wr) (fun _ i _ => 4097 - (intOf i).toNat)
  case atStart => exact ⟨0, by omega, rfl, rfl, hJ _ _ _ none hJ1 (World.grownBy_alloc w1 _ none) (fun r h => by cases h), by rw [World.cell?_alloc_at _ _ _ _ rfl]; rfl, by rw [World.cell?_alloc_at _ _ _ _ rfl]; rfl, World.frozen?_alloc_at _ _ _ _ rfl, World.frozen?_alloc_at _ _ _ _ rfl, KC.of (alloc_below _ _)⟩
  case round =>
    obtain ⟨k, hk, rfl, rfl, hJs, b0, b1, f0, f1, hkc⟩ := hrel
    have hkw := hmf1.trans hkc
    by_cases hlt : k < 4097
    · obtain ⟨fn, tmps, assign, body, hy, hR⟩ := hY _ k wr hJs (by simp; exact hlt)
      have k0 : (0 : Int) ≤ (k : Int) := by omega
      have k1 : (k : Int) ≤ 4096 := by omega
      gi_wp2
      refine hR.mono ?_
      have HJ := Lib.hid hJ
      rintro e W3 (⟨rfl, hJ3, hk3⟩ | ⟨rfl, hJx3⟩)
      · have hk3w := hkw.trans hk3
        have n3 : n0 ≤ W3.heap.size := Nat.le_trans hnw (Nat.le_trans hkc.size hk3.size)
        have u0 := hk3w.cell m0
        have u1 := hk3w.cell m1
        have b03 := hk3.cell b0
        have b13 := hk3.cell b1
        have f03 := (hk3.frozen b0).trans f0
        have f13 := (hk3.frozen b1).trans f1
        have HMP := Lib.hid ((hk3w.mp HM.out).more n3)
        have HJ3 := Lib.hid hJ3
        have HK3 := Lib.hid (hkc.trans hk3)
        clear hJ3 hk3 hk3w hkw hkc hJs b0 b1 f0 f1 hR hJ hmf1 hJ1 m0 m1 m0' m1' z0 z1 z0' z1'
        gi_wp2
        refine ⟨trivial, callsIn_wide.2 ((HA.out _ HMP.out).mono ?_)⟩
        rintro e w4 ⟨rfl, hb4⟩
        have hbl : w1.heap.size < W3.heap.size := World.block_lt_of_cell? W3 _ b03
        have b04 := (hb4.cell (p := ⟨w1.heap.size, 0, none⟩) hbl).trans b03
        have b14 := (hb4.cell (p := ⟨w1.heap.size, 1, none⟩) hbl).trans b13
        have f04 := (hb4.frozen (p := ⟨w1.heap.size, 0, none⟩) hbl).trans f03
        have f14 := (hb4.frozen (p := ⟨w1.heap.size, 1, none⟩) hbl).trans f13
        have hJ4 : J (List.range (k + 1)) w4 := HJ.out _ _ _ none (by rw [List.range_succ]; exact HJ3.out) ⟨hb4.os, hb4.tape, hb4.output, hb4.size, fun k hk _ => hb4.block k hk⟩ (fun r h => by cases h)
        have hk4 : KC w1 w4 := HK3.out.trans (KC.of hb4)
        have e4 : (w4.setCell ⟨w1.heap.size, 0, none⟩ (.complex .f64 0 0)).setCell ⟨w1.heap.size, 1, none⟩ (.bool false) = w4 := by rw [setCell_self b04, setCell_self b14]
        have HE4 := Lib.hid e4
        have HJ4 := Lib.hid hJ4
        have HK4 := Lib.hid hk4
        clear hb4 e4 hJ4 hk4 b03 b13 f03 f13
        gi_wp2
        rw [HE4.out]
        go_roundw
        case rel => exact ⟨k + 1, by omega, by go_num, rfl, HJ4.out, b04, b14, f04, f14, HK4.out⟩
        case measure => simp [intOf]; omega
      · gi_wp2
        refine bodyPost_ret (results_none rfl _ _ _) rfl ?_
        exact ⟨⟨_, rfl⟩, .inr ⟨_, ⟨k + 1, by omega, List.range_succ.symm⟩, hJx3⟩⟩
    · obtain rfl : k = 4097 := by omega
      gi_wp2
      go_end0
      exact ⟨⟨_, rfl⟩, .inl ⟨_, rfl, hJs⟩⟩
end Go.Proofs.YtbgjcpnbdgljbaaGreatDoor

/- orbit.Last of the map 2z at 0, after 256 steps. -/
namespace Go.Proofs.YtbgjcpnbdgljbaaGreatDoor
open Go.RowKit Go.Fil Go.Shelf
attribute [local irreducible] fop fsqrt fup fabs fneg pick
attribute [local go_sem] Oper.semAt_some

theorem each_stops {A1 A2 : Option Addr} {c1 c2 m z : Nat} (w : World) (hE : EachAt w m z A1 A2 c1 c2) (hm : m < w.heap.size) (hz : z < w.heap.size) (hM : Mp w w.heap.size A1 A2) :
    SeqStopsK Fence.wide 4 Tryz.prog 199 #[.pointer (some ⟨m, 0, none⟩), .pointer (some ⟨z, 0, none⟩)] (fun x : Nat => #[.int .i64 (x : Int), .agg #[.complex .f64 0 0, .bool false]]) KC (fun ys => ys = List.range 4097) (fun pre => ∃ k, k ≤ 4097 ∧ pre = List.range k) 4097 w := fun l J Jx W hW hJ _ hY h0 =>
  each1 w.heap.size (l := l) J Jx W hJ hY ⟨(hW.cell (p := ⟨m, 0, none⟩) hm).trans hE.m0, (hW.cell (p := ⟨m, 1, none⟩) hm).trans hE.m1, (hW.cell (p := ⟨z, 0, none⟩) hz).trans hE.z0, (hW.cell (p := ⟨z, 1, none⟩) hz).trans hE.z1⟩ hm hz hW.size (hM.below hW (Nat.le_refl _)) h0
/-- Last's variables: the number of steps at g, what it will answer behind it. -/
structure LV (g : Nat) (W : World) : Prop where
  n : W.cell? ⟨g, 0, none⟩ = some (.int .i64 256)
  p0 : W.cell? ⟨g + 1, 0, none⟩ = some (.complex .f64 0 0)
  p1 : W.cell? ⟨g + 1, 1, none⟩ = some (.bool false)
  o : W.cell? ⟨g + 1 + 1, 0, none⟩ = some (.bool false)
  e : W.cell? ⟨g + 1 + 1 + 1, 0, none⟩ = some (.int .i64 0)
  fp0 : W.frozen? ⟨g + 1, 0, none⟩ = false
  fp1 : W.frozen? ⟨g + 1, 1, none⟩ = false
  fo : W.frozen? ⟨g + 1 + 1, 0, none⟩ = false
  fe : W.frozen? ⟨g + 1 + 1 + 1, 0, none⟩ = false
theorem LV.kept {g : Nat} {A B : World} {row : Option Nat} (h : LV g A) (hg : A.grownBy B row) (hr : ∀ r, row = some r → ∃ o : Obj, A.heap[r]? = some o ∧ o.isCells = false) : LV g B :=
  ⟨cell_kept h.n hg hr, cell_kept h.p0 hg hr, cell_kept h.p1 hg hr, cell_kept h.o hg hr, cell_kept h.e hg hr, (frozen_kept h.p0 hg hr).trans h.fp0, (frozen_kept h.p1 hg hr).trans h.fp1, (frozen_kept h.o hg hr).trans h.fo, (frozen_kept h.e hg hr).trans h.fe⟩
theorem KC.refl (W : World) : KC W W := ⟨rfl, rfl, rfl, Nat.le_refl _, fun _ _ h _ => h⟩
theorem KC.putObj (W : World) (l : Nat) (o o' : Obj) (h : W.heap[l]? = some o) (hc : o.isCells = false) : KC W (W.putObj l o') := by
  have hg := grownBy_putObj' W l o'
  refine ⟨hg.os, hg.tape, hg.output, hg.size, fun k x hx hxc => ?_⟩
  have hne : some l ≠ some k := fun e => by
    rw [Option.some.inj e, hx] at h
    rw [Option.some.inj h, hc] at hxc
    cases hxc
  exact (hg.block k (Array.getElem?_eq_some_iff.1 hx).1 (fun e => hne e.symm)).trans hx
/-- The answer. -/
structure LX (g : Nat) (W : World) : Prop where
  p0 : W.cell? ⟨g + 1, 0, none⟩ = some (.complex .f64 0 0)
  p1 : W.cell? ⟨g + 1, 1, none⟩ = some (.bool false)
  o : W.cell? ⟨g + 1 + 1, 0, none⟩ = some (.bool true)
  e : W.cell? ⟨g + 1 + 1 + 1, 0, none⟩ = some (.int .i64 0)
theorem LX.kept {g : Nat} {A B : World} {row : Option Nat} (h : LX g A) (hg : A.grownBy B row) (hr : ∀ r, row = some r → ∃ o : Obj, A.heap[r]? = some o ∧ o.isCells = false) : LX g B :=
  ⟨cell_kept h.p0 hg hr, cell_kept h.p1 hg hr, cell_kept h.o hg hr, cell_kept h.e hg hr⟩
def RLa (w : World) (e : Ending) (w' : World) : Prop := e = .returned (.tuple #[.agg #[.complex .f64 0 0, .bool false], .bool true, .int .i64 0]) ∧ Below w.heap.size w w'
set_option maxRecDepth 100000 in
set_option maxHeartbeats 3200000 in
theorem last0 {A1 A2 : Option Addr} {c1 c2 : Nat} {w : World} (hM : Mp w w.heap.size A1 A2) :
    Calls Tryz.prog 78 #[.agg #[.slice A1 2 c1, .slice A2 1 c2], .agg #[.complex .f64 0 0, .bool false], .int .i64 256] w (RLa w) := by
  have HO := Lib.hid (fun w (h : Mp w w.heap.size A1 A2) => omay0 (c1 := c1) (c2 := c2) h)
  have HM := Lib.hid hM
  clear hM
  refine (callsIn_wide (n := 5)).1 ?_
  refine callsIn_of_wp_marks Tryz.func78 rfl trivial ?_ rfl
  simp only [Tryz.ntmps78, List.size_toArray, List.length_cons, List.length_nil, Nat.reduceAdd, Nat.reduceSub, Array.replicate_succ, Array.replicate_zero, List.push_toArray, List.append_toArray, List.nil_append, List.cons_append]
  gi_wp2
  have hv0 : LV (w.heap.size + 1 + 1) ((((((w.alloc (.cells #[.slice A1 2 c1, .slice A2 1 c2] 68)).alloc (.cells #[.complex .f64 0 0, .bool false] 133)).alloc (.cells #[.int .i64 256] 3)).alloc (.cells #[.complex .f64 0 0, .bool false] 133)).alloc (.cells #[.bool false] 4)).alloc (.cells #[.int .i64 0] 33)) := by constructor <;> simp [go_sem]
  have a0 : (((((((w.alloc (.cells #[.slice A1 2 c1, .slice A2 1 c2] 68)).alloc (.cells #[.complex .f64 0 0, .bool false] 133)).alloc (.cells #[.int .i64 256] 3)).alloc (.cells #[.complex .f64 0 0, .bool false] 133)).alloc (.cells #[.bool false] 4)).alloc (.cells #[.int .i64 0] 33))).cell? ⟨w.heap.size, 0, none⟩ = some (.slice A1 2 c1) := by simp [go_sem]
  have a1 : (((((((w.alloc (.cells #[.slice A1 2 c1, .slice A2 1 c2] 68)).alloc (.cells #[.complex .f64 0 0, .bool false] 133)).alloc (.cells #[.int .i64 256] 3)).alloc (.cells #[.complex .f64 0 0, .bool false] 133)).alloc (.cells #[.bool false] 4)).alloc (.cells #[.int .i64 0] 33))).cell? ⟨w.heap.size, 1, none⟩ = some (.slice A2 1 c2) := by simp [go_sem]
  have b0 : (((((((w.alloc (.cells #[.slice A1 2 c1, .slice A2 1 c2] 68)).alloc (.cells #[.complex .f64 0 0, .bool false] 133)).alloc (.cells #[.int .i64 256] 3)).alloc (.cells #[.complex .f64 0 0, .bool false] 133)).alloc (.cells #[.bool false] 4)).alloc (.cells #[.int .i64 0] 33))).cell? ⟨w.heap.size + 1, 0, none⟩ = some (.complex .f64 0 0) := by simp [go_sem]
  have b1 : (((((((w.alloc (.cells #[.slice A1 2 c1, .slice A2 1 c2] 68)).alloc (.cells #[.complex .f64 0 0, .bool false] 133)).alloc (.cells #[.int .i64 256] 3)).alloc (.cells #[.complex .f64 0 0, .bool false] 133)).alloc (.cells #[.bool false] 4)).alloc (.cells #[.int .i64 0] 33))).cell? ⟨w.heap.size + 1, 1, none⟩ = some (.bool false) := by simp [go_sem]
  have hB0 : Below w.heap.size w ((((((w.alloc (.cells #[.slice A1 2 c1, .slice A2 1 c2] 68)).alloc (.cells #[.complex .f64 0 0, .bool false] 133)).alloc (.cells #[.int .i64 256] 3)).alloc (.cells #[.complex .f64 0 0, .bool false] 133)).alloc (.cells #[.bool false] 4)).alloc (.cells #[.int .i64 0] 33)) := by repeat (first | exact Below.refl _ _ | refine below_drewN ?_ _ | refine Below.alloc ?_ (by first | omega | (simp; omega) | simp) _ | refine Below.setCell ?_ (by first | omega | (simp; omega) | simp) _ | refine Below.trans ?_ (Below.mono (by assumption) (by first | omega | (simp; omega) | simp)) | apply Below.drew)
  have hs0 : (((((((w.alloc (.cells #[.slice A1 2 c1, .slice A2 1 c2] 68)).alloc (.cells #[.complex .f64 0 0, .bool false] 133)).alloc (.cells #[.int .i64 256] 3)).alloc (.cells #[.complex .f64 0 0, .bool false] 133)).alloc (.cells #[.bool false] 4)).alloc (.cells #[.int .i64 0] 33))).heap.size = w.heap.size + 6 := by simp
  generalize ((((((w.alloc (.cells #[.slice A1 2 c1, .slice A2 1 c2] 68)).alloc (.cells #[.complex .f64 0 0, .bool false] 133)).alloc (.cells #[.int .i64 256] 3)).alloc (.cells #[.complex .f64 0 0, .bool false] 133)).alloc (.cells #[.bool false] 4)).alloc (.cells #[.int .i64 0] 33)) = W0 at *
  have HM0 := Lib.hid (HM.out.now hB0)
  refine ⟨trivial, callsIn_wide.2 ((HO.out _ HM0.out).mono ?_)⟩
  rintro e w1 ⟨rfl, hb1⟩
  have hv1 : LV (w.heap.size + 1 + 1) w1 := hv0.kept (row := none) ⟨hb1.os, hb1.tape, hb1.output, hb1.size, fun k hk _ => hb1.block k hk⟩ (fun r h => by cases h)
  have a0' := (hb1.cell (p := ⟨w.heap.size, 0, none⟩) (by show w.heap.size < W0.heap.size; omega)).trans a0
  have a1' := (hb1.cell (p := ⟨w.heap.size, 1, none⟩) (by show w.heap.size < W0.heap.size; omega)).trans a1
  have b0' := (hb1.cell (p := ⟨w.heap.size + 1, 0, none⟩) (by show w.heap.size + 1 < W0.heap.size; omega)).trans b0
  have b1' := (hb1.cell (p := ⟨w.heap.size + 1, 1, none⟩) (by show w.heap.size + 1 < W0.heap.size; omega)).trans b1
  have n1 := hv1.n
  have hB1 := hB0.trans (hb1.mono hB0.size)
  have s1 := hb1.size
  clear hv0 a0 a1 b0 b1 HM0 hb1
  gi_wp2
  refine ⟨trivial, callsIn_wide.2 ((each0 w1).mono ?_)⟩
  rintro e w2 ⟨rfl, hE, hs2, hb2⟩
  have hv2 : LV (w.heap.size + 1 + 1) w2 := hv1.kept (row := none) ⟨hb2.os, hb2.tape, hb2.output, hb2.size, fun k hk _ => hb2.block k hk⟩ (fun r h => by cases h)
  have hB2 := hB1.trans (hb2.mono hB1.size)
  have HM2 := Lib.hid (HM.out.now hB2)
  clear hv1 a0' a1' b0' b1' n1 hB1 hb2 hB0
  gi_wp2
  have hw2 : w.heap.size ≤ w2.heap.size := hB2.size
  have hlo : w.heap.size + 6 ≤ w2.heap.size := by omega
  refine wpIn_rangeFunc_ownH (F := Fence.wide) rfl (by decide) (gf := 199) (lb := #[.pointer (some ⟨w1.heap.size, 0, none⟩), .pointer (some ⟨w1.heap.size + 1, 0, none⟩)]) rfl trivial (enters_of Tryz.func199 (by kernel_rfl) rfl)
    (each_stops w2 hE (by omega) (by omega) HM2.out) (fun h k => h.trans k) (fun W l o o' _ h hc _ => KC.putObj W l o o' h hc) (Below.refl _ _) (fun _ => rfl)
    (fun pre W => ((∀ x ∈ pre, x ≠ 256) ∧ LV (w.heap.size + 1 + 1) W) ∧ Below w.heap.size w W)
    (fun c _ W => (c = .ret ∧ LX (w.heap.size + 1 + 1) W) ∧ Below w.heap.size w W)
    (OwnFrom.and (Own.from (fun s A B row hs hg hr => ⟨hs.1, hs.2.kept hg hr⟩) _) (ownFrom_below (Nat.le_refl _) hw2))
    (fun c => OwnFrom.and (Own.from (fun s A B row hs hg hr => ⟨hs.1, hs.2.kept hg hr⟩) _) (ownFrom_below (Nat.le_refl _) hw2))
    ⟨⟨by simp, hv2⟩, hB2⟩
    (fun x a' W => ∃ Bx, W.cell? ⟨Bx, 0, none⟩ = some (.complex .f64 0 0) ∧ W.cell? ⟨Bx, 1, none⟩ = some (.bool false) ∧ w.heap.size + 6 ≤ Bx ∧ a' = { tmps := #[.agg #[.slice A1 2 c1, .slice A2 1 c2], .agg #[.complex .f64 0 0, .bool false], .int .i64 256, .pointer (some ⟨w.heap.size, 0, none⟩), .pointer (some ⟨w.heap.size + 1, 0, none⟩), .pointer (some ⟨w.heap.size + 1 + 1, 0, none⟩), .pointer (some ⟨w.heap.size + 1 + 1 + 1, 0, none⟩), .pointer (some ⟨w.heap.size + 1 + 1 + 1 + 1, 0, none⟩), .pointer (some ⟨w.heap.size + 1 + 1 + 1 + 1 + 1, 0, none⟩), .int .i64 (x : Int), .pointer (some ⟨Bx, 0, none⟩), .agg #[.slice A1 2 c1, .slice A2 1 c2], .agg #[.complex .f64 0 0, .bool false], .bool true, .bool false, .bool false, .int .i64 256, .bool false, .bool false, .bool false, .int .i64 256, .bool false, .bool false, undef, .agg #[.slice A1 2 c1, .slice A2 1 c2], .agg #[.complex .f64 0 0, .bool false], .func (.func 199) #[] #[.pointer (some ⟨w1.heap.size, 0, none⟩), .pointer (some ⟨w1.heap.size + 1, 0, none⟩)], .int .i64 (x : Int), .agg #[.complex .f64 0 0, .bool false], undef, undef, undef, undef, undef], defers := [] })
    (fun x a' _ X Y row hs hg hr => by obtain ⟨Bx, h1, h2, h3, h4⟩ := hs; exact ⟨Bx, cell_kept h1 hg (fun r e => (hr r e).2), cell_kept h2 hg (fun r e => (hr r e).2), h3, h4⟩)
    ?assign ?body ?done ?stop
  case assign =>
    rintro l pre x W K ⟨⟨hp, hv⟩, hB⟩ hK
    gi_wp2
    have hWs : w.heap.size + 6 ≤ W.heap.size := World.block_lt_of_cell? W _ hv.e
    exact hK _ _ ((KeepsOthers.alloc _ _).from _) (KC.of (alloc_below W _)) ⟨⟨hp, hv.kept (row := none) (World.grownBy_alloc W _ none) (fun r h => by cases h)⟩, hB.alloc hB.size _⟩ ⟨W.heap.size, by rw [World.cell?_alloc_at _ _ _ _ rfl]; rfl, by rw [World.cell?_alloc_at _ _ _ _ rfl]; rfl, hWs, rfl⟩
  case body =>
    rintro l pre x a' W hl ⟨r, hr⟩ ⟨⟨hp, hv⟩, hB⟩ ⟨Bx, x0, x1, hBx, rfl⟩ hlt
    obtain ⟨n0, p0, p1, o0, e0, fp0, fp1, fo, fe⟩ := id hv
    by_cases hx : x = 256
    · subst hx
      have nx : Bx ≠ w.heap.size + 1 + 1 + 1 := by omega
      gi_wp2
      have l1 : w.heap.size ≤ w.heap.size + 1 + 1 + 1 := by omega
      have l2 : w.heap.size ≤ w.heap.size + 1 + 1 + 1 + 1 := by omega
      have l3 : w.heap.size ≤ w.heap.size + 1 + 1 + 1 + 1 + 1 := by omega
      exact ⟨((((KeepsOthers.setCell W ⟨w.heap.size + 1 + 1 + 1, 0, none⟩ _).from _).trans ((KeepsOthers.setCell _ ⟨w.heap.size + 1 + 1 + 1, 1, none⟩ _).from _)).trans ((KeepsOthers.setCell _ ⟨w.heap.size + 1 + 1 + 1 + 1, 0, none⟩ _).from _)).trans ((KeepsOthers.setCell _ ⟨w.heap.size + 1 + 1 + 1 + 1 + 1, 0, none⟩ _).from _), ⟨rfl, by constructor <;> simp [go_sem, p0, p1, o0, e0]⟩, (((hB.setCell (p := ⟨w.heap.size + 1 + 1 + 1, 0, none⟩) l1 _).setCell (p := ⟨w.heap.size + 1 + 1 + 1, 1, none⟩) l1 _).setCell (p := ⟨w.heap.size + 1 + 1 + 1 + 1, 0, none⟩) l2 _).setCell (p := ⟨w.heap.size + 1 + 1 + 1 + 1 + 1, 0, none⟩) l3 _⟩
    · have hx' : (x : Int) ≠ 256 := by omega
      gi_wp2
      exact ⟨KeepsFrom.refl _ _, KC.refl _, ⟨fun y hy => (List.mem_append.1 hy).elim (hp y) (fun e => by simp at e; subst e; exact hx), hv⟩, hB⟩
  case done =>
    rintro D ys W hD rfl ⟨⟨hp, hv⟩, hB⟩ hK
    exact absurd rfl (hp 256 (by simp))
  case stop =>
    rintro D c pre W hD _ ⟨⟨rfl, hx⟩, hB⟩ hK
    gi_wp2
    refine ⟨by simp, .inl ⟨_, _, rfl, run_takeDeferred hK, ?_⟩⟩
    obtain ⟨p0, p1, o0, e0⟩ := hx.kept (grownBy_putObj' _ D (.deferred none)) (fun r e => by cases e; exact ⟨_, hK, rfl⟩)
    refine ⟨.tuple #[.agg #[.complex .f64 0 0, .bool false], .bool true, .int .i64 0], ?_, rfl, hB.trans (belowK_b (w := w) (Nat.le_refl _) W D _ _ (by omega) hK rfl rfl)⟩
    simp [results, Tryz.results78, go_sem, p0, p1, o0, e0]
end Go.Proofs.YtbgjcpnbdgljbaaGreatDoor
