/- Balls in variables, for regions that draw their order. -/
import Derived.Test.YtbgjcpnbdgljbaaGreatDoorMPon
import Derived.Deep.RegionHeld3
import Derived.Deep.MidRow
import Derived.Deep.DeepCutAuto
import Derived.Test.YtbgjcpnbdgljbaaGreatDoorMKcy
import Derived.Test.YtbgjcpnbdgljbaaGreatDoorMCtn
namespace Go.Proofs.YtbgjcpnbdgljbaaGreatDoor
open Go.RowKit Go.Fil

/-- A variable of its own that holds a ball. -/
structure VCell (w : World) (b : Nat) (X : Bl) : Prop where
  c0 : w.cell? ⟨b, 0, none⟩ = some (.complex .f64 X.1 X.2.1)
  c1 : w.cell? ⟨b, 1, none⟩ = some (.float .f64 X.2.2)
  f : ∀ o, w.frozen? ⟨b, o, none⟩ = false
theorem VCell.below {w w' : World} {G B : Nat} {X : Bl} (h : VCell w G X) (hb : Below B w w') (hG : G < B) : VCell w' G X :=
  ⟨(hb.cell (p := ⟨G, 0, none⟩) hG).trans h.c0, (hb.cell (p := ⟨G, 1, none⟩) hG).trans h.c1, fun o => (hb.frozen (p := ⟨G, o, none⟩) hG).trans (h.f o)⟩
theorem VCell.drew {w : World} {G : Nat} {X : Bl} (h : VCell w G X) : VCell w.drew G X := ⟨h.c0, h.c1, h.f⟩
theorem size_drew {w : World} {b : Nat} (h : b < w.heap.size) : b < w.drew.heap.size := h
theorem VCell.new (w : World) (t : TypeId) (X : Bl) : VCell (w.alloc (.cells #[.complex .f64 X.1 X.2.1, .float .f64 X.2.2] t)) w.heap.size X := by
  refine ⟨?_, ?_, fun o => World.frozen?_alloc_at _ _ _ _ rfl⟩ <;> rw [World.cell?_alloc_at _ _ _ _ rfl] <;> rfl
def setB (w : World) (b : Nat) (X : Bl) : World := (w.setCell ⟨b, 0, none⟩ (.complex .f64 X.1 X.2.1)).setCell ⟨b, 1, none⟩ (.float .f64 X.2.2)
theorem VCell.set {w : World} {G : Nat} {Y : Bl} (h : VCell w G Y) (X : Bl) : VCell (setB w G X) G X := by
  obtain ⟨h0, h1, hf⟩ := h
  unfold setB
  refine ⟨?_, ?_, fun o => ?_⟩ <;> simp [go_sem, h0, h1, hf]
theorem VCell.other {w : World} {G b : Nat} {Y : Bl} (h : VCell w G Y) (hne : G ≠ b) (X : Bl) : VCell (setB w b X) G Y := by
  obtain ⟨h0, h1, hf⟩ := h
  unfold setB
  have e0 : ∀ o o' : Nat, (⟨b, o', none⟩ : Addr) ≠ ⟨G, o, none⟩ := fun o o' h => hne (by injection h with h; exact h.symm)
  refine ⟨?_, ?_, fun o => ?_⟩
  · rw [World.cell?_setCell_other _ _ _ _ (e0 _ _), World.cell?_setCell_other _ _ _ _ (e0 _ _)]; exact h0
  · rw [World.cell?_setCell_other _ _ _ _ (e0 _ _), World.cell?_setCell_other _ _ _ _ (e0 _ _)]; exact h1
  · rw [World.frozen?_setCell, World.frozen?_setCell]; exact hf o
theorem setB_size (w : World) (G : Nat) (X : Bl) : (setB w G X).heap.size = w.heap.size := by unfold setB; simp
theorem below_setB {B : Nat} {w w' : World} {G : Nat} (h : Below B w w') (hG : B ≤ G) (X : Bl) : Below B w (setB w' G X) := (h.setCell hG _).setCell hG _
theorem infoB2 : (Tryz.prog.info? 57).map (·.size) = some 2 := by kernel_rfl
theorem there2 {w : World} {b : Nat} {Y : Bl} (h : VCell w b Y) : w.there b 0 2 := by
  intro j hj
  refine ⟨?_, h.f _⟩
  match j, hj with
  | 0, _ => rw [Nat.zero_add, h.c0]; rfl
  | 1, _ => rw [Nat.zero_add, h.c1]; rfl
theorem grown_set (w : World) (b i : Nat) (v : Value) : w.grownBy (w.setCell ⟨b, i, none⟩ v) (some b) :=
  ⟨rfl, rfl, rfl, by simp [World.setCell], fun k _ hk => Below.heap_setCell _ _ _ _ (fun e => hk (by simp [e]))⟩
theorem cell_grown {w w' : World} {row : Option Nat} (h : w.grownBy w' row) {b o : Nat} {v : Value} (hb : b < w.heap.size) (hne : row ≠ some b) (hc : w.cell? ⟨b, o, none⟩ = some v) : w'.cell? ⟨b, o, none⟩ = some v :=
  (World.cell?_of_block (a := ⟨b, o, none⟩) (h.block b hb (fun e => hne e.symm))).trans hc
theorem frozen_grown {w w' : World} {row : Option Nat} (h : w.grownBy w' row) {b o : Nat} {f : Bool} (hb : b < w.heap.size) (hne : row ≠ some b) (hc : w.frozen? ⟨b, o, none⟩ = f) : w'.frozen? ⟨b, o, none⟩ = f :=
  (World.frozen?_of_block (a := ⟨b, o, none⟩) (h.block b hb (fun e => hne e.symm))).trans hc
theorem grown_drew (w : World) (row : Option Nat) : w.grownBy w.drew row := ⟨rfl, rfl, rfl, Nat.le_refl _, fun _ _ _ => rfl⟩
theorem grown_then {A B C : World} {row : Option Nat} (h : A.grownBy B row) (hb : Below B.heap.size B C) : A.grownBy C row :=
  ⟨hb.os.trans h.os, hb.tape.trans h.tape, hb.output.trans h.output, Nat.le_trans h.size hb.size, fun k hk hn => (hb.block k (Nat.lt_of_lt_of_le hk h.size)).trans (h.block k hk hn)⟩
theorem grown_cells {A B : World} {b : Nat} (h : A.grownBy B (some b)) : ∀ (l : List Value) (o : Nat), A.grownBy (B.setCells b o l) (some b)
  | [], _ => h
  | v :: l, o => grown_cells (b := b) (B := B.setCell ⟨b, o, none⟩ v) ⟨h.os, h.tape, h.output, Nat.le_trans h.size (grown_set B b o v).size, fun k hk hn => ((grown_set B b o v).block k (Nat.lt_of_lt_of_le hk h.size) hn).trans (h.block k hk hn)⟩ l (o + 1)
theorem there_then {A B : World} {b o n : Nat} (h : A.there b o n) (hb : b < A.heap.size) (hB : Below A.drew.heap.size A.drew B) : B.there b o n := fun j hj =>
  ⟨by rw [hB.cell (p := ⟨b, o + j, none⟩) hb]; exact (h j hj).1, (hB.frozen (p := ⟨b, o + j, none⟩) hb).trans (h j hj).2⟩
section
variable {ops : Array Oper} {Q : Exit → Act → World → Prop} {a : Act} {w : World} {K : Act → World → Prop}
/-- A store of a ball. -/
theorem stepb_storeN {op : Oper} {x v : Operand} {b : Nat} {Y X : Bl} {B : Nat} {wr : World} {d : Option Tmp} (hd : op.dst = d) (ho : op.op = .store 57 x v) (hgd : op.guard = none) (hE : VCell w b Y) (hB : Below B wr w) (hb : B ≤ b) (hx : a.eval x = .pointer (some ⟨b, 0, none⟩)) (hv : a.eval v = .agg #[.complex .f64 X.1 X.2.1, .float .f64 X.2.2])
    (hK : ∀ w', VCell w' b X → (∀ G Z, G ≠ b → VCell w G Z → VCell w' G Z) → Below B wr w' → w'.heap.size = w.heap.size → K (a.put d undef) w') : if Region.wanted op (yielded ops a.tmps) = true then Oper.wp Tryz.prog op a w K Q else K (a.put d undef) w := by
  subst hd
  rw [if_pos (by unfold Region.wanted; rw [hgd])]
  exact wp_store_mid _ x v ho b 0 #[.complex .f64 X.1 X.2.1, .float .f64 X.2.2] hx hv (there2 hE) infoB2 (by simp [Value.oneCell']) (hK _ (hE.set X) (fun G Z hne h => h.other hne X) (below_setB hB hb X) (setB_size _ _ _))
/-- A store of a struct. -/
theorem step_store_mid {op : Oper} {x v : Operand} {b : Nat} {cells : Array Value} {ty : TypeId} {d : Option Tmp} (hd : op.dst = d) (ho : op.op = .store ty x v) (hgd : op.guard = none) (hx : a.eval x = .pointer (some ⟨b, 0, none⟩)) (hv : a.eval v = .agg cells) (ht : w.there b 0 cells.size) (hi : (Tryz.prog.info? ty).map (·.size) = some cells.size) (h1 : cells.all (·.oneCell') = true)
    (hK : K (a.put d undef) (w.setCells b 0 cells.toList)) : if Region.wanted op (yielded ops a.tmps) = true then Oper.wp Tryz.prog op a w K Q else K (a.put d undef) w := by
  subst hd
  rw [if_pos (by unfold Region.wanted; rw [hgd])]
  exact wp_store_mid _ x v ho b 0 cells hx hv ht hi h1 hK
/-- A new variable. -/
theorem stepb_alloc {op : Oper} {d : Option Tmp} (hd : op.dst = d) (ho : op.op = .alloc 57) (hgd : op.guard = none) {B : Nat} {wr : World} (hB : Below B wr w) (hs : B ≤ w.heap.size)
    (hK : ∀ b w', VCell w' b (0, 0, 0) → B ≤ b → w.heap.size ≤ b → b < w'.heap.size → Below B wr w' → Below w.heap.size w w' → K (a.put d (.pointer (some ⟨b, 0, none⟩))) w') : if Region.wanted op (yielded ops a.tmps) = true then Oper.wp Tryz.prog op a w K Q else K (a.put d undef) w := by
  subst hd
  rw [if_pos (by unfold Region.wanted; rw [hgd])]
  have h := hK w.heap.size _ (VCell.new w 57 (0, 0, 0)) hs (Nat.le_refl _) (by simp) (hB.alloc hs _) ((Below.refl _ w).alloc (Nat.le_refl _) _)
  have hr : (Instr.alloc 57 true (.tuple #[])).run Tryz.prog w = .ok (.pointer (some ⟨w.heap.size, 0, none⟩)) (w.alloc (.cells #[.complex .f64 0 0, .float .f64 0] 57)) := by
    simp [Instr.alloc, go_sem]
  unfold Oper.wp execOp
  simp only [ho, Sem.run_bind, hr, Sem.run_pure, Result.andThen_ok]
  exact h
end
section
variable {P : Program} {ops : Array Oper} {Q : Exit → Act → World → Prop} {md : Region.Mode} {S : World → Prop}
/-- The take, the slot that it writes named. -/
theorem wpAnyH_put {i : Nat} {oi : Oper} {v : Value} {fuel : Nat} {listed : Array Bool} {a : Act} {w : World} (d : Option Tmp) (hi : ops[i]? = some oi) (hd : oi.dst = d)
    (hs : Region.noSelect ops = true) (hf : Region.free md ops listed i = true) (hr : (Region.ready md ops listed).contains i = true)
    (hQ : ∀ c a w, Q (.panic c) (a.put d v) w → Q (.panic c) a w) (hy : YieldsIf P ops S oi v a) (hS : S w)
    (h : wpAnyH P md ops Q S fuel (listed.setIfInBounds i true) (a.put d v) w) : wpAnyH P md ops Q S (fuel + 1) listed a w := by
  subst hd
  exact wpAnyH_take hi hs hf hr hQ hy hS h
/-- One that comes up, the slot that it writes named. -/
theorem allReady_put {i : Nat} {o : Oper} {fuel : Nat} {listed : Array Bool} {a : Act} {w : World} {rs : List Nat} (d : Option Tmp) (ho : ops[i]? = some o) (hd : o.dst = d)
    (h : ∀ K' : Act → World → Prop, Shut (∀ a w, S w → (S w → wpAnyH P md ops Q S fuel (listed.setIfInBounds i true) a w) → K' a w) → if Region.wanted o (yielded ops a.tmps) = true then Oper.wp P o a w K' Q else K' (a.put d undef) w)
    (hs : AllReadyH P md ops Q S fuel listed a w rs) : AllReadyH P md ops Q S fuel listed a w (i :: rs) := by
  subst hd
  exact AllReadyH.cons ho h hs
end
end Go.Proofs.YtbgjcpnbdgljbaaGreatDoor

/- cycles' move of the map 2z at 0. -/
namespace Go.Proofs.YtbgjcpnbdgljbaaGreatDoor
open Go.RowKit Go.Fil
attribute [local irreducible] fop fsqrt fup fabs fneg pick

def P0 : Bl := pointS 0 0
/-- Where the centre goes, over the slope. -/
def MV : Bl := mulS (subS (onP P0) P0) QB
set_option maxRecDepth 100000 in
set_option maxHeartbeats 1600000 in
theorem move0 {A1 A2 : Option Addr} {c1 c2 : Nat} {w : World} (hM : Mp w w.heap.size A1 A2) :
    Calls Tryz.prog 233 #[.agg #[.slice A1 2 c1, .slice A2 1 c2, .int .i64 1], .complex .f64 0 0, .complex .f64 4607182418800017408 0] w fun e w' => e = .returned (.tuple #[.agg #[.complex .f64 MV.1 MV.2.1, .float .f64 MV.2.2], .bool true]) ∧ Below w.heap.size w w' := by
  have p0 : pointS 0 0 = (0, 0, 0) := by decide +kernel
  have p1 : pointS 4607182418800017408 0 = (4607182418800017408, 0, 0) := by decide +kernel
  have k1 : mayS (0, 0, 0) = true := by decide +kernel
  have k2 : isWholeS (0, 0, 0) = false := by decide +kernel
  have k3 : isWholeS (onP (0, 0, 0)) = false := by decide +kernel
  have k4 : isWholeS (subS (onP (0, 0, 0)) (0, 0, 0)) = false := by decide +kernel
  have HM := Lib.hid hM
  have HAF := Lib.hid (fun w (hM : Mp w w.heap.size A1 A2) => after_any (c1 := c1) (c2 := c2) (0, 0, 0) k1 k2 hM)
  have HPT := Lib.hid (fun w => point_any 0 0 w)
  have HP1 := Lib.hid (fun w => point_any 4607182418800017408 0 w)
  have HSU := Lib.hid (fun w => bsub_any (onP (0, 0, 0)).1 (onP (0, 0, 0)).2.1 (onP (0, 0, 0)).2.2 0 0 0 w)
  have HQU := Lib.hid (fun w => bquo_one (subS (onP (0, 0, 0)) (0, 0, 0)).1 (subS (onP (0, 0, 0)) (0, 0, 0)).2.1 (subS (onP (0, 0, 0)) (0, 0, 0)).2.2 k4 w)
  have HIW := Lib.hid (fun w => iswhole_any (onP (0, 0, 0)).1 (onP (0, 0, 0)).2.1 (onP (0, 0, 0)).2.2 w)
  have eMV : MV = mulS (subS (onP (0, 0, 0)) (0, 0, 0)) QB := by unfold MV P0; rw [p0]
  rw [p0] at HPT
  rw [p1] at HP1
  rw [show isWholeS ((onP (0, 0, 0)).1, (onP (0, 0, 0)).2.1, (onP (0, 0, 0)).2.2) = false from k3] at HIW
  rw [show ((subS (onP (0, 0, 0)) (0, 0, 0)).1, (subS (onP (0, 0, 0)) (0, 0, 0)).2.1, (subS (onP (0, 0, 0)) (0, 0, 0)).2.2) = subS (onP (0, 0, 0)) (0, 0, 0) from rfl, ← eMV] at HQU
  rw [show ((onP (0, 0, 0)).1, (onP (0, 0, 0)).2.1, (onP (0, 0, 0)).2.2) = onP (0, 0, 0) from rfl] at HSU
  generalize subS (onP (0, 0, 0)) (0, 0, 0) = T at *
  generalize onP (0, 0, 0) = U at *
  generalize MV = M at *
  generalize mulS (slP (0, 0, 0)) one1 = V at *
  clear hM p0 p1 k1 k2 k3 k4 eMV
  go_enter Tryz.func233, Tryz.ntmps233
  go_upto_region 1 with fail
  obtain ⟨wr, hwr⟩ : ∃ x, (w.alloc (.cells #[.slice A1 2 c1, .slice A2 1 c2, .int .i64 1] 278)).alloc (.cells #[.complex .f64 0 0, .float .f64 0] 57) = x := ⟨_, rfl⟩
  have m0 : wr.cell? ⟨w.heap.size, 0, none⟩ = some (.slice A1 2 c1) := by rw [← hwr]; simp [go_sem]
  have m1 : wr.cell? ⟨w.heap.size, 1, none⟩ = some (.slice A2 1 c2) := by rw [← hwr]; simp [go_sem]
  have m2 : wr.cell? ⟨w.heap.size, 2, none⟩ = some (.int .i64 1) := by rw [← hwr]; simp [go_sem]
  have hr6 : VCell wr (w.heap.size + 1) (0, 0, 0) := by
    have h := VCell.new (w.alloc (.cells #[.slice A1 2 c1, .slice A2 1 c2, .int .i64 1] 278)) 57 (0, 0, 0)
    rw [World.size_alloc] at h
    rw [← hwr]; exact h
  have hbr : Below w.heap.size w wr := by rw [← hwr]; repeat (first | exact Below.refl _ _ | refine below_drewN ?_ _ | refine Below.alloc ?_ (by first | omega | (simp; omega) | simp) _ | refine Below.setCell ?_ (by first | omega | (simp; omega) | simp) _ | refine Below.trans ?_ (Below.mono (by assumption) (by first | omega | (simp; omega) | simp)) | apply Below.drew)
  have hsz : wr.heap.size = w.heap.size + 2 := by rw [← hwr]; simp
  have HR6 := Lib.hid hr6
  have HBR := Lib.hid hbr
  have HMr := Lib.hid (HM.out.now hbr)
  have lt0 : w.heap.size < wr.heap.size := by omega
  have lt1 : w.heap.size + 1 < wr.heap.size := by omega
  have le1 : w.heap.size ≤ w.heap.size + 1 := by omega
  rw [hwr]
  clear hwr hr6 hbr hsz
  go_cut [8, 9, 10] (fun s8 s9 s10 wx => ∃ g8 g9, s8 = .pointer (some ⟨g8, 0, none⟩) ∧ s9 = .pointer (some ⟨g9, 0, none⟩) ∧ s10 = .int .i64 0 ∧ VCell wx g8 U ∧ g8 < wx.heap.size ∧ Below wr.heap.size wr wx ∧ wr.heap.size ≤ g8)
  case first =>
    have vb0 := Lib.hid (show Below wr.heap.size wr wr.drew from (Below.refl _ _).drew)
    refine wp_region_held_drew (S := fun x => Below wr.heap.size wr x ∧ x.cell? ⟨w.heap.size, 0, none⟩ = some (.slice A1 2 c1) ∧ x.cell? ⟨w.heap.size, 1, none⟩ = some (.slice A2 1 c2) ∧ x.cell? ⟨w.heap.size, 2, none⟩ = some (.int .i64 1)) (by kernel_rfl) (by exact ⟨vb0.out, (Below.cell (vb0.out) (p := ⟨w.heap.size, 0, none⟩) lt0).trans m0, (Below.cell (vb0.out) (p := ⟨w.heap.size, 1, none⟩) lt0).trans m1, (Below.cell (vb0.out) (p := ⟨w.heap.size, 2, none⟩) lt0).trans m2⟩) (fun hHeld => ?_)
    refine wpAnyH_put (i := 0) (v := ?v1) (some 12) rfl rfl (by kernel_rfl) (by kernel_rfl) (by kernel_rfl) (fun _ _ _ h => h) (Or.inl ⟨by kernel_rfl, ?hv1⟩) (by assumption) ?rv1
    case hv1 => (intro w hSw; (try dsimp only at hSw); go_simp; (try with_reducible rfl))
    try simp only [Act.put, List.setIfInBounds_toArray, List.set_cons_zero, List.set_cons_succ]
    refine wpAnyH_put (i := 1) (v := ?v2) (some 13) rfl rfl (by kernel_rfl) (by kernel_rfl) (by kernel_rfl) (fun _ _ _ h => h) (Or.inl ⟨by kernel_rfl, ?hv2⟩) (by assumption) ?rv2
    case hv2 => (intro w hSw; (try dsimp only at hSw); go_simp; (try with_reducible rfl))
    try simp only [Act.put, List.setIfInBounds_toArray, List.set_cons_zero, List.set_cons_succ]
    refine wpAnyH_put (i := 2) (v := ?v3) (some 14) rfl rfl (by kernel_rfl) (by kernel_rfl) (by kernel_rfl) (fun _ _ _ h => h) (Or.inl ⟨by kernel_rfl, ?hv3⟩) (by assumption) ?rv3
    case hv3 => (intro w hSw; (try dsimp only at hSw); go_simp; (try with_reducible rfl))
    try simp only [Act.put, List.setIfInBounds_toArray, List.set_cons_zero, List.set_cons_succ]
    refine wpAnyH_put (i := 4) (v := ?v4) (some 16) rfl rfl (by kernel_rfl) (by kernel_rfl) (by kernel_rfl) (fun _ _ _ h => h) (Or.inl ⟨by kernel_rfl, ?hv4⟩) (by assumption) ?rv4
    case hv4 => (intro w hSw; (try dsimp only at hSw); go_simp; (try with_reducible rfl))
    try simp only [Act.put, List.setIfInBounds_toArray, List.set_cons_zero, List.set_cons_succ]
    refine wpAnyH_put (i := 5) (v := ?v5) (some 17) rfl rfl (by kernel_rfl) (by kernel_rfl) (by kernel_rfl) (fun _ _ _ h => h) (Or.inl ⟨by kernel_rfl, ?hv5⟩) (by assumption) ?rv5
    case hv5 => (intro w hSw; (try dsimp only at hSw); go_simp; (try with_reducible rfl))
    try simp only [Act.put, List.setIfInBounds_toArray, List.set_cons_zero, List.set_cons_succ]
    refine wpAnyH_ready (rs := [3, 11, 12]) (by kernel_rfl) (by simp) ?_
    refine (allReady_put (some 15) rfl rfl (fun K hK => ?_) (allReady_put (some 8) rfl rfl (fun K hK => ?_) (allReady_put (some 9) rfl rfl (fun K hK => ?_) AllReadyH.nil)))
    · go_simp
      (with_reducible refine (HPT.out _).mono ?_)
      rintro e xv6 ⟨rfl, dv6⟩
      have Bv6 := Lib.hid (vb0.out.trans (dv6.mono (Nat.le_trans (Nat.le_refl _) vb0.out.size)))
      clear dv6
      refine hK.out _ _ (by exact ⟨Bv6.out, (Below.cell (Bv6.out) (p := ⟨w.heap.size, 0, none⟩) lt0).trans m0, (Below.cell (Bv6.out) (p := ⟨w.heap.size, 1, none⟩) lt0).trans m1, (Below.cell (Bv6.out) (p := ⟨w.heap.size, 2, none⟩) lt0).trans m2⟩) (fun hHeld => ?_)
      clear hK K
      refine wpAnyH_ready (rs := [6, 11, 12]) (by kernel_rfl) (by simp) ?_
      refine (allReady_put (some 18) rfl rfl (fun K hK => ?_) (allReady_put (some 8) rfl rfl (fun K hK => ?_) (allReady_put (some 9) rfl rfl (fun K hK => ?_) AllReadyH.nil)))
      · go_simp
        (with_reducible refine (HAF.out _ (HMr.out.now Bv6.out)).mono ?_)
        rintro e xv7 ⟨rfl, dv7⟩
        have Bv7 := Lib.hid (Bv6.out.trans (dv7.mono (Nat.le_trans (Nat.le_refl _) Bv6.out.size)))
        clear dv7
        refine hK.out _ _ (by exact ⟨Bv7.out, (Below.cell (Bv7.out) (p := ⟨w.heap.size, 0, none⟩) lt0).trans m0, (Below.cell (Bv7.out) (p := ⟨w.heap.size, 1, none⟩) lt0).trans m1, (Below.cell (Bv7.out) (p := ⟨w.heap.size, 2, none⟩) lt0).trans m2⟩) (fun hHeld => ?_)
        clear hK K
        try simp only [Act.put, List.setIfInBounds_toArray, List.set_cons_zero, List.set_cons_succ]
        refine wpAnyH_put (i := 7) (v := ?v8) (some 11) rfl rfl (by kernel_rfl) (by kernel_rfl) (by kernel_rfl) (fun _ _ _ h => h) (Or.inl ⟨by kernel_rfl, ?hv8⟩) (by assumption) ?rv8
        case hv8 => (intro w hSw; (try dsimp only at hSw); go_simp; (try with_reducible rfl))
        try simp only [Act.put, List.setIfInBounds_toArray, List.set_cons_zero, List.set_cons_succ]
        refine wpAnyH_put (i := 8) (v := ?v9) (some 19) rfl rfl (by kernel_rfl) (by kernel_rfl) (by kernel_rfl) (fun _ _ _ h => h) (Or.inl ⟨by kernel_rfl, ?hv9⟩) (by assumption) ?rv9
        case hv9 => (intro w hSw; (try dsimp only at hSw); go_simp; (try with_reducible rfl))
        try simp only [Act.put, List.setIfInBounds_toArray, List.set_cons_zero, List.set_cons_succ]
        refine wpAnyH_put (i := 9) (v := ?v10) (some 20) rfl rfl (by kernel_rfl) (by kernel_rfl) (by kernel_rfl) (fun _ _ _ h => h) (Or.inl ⟨by kernel_rfl, ?hv10⟩) (by assumption) ?rv10
        case hv10 => (intro w hSw; (try dsimp only at hSw); go_simp; (try with_reducible rfl))
        try simp only [Act.put, List.setIfInBounds_toArray, List.set_cons_zero, List.set_cons_succ]
        refine wpAnyH_put (i := 10) (v := ?v11) (some 21) rfl rfl (by kernel_rfl) (by kernel_rfl) (by kernel_rfl) (fun _ _ _ h => h) (Or.inl ⟨by kernel_rfl, ?hv11⟩) (by assumption) ?rv11
        case hv11 => (intro w hSw; (try dsimp only at hSw); go_simp; (try with_reducible rfl))
        try simp only [Act.put, List.setIfInBounds_toArray, List.set_cons_zero, List.set_cons_succ]
        refine wpAnyH_ready (rs := [11, 12]) (by kernel_rfl) (by simp) ?_
        refine (allReady_put (some 8) rfl rfl (fun K hK => ?_) (allReady_put (some 9) rfl rfl (fun K hK => ?_) AllReadyH.nil))
        · refine stepb_alloc rfl rfl rfl Bv7.out (Nat.le_trans (Nat.le_refl _) Bv7.out.size) (fun bv12 xv12 gv12 lv12 ov12 mv12 bv12_ dv12 => ?_)
          have Nv12 := Lib.hid gv12
          have Bv12 := Lib.hid bv12_
          clear gv12 bv12_ dv12
          refine hK.out _ _ (by exact ⟨Bv12.out, (Below.cell (Bv12.out) (p := ⟨w.heap.size, 0, none⟩) lt0).trans m0, (Below.cell (Bv12.out) (p := ⟨w.heap.size, 1, none⟩) lt0).trans m1, (Below.cell (Bv12.out) (p := ⟨w.heap.size, 2, none⟩) lt0).trans m2⟩) (fun hHeld => ?_)
          clear hK K
          try simp only [Act.put, List.setIfInBounds_toArray, List.set_cons_zero, List.set_cons_succ]
          refine wpAnyH_ready (rs := [12]) (by kernel_rfl) (by simp) ?_
          refine (allReady_put (some 9) rfl rfl (fun K hK => ?_) AllReadyH.nil)
          refine stepb_alloc rfl rfl rfl Bv12.out (Nat.le_trans (Nat.le_refl _) Bv12.out.size) (fun bv13 xv13 gv13 lv13 ov13 mv13 bv13_ dv13 => ?_)
          have Nv13 := Lib.hid gv13
          have Bv13 := Lib.hid bv13_
          have ev13_8 := Nat.ne_of_lt (Nat.lt_of_lt_of_le mv12 ov13)
          have Nv13_8 := Lib.hid (Nv12.out.below dv13 mv12)
          have mv13_8 := Nat.lt_of_lt_of_le mv12 dv13.size
          clear gv13 bv13_ dv13
          refine hK.out _ _ (by exact ⟨Bv13.out, (Below.cell (Bv13.out) (p := ⟨w.heap.size, 0, none⟩) lt0).trans m0, (Below.cell (Bv13.out) (p := ⟨w.heap.size, 1, none⟩) lt0).trans m1, (Below.cell (Bv13.out) (p := ⟨w.heap.size, 2, none⟩) lt0).trans m2⟩) (fun hHeld => ?_)
          clear hK K
          try simp only [Act.put, List.setIfInBounds_toArray, List.set_cons_zero, List.set_cons_succ]
          refine wpAnyH_ready (rs := [13]) (by kernel_rfl) (by simp) ?_
          refine (allReady_put (none) rfl rfl (fun K hK => ?_) AllReadyH.nil)
          refine stepb_storeN rfl rfl rfl Nv13_8.out Bv13.out lv12 rfl rfl (fun xv14 gv14 pv14 bv14_ qv14 => ?_)
          have Nv14 := Lib.hid gv14
          have Bv14 := Lib.hid bv14_
          have mv14 := Nat.lt_of_lt_of_le mv13_8 (Nat.le_of_eq qv14.symm)
          have Nv14_9 := Lib.hid (pv14 _ _ (Ne.symm ev13_8) Nv13.out)
          have mv14_9 := Nat.lt_of_lt_of_le mv13 (Nat.le_of_eq qv14.symm)
          clear gv14 pv14 bv14_ qv14
          refine hK.out _ _ (by exact ⟨Bv14.out, (Below.cell (Bv14.out) (p := ⟨w.heap.size, 0, none⟩) lt0).trans m0, (Below.cell (Bv14.out) (p := ⟨w.heap.size, 1, none⟩) lt0).trans m1, (Below.cell (Bv14.out) (p := ⟨w.heap.size, 2, none⟩) lt0).trans m2⟩) (fun hHeld => ?_)
          clear hK K
          try simp only [Act.put]
          refine wpAnyH_ready (rs := [14]) (by kernel_rfl) (by simp) ?_
          refine (allReady_put (none) rfl rfl (fun K hK => ?_) AllReadyH.nil)
          refine stepb_storeN rfl rfl rfl Nv14_9.out Bv14.out lv13 rfl rfl (fun xv15 gv15 pv15 bv15_ qv15 => ?_)
          have Nv15 := Lib.hid gv15
          have Bv15 := Lib.hid bv15_
          have mv15 := Nat.lt_of_lt_of_le mv14_9 (Nat.le_of_eq qv15.symm)
          have Nv15_8 := Lib.hid (pv15 _ _ ev13_8 Nv14.out)
          have mv15_8 := Nat.lt_of_lt_of_le mv14 (Nat.le_of_eq qv15.symm)
          clear gv15 pv15 bv15_ qv15
          refine hK.out _ _ (by exact ⟨Bv15.out, (Below.cell (Bv15.out) (p := ⟨w.heap.size, 0, none⟩) lt0).trans m0, (Below.cell (Bv15.out) (p := ⟨w.heap.size, 1, none⟩) lt0).trans m1, (Below.cell (Bv15.out) (p := ⟨w.heap.size, 2, none⟩) lt0).trans m2⟩) (fun hHeld => ?_)
          clear hK K
          try simp only [Act.put]
          refine wpAnyH_ready (rs := [15]) (by kernel_rfl) (by simp) ?_
          refine (allReady_put (some 10) rfl rfl (fun K hK => ?_) AllReadyH.nil)
          go_simp
          refine hK.out _ _ (by exact ⟨Bv15.out, (Below.cell (Bv15.out) (p := ⟨w.heap.size, 0, none⟩) lt0).trans m0, (Below.cell (Bv15.out) (p := ⟨w.heap.size, 1, none⟩) lt0).trans m1, (Below.cell (Bv15.out) (p := ⟨w.heap.size, 2, none⟩) lt0).trans m2⟩) (fun hHeld => ?_)
          clear hK K
          try simp only [Act.put, List.setIfInBounds_toArray, List.set_cons_zero, List.set_cons_succ]
          refine wpAnyH_done (by kernel_rfl) ?_ _
          go_wp2
          go_meet
          case rel => exact ⟨bv12, bv13, rfl, rfl, rfl, Nv15_8.out, mv15_8, Bv15.out, lv12⟩
        · refine stepb_alloc rfl rfl rfl Bv7.out (Nat.le_trans (Nat.le_refl _) Bv7.out.size) (fun bv17 xv17 gv17 lv17 ov17 mv17 bv17_ dv17 => ?_)
          have Nv17 := Lib.hid gv17
          have Bv17 := Lib.hid bv17_
          clear gv17 bv17_ dv17
          refine hK.out _ _ (by exact ⟨Bv17.out, (Below.cell (Bv17.out) (p := ⟨w.heap.size, 0, none⟩) lt0).trans m0, (Below.cell (Bv17.out) (p := ⟨w.heap.size, 1, none⟩) lt0).trans m1, (Below.cell (Bv17.out) (p := ⟨w.heap.size, 2, none⟩) lt0).trans m2⟩) (fun hHeld => ?_)
          clear hK K
          try simp only [Act.put, List.setIfInBounds_toArray, List.set_cons_zero, List.set_cons_succ]
          refine wpAnyH_ready (rs := [11]) (by kernel_rfl) (by simp) ?_
          refine (allReady_put (some 8) rfl rfl (fun K hK => ?_) AllReadyH.nil)
          refine stepb_alloc rfl rfl rfl Bv17.out (Nat.le_trans (Nat.le_refl _) Bv17.out.size) (fun bv18 xv18 gv18 lv18 ov18 mv18 bv18_ dv18 => ?_)
          have Nv18 := Lib.hid gv18
          have Bv18 := Lib.hid bv18_
          have ev18_9 := Nat.ne_of_lt (Nat.lt_of_lt_of_le mv17 ov18)
          have Nv18_9 := Lib.hid (Nv17.out.below dv18 mv17)
          have mv18_9 := Nat.lt_of_lt_of_le mv17 dv18.size
          clear gv18 bv18_ dv18
          refine hK.out _ _ (by exact ⟨Bv18.out, (Below.cell (Bv18.out) (p := ⟨w.heap.size, 0, none⟩) lt0).trans m0, (Below.cell (Bv18.out) (p := ⟨w.heap.size, 1, none⟩) lt0).trans m1, (Below.cell (Bv18.out) (p := ⟨w.heap.size, 2, none⟩) lt0).trans m2⟩) (fun hHeld => ?_)
          clear hK K
          try simp only [Act.put, List.setIfInBounds_toArray, List.set_cons_zero, List.set_cons_succ]
          refine wpAnyH_ready (rs := [13]) (by kernel_rfl) (by simp) ?_
          refine (allReady_put (none) rfl rfl (fun K hK => ?_) AllReadyH.nil)
          refine stepb_storeN rfl rfl rfl Nv18.out Bv18.out lv18 rfl rfl (fun xv19 gv19 pv19 bv19_ qv19 => ?_)
          have Nv19 := Lib.hid gv19
          have Bv19 := Lib.hid bv19_
          have mv19 := Nat.lt_of_lt_of_le mv18 (Nat.le_of_eq qv19.symm)
          have Nv19_9 := Lib.hid (pv19 _ _ ev18_9 Nv18_9.out)
          have mv19_9 := Nat.lt_of_lt_of_le mv18_9 (Nat.le_of_eq qv19.symm)
          clear gv19 pv19 bv19_ qv19
          refine hK.out _ _ (by exact ⟨Bv19.out, (Below.cell (Bv19.out) (p := ⟨w.heap.size, 0, none⟩) lt0).trans m0, (Below.cell (Bv19.out) (p := ⟨w.heap.size, 1, none⟩) lt0).trans m1, (Below.cell (Bv19.out) (p := ⟨w.heap.size, 2, none⟩) lt0).trans m2⟩) (fun hHeld => ?_)
          clear hK K
          try simp only [Act.put]
          refine wpAnyH_ready (rs := [14]) (by kernel_rfl) (by simp) ?_
          refine (allReady_put (none) rfl rfl (fun K hK => ?_) AllReadyH.nil)
          refine stepb_storeN rfl rfl rfl Nv19_9.out Bv19.out lv17 rfl rfl (fun xv20 gv20 pv20 bv20_ qv20 => ?_)
          have Nv20 := Lib.hid gv20
          have Bv20 := Lib.hid bv20_
          have mv20 := Nat.lt_of_lt_of_le mv19_9 (Nat.le_of_eq qv20.symm)
          have Nv20_8 := Lib.hid (pv20 _ _ (Ne.symm ev18_9) Nv19.out)
          have mv20_8 := Nat.lt_of_lt_of_le mv19 (Nat.le_of_eq qv20.symm)
          clear gv20 pv20 bv20_ qv20
          refine hK.out _ _ (by exact ⟨Bv20.out, (Below.cell (Bv20.out) (p := ⟨w.heap.size, 0, none⟩) lt0).trans m0, (Below.cell (Bv20.out) (p := ⟨w.heap.size, 1, none⟩) lt0).trans m1, (Below.cell (Bv20.out) (p := ⟨w.heap.size, 2, none⟩) lt0).trans m2⟩) (fun hHeld => ?_)
          clear hK K
          try simp only [Act.put]
          refine wpAnyH_ready (rs := [15]) (by kernel_rfl) (by simp) ?_
          refine (allReady_put (some 10) rfl rfl (fun K hK => ?_) AllReadyH.nil)
          go_simp
          refine hK.out _ _ (by exact ⟨Bv20.out, (Below.cell (Bv20.out) (p := ⟨w.heap.size, 0, none⟩) lt0).trans m0, (Below.cell (Bv20.out) (p := ⟨w.heap.size, 1, none⟩) lt0).trans m1, (Below.cell (Bv20.out) (p := ⟨w.heap.size, 2, none⟩) lt0).trans m2⟩) (fun hHeld => ?_)
          clear hK K
          try simp only [Act.put, List.setIfInBounds_toArray, List.set_cons_zero, List.set_cons_succ]
          refine wpAnyH_done (by kernel_rfl) ?_ _
          go_wp2
          go_meet
          case rel => exact ⟨bv18, bv17, rfl, rfl, rfl, Nv20_8.out, mv20_8, Bv20.out, lv18⟩
      · refine stepb_alloc rfl rfl rfl Bv6.out (Nat.le_trans (Nat.le_refl _) Bv6.out.size) (fun bv22 xv22 gv22 lv22 ov22 mv22 bv22_ dv22 => ?_)
        have Nv22 := Lib.hid gv22
        have Bv22 := Lib.hid bv22_
        clear gv22 bv22_ dv22
        refine hK.out _ _ (by exact ⟨Bv22.out, (Below.cell (Bv22.out) (p := ⟨w.heap.size, 0, none⟩) lt0).trans m0, (Below.cell (Bv22.out) (p := ⟨w.heap.size, 1, none⟩) lt0).trans m1, (Below.cell (Bv22.out) (p := ⟨w.heap.size, 2, none⟩) lt0).trans m2⟩) (fun hHeld => ?_)
        clear hK K
        try simp only [Act.put, List.setIfInBounds_toArray, List.set_cons_zero, List.set_cons_succ]
        refine wpAnyH_ready (rs := [6, 12]) (by kernel_rfl) (by simp) ?_
        refine (allReady_put (some 18) rfl rfl (fun K hK => ?_) (allReady_put (some 9) rfl rfl (fun K hK => ?_) AllReadyH.nil))
        · go_simp
          (with_reducible refine (HAF.out _ (HMr.out.now Bv22.out)).mono ?_)
          rintro e xv23 ⟨rfl, dv23⟩
          have Bv23 := Lib.hid (Bv22.out.trans (dv23.mono (Nat.le_trans (Nat.le_refl _) Bv22.out.size)))
          have Nv23_8 := Lib.hid (Nv22.out.below dv23 mv22)
          have mv23_8 := Nat.lt_of_lt_of_le mv22 dv23.size
          clear dv23
          refine hK.out _ _ (by exact ⟨Bv23.out, (Below.cell (Bv23.out) (p := ⟨w.heap.size, 0, none⟩) lt0).trans m0, (Below.cell (Bv23.out) (p := ⟨w.heap.size, 1, none⟩) lt0).trans m1, (Below.cell (Bv23.out) (p := ⟨w.heap.size, 2, none⟩) lt0).trans m2⟩) (fun hHeld => ?_)
          clear hK K
          try simp only [Act.put, List.setIfInBounds_toArray, List.set_cons_zero, List.set_cons_succ]
          refine wpAnyH_put (i := 7) (v := ?v24) (some 11) rfl rfl (by kernel_rfl) (by kernel_rfl) (by kernel_rfl) (fun _ _ _ h => h) (Or.inl ⟨by kernel_rfl, ?hv24⟩) (by assumption) ?rv24
          case hv24 => (intro w hSw; (try dsimp only at hSw); go_simp; (try with_reducible rfl))
          try simp only [Act.put, List.setIfInBounds_toArray, List.set_cons_zero, List.set_cons_succ]
          refine wpAnyH_put (i := 8) (v := ?v25) (some 19) rfl rfl (by kernel_rfl) (by kernel_rfl) (by kernel_rfl) (fun _ _ _ h => h) (Or.inl ⟨by kernel_rfl, ?hv25⟩) (by assumption) ?rv25
          case hv25 => (intro w hSw; (try dsimp only at hSw); go_simp; (try with_reducible rfl))
          try simp only [Act.put, List.setIfInBounds_toArray, List.set_cons_zero, List.set_cons_succ]
          refine wpAnyH_put (i := 9) (v := ?v26) (some 20) rfl rfl (by kernel_rfl) (by kernel_rfl) (by kernel_rfl) (fun _ _ _ h => h) (Or.inl ⟨by kernel_rfl, ?hv26⟩) (by assumption) ?rv26
          case hv26 => (intro w hSw; (try dsimp only at hSw); go_simp; (try with_reducible rfl))
          try simp only [Act.put, List.setIfInBounds_toArray, List.set_cons_zero, List.set_cons_succ]
          refine wpAnyH_put (i := 10) (v := ?v27) (some 21) rfl rfl (by kernel_rfl) (by kernel_rfl) (by kernel_rfl) (fun _ _ _ h => h) (Or.inl ⟨by kernel_rfl, ?hv27⟩) (by assumption) ?rv27
          case hv27 => (intro w hSw; (try dsimp only at hSw); go_simp; (try with_reducible rfl))
          try simp only [Act.put, List.setIfInBounds_toArray, List.set_cons_zero, List.set_cons_succ]
          refine wpAnyH_ready (rs := [12]) (by kernel_rfl) (by simp) ?_
          refine (allReady_put (some 9) rfl rfl (fun K hK => ?_) AllReadyH.nil)
          refine stepb_alloc rfl rfl rfl Bv23.out (Nat.le_trans (Nat.le_refl _) Bv23.out.size) (fun bv28 xv28 gv28 lv28 ov28 mv28 bv28_ dv28 => ?_)
          have Nv28 := Lib.hid gv28
          have Bv28 := Lib.hid bv28_
          have ev28_8 := Nat.ne_of_lt (Nat.lt_of_lt_of_le mv23_8 ov28)
          have Nv28_8 := Lib.hid (Nv23_8.out.below dv28 mv23_8)
          have mv28_8 := Nat.lt_of_lt_of_le mv23_8 dv28.size
          clear gv28 bv28_ dv28
          refine hK.out _ _ (by exact ⟨Bv28.out, (Below.cell (Bv28.out) (p := ⟨w.heap.size, 0, none⟩) lt0).trans m0, (Below.cell (Bv28.out) (p := ⟨w.heap.size, 1, none⟩) lt0).trans m1, (Below.cell (Bv28.out) (p := ⟨w.heap.size, 2, none⟩) lt0).trans m2⟩) (fun hHeld => ?_)
          clear hK K
          try simp only [Act.put, List.setIfInBounds_toArray, List.set_cons_zero, List.set_cons_succ]
          refine wpAnyH_ready (rs := [13]) (by kernel_rfl) (by simp) ?_
          refine (allReady_put (none) rfl rfl (fun K hK => ?_) AllReadyH.nil)
          refine stepb_storeN rfl rfl rfl Nv28_8.out Bv28.out lv22 rfl rfl (fun xv29 gv29 pv29 bv29_ qv29 => ?_)
          have Nv29 := Lib.hid gv29
          have Bv29 := Lib.hid bv29_
          have mv29 := Nat.lt_of_lt_of_le mv28_8 (Nat.le_of_eq qv29.symm)
          have Nv29_9 := Lib.hid (pv29 _ _ (Ne.symm ev28_8) Nv28.out)
          have mv29_9 := Nat.lt_of_lt_of_le mv28 (Nat.le_of_eq qv29.symm)
          clear gv29 pv29 bv29_ qv29
          refine hK.out _ _ (by exact ⟨Bv29.out, (Below.cell (Bv29.out) (p := ⟨w.heap.size, 0, none⟩) lt0).trans m0, (Below.cell (Bv29.out) (p := ⟨w.heap.size, 1, none⟩) lt0).trans m1, (Below.cell (Bv29.out) (p := ⟨w.heap.size, 2, none⟩) lt0).trans m2⟩) (fun hHeld => ?_)
          clear hK K
          try simp only [Act.put]
          refine wpAnyH_ready (rs := [14]) (by kernel_rfl) (by simp) ?_
          refine (allReady_put (none) rfl rfl (fun K hK => ?_) AllReadyH.nil)
          refine stepb_storeN rfl rfl rfl Nv29_9.out Bv29.out lv28 rfl rfl (fun xv30 gv30 pv30 bv30_ qv30 => ?_)
          have Nv30 := Lib.hid gv30
          have Bv30 := Lib.hid bv30_
          have mv30 := Nat.lt_of_lt_of_le mv29_9 (Nat.le_of_eq qv30.symm)
          have Nv30_8 := Lib.hid (pv30 _ _ ev28_8 Nv29.out)
          have mv30_8 := Nat.lt_of_lt_of_le mv29 (Nat.le_of_eq qv30.symm)
          clear gv30 pv30 bv30_ qv30
          refine hK.out _ _ (by exact ⟨Bv30.out, (Below.cell (Bv30.out) (p := ⟨w.heap.size, 0, none⟩) lt0).trans m0, (Below.cell (Bv30.out) (p := ⟨w.heap.size, 1, none⟩) lt0).trans m1, (Below.cell (Bv30.out) (p := ⟨w.heap.size, 2, none⟩) lt0).trans m2⟩) (fun hHeld => ?_)
          clear hK K
          try simp only [Act.put]
          refine wpAnyH_ready (rs := [15]) (by kernel_rfl) (by simp) ?_
          refine (allReady_put (some 10) rfl rfl (fun K hK => ?_) AllReadyH.nil)
          go_simp
          refine hK.out _ _ (by exact ⟨Bv30.out, (Below.cell (Bv30.out) (p := ⟨w.heap.size, 0, none⟩) lt0).trans m0, (Below.cell (Bv30.out) (p := ⟨w.heap.size, 1, none⟩) lt0).trans m1, (Below.cell (Bv30.out) (p := ⟨w.heap.size, 2, none⟩) lt0).trans m2⟩) (fun hHeld => ?_)
          clear hK K
          try simp only [Act.put, List.setIfInBounds_toArray, List.set_cons_zero, List.set_cons_succ]
          refine wpAnyH_done (by kernel_rfl) ?_ _
          go_wp2
          go_meet
          case rel => exact ⟨bv22, bv28, rfl, rfl, rfl, Nv30_8.out, mv30_8, Bv30.out, lv22⟩
        · refine stepb_alloc rfl rfl rfl Bv22.out (Nat.le_trans (Nat.le_refl _) Bv22.out.size) (fun bv32 xv32 gv32 lv32 ov32 mv32 bv32_ dv32 => ?_)
          have Nv32 := Lib.hid gv32
          have Bv32 := Lib.hid bv32_
          have ev32_8 := Nat.ne_of_lt (Nat.lt_of_lt_of_le mv22 ov32)
          have Nv32_8 := Lib.hid (Nv22.out.below dv32 mv22)
          have mv32_8 := Nat.lt_of_lt_of_le mv22 dv32.size
          clear gv32 bv32_ dv32
          refine hK.out _ _ (by exact ⟨Bv32.out, (Below.cell (Bv32.out) (p := ⟨w.heap.size, 0, none⟩) lt0).trans m0, (Below.cell (Bv32.out) (p := ⟨w.heap.size, 1, none⟩) lt0).trans m1, (Below.cell (Bv32.out) (p := ⟨w.heap.size, 2, none⟩) lt0).trans m2⟩) (fun hHeld => ?_)
          clear hK K
          try simp only [Act.put, List.setIfInBounds_toArray, List.set_cons_zero, List.set_cons_succ]
          refine wpAnyH_ready (rs := [6]) (by kernel_rfl) (by simp) ?_
          refine (allReady_put (some 18) rfl rfl (fun K hK => ?_) AllReadyH.nil)
          go_simp
          (with_reducible refine (HAF.out _ (HMr.out.now Bv32.out)).mono ?_)
          rintro e xv33 ⟨rfl, dv33⟩
          have Bv33 := Lib.hid (Bv32.out.trans (dv33.mono (Nat.le_trans (Nat.le_refl _) Bv32.out.size)))
          have Nv33_8 := Lib.hid (Nv32_8.out.below dv33 mv32_8)
          have mv33_8 := Nat.lt_of_lt_of_le mv32_8 dv33.size
          have Nv33_9 := Lib.hid (Nv32.out.below dv33 mv32)
          have mv33_9 := Nat.lt_of_lt_of_le mv32 dv33.size
          clear dv33
          refine hK.out _ _ (by exact ⟨Bv33.out, (Below.cell (Bv33.out) (p := ⟨w.heap.size, 0, none⟩) lt0).trans m0, (Below.cell (Bv33.out) (p := ⟨w.heap.size, 1, none⟩) lt0).trans m1, (Below.cell (Bv33.out) (p := ⟨w.heap.size, 2, none⟩) lt0).trans m2⟩) (fun hHeld => ?_)
          clear hK K
          try simp only [Act.put, List.setIfInBounds_toArray, List.set_cons_zero, List.set_cons_succ]
          refine wpAnyH_put (i := 7) (v := ?v34) (some 11) rfl rfl (by kernel_rfl) (by kernel_rfl) (by kernel_rfl) (fun _ _ _ h => h) (Or.inl ⟨by kernel_rfl, ?hv34⟩) (by assumption) ?rv34
          case hv34 => (intro w hSw; (try dsimp only at hSw); go_simp; (try with_reducible rfl))
          try simp only [Act.put, List.setIfInBounds_toArray, List.set_cons_zero, List.set_cons_succ]
          refine wpAnyH_put (i := 8) (v := ?v35) (some 19) rfl rfl (by kernel_rfl) (by kernel_rfl) (by kernel_rfl) (fun _ _ _ h => h) (Or.inl ⟨by kernel_rfl, ?hv35⟩) (by assumption) ?rv35
          case hv35 => (intro w hSw; (try dsimp only at hSw); go_simp; (try with_reducible rfl))
          try simp only [Act.put, List.setIfInBounds_toArray, List.set_cons_zero, List.set_cons_succ]
          refine wpAnyH_put (i := 9) (v := ?v36) (some 20) rfl rfl (by kernel_rfl) (by kernel_rfl) (by kernel_rfl) (fun _ _ _ h => h) (Or.inl ⟨by kernel_rfl, ?hv36⟩) (by assumption) ?rv36
          case hv36 => (intro w hSw; (try dsimp only at hSw); go_simp; (try with_reducible rfl))
          try simp only [Act.put, List.setIfInBounds_toArray, List.set_cons_zero, List.set_cons_succ]
          refine wpAnyH_put (i := 10) (v := ?v37) (some 21) rfl rfl (by kernel_rfl) (by kernel_rfl) (by kernel_rfl) (fun _ _ _ h => h) (Or.inl ⟨by kernel_rfl, ?hv37⟩) (by assumption) ?rv37
          case hv37 => (intro w hSw; (try dsimp only at hSw); go_simp; (try with_reducible rfl))
          try simp only [Act.put, List.setIfInBounds_toArray, List.set_cons_zero, List.set_cons_succ]
          refine wpAnyH_ready (rs := [13]) (by kernel_rfl) (by simp) ?_
          refine (allReady_put (none) rfl rfl (fun K hK => ?_) AllReadyH.nil)
          refine stepb_storeN rfl rfl rfl Nv33_8.out Bv33.out lv22 rfl rfl (fun xv38 gv38 pv38 bv38_ qv38 => ?_)
          have Nv38 := Lib.hid gv38
          have Bv38 := Lib.hid bv38_
          have mv38 := Nat.lt_of_lt_of_le mv33_8 (Nat.le_of_eq qv38.symm)
          have Nv38_9 := Lib.hid (pv38 _ _ (Ne.symm ev32_8) Nv33_9.out)
          have mv38_9 := Nat.lt_of_lt_of_le mv33_9 (Nat.le_of_eq qv38.symm)
          clear gv38 pv38 bv38_ qv38
          refine hK.out _ _ (by exact ⟨Bv38.out, (Below.cell (Bv38.out) (p := ⟨w.heap.size, 0, none⟩) lt0).trans m0, (Below.cell (Bv38.out) (p := ⟨w.heap.size, 1, none⟩) lt0).trans m1, (Below.cell (Bv38.out) (p := ⟨w.heap.size, 2, none⟩) lt0).trans m2⟩) (fun hHeld => ?_)
          clear hK K
          try simp only [Act.put]
          refine wpAnyH_ready (rs := [14]) (by kernel_rfl) (by simp) ?_
          refine (allReady_put (none) rfl rfl (fun K hK => ?_) AllReadyH.nil)
          refine stepb_storeN rfl rfl rfl Nv38_9.out Bv38.out lv32 rfl rfl (fun xv39 gv39 pv39 bv39_ qv39 => ?_)
          have Nv39 := Lib.hid gv39
          have Bv39 := Lib.hid bv39_
          have mv39 := Nat.lt_of_lt_of_le mv38_9 (Nat.le_of_eq qv39.symm)
          have Nv39_8 := Lib.hid (pv39 _ _ ev32_8 Nv38.out)
          have mv39_8 := Nat.lt_of_lt_of_le mv38 (Nat.le_of_eq qv39.symm)
          clear gv39 pv39 bv39_ qv39
          refine hK.out _ _ (by exact ⟨Bv39.out, (Below.cell (Bv39.out) (p := ⟨w.heap.size, 0, none⟩) lt0).trans m0, (Below.cell (Bv39.out) (p := ⟨w.heap.size, 1, none⟩) lt0).trans m1, (Below.cell (Bv39.out) (p := ⟨w.heap.size, 2, none⟩) lt0).trans m2⟩) (fun hHeld => ?_)
          clear hK K
          try simp only [Act.put]
          refine wpAnyH_ready (rs := [15]) (by kernel_rfl) (by simp) ?_
          refine (allReady_put (some 10) rfl rfl (fun K hK => ?_) AllReadyH.nil)
          go_simp
          refine hK.out _ _ (by exact ⟨Bv39.out, (Below.cell (Bv39.out) (p := ⟨w.heap.size, 0, none⟩) lt0).trans m0, (Below.cell (Bv39.out) (p := ⟨w.heap.size, 1, none⟩) lt0).trans m1, (Below.cell (Bv39.out) (p := ⟨w.heap.size, 2, none⟩) lt0).trans m2⟩) (fun hHeld => ?_)
          clear hK K
          try simp only [Act.put, List.setIfInBounds_toArray, List.set_cons_zero, List.set_cons_succ]
          refine wpAnyH_done (by kernel_rfl) ?_ _
          go_wp2
          go_meet
          case rel => exact ⟨bv22, bv32, rfl, rfl, rfl, Nv39_8.out, mv39_8, Bv39.out, lv22⟩
      · refine stepb_alloc rfl rfl rfl Bv6.out (Nat.le_trans (Nat.le_refl _) Bv6.out.size) (fun bv41 xv41 gv41 lv41 ov41 mv41 bv41_ dv41 => ?_)
        have Nv41 := Lib.hid gv41
        have Bv41 := Lib.hid bv41_
        clear gv41 bv41_ dv41
        refine hK.out _ _ (by exact ⟨Bv41.out, (Below.cell (Bv41.out) (p := ⟨w.heap.size, 0, none⟩) lt0).trans m0, (Below.cell (Bv41.out) (p := ⟨w.heap.size, 1, none⟩) lt0).trans m1, (Below.cell (Bv41.out) (p := ⟨w.heap.size, 2, none⟩) lt0).trans m2⟩) (fun hHeld => ?_)
        clear hK K
        try simp only [Act.put, List.setIfInBounds_toArray, List.set_cons_zero, List.set_cons_succ]
        refine wpAnyH_ready (rs := [6, 11]) (by kernel_rfl) (by simp) ?_
        refine (allReady_put (some 18) rfl rfl (fun K hK => ?_) (allReady_put (some 8) rfl rfl (fun K hK => ?_) AllReadyH.nil))
        · go_simp
          (with_reducible refine (HAF.out _ (HMr.out.now Bv41.out)).mono ?_)
          rintro e xv42 ⟨rfl, dv42⟩
          have Bv42 := Lib.hid (Bv41.out.trans (dv42.mono (Nat.le_trans (Nat.le_refl _) Bv41.out.size)))
          have Nv42_9 := Lib.hid (Nv41.out.below dv42 mv41)
          have mv42_9 := Nat.lt_of_lt_of_le mv41 dv42.size
          clear dv42
          refine hK.out _ _ (by exact ⟨Bv42.out, (Below.cell (Bv42.out) (p := ⟨w.heap.size, 0, none⟩) lt0).trans m0, (Below.cell (Bv42.out) (p := ⟨w.heap.size, 1, none⟩) lt0).trans m1, (Below.cell (Bv42.out) (p := ⟨w.heap.size, 2, none⟩) lt0).trans m2⟩) (fun hHeld => ?_)
          clear hK K
          try simp only [Act.put, List.setIfInBounds_toArray, List.set_cons_zero, List.set_cons_succ]
          refine wpAnyH_put (i := 7) (v := ?v43) (some 11) rfl rfl (by kernel_rfl) (by kernel_rfl) (by kernel_rfl) (fun _ _ _ h => h) (Or.inl ⟨by kernel_rfl, ?hv43⟩) (by assumption) ?rv43
          case hv43 => (intro w hSw; (try dsimp only at hSw); go_simp; (try with_reducible rfl))
          try simp only [Act.put, List.setIfInBounds_toArray, List.set_cons_zero, List.set_cons_succ]
          refine wpAnyH_put (i := 8) (v := ?v44) (some 19) rfl rfl (by kernel_rfl) (by kernel_rfl) (by kernel_rfl) (fun _ _ _ h => h) (Or.inl ⟨by kernel_rfl, ?hv44⟩) (by assumption) ?rv44
          case hv44 => (intro w hSw; (try dsimp only at hSw); go_simp; (try with_reducible rfl))
          try simp only [Act.put, List.setIfInBounds_toArray, List.set_cons_zero, List.set_cons_succ]
          refine wpAnyH_put (i := 9) (v := ?v45) (some 20) rfl rfl (by kernel_rfl) (by kernel_rfl) (by kernel_rfl) (fun _ _ _ h => h) (Or.inl ⟨by kernel_rfl, ?hv45⟩) (by assumption) ?rv45
          case hv45 => (intro w hSw; (try dsimp only at hSw); go_simp; (try with_reducible rfl))
          try simp only [Act.put, List.setIfInBounds_toArray, List.set_cons_zero, List.set_cons_succ]
          refine wpAnyH_put (i := 10) (v := ?v46) (some 21) rfl rfl (by kernel_rfl) (by kernel_rfl) (by kernel_rfl) (fun _ _ _ h => h) (Or.inl ⟨by kernel_rfl, ?hv46⟩) (by assumption) ?rv46
          case hv46 => (intro w hSw; (try dsimp only at hSw); go_simp; (try with_reducible rfl))
          try simp only [Act.put, List.setIfInBounds_toArray, List.set_cons_zero, List.set_cons_succ]
          refine wpAnyH_ready (rs := [11]) (by kernel_rfl) (by simp) ?_
          refine (allReady_put (some 8) rfl rfl (fun K hK => ?_) AllReadyH.nil)
          refine stepb_alloc rfl rfl rfl Bv42.out (Nat.le_trans (Nat.le_refl _) Bv42.out.size) (fun bv47 xv47 gv47 lv47 ov47 mv47 bv47_ dv47 => ?_)
          have Nv47 := Lib.hid gv47
          have Bv47 := Lib.hid bv47_
          have ev47_9 := Nat.ne_of_lt (Nat.lt_of_lt_of_le mv42_9 ov47)
          have Nv47_9 := Lib.hid (Nv42_9.out.below dv47 mv42_9)
          have mv47_9 := Nat.lt_of_lt_of_le mv42_9 dv47.size
          clear gv47 bv47_ dv47
          refine hK.out _ _ (by exact ⟨Bv47.out, (Below.cell (Bv47.out) (p := ⟨w.heap.size, 0, none⟩) lt0).trans m0, (Below.cell (Bv47.out) (p := ⟨w.heap.size, 1, none⟩) lt0).trans m1, (Below.cell (Bv47.out) (p := ⟨w.heap.size, 2, none⟩) lt0).trans m2⟩) (fun hHeld => ?_)
          clear hK K
          try simp only [Act.put, List.setIfInBounds_toArray, List.set_cons_zero, List.set_cons_succ]
          refine wpAnyH_ready (rs := [13]) (by kernel_rfl) (by simp) ?_
          refine (allReady_put (none) rfl rfl (fun K hK => ?_) AllReadyH.nil)
          refine stepb_storeN rfl rfl rfl Nv47.out Bv47.out lv47 rfl rfl (fun xv48 gv48 pv48 bv48_ qv48 => ?_)
          have Nv48 := Lib.hid gv48
          have Bv48 := Lib.hid bv48_
          have mv48 := Nat.lt_of_lt_of_le mv47 (Nat.le_of_eq qv48.symm)
          have Nv48_9 := Lib.hid (pv48 _ _ ev47_9 Nv47_9.out)
          have mv48_9 := Nat.lt_of_lt_of_le mv47_9 (Nat.le_of_eq qv48.symm)
          clear gv48 pv48 bv48_ qv48
          refine hK.out _ _ (by exact ⟨Bv48.out, (Below.cell (Bv48.out) (p := ⟨w.heap.size, 0, none⟩) lt0).trans m0, (Below.cell (Bv48.out) (p := ⟨w.heap.size, 1, none⟩) lt0).trans m1, (Below.cell (Bv48.out) (p := ⟨w.heap.size, 2, none⟩) lt0).trans m2⟩) (fun hHeld => ?_)
          clear hK K
          try simp only [Act.put]
          refine wpAnyH_ready (rs := [14]) (by kernel_rfl) (by simp) ?_
          refine (allReady_put (none) rfl rfl (fun K hK => ?_) AllReadyH.nil)
          refine stepb_storeN rfl rfl rfl Nv48_9.out Bv48.out lv41 rfl rfl (fun xv49 gv49 pv49 bv49_ qv49 => ?_)
          have Nv49 := Lib.hid gv49
          have Bv49 := Lib.hid bv49_
          have mv49 := Nat.lt_of_lt_of_le mv48_9 (Nat.le_of_eq qv49.symm)
          have Nv49_8 := Lib.hid (pv49 _ _ (Ne.symm ev47_9) Nv48.out)
          have mv49_8 := Nat.lt_of_lt_of_le mv48 (Nat.le_of_eq qv49.symm)
          clear gv49 pv49 bv49_ qv49
          refine hK.out _ _ (by exact ⟨Bv49.out, (Below.cell (Bv49.out) (p := ⟨w.heap.size, 0, none⟩) lt0).trans m0, (Below.cell (Bv49.out) (p := ⟨w.heap.size, 1, none⟩) lt0).trans m1, (Below.cell (Bv49.out) (p := ⟨w.heap.size, 2, none⟩) lt0).trans m2⟩) (fun hHeld => ?_)
          clear hK K
          try simp only [Act.put]
          refine wpAnyH_ready (rs := [15]) (by kernel_rfl) (by simp) ?_
          refine (allReady_put (some 10) rfl rfl (fun K hK => ?_) AllReadyH.nil)
          go_simp
          refine hK.out _ _ (by exact ⟨Bv49.out, (Below.cell (Bv49.out) (p := ⟨w.heap.size, 0, none⟩) lt0).trans m0, (Below.cell (Bv49.out) (p := ⟨w.heap.size, 1, none⟩) lt0).trans m1, (Below.cell (Bv49.out) (p := ⟨w.heap.size, 2, none⟩) lt0).trans m2⟩) (fun hHeld => ?_)
          clear hK K
          try simp only [Act.put, List.setIfInBounds_toArray, List.set_cons_zero, List.set_cons_succ]
          refine wpAnyH_done (by kernel_rfl) ?_ _
          go_wp2
          go_meet
          case rel => exact ⟨bv47, bv41, rfl, rfl, rfl, Nv49_8.out, mv49_8, Bv49.out, lv47⟩
        · refine stepb_alloc rfl rfl rfl Bv41.out (Nat.le_trans (Nat.le_refl _) Bv41.out.size) (fun bv51 xv51 gv51 lv51 ov51 mv51 bv51_ dv51 => ?_)
          have Nv51 := Lib.hid gv51
          have Bv51 := Lib.hid bv51_
          have ev51_9 := Nat.ne_of_lt (Nat.lt_of_lt_of_le mv41 ov51)
          have Nv51_9 := Lib.hid (Nv41.out.below dv51 mv41)
          have mv51_9 := Nat.lt_of_lt_of_le mv41 dv51.size
          clear gv51 bv51_ dv51
          refine hK.out _ _ (by exact ⟨Bv51.out, (Below.cell (Bv51.out) (p := ⟨w.heap.size, 0, none⟩) lt0).trans m0, (Below.cell (Bv51.out) (p := ⟨w.heap.size, 1, none⟩) lt0).trans m1, (Below.cell (Bv51.out) (p := ⟨w.heap.size, 2, none⟩) lt0).trans m2⟩) (fun hHeld => ?_)
          clear hK K
          try simp only [Act.put, List.setIfInBounds_toArray, List.set_cons_zero, List.set_cons_succ]
          refine wpAnyH_ready (rs := [6]) (by kernel_rfl) (by simp) ?_
          refine (allReady_put (some 18) rfl rfl (fun K hK => ?_) AllReadyH.nil)
          go_simp
          (with_reducible refine (HAF.out _ (HMr.out.now Bv51.out)).mono ?_)
          rintro e xv52 ⟨rfl, dv52⟩
          have Bv52 := Lib.hid (Bv51.out.trans (dv52.mono (Nat.le_trans (Nat.le_refl _) Bv51.out.size)))
          have Nv52_9 := Lib.hid (Nv51_9.out.below dv52 mv51_9)
          have mv52_9 := Nat.lt_of_lt_of_le mv51_9 dv52.size
          have Nv52_8 := Lib.hid (Nv51.out.below dv52 mv51)
          have mv52_8 := Nat.lt_of_lt_of_le mv51 dv52.size
          clear dv52
          refine hK.out _ _ (by exact ⟨Bv52.out, (Below.cell (Bv52.out) (p := ⟨w.heap.size, 0, none⟩) lt0).trans m0, (Below.cell (Bv52.out) (p := ⟨w.heap.size, 1, none⟩) lt0).trans m1, (Below.cell (Bv52.out) (p := ⟨w.heap.size, 2, none⟩) lt0).trans m2⟩) (fun hHeld => ?_)
          clear hK K
          try simp only [Act.put, List.setIfInBounds_toArray, List.set_cons_zero, List.set_cons_succ]
          refine wpAnyH_put (i := 7) (v := ?v53) (some 11) rfl rfl (by kernel_rfl) (by kernel_rfl) (by kernel_rfl) (fun _ _ _ h => h) (Or.inl ⟨by kernel_rfl, ?hv53⟩) (by assumption) ?rv53
          case hv53 => (intro w hSw; (try dsimp only at hSw); go_simp; (try with_reducible rfl))
          try simp only [Act.put, List.setIfInBounds_toArray, List.set_cons_zero, List.set_cons_succ]
          refine wpAnyH_put (i := 8) (v := ?v54) (some 19) rfl rfl (by kernel_rfl) (by kernel_rfl) (by kernel_rfl) (fun _ _ _ h => h) (Or.inl ⟨by kernel_rfl, ?hv54⟩) (by assumption) ?rv54
          case hv54 => (intro w hSw; (try dsimp only at hSw); go_simp; (try with_reducible rfl))
          try simp only [Act.put, List.setIfInBounds_toArray, List.set_cons_zero, List.set_cons_succ]
          refine wpAnyH_put (i := 9) (v := ?v55) (some 20) rfl rfl (by kernel_rfl) (by kernel_rfl) (by kernel_rfl) (fun _ _ _ h => h) (Or.inl ⟨by kernel_rfl, ?hv55⟩) (by assumption) ?rv55
          case hv55 => (intro w hSw; (try dsimp only at hSw); go_simp; (try with_reducible rfl))
          try simp only [Act.put, List.setIfInBounds_toArray, List.set_cons_zero, List.set_cons_succ]
          refine wpAnyH_put (i := 10) (v := ?v56) (some 21) rfl rfl (by kernel_rfl) (by kernel_rfl) (by kernel_rfl) (fun _ _ _ h => h) (Or.inl ⟨by kernel_rfl, ?hv56⟩) (by assumption) ?rv56
          case hv56 => (intro w hSw; (try dsimp only at hSw); go_simp; (try with_reducible rfl))
          try simp only [Act.put, List.setIfInBounds_toArray, List.set_cons_zero, List.set_cons_succ]
          refine wpAnyH_ready (rs := [13]) (by kernel_rfl) (by simp) ?_
          refine (allReady_put (none) rfl rfl (fun K hK => ?_) AllReadyH.nil)
          refine stepb_storeN rfl rfl rfl Nv52_8.out Bv52.out lv51 rfl rfl (fun xv57 gv57 pv57 bv57_ qv57 => ?_)
          have Nv57 := Lib.hid gv57
          have Bv57 := Lib.hid bv57_
          have mv57 := Nat.lt_of_lt_of_le mv52_8 (Nat.le_of_eq qv57.symm)
          have Nv57_9 := Lib.hid (pv57 _ _ ev51_9 Nv52_9.out)
          have mv57_9 := Nat.lt_of_lt_of_le mv52_9 (Nat.le_of_eq qv57.symm)
          clear gv57 pv57 bv57_ qv57
          refine hK.out _ _ (by exact ⟨Bv57.out, (Below.cell (Bv57.out) (p := ⟨w.heap.size, 0, none⟩) lt0).trans m0, (Below.cell (Bv57.out) (p := ⟨w.heap.size, 1, none⟩) lt0).trans m1, (Below.cell (Bv57.out) (p := ⟨w.heap.size, 2, none⟩) lt0).trans m2⟩) (fun hHeld => ?_)
          clear hK K
          try simp only [Act.put]
          refine wpAnyH_ready (rs := [14]) (by kernel_rfl) (by simp) ?_
          refine (allReady_put (none) rfl rfl (fun K hK => ?_) AllReadyH.nil)
          refine stepb_storeN rfl rfl rfl Nv57_9.out Bv57.out lv41 rfl rfl (fun xv58 gv58 pv58 bv58_ qv58 => ?_)
          have Nv58 := Lib.hid gv58
          have Bv58 := Lib.hid bv58_
          have mv58 := Nat.lt_of_lt_of_le mv57_9 (Nat.le_of_eq qv58.symm)
          have Nv58_8 := Lib.hid (pv58 _ _ (Ne.symm ev51_9) Nv57.out)
          have mv58_8 := Nat.lt_of_lt_of_le mv57 (Nat.le_of_eq qv58.symm)
          clear gv58 pv58 bv58_ qv58
          refine hK.out _ _ (by exact ⟨Bv58.out, (Below.cell (Bv58.out) (p := ⟨w.heap.size, 0, none⟩) lt0).trans m0, (Below.cell (Bv58.out) (p := ⟨w.heap.size, 1, none⟩) lt0).trans m1, (Below.cell (Bv58.out) (p := ⟨w.heap.size, 2, none⟩) lt0).trans m2⟩) (fun hHeld => ?_)
          clear hK K
          try simp only [Act.put]
          refine wpAnyH_ready (rs := [15]) (by kernel_rfl) (by simp) ?_
          refine (allReady_put (some 10) rfl rfl (fun K hK => ?_) AllReadyH.nil)
          go_simp
          refine hK.out _ _ (by exact ⟨Bv58.out, (Below.cell (Bv58.out) (p := ⟨w.heap.size, 0, none⟩) lt0).trans m0, (Below.cell (Bv58.out) (p := ⟨w.heap.size, 1, none⟩) lt0).trans m1, (Below.cell (Bv58.out) (p := ⟨w.heap.size, 2, none⟩) lt0).trans m2⟩) (fun hHeld => ?_)
          clear hK K
          try simp only [Act.put, List.setIfInBounds_toArray, List.set_cons_zero, List.set_cons_succ]
          refine wpAnyH_done (by kernel_rfl) ?_ _
          go_wp2
          go_meet
          case rel => exact ⟨bv51, bv41, rfl, rfl, rfl, Nv58_8.out, mv58_8, Bv58.out, lv51⟩
    · refine stepb_alloc rfl rfl rfl vb0.out (Nat.le_trans (Nat.le_refl _) vb0.out.size) (fun bv60 xv60 gv60 lv60 ov60 mv60 bv60_ dv60 => ?_)
      have Nv60 := Lib.hid gv60
      have Bv60 := Lib.hid bv60_
      clear gv60 bv60_ dv60
      refine hK.out _ _ (by exact ⟨Bv60.out, (Below.cell (Bv60.out) (p := ⟨w.heap.size, 0, none⟩) lt0).trans m0, (Below.cell (Bv60.out) (p := ⟨w.heap.size, 1, none⟩) lt0).trans m1, (Below.cell (Bv60.out) (p := ⟨w.heap.size, 2, none⟩) lt0).trans m2⟩) (fun hHeld => ?_)
      clear hK K
      try simp only [Act.put, List.setIfInBounds_toArray, List.set_cons_zero, List.set_cons_succ]
      refine wpAnyH_ready (rs := [3, 12]) (by kernel_rfl) (by simp) ?_
      refine (allReady_put (some 15) rfl rfl (fun K hK => ?_) (allReady_put (some 9) rfl rfl (fun K hK => ?_) AllReadyH.nil))
      · go_simp
        (with_reducible refine (HPT.out _).mono ?_)
        rintro e xv61 ⟨rfl, dv61⟩
        have Bv61 := Lib.hid (Bv60.out.trans (dv61.mono (Nat.le_trans (Nat.le_refl _) Bv60.out.size)))
        have Nv61_8 := Lib.hid (Nv60.out.below dv61 mv60)
        have mv61_8 := Nat.lt_of_lt_of_le mv60 dv61.size
        clear dv61
        refine hK.out _ _ (by exact ⟨Bv61.out, (Below.cell (Bv61.out) (p := ⟨w.heap.size, 0, none⟩) lt0).trans m0, (Below.cell (Bv61.out) (p := ⟨w.heap.size, 1, none⟩) lt0).trans m1, (Below.cell (Bv61.out) (p := ⟨w.heap.size, 2, none⟩) lt0).trans m2⟩) (fun hHeld => ?_)
        clear hK K
        refine wpAnyH_ready (rs := [6, 12]) (by kernel_rfl) (by simp) ?_
        refine (allReady_put (some 18) rfl rfl (fun K hK => ?_) (allReady_put (some 9) rfl rfl (fun K hK => ?_) AllReadyH.nil))
        · go_simp
          (with_reducible refine (HAF.out _ (HMr.out.now Bv61.out)).mono ?_)
          rintro e xv62 ⟨rfl, dv62⟩
          have Bv62 := Lib.hid (Bv61.out.trans (dv62.mono (Nat.le_trans (Nat.le_refl _) Bv61.out.size)))
          have Nv62_8 := Lib.hid (Nv61_8.out.below dv62 mv61_8)
          have mv62_8 := Nat.lt_of_lt_of_le mv61_8 dv62.size
          clear dv62
          refine hK.out _ _ (by exact ⟨Bv62.out, (Below.cell (Bv62.out) (p := ⟨w.heap.size, 0, none⟩) lt0).trans m0, (Below.cell (Bv62.out) (p := ⟨w.heap.size, 1, none⟩) lt0).trans m1, (Below.cell (Bv62.out) (p := ⟨w.heap.size, 2, none⟩) lt0).trans m2⟩) (fun hHeld => ?_)
          clear hK K
          try simp only [Act.put, List.setIfInBounds_toArray, List.set_cons_zero, List.set_cons_succ]
          refine wpAnyH_put (i := 7) (v := ?v63) (some 11) rfl rfl (by kernel_rfl) (by kernel_rfl) (by kernel_rfl) (fun _ _ _ h => h) (Or.inl ⟨by kernel_rfl, ?hv63⟩) (by assumption) ?rv63
          case hv63 => (intro w hSw; (try dsimp only at hSw); go_simp; (try with_reducible rfl))
          try simp only [Act.put, List.setIfInBounds_toArray, List.set_cons_zero, List.set_cons_succ]
          refine wpAnyH_put (i := 8) (v := ?v64) (some 19) rfl rfl (by kernel_rfl) (by kernel_rfl) (by kernel_rfl) (fun _ _ _ h => h) (Or.inl ⟨by kernel_rfl, ?hv64⟩) (by assumption) ?rv64
          case hv64 => (intro w hSw; (try dsimp only at hSw); go_simp; (try with_reducible rfl))
          try simp only [Act.put, List.setIfInBounds_toArray, List.set_cons_zero, List.set_cons_succ]
          refine wpAnyH_put (i := 9) (v := ?v65) (some 20) rfl rfl (by kernel_rfl) (by kernel_rfl) (by kernel_rfl) (fun _ _ _ h => h) (Or.inl ⟨by kernel_rfl, ?hv65⟩) (by assumption) ?rv65
          case hv65 => (intro w hSw; (try dsimp only at hSw); go_simp; (try with_reducible rfl))
          try simp only [Act.put, List.setIfInBounds_toArray, List.set_cons_zero, List.set_cons_succ]
          refine wpAnyH_put (i := 10) (v := ?v66) (some 21) rfl rfl (by kernel_rfl) (by kernel_rfl) (by kernel_rfl) (fun _ _ _ h => h) (Or.inl ⟨by kernel_rfl, ?hv66⟩) (by assumption) ?rv66
          case hv66 => (intro w hSw; (try dsimp only at hSw); go_simp; (try with_reducible rfl))
          try simp only [Act.put, List.setIfInBounds_toArray, List.set_cons_zero, List.set_cons_succ]
          refine wpAnyH_ready (rs := [12]) (by kernel_rfl) (by simp) ?_
          refine (allReady_put (some 9) rfl rfl (fun K hK => ?_) AllReadyH.nil)
          refine stepb_alloc rfl rfl rfl Bv62.out (Nat.le_trans (Nat.le_refl _) Bv62.out.size) (fun bv67 xv67 gv67 lv67 ov67 mv67 bv67_ dv67 => ?_)
          have Nv67 := Lib.hid gv67
          have Bv67 := Lib.hid bv67_
          have ev67_8 := Nat.ne_of_lt (Nat.lt_of_lt_of_le mv62_8 ov67)
          have Nv67_8 := Lib.hid (Nv62_8.out.below dv67 mv62_8)
          have mv67_8 := Nat.lt_of_lt_of_le mv62_8 dv67.size
          clear gv67 bv67_ dv67
          refine hK.out _ _ (by exact ⟨Bv67.out, (Below.cell (Bv67.out) (p := ⟨w.heap.size, 0, none⟩) lt0).trans m0, (Below.cell (Bv67.out) (p := ⟨w.heap.size, 1, none⟩) lt0).trans m1, (Below.cell (Bv67.out) (p := ⟨w.heap.size, 2, none⟩) lt0).trans m2⟩) (fun hHeld => ?_)
          clear hK K
          try simp only [Act.put, List.setIfInBounds_toArray, List.set_cons_zero, List.set_cons_succ]
          refine wpAnyH_ready (rs := [13]) (by kernel_rfl) (by simp) ?_
          refine (allReady_put (none) rfl rfl (fun K hK => ?_) AllReadyH.nil)
          refine stepb_storeN rfl rfl rfl Nv67_8.out Bv67.out lv60 rfl rfl (fun xv68 gv68 pv68 bv68_ qv68 => ?_)
          have Nv68 := Lib.hid gv68
          have Bv68 := Lib.hid bv68_
          have mv68 := Nat.lt_of_lt_of_le mv67_8 (Nat.le_of_eq qv68.symm)
          have Nv68_9 := Lib.hid (pv68 _ _ (Ne.symm ev67_8) Nv67.out)
          have mv68_9 := Nat.lt_of_lt_of_le mv67 (Nat.le_of_eq qv68.symm)
          clear gv68 pv68 bv68_ qv68
          refine hK.out _ _ (by exact ⟨Bv68.out, (Below.cell (Bv68.out) (p := ⟨w.heap.size, 0, none⟩) lt0).trans m0, (Below.cell (Bv68.out) (p := ⟨w.heap.size, 1, none⟩) lt0).trans m1, (Below.cell (Bv68.out) (p := ⟨w.heap.size, 2, none⟩) lt0).trans m2⟩) (fun hHeld => ?_)
          clear hK K
          try simp only [Act.put]
          refine wpAnyH_ready (rs := [14]) (by kernel_rfl) (by simp) ?_
          refine (allReady_put (none) rfl rfl (fun K hK => ?_) AllReadyH.nil)
          refine stepb_storeN rfl rfl rfl Nv68_9.out Bv68.out lv67 rfl rfl (fun xv69 gv69 pv69 bv69_ qv69 => ?_)
          have Nv69 := Lib.hid gv69
          have Bv69 := Lib.hid bv69_
          have mv69 := Nat.lt_of_lt_of_le mv68_9 (Nat.le_of_eq qv69.symm)
          have Nv69_8 := Lib.hid (pv69 _ _ ev67_8 Nv68.out)
          have mv69_8 := Nat.lt_of_lt_of_le mv68 (Nat.le_of_eq qv69.symm)
          clear gv69 pv69 bv69_ qv69
          refine hK.out _ _ (by exact ⟨Bv69.out, (Below.cell (Bv69.out) (p := ⟨w.heap.size, 0, none⟩) lt0).trans m0, (Below.cell (Bv69.out) (p := ⟨w.heap.size, 1, none⟩) lt0).trans m1, (Below.cell (Bv69.out) (p := ⟨w.heap.size, 2, none⟩) lt0).trans m2⟩) (fun hHeld => ?_)
          clear hK K
          try simp only [Act.put]
          refine wpAnyH_ready (rs := [15]) (by kernel_rfl) (by simp) ?_
          refine (allReady_put (some 10) rfl rfl (fun K hK => ?_) AllReadyH.nil)
          go_simp
          refine hK.out _ _ (by exact ⟨Bv69.out, (Below.cell (Bv69.out) (p := ⟨w.heap.size, 0, none⟩) lt0).trans m0, (Below.cell (Bv69.out) (p := ⟨w.heap.size, 1, none⟩) lt0).trans m1, (Below.cell (Bv69.out) (p := ⟨w.heap.size, 2, none⟩) lt0).trans m2⟩) (fun hHeld => ?_)
          clear hK K
          try simp only [Act.put, List.setIfInBounds_toArray, List.set_cons_zero, List.set_cons_succ]
          refine wpAnyH_done (by kernel_rfl) ?_ _
          go_wp2
          go_meet
          case rel => exact ⟨bv60, bv67, rfl, rfl, rfl, Nv69_8.out, mv69_8, Bv69.out, lv60⟩
        · refine stepb_alloc rfl rfl rfl Bv61.out (Nat.le_trans (Nat.le_refl _) Bv61.out.size) (fun bv71 xv71 gv71 lv71 ov71 mv71 bv71_ dv71 => ?_)
          have Nv71 := Lib.hid gv71
          have Bv71 := Lib.hid bv71_
          have ev71_8 := Nat.ne_of_lt (Nat.lt_of_lt_of_le mv61_8 ov71)
          have Nv71_8 := Lib.hid (Nv61_8.out.below dv71 mv61_8)
          have mv71_8 := Nat.lt_of_lt_of_le mv61_8 dv71.size
          clear gv71 bv71_ dv71
          refine hK.out _ _ (by exact ⟨Bv71.out, (Below.cell (Bv71.out) (p := ⟨w.heap.size, 0, none⟩) lt0).trans m0, (Below.cell (Bv71.out) (p := ⟨w.heap.size, 1, none⟩) lt0).trans m1, (Below.cell (Bv71.out) (p := ⟨w.heap.size, 2, none⟩) lt0).trans m2⟩) (fun hHeld => ?_)
          clear hK K
          try simp only [Act.put, List.setIfInBounds_toArray, List.set_cons_zero, List.set_cons_succ]
          refine wpAnyH_ready (rs := [6]) (by kernel_rfl) (by simp) ?_
          refine (allReady_put (some 18) rfl rfl (fun K hK => ?_) AllReadyH.nil)
          go_simp
          (with_reducible refine (HAF.out _ (HMr.out.now Bv71.out)).mono ?_)
          rintro e xv72 ⟨rfl, dv72⟩
          have Bv72 := Lib.hid (Bv71.out.trans (dv72.mono (Nat.le_trans (Nat.le_refl _) Bv71.out.size)))
          have Nv72_8 := Lib.hid (Nv71_8.out.below dv72 mv71_8)
          have mv72_8 := Nat.lt_of_lt_of_le mv71_8 dv72.size
          have Nv72_9 := Lib.hid (Nv71.out.below dv72 mv71)
          have mv72_9 := Nat.lt_of_lt_of_le mv71 dv72.size
          clear dv72
          refine hK.out _ _ (by exact ⟨Bv72.out, (Below.cell (Bv72.out) (p := ⟨w.heap.size, 0, none⟩) lt0).trans m0, (Below.cell (Bv72.out) (p := ⟨w.heap.size, 1, none⟩) lt0).trans m1, (Below.cell (Bv72.out) (p := ⟨w.heap.size, 2, none⟩) lt0).trans m2⟩) (fun hHeld => ?_)
          clear hK K
          try simp only [Act.put, List.setIfInBounds_toArray, List.set_cons_zero, List.set_cons_succ]
          refine wpAnyH_put (i := 7) (v := ?v73) (some 11) rfl rfl (by kernel_rfl) (by kernel_rfl) (by kernel_rfl) (fun _ _ _ h => h) (Or.inl ⟨by kernel_rfl, ?hv73⟩) (by assumption) ?rv73
          case hv73 => (intro w hSw; (try dsimp only at hSw); go_simp; (try with_reducible rfl))
          try simp only [Act.put, List.setIfInBounds_toArray, List.set_cons_zero, List.set_cons_succ]
          refine wpAnyH_put (i := 8) (v := ?v74) (some 19) rfl rfl (by kernel_rfl) (by kernel_rfl) (by kernel_rfl) (fun _ _ _ h => h) (Or.inl ⟨by kernel_rfl, ?hv74⟩) (by assumption) ?rv74
          case hv74 => (intro w hSw; (try dsimp only at hSw); go_simp; (try with_reducible rfl))
          try simp only [Act.put, List.setIfInBounds_toArray, List.set_cons_zero, List.set_cons_succ]
          refine wpAnyH_put (i := 9) (v := ?v75) (some 20) rfl rfl (by kernel_rfl) (by kernel_rfl) (by kernel_rfl) (fun _ _ _ h => h) (Or.inl ⟨by kernel_rfl, ?hv75⟩) (by assumption) ?rv75
          case hv75 => (intro w hSw; (try dsimp only at hSw); go_simp; (try with_reducible rfl))
          try simp only [Act.put, List.setIfInBounds_toArray, List.set_cons_zero, List.set_cons_succ]
          refine wpAnyH_put (i := 10) (v := ?v76) (some 21) rfl rfl (by kernel_rfl) (by kernel_rfl) (by kernel_rfl) (fun _ _ _ h => h) (Or.inl ⟨by kernel_rfl, ?hv76⟩) (by assumption) ?rv76
          case hv76 => (intro w hSw; (try dsimp only at hSw); go_simp; (try with_reducible rfl))
          try simp only [Act.put, List.setIfInBounds_toArray, List.set_cons_zero, List.set_cons_succ]
          refine wpAnyH_ready (rs := [13]) (by kernel_rfl) (by simp) ?_
          refine (allReady_put (none) rfl rfl (fun K hK => ?_) AllReadyH.nil)
          refine stepb_storeN rfl rfl rfl Nv72_8.out Bv72.out lv60 rfl rfl (fun xv77 gv77 pv77 bv77_ qv77 => ?_)
          have Nv77 := Lib.hid gv77
          have Bv77 := Lib.hid bv77_
          have mv77 := Nat.lt_of_lt_of_le mv72_8 (Nat.le_of_eq qv77.symm)
          have Nv77_9 := Lib.hid (pv77 _ _ (Ne.symm ev71_8) Nv72_9.out)
          have mv77_9 := Nat.lt_of_lt_of_le mv72_9 (Nat.le_of_eq qv77.symm)
          clear gv77 pv77 bv77_ qv77
          refine hK.out _ _ (by exact ⟨Bv77.out, (Below.cell (Bv77.out) (p := ⟨w.heap.size, 0, none⟩) lt0).trans m0, (Below.cell (Bv77.out) (p := ⟨w.heap.size, 1, none⟩) lt0).trans m1, (Below.cell (Bv77.out) (p := ⟨w.heap.size, 2, none⟩) lt0).trans m2⟩) (fun hHeld => ?_)
          clear hK K
          try simp only [Act.put]
          refine wpAnyH_ready (rs := [14]) (by kernel_rfl) (by simp) ?_
          refine (allReady_put (none) rfl rfl (fun K hK => ?_) AllReadyH.nil)
          refine stepb_storeN rfl rfl rfl Nv77_9.out Bv77.out lv71 rfl rfl (fun xv78 gv78 pv78 bv78_ qv78 => ?_)
          have Nv78 := Lib.hid gv78
          have Bv78 := Lib.hid bv78_
          have mv78 := Nat.lt_of_lt_of_le mv77_9 (Nat.le_of_eq qv78.symm)
          have Nv78_8 := Lib.hid (pv78 _ _ ev71_8 Nv77.out)
          have mv78_8 := Nat.lt_of_lt_of_le mv77 (Nat.le_of_eq qv78.symm)
          clear gv78 pv78 bv78_ qv78
          refine hK.out _ _ (by exact ⟨Bv78.out, (Below.cell (Bv78.out) (p := ⟨w.heap.size, 0, none⟩) lt0).trans m0, (Below.cell (Bv78.out) (p := ⟨w.heap.size, 1, none⟩) lt0).trans m1, (Below.cell (Bv78.out) (p := ⟨w.heap.size, 2, none⟩) lt0).trans m2⟩) (fun hHeld => ?_)
          clear hK K
          try simp only [Act.put]
          refine wpAnyH_ready (rs := [15]) (by kernel_rfl) (by simp) ?_
          refine (allReady_put (some 10) rfl rfl (fun K hK => ?_) AllReadyH.nil)
          go_simp
          refine hK.out _ _ (by exact ⟨Bv78.out, (Below.cell (Bv78.out) (p := ⟨w.heap.size, 0, none⟩) lt0).trans m0, (Below.cell (Bv78.out) (p := ⟨w.heap.size, 1, none⟩) lt0).trans m1, (Below.cell (Bv78.out) (p := ⟨w.heap.size, 2, none⟩) lt0).trans m2⟩) (fun hHeld => ?_)
          clear hK K
          try simp only [Act.put, List.setIfInBounds_toArray, List.set_cons_zero, List.set_cons_succ]
          refine wpAnyH_done (by kernel_rfl) ?_ _
          go_wp2
          go_meet
          case rel => exact ⟨bv60, bv71, rfl, rfl, rfl, Nv78_8.out, mv78_8, Bv78.out, lv60⟩
      · refine stepb_alloc rfl rfl rfl Bv60.out (Nat.le_trans (Nat.le_refl _) Bv60.out.size) (fun bv80 xv80 gv80 lv80 ov80 mv80 bv80_ dv80 => ?_)
        have Nv80 := Lib.hid gv80
        have Bv80 := Lib.hid bv80_
        have ev80_8 := Nat.ne_of_lt (Nat.lt_of_lt_of_le mv60 ov80)
        have Nv80_8 := Lib.hid (Nv60.out.below dv80 mv60)
        have mv80_8 := Nat.lt_of_lt_of_le mv60 dv80.size
        clear gv80 bv80_ dv80
        refine hK.out _ _ (by exact ⟨Bv80.out, (Below.cell (Bv80.out) (p := ⟨w.heap.size, 0, none⟩) lt0).trans m0, (Below.cell (Bv80.out) (p := ⟨w.heap.size, 1, none⟩) lt0).trans m1, (Below.cell (Bv80.out) (p := ⟨w.heap.size, 2, none⟩) lt0).trans m2⟩) (fun hHeld => ?_)
        clear hK K
        try simp only [Act.put, List.setIfInBounds_toArray, List.set_cons_zero, List.set_cons_succ]
        refine wpAnyH_ready (rs := [3]) (by kernel_rfl) (by simp) ?_
        refine (allReady_put (some 15) rfl rfl (fun K hK => ?_) AllReadyH.nil)
        go_simp
        (with_reducible refine (HPT.out _).mono ?_)
        rintro e xv81 ⟨rfl, dv81⟩
        have Bv81 := Lib.hid (Bv80.out.trans (dv81.mono (Nat.le_trans (Nat.le_refl _) Bv80.out.size)))
        have Nv81_8 := Lib.hid (Nv80_8.out.below dv81 mv80_8)
        have mv81_8 := Nat.lt_of_lt_of_le mv80_8 dv81.size
        have Nv81_9 := Lib.hid (Nv80.out.below dv81 mv80)
        have mv81_9 := Nat.lt_of_lt_of_le mv80 dv81.size
        clear dv81
        refine hK.out _ _ (by exact ⟨Bv81.out, (Below.cell (Bv81.out) (p := ⟨w.heap.size, 0, none⟩) lt0).trans m0, (Below.cell (Bv81.out) (p := ⟨w.heap.size, 1, none⟩) lt0).trans m1, (Below.cell (Bv81.out) (p := ⟨w.heap.size, 2, none⟩) lt0).trans m2⟩) (fun hHeld => ?_)
        clear hK K
        refine wpAnyH_ready (rs := [6]) (by kernel_rfl) (by simp) ?_
        refine (allReady_put (some 18) rfl rfl (fun K hK => ?_) AllReadyH.nil)
        go_simp
        (with_reducible refine (HAF.out _ (HMr.out.now Bv81.out)).mono ?_)
        rintro e xv82 ⟨rfl, dv82⟩
        have Bv82 := Lib.hid (Bv81.out.trans (dv82.mono (Nat.le_trans (Nat.le_refl _) Bv81.out.size)))
        have Nv82_8 := Lib.hid (Nv81_8.out.below dv82 mv81_8)
        have mv82_8 := Nat.lt_of_lt_of_le mv81_8 dv82.size
        have Nv82_9 := Lib.hid (Nv81_9.out.below dv82 mv81_9)
        have mv82_9 := Nat.lt_of_lt_of_le mv81_9 dv82.size
        clear dv82
        refine hK.out _ _ (by exact ⟨Bv82.out, (Below.cell (Bv82.out) (p := ⟨w.heap.size, 0, none⟩) lt0).trans m0, (Below.cell (Bv82.out) (p := ⟨w.heap.size, 1, none⟩) lt0).trans m1, (Below.cell (Bv82.out) (p := ⟨w.heap.size, 2, none⟩) lt0).trans m2⟩) (fun hHeld => ?_)
        clear hK K
        try simp only [Act.put, List.setIfInBounds_toArray, List.set_cons_zero, List.set_cons_succ]
        refine wpAnyH_put (i := 7) (v := ?v83) (some 11) rfl rfl (by kernel_rfl) (by kernel_rfl) (by kernel_rfl) (fun _ _ _ h => h) (Or.inl ⟨by kernel_rfl, ?hv83⟩) (by assumption) ?rv83
        case hv83 => (intro w hSw; (try dsimp only at hSw); go_simp; (try with_reducible rfl))
        try simp only [Act.put, List.setIfInBounds_toArray, List.set_cons_zero, List.set_cons_succ]
        refine wpAnyH_put (i := 8) (v := ?v84) (some 19) rfl rfl (by kernel_rfl) (by kernel_rfl) (by kernel_rfl) (fun _ _ _ h => h) (Or.inl ⟨by kernel_rfl, ?hv84⟩) (by assumption) ?rv84
        case hv84 => (intro w hSw; (try dsimp only at hSw); go_simp; (try with_reducible rfl))
        try simp only [Act.put, List.setIfInBounds_toArray, List.set_cons_zero, List.set_cons_succ]
        refine wpAnyH_put (i := 9) (v := ?v85) (some 20) rfl rfl (by kernel_rfl) (by kernel_rfl) (by kernel_rfl) (fun _ _ _ h => h) (Or.inl ⟨by kernel_rfl, ?hv85⟩) (by assumption) ?rv85
        case hv85 => (intro w hSw; (try dsimp only at hSw); go_simp; (try with_reducible rfl))
        try simp only [Act.put, List.setIfInBounds_toArray, List.set_cons_zero, List.set_cons_succ]
        refine wpAnyH_put (i := 10) (v := ?v86) (some 21) rfl rfl (by kernel_rfl) (by kernel_rfl) (by kernel_rfl) (fun _ _ _ h => h) (Or.inl ⟨by kernel_rfl, ?hv86⟩) (by assumption) ?rv86
        case hv86 => (intro w hSw; (try dsimp only at hSw); go_simp; (try with_reducible rfl))
        try simp only [Act.put, List.setIfInBounds_toArray, List.set_cons_zero, List.set_cons_succ]
        refine wpAnyH_ready (rs := [13]) (by kernel_rfl) (by simp) ?_
        refine (allReady_put (none) rfl rfl (fun K hK => ?_) AllReadyH.nil)
        refine stepb_storeN rfl rfl rfl Nv82_8.out Bv82.out lv60 rfl rfl (fun xv87 gv87 pv87 bv87_ qv87 => ?_)
        have Nv87 := Lib.hid gv87
        have Bv87 := Lib.hid bv87_
        have mv87 := Nat.lt_of_lt_of_le mv82_8 (Nat.le_of_eq qv87.symm)
        have Nv87_9 := Lib.hid (pv87 _ _ (Ne.symm ev80_8) Nv82_9.out)
        have mv87_9 := Nat.lt_of_lt_of_le mv82_9 (Nat.le_of_eq qv87.symm)
        clear gv87 pv87 bv87_ qv87
        refine hK.out _ _ (by exact ⟨Bv87.out, (Below.cell (Bv87.out) (p := ⟨w.heap.size, 0, none⟩) lt0).trans m0, (Below.cell (Bv87.out) (p := ⟨w.heap.size, 1, none⟩) lt0).trans m1, (Below.cell (Bv87.out) (p := ⟨w.heap.size, 2, none⟩) lt0).trans m2⟩) (fun hHeld => ?_)
        clear hK K
        try simp only [Act.put]
        refine wpAnyH_ready (rs := [14]) (by kernel_rfl) (by simp) ?_
        refine (allReady_put (none) rfl rfl (fun K hK => ?_) AllReadyH.nil)
        refine stepb_storeN rfl rfl rfl Nv87_9.out Bv87.out lv80 rfl rfl (fun xv88 gv88 pv88 bv88_ qv88 => ?_)
        have Nv88 := Lib.hid gv88
        have Bv88 := Lib.hid bv88_
        have mv88 := Nat.lt_of_lt_of_le mv87_9 (Nat.le_of_eq qv88.symm)
        have Nv88_8 := Lib.hid (pv88 _ _ ev80_8 Nv87.out)
        have mv88_8 := Nat.lt_of_lt_of_le mv87 (Nat.le_of_eq qv88.symm)
        clear gv88 pv88 bv88_ qv88
        refine hK.out _ _ (by exact ⟨Bv88.out, (Below.cell (Bv88.out) (p := ⟨w.heap.size, 0, none⟩) lt0).trans m0, (Below.cell (Bv88.out) (p := ⟨w.heap.size, 1, none⟩) lt0).trans m1, (Below.cell (Bv88.out) (p := ⟨w.heap.size, 2, none⟩) lt0).trans m2⟩) (fun hHeld => ?_)
        clear hK K
        try simp only [Act.put]
        refine wpAnyH_ready (rs := [15]) (by kernel_rfl) (by simp) ?_
        refine (allReady_put (some 10) rfl rfl (fun K hK => ?_) AllReadyH.nil)
        go_simp
        refine hK.out _ _ (by exact ⟨Bv88.out, (Below.cell (Bv88.out) (p := ⟨w.heap.size, 0, none⟩) lt0).trans m0, (Below.cell (Bv88.out) (p := ⟨w.heap.size, 1, none⟩) lt0).trans m1, (Below.cell (Bv88.out) (p := ⟨w.heap.size, 2, none⟩) lt0).trans m2⟩) (fun hHeld => ?_)
        clear hK K
        try simp only [Act.put, List.setIfInBounds_toArray, List.set_cons_zero, List.set_cons_succ]
        refine wpAnyH_done (by kernel_rfl) ?_ _
        go_wp2
        go_meet
        case rel => exact ⟨bv60, bv80, rfl, rfl, rfl, Nv88_8.out, mv88_8, Bv88.out, lv60⟩
    · refine stepb_alloc rfl rfl rfl vb0.out (Nat.le_trans (Nat.le_refl _) vb0.out.size) (fun bv90 xv90 gv90 lv90 ov90 mv90 bv90_ dv90 => ?_)
      have Nv90 := Lib.hid gv90
      have Bv90 := Lib.hid bv90_
      clear gv90 bv90_ dv90
      refine hK.out _ _ (by exact ⟨Bv90.out, (Below.cell (Bv90.out) (p := ⟨w.heap.size, 0, none⟩) lt0).trans m0, (Below.cell (Bv90.out) (p := ⟨w.heap.size, 1, none⟩) lt0).trans m1, (Below.cell (Bv90.out) (p := ⟨w.heap.size, 2, none⟩) lt0).trans m2⟩) (fun hHeld => ?_)
      clear hK K
      try simp only [Act.put, List.setIfInBounds_toArray, List.set_cons_zero, List.set_cons_succ]
      refine wpAnyH_ready (rs := [3, 11]) (by kernel_rfl) (by simp) ?_
      refine (allReady_put (some 15) rfl rfl (fun K hK => ?_) (allReady_put (some 8) rfl rfl (fun K hK => ?_) AllReadyH.nil))
      · go_simp
        (with_reducible refine (HPT.out _).mono ?_)
        rintro e xv91 ⟨rfl, dv91⟩
        have Bv91 := Lib.hid (Bv90.out.trans (dv91.mono (Nat.le_trans (Nat.le_refl _) Bv90.out.size)))
        have Nv91_9 := Lib.hid (Nv90.out.below dv91 mv90)
        have mv91_9 := Nat.lt_of_lt_of_le mv90 dv91.size
        clear dv91
        refine hK.out _ _ (by exact ⟨Bv91.out, (Below.cell (Bv91.out) (p := ⟨w.heap.size, 0, none⟩) lt0).trans m0, (Below.cell (Bv91.out) (p := ⟨w.heap.size, 1, none⟩) lt0).trans m1, (Below.cell (Bv91.out) (p := ⟨w.heap.size, 2, none⟩) lt0).trans m2⟩) (fun hHeld => ?_)
        clear hK K
        refine wpAnyH_ready (rs := [6, 11]) (by kernel_rfl) (by simp) ?_
        refine (allReady_put (some 18) rfl rfl (fun K hK => ?_) (allReady_put (some 8) rfl rfl (fun K hK => ?_) AllReadyH.nil))
        · go_simp
          (with_reducible refine (HAF.out _ (HMr.out.now Bv91.out)).mono ?_)
          rintro e xv92 ⟨rfl, dv92⟩
          have Bv92 := Lib.hid (Bv91.out.trans (dv92.mono (Nat.le_trans (Nat.le_refl _) Bv91.out.size)))
          have Nv92_9 := Lib.hid (Nv91_9.out.below dv92 mv91_9)
          have mv92_9 := Nat.lt_of_lt_of_le mv91_9 dv92.size
          clear dv92
          refine hK.out _ _ (by exact ⟨Bv92.out, (Below.cell (Bv92.out) (p := ⟨w.heap.size, 0, none⟩) lt0).trans m0, (Below.cell (Bv92.out) (p := ⟨w.heap.size, 1, none⟩) lt0).trans m1, (Below.cell (Bv92.out) (p := ⟨w.heap.size, 2, none⟩) lt0).trans m2⟩) (fun hHeld => ?_)
          clear hK K
          try simp only [Act.put, List.setIfInBounds_toArray, List.set_cons_zero, List.set_cons_succ]
          refine wpAnyH_put (i := 7) (v := ?v93) (some 11) rfl rfl (by kernel_rfl) (by kernel_rfl) (by kernel_rfl) (fun _ _ _ h => h) (Or.inl ⟨by kernel_rfl, ?hv93⟩) (by assumption) ?rv93
          case hv93 => (intro w hSw; (try dsimp only at hSw); go_simp; (try with_reducible rfl))
          try simp only [Act.put, List.setIfInBounds_toArray, List.set_cons_zero, List.set_cons_succ]
          refine wpAnyH_put (i := 8) (v := ?v94) (some 19) rfl rfl (by kernel_rfl) (by kernel_rfl) (by kernel_rfl) (fun _ _ _ h => h) (Or.inl ⟨by kernel_rfl, ?hv94⟩) (by assumption) ?rv94
          case hv94 => (intro w hSw; (try dsimp only at hSw); go_simp; (try with_reducible rfl))
          try simp only [Act.put, List.setIfInBounds_toArray, List.set_cons_zero, List.set_cons_succ]
          refine wpAnyH_put (i := 9) (v := ?v95) (some 20) rfl rfl (by kernel_rfl) (by kernel_rfl) (by kernel_rfl) (fun _ _ _ h => h) (Or.inl ⟨by kernel_rfl, ?hv95⟩) (by assumption) ?rv95
          case hv95 => (intro w hSw; (try dsimp only at hSw); go_simp; (try with_reducible rfl))
          try simp only [Act.put, List.setIfInBounds_toArray, List.set_cons_zero, List.set_cons_succ]
          refine wpAnyH_put (i := 10) (v := ?v96) (some 21) rfl rfl (by kernel_rfl) (by kernel_rfl) (by kernel_rfl) (fun _ _ _ h => h) (Or.inl ⟨by kernel_rfl, ?hv96⟩) (by assumption) ?rv96
          case hv96 => (intro w hSw; (try dsimp only at hSw); go_simp; (try with_reducible rfl))
          try simp only [Act.put, List.setIfInBounds_toArray, List.set_cons_zero, List.set_cons_succ]
          refine wpAnyH_ready (rs := [11]) (by kernel_rfl) (by simp) ?_
          refine (allReady_put (some 8) rfl rfl (fun K hK => ?_) AllReadyH.nil)
          refine stepb_alloc rfl rfl rfl Bv92.out (Nat.le_trans (Nat.le_refl _) Bv92.out.size) (fun bv97 xv97 gv97 lv97 ov97 mv97 bv97_ dv97 => ?_)
          have Nv97 := Lib.hid gv97
          have Bv97 := Lib.hid bv97_
          have ev97_9 := Nat.ne_of_lt (Nat.lt_of_lt_of_le mv92_9 ov97)
          have Nv97_9 := Lib.hid (Nv92_9.out.below dv97 mv92_9)
          have mv97_9 := Nat.lt_of_lt_of_le mv92_9 dv97.size
          clear gv97 bv97_ dv97
          refine hK.out _ _ (by exact ⟨Bv97.out, (Below.cell (Bv97.out) (p := ⟨w.heap.size, 0, none⟩) lt0).trans m0, (Below.cell (Bv97.out) (p := ⟨w.heap.size, 1, none⟩) lt0).trans m1, (Below.cell (Bv97.out) (p := ⟨w.heap.size, 2, none⟩) lt0).trans m2⟩) (fun hHeld => ?_)
          clear hK K
          try simp only [Act.put, List.setIfInBounds_toArray, List.set_cons_zero, List.set_cons_succ]
          refine wpAnyH_ready (rs := [13]) (by kernel_rfl) (by simp) ?_
          refine (allReady_put (none) rfl rfl (fun K hK => ?_) AllReadyH.nil)
          refine stepb_storeN rfl rfl rfl Nv97.out Bv97.out lv97 rfl rfl (fun xv98 gv98 pv98 bv98_ qv98 => ?_)
          have Nv98 := Lib.hid gv98
          have Bv98 := Lib.hid bv98_
          have mv98 := Nat.lt_of_lt_of_le mv97 (Nat.le_of_eq qv98.symm)
          have Nv98_9 := Lib.hid (pv98 _ _ ev97_9 Nv97_9.out)
          have mv98_9 := Nat.lt_of_lt_of_le mv97_9 (Nat.le_of_eq qv98.symm)
          clear gv98 pv98 bv98_ qv98
          refine hK.out _ _ (by exact ⟨Bv98.out, (Below.cell (Bv98.out) (p := ⟨w.heap.size, 0, none⟩) lt0).trans m0, (Below.cell (Bv98.out) (p := ⟨w.heap.size, 1, none⟩) lt0).trans m1, (Below.cell (Bv98.out) (p := ⟨w.heap.size, 2, none⟩) lt0).trans m2⟩) (fun hHeld => ?_)
          clear hK K
          try simp only [Act.put]
          refine wpAnyH_ready (rs := [14]) (by kernel_rfl) (by simp) ?_
          refine (allReady_put (none) rfl rfl (fun K hK => ?_) AllReadyH.nil)
          refine stepb_storeN rfl rfl rfl Nv98_9.out Bv98.out lv90 rfl rfl (fun xv99 gv99 pv99 bv99_ qv99 => ?_)
          have Nv99 := Lib.hid gv99
          have Bv99 := Lib.hid bv99_
          have mv99 := Nat.lt_of_lt_of_le mv98_9 (Nat.le_of_eq qv99.symm)
          have Nv99_8 := Lib.hid (pv99 _ _ (Ne.symm ev97_9) Nv98.out)
          have mv99_8 := Nat.lt_of_lt_of_le mv98 (Nat.le_of_eq qv99.symm)
          clear gv99 pv99 bv99_ qv99
          refine hK.out _ _ (by exact ⟨Bv99.out, (Below.cell (Bv99.out) (p := ⟨w.heap.size, 0, none⟩) lt0).trans m0, (Below.cell (Bv99.out) (p := ⟨w.heap.size, 1, none⟩) lt0).trans m1, (Below.cell (Bv99.out) (p := ⟨w.heap.size, 2, none⟩) lt0).trans m2⟩) (fun hHeld => ?_)
          clear hK K
          try simp only [Act.put]
          refine wpAnyH_ready (rs := [15]) (by kernel_rfl) (by simp) ?_
          refine (allReady_put (some 10) rfl rfl (fun K hK => ?_) AllReadyH.nil)
          go_simp
          refine hK.out _ _ (by exact ⟨Bv99.out, (Below.cell (Bv99.out) (p := ⟨w.heap.size, 0, none⟩) lt0).trans m0, (Below.cell (Bv99.out) (p := ⟨w.heap.size, 1, none⟩) lt0).trans m1, (Below.cell (Bv99.out) (p := ⟨w.heap.size, 2, none⟩) lt0).trans m2⟩) (fun hHeld => ?_)
          clear hK K
          try simp only [Act.put, List.setIfInBounds_toArray, List.set_cons_zero, List.set_cons_succ]
          refine wpAnyH_done (by kernel_rfl) ?_ _
          go_wp2
          go_meet
          case rel => exact ⟨bv97, bv90, rfl, rfl, rfl, Nv99_8.out, mv99_8, Bv99.out, lv97⟩
        · refine stepb_alloc rfl rfl rfl Bv91.out (Nat.le_trans (Nat.le_refl _) Bv91.out.size) (fun bv101 xv101 gv101 lv101 ov101 mv101 bv101_ dv101 => ?_)
          have Nv101 := Lib.hid gv101
          have Bv101 := Lib.hid bv101_
          have ev101_9 := Nat.ne_of_lt (Nat.lt_of_lt_of_le mv91_9 ov101)
          have Nv101_9 := Lib.hid (Nv91_9.out.below dv101 mv91_9)
          have mv101_9 := Nat.lt_of_lt_of_le mv91_9 dv101.size
          clear gv101 bv101_ dv101
          refine hK.out _ _ (by exact ⟨Bv101.out, (Below.cell (Bv101.out) (p := ⟨w.heap.size, 0, none⟩) lt0).trans m0, (Below.cell (Bv101.out) (p := ⟨w.heap.size, 1, none⟩) lt0).trans m1, (Below.cell (Bv101.out) (p := ⟨w.heap.size, 2, none⟩) lt0).trans m2⟩) (fun hHeld => ?_)
          clear hK K
          try simp only [Act.put, List.setIfInBounds_toArray, List.set_cons_zero, List.set_cons_succ]
          refine wpAnyH_ready (rs := [6]) (by kernel_rfl) (by simp) ?_
          refine (allReady_put (some 18) rfl rfl (fun K hK => ?_) AllReadyH.nil)
          go_simp
          (with_reducible refine (HAF.out _ (HMr.out.now Bv101.out)).mono ?_)
          rintro e xv102 ⟨rfl, dv102⟩
          have Bv102 := Lib.hid (Bv101.out.trans (dv102.mono (Nat.le_trans (Nat.le_refl _) Bv101.out.size)))
          have Nv102_9 := Lib.hid (Nv101_9.out.below dv102 mv101_9)
          have mv102_9 := Nat.lt_of_lt_of_le mv101_9 dv102.size
          have Nv102_8 := Lib.hid (Nv101.out.below dv102 mv101)
          have mv102_8 := Nat.lt_of_lt_of_le mv101 dv102.size
          clear dv102
          refine hK.out _ _ (by exact ⟨Bv102.out, (Below.cell (Bv102.out) (p := ⟨w.heap.size, 0, none⟩) lt0).trans m0, (Below.cell (Bv102.out) (p := ⟨w.heap.size, 1, none⟩) lt0).trans m1, (Below.cell (Bv102.out) (p := ⟨w.heap.size, 2, none⟩) lt0).trans m2⟩) (fun hHeld => ?_)
          clear hK K
          try simp only [Act.put, List.setIfInBounds_toArray, List.set_cons_zero, List.set_cons_succ]
          refine wpAnyH_put (i := 7) (v := ?v103) (some 11) rfl rfl (by kernel_rfl) (by kernel_rfl) (by kernel_rfl) (fun _ _ _ h => h) (Or.inl ⟨by kernel_rfl, ?hv103⟩) (by assumption) ?rv103
          case hv103 => (intro w hSw; (try dsimp only at hSw); go_simp; (try with_reducible rfl))
          try simp only [Act.put, List.setIfInBounds_toArray, List.set_cons_zero, List.set_cons_succ]
          refine wpAnyH_put (i := 8) (v := ?v104) (some 19) rfl rfl (by kernel_rfl) (by kernel_rfl) (by kernel_rfl) (fun _ _ _ h => h) (Or.inl ⟨by kernel_rfl, ?hv104⟩) (by assumption) ?rv104
          case hv104 => (intro w hSw; (try dsimp only at hSw); go_simp; (try with_reducible rfl))
          try simp only [Act.put, List.setIfInBounds_toArray, List.set_cons_zero, List.set_cons_succ]
          refine wpAnyH_put (i := 9) (v := ?v105) (some 20) rfl rfl (by kernel_rfl) (by kernel_rfl) (by kernel_rfl) (fun _ _ _ h => h) (Or.inl ⟨by kernel_rfl, ?hv105⟩) (by assumption) ?rv105
          case hv105 => (intro w hSw; (try dsimp only at hSw); go_simp; (try with_reducible rfl))
          try simp only [Act.put, List.setIfInBounds_toArray, List.set_cons_zero, List.set_cons_succ]
          refine wpAnyH_put (i := 10) (v := ?v106) (some 21) rfl rfl (by kernel_rfl) (by kernel_rfl) (by kernel_rfl) (fun _ _ _ h => h) (Or.inl ⟨by kernel_rfl, ?hv106⟩) (by assumption) ?rv106
          case hv106 => (intro w hSw; (try dsimp only at hSw); go_simp; (try with_reducible rfl))
          try simp only [Act.put, List.setIfInBounds_toArray, List.set_cons_zero, List.set_cons_succ]
          refine wpAnyH_ready (rs := [13]) (by kernel_rfl) (by simp) ?_
          refine (allReady_put (none) rfl rfl (fun K hK => ?_) AllReadyH.nil)
          refine stepb_storeN rfl rfl rfl Nv102_8.out Bv102.out lv101 rfl rfl (fun xv107 gv107 pv107 bv107_ qv107 => ?_)
          have Nv107 := Lib.hid gv107
          have Bv107 := Lib.hid bv107_
          have mv107 := Nat.lt_of_lt_of_le mv102_8 (Nat.le_of_eq qv107.symm)
          have Nv107_9 := Lib.hid (pv107 _ _ ev101_9 Nv102_9.out)
          have mv107_9 := Nat.lt_of_lt_of_le mv102_9 (Nat.le_of_eq qv107.symm)
          clear gv107 pv107 bv107_ qv107
          refine hK.out _ _ (by exact ⟨Bv107.out, (Below.cell (Bv107.out) (p := ⟨w.heap.size, 0, none⟩) lt0).trans m0, (Below.cell (Bv107.out) (p := ⟨w.heap.size, 1, none⟩) lt0).trans m1, (Below.cell (Bv107.out) (p := ⟨w.heap.size, 2, none⟩) lt0).trans m2⟩) (fun hHeld => ?_)
          clear hK K
          try simp only [Act.put]
          refine wpAnyH_ready (rs := [14]) (by kernel_rfl) (by simp) ?_
          refine (allReady_put (none) rfl rfl (fun K hK => ?_) AllReadyH.nil)
          refine stepb_storeN rfl rfl rfl Nv107_9.out Bv107.out lv90 rfl rfl (fun xv108 gv108 pv108 bv108_ qv108 => ?_)
          have Nv108 := Lib.hid gv108
          have Bv108 := Lib.hid bv108_
          have mv108 := Nat.lt_of_lt_of_le mv107_9 (Nat.le_of_eq qv108.symm)
          have Nv108_8 := Lib.hid (pv108 _ _ (Ne.symm ev101_9) Nv107.out)
          have mv108_8 := Nat.lt_of_lt_of_le mv107 (Nat.le_of_eq qv108.symm)
          clear gv108 pv108 bv108_ qv108
          refine hK.out _ _ (by exact ⟨Bv108.out, (Below.cell (Bv108.out) (p := ⟨w.heap.size, 0, none⟩) lt0).trans m0, (Below.cell (Bv108.out) (p := ⟨w.heap.size, 1, none⟩) lt0).trans m1, (Below.cell (Bv108.out) (p := ⟨w.heap.size, 2, none⟩) lt0).trans m2⟩) (fun hHeld => ?_)
          clear hK K
          try simp only [Act.put]
          refine wpAnyH_ready (rs := [15]) (by kernel_rfl) (by simp) ?_
          refine (allReady_put (some 10) rfl rfl (fun K hK => ?_) AllReadyH.nil)
          go_simp
          refine hK.out _ _ (by exact ⟨Bv108.out, (Below.cell (Bv108.out) (p := ⟨w.heap.size, 0, none⟩) lt0).trans m0, (Below.cell (Bv108.out) (p := ⟨w.heap.size, 1, none⟩) lt0).trans m1, (Below.cell (Bv108.out) (p := ⟨w.heap.size, 2, none⟩) lt0).trans m2⟩) (fun hHeld => ?_)
          clear hK K
          try simp only [Act.put, List.setIfInBounds_toArray, List.set_cons_zero, List.set_cons_succ]
          refine wpAnyH_done (by kernel_rfl) ?_ _
          go_wp2
          go_meet
          case rel => exact ⟨bv101, bv90, rfl, rfl, rfl, Nv108_8.out, mv108_8, Bv108.out, lv101⟩
      · refine stepb_alloc rfl rfl rfl Bv90.out (Nat.le_trans (Nat.le_refl _) Bv90.out.size) (fun bv110 xv110 gv110 lv110 ov110 mv110 bv110_ dv110 => ?_)
        have Nv110 := Lib.hid gv110
        have Bv110 := Lib.hid bv110_
        have ev110_9 := Nat.ne_of_lt (Nat.lt_of_lt_of_le mv90 ov110)
        have Nv110_9 := Lib.hid (Nv90.out.below dv110 mv90)
        have mv110_9 := Nat.lt_of_lt_of_le mv90 dv110.size
        clear gv110 bv110_ dv110
        refine hK.out _ _ (by exact ⟨Bv110.out, (Below.cell (Bv110.out) (p := ⟨w.heap.size, 0, none⟩) lt0).trans m0, (Below.cell (Bv110.out) (p := ⟨w.heap.size, 1, none⟩) lt0).trans m1, (Below.cell (Bv110.out) (p := ⟨w.heap.size, 2, none⟩) lt0).trans m2⟩) (fun hHeld => ?_)
        clear hK K
        try simp only [Act.put, List.setIfInBounds_toArray, List.set_cons_zero, List.set_cons_succ]
        refine wpAnyH_ready (rs := [3]) (by kernel_rfl) (by simp) ?_
        refine (allReady_put (some 15) rfl rfl (fun K hK => ?_) AllReadyH.nil)
        go_simp
        (with_reducible refine (HPT.out _).mono ?_)
        rintro e xv111 ⟨rfl, dv111⟩
        have Bv111 := Lib.hid (Bv110.out.trans (dv111.mono (Nat.le_trans (Nat.le_refl _) Bv110.out.size)))
        have Nv111_9 := Lib.hid (Nv110_9.out.below dv111 mv110_9)
        have mv111_9 := Nat.lt_of_lt_of_le mv110_9 dv111.size
        have Nv111_8 := Lib.hid (Nv110.out.below dv111 mv110)
        have mv111_8 := Nat.lt_of_lt_of_le mv110 dv111.size
        clear dv111
        refine hK.out _ _ (by exact ⟨Bv111.out, (Below.cell (Bv111.out) (p := ⟨w.heap.size, 0, none⟩) lt0).trans m0, (Below.cell (Bv111.out) (p := ⟨w.heap.size, 1, none⟩) lt0).trans m1, (Below.cell (Bv111.out) (p := ⟨w.heap.size, 2, none⟩) lt0).trans m2⟩) (fun hHeld => ?_)
        clear hK K
        refine wpAnyH_ready (rs := [6]) (by kernel_rfl) (by simp) ?_
        refine (allReady_put (some 18) rfl rfl (fun K hK => ?_) AllReadyH.nil)
        go_simp
        (with_reducible refine (HAF.out _ (HMr.out.now Bv111.out)).mono ?_)
        rintro e xv112 ⟨rfl, dv112⟩
        have Bv112 := Lib.hid (Bv111.out.trans (dv112.mono (Nat.le_trans (Nat.le_refl _) Bv111.out.size)))
        have Nv112_9 := Lib.hid (Nv111_9.out.below dv112 mv111_9)
        have mv112_9 := Nat.lt_of_lt_of_le mv111_9 dv112.size
        have Nv112_8 := Lib.hid (Nv111_8.out.below dv112 mv111_8)
        have mv112_8 := Nat.lt_of_lt_of_le mv111_8 dv112.size
        clear dv112
        refine hK.out _ _ (by exact ⟨Bv112.out, (Below.cell (Bv112.out) (p := ⟨w.heap.size, 0, none⟩) lt0).trans m0, (Below.cell (Bv112.out) (p := ⟨w.heap.size, 1, none⟩) lt0).trans m1, (Below.cell (Bv112.out) (p := ⟨w.heap.size, 2, none⟩) lt0).trans m2⟩) (fun hHeld => ?_)
        clear hK K
        try simp only [Act.put, List.setIfInBounds_toArray, List.set_cons_zero, List.set_cons_succ]
        refine wpAnyH_put (i := 7) (v := ?v113) (some 11) rfl rfl (by kernel_rfl) (by kernel_rfl) (by kernel_rfl) (fun _ _ _ h => h) (Or.inl ⟨by kernel_rfl, ?hv113⟩) (by assumption) ?rv113
        case hv113 => (intro w hSw; (try dsimp only at hSw); go_simp; (try with_reducible rfl))
        try simp only [Act.put, List.setIfInBounds_toArray, List.set_cons_zero, List.set_cons_succ]
        refine wpAnyH_put (i := 8) (v := ?v114) (some 19) rfl rfl (by kernel_rfl) (by kernel_rfl) (by kernel_rfl) (fun _ _ _ h => h) (Or.inl ⟨by kernel_rfl, ?hv114⟩) (by assumption) ?rv114
        case hv114 => (intro w hSw; (try dsimp only at hSw); go_simp; (try with_reducible rfl))
        try simp only [Act.put, List.setIfInBounds_toArray, List.set_cons_zero, List.set_cons_succ]
        refine wpAnyH_put (i := 9) (v := ?v115) (some 20) rfl rfl (by kernel_rfl) (by kernel_rfl) (by kernel_rfl) (fun _ _ _ h => h) (Or.inl ⟨by kernel_rfl, ?hv115⟩) (by assumption) ?rv115
        case hv115 => (intro w hSw; (try dsimp only at hSw); go_simp; (try with_reducible rfl))
        try simp only [Act.put, List.setIfInBounds_toArray, List.set_cons_zero, List.set_cons_succ]
        refine wpAnyH_put (i := 10) (v := ?v116) (some 21) rfl rfl (by kernel_rfl) (by kernel_rfl) (by kernel_rfl) (fun _ _ _ h => h) (Or.inl ⟨by kernel_rfl, ?hv116⟩) (by assumption) ?rv116
        case hv116 => (intro w hSw; (try dsimp only at hSw); go_simp; (try with_reducible rfl))
        try simp only [Act.put, List.setIfInBounds_toArray, List.set_cons_zero, List.set_cons_succ]
        refine wpAnyH_ready (rs := [13]) (by kernel_rfl) (by simp) ?_
        refine (allReady_put (none) rfl rfl (fun K hK => ?_) AllReadyH.nil)
        refine stepb_storeN rfl rfl rfl Nv112_8.out Bv112.out lv110 rfl rfl (fun xv117 gv117 pv117 bv117_ qv117 => ?_)
        have Nv117 := Lib.hid gv117
        have Bv117 := Lib.hid bv117_
        have mv117 := Nat.lt_of_lt_of_le mv112_8 (Nat.le_of_eq qv117.symm)
        have Nv117_9 := Lib.hid (pv117 _ _ ev110_9 Nv112_9.out)
        have mv117_9 := Nat.lt_of_lt_of_le mv112_9 (Nat.le_of_eq qv117.symm)
        clear gv117 pv117 bv117_ qv117
        refine hK.out _ _ (by exact ⟨Bv117.out, (Below.cell (Bv117.out) (p := ⟨w.heap.size, 0, none⟩) lt0).trans m0, (Below.cell (Bv117.out) (p := ⟨w.heap.size, 1, none⟩) lt0).trans m1, (Below.cell (Bv117.out) (p := ⟨w.heap.size, 2, none⟩) lt0).trans m2⟩) (fun hHeld => ?_)
        clear hK K
        try simp only [Act.put]
        refine wpAnyH_ready (rs := [14]) (by kernel_rfl) (by simp) ?_
        refine (allReady_put (none) rfl rfl (fun K hK => ?_) AllReadyH.nil)
        refine stepb_storeN rfl rfl rfl Nv117_9.out Bv117.out lv90 rfl rfl (fun xv118 gv118 pv118 bv118_ qv118 => ?_)
        have Nv118 := Lib.hid gv118
        have Bv118 := Lib.hid bv118_
        have mv118 := Nat.lt_of_lt_of_le mv117_9 (Nat.le_of_eq qv118.symm)
        have Nv118_8 := Lib.hid (pv118 _ _ (Ne.symm ev110_9) Nv117.out)
        have mv118_8 := Nat.lt_of_lt_of_le mv117 (Nat.le_of_eq qv118.symm)
        clear gv118 pv118 bv118_ qv118
        refine hK.out _ _ (by exact ⟨Bv118.out, (Below.cell (Bv118.out) (p := ⟨w.heap.size, 0, none⟩) lt0).trans m0, (Below.cell (Bv118.out) (p := ⟨w.heap.size, 1, none⟩) lt0).trans m1, (Below.cell (Bv118.out) (p := ⟨w.heap.size, 2, none⟩) lt0).trans m2⟩) (fun hHeld => ?_)
        clear hK K
        try simp only [Act.put]
        refine wpAnyH_ready (rs := [15]) (by kernel_rfl) (by simp) ?_
        refine (allReady_put (some 10) rfl rfl (fun K hK => ?_) AllReadyH.nil)
        go_simp
        refine hK.out _ _ (by exact ⟨Bv118.out, (Below.cell (Bv118.out) (p := ⟨w.heap.size, 0, none⟩) lt0).trans m0, (Below.cell (Bv118.out) (p := ⟨w.heap.size, 1, none⟩) lt0).trans m1, (Below.cell (Bv118.out) (p := ⟨w.heap.size, 2, none⟩) lt0).trans m2⟩) (fun hHeld => ?_)
        clear hK K
        try simp only [Act.put, List.setIfInBounds_toArray, List.set_cons_zero, List.set_cons_succ]
        refine wpAnyH_done (by kernel_rfl) ?_ _
        go_wp2
        go_meet
        case rel => exact ⟨bv110, bv90, rfl, rfl, rfl, Nv118_8.out, mv118_8, Bv118.out, lv110⟩

  case rest =>
    rename World => wx
    obtain ⟨g8, g9, rfl, rfl, rfl, h8, l8, hbx, o8⟩ := hcut
    have HB8 := Lib.hid h8
    have HBX := Lib.hid hbx
    have HR6x := Lib.hid (HR6.out.below hbx lt1)
    have lx1 : w.heap.size + 1 < wx.heap.size := Nat.lt_of_lt_of_le lt1 hbx.size
    have lw : w.heap.size ≤ wx.heap.size := by omega
    have hb8w := HBR.out.trans (hbx.mono HBR.out.size)
    have HBW := Lib.hid hb8w
    have le8 : w.heap.size ≤ g8 := by omega
    have ne86 : g8 ≠ w.heap.size + 1 := by omega
    clear h8 hbx hb8w
    go_upto_region 4 with fail
    have tN6 := Lib.hid (VCell.drew HR6x.out)
    have tm6 := size_drew lx1
    have tN8 := Lib.hid (VCell.drew HB8.out)
    have tm8 := size_drew l8
    have tb0 := Lib.hid (show Below w.heap.size wx wx.drew from (Below.refl _ _).drew)
    refine wp_region_held_drew (S := fun x => Below w.heap.size wx x ∧ x.cell? ⟨g8, 0, none⟩ = some (.complex .f64 U.1 U.2.1) ∧ x.cell? ⟨g8, 1, none⟩ = some (.float .f64 U.2.2)) (by kernel_rfl) (by exact ⟨tb0.out, tN8.out.c0, tN8.out.c1⟩) (fun hHeld => ?_)
    refine wpAnyH_put (i := 0) (v := ?t1) (some 25) rfl rfl (by kernel_rfl) (by kernel_rfl) (by kernel_rfl) (fun _ _ _ h => h) (Or.inl ⟨by kernel_rfl, ?ht1⟩) (by assumption) ?rt1
    case ht1 => (intro w hSw; (try dsimp only at hSw); go_simp; (try with_reducible rfl))
    try simp only [Act.put, List.setIfInBounds_toArray, List.set_cons_zero, List.set_cons_succ]
    refine wpAnyH_put (i := 1) (v := ?t2) (some 26) rfl rfl (by kernel_rfl) (by kernel_rfl) (by kernel_rfl) (fun _ _ _ h => h) (Or.inl ⟨by kernel_rfl, ?ht2⟩) (by assumption) ?rt2
    case ht2 => (intro w hSw; (try dsimp only at hSw); go_simp; (try with_reducible rfl))
    try simp only [Act.put, List.setIfInBounds_toArray, List.set_cons_zero, List.set_cons_succ]
    refine wpAnyH_put (i := 4) (v := ?t3) (some 29) rfl rfl (by kernel_rfl) (by kernel_rfl) (by kernel_rfl) (fun _ _ _ h => h) (Or.inl ⟨by kernel_rfl, ?ht3⟩) (by assumption) ?rt3
    case ht3 => (intro w hSw; (try dsimp only at hSw); go_simp; (try with_reducible rfl))
    try simp only [Act.put, List.setIfInBounds_toArray, List.set_cons_zero, List.set_cons_succ]
    refine wpAnyH_put (i := 7) (v := ?t4) (some 32) rfl rfl (by kernel_rfl) (by kernel_rfl) (by kernel_rfl) (fun _ _ _ h => h) (Or.inl ⟨by kernel_rfl, ?ht4⟩) (by assumption) ?rt4
    case ht4 => (intro w hSw; (try dsimp only at hSw); go_simp; (try with_reducible rfl))
    try simp only [Act.put, List.setIfInBounds_toArray, List.set_cons_zero, List.set_cons_succ]
    refine wpAnyH_ready (rs := [2]) (by kernel_rfl) (by simp) ?_
    refine (allReady_put (some 27) rfl rfl (fun K hK => ?_) AllReadyH.nil)
    go_simp
    (with_reducible refine (HPT.out _).mono ?_)
    rintro e xt5 ⟨rfl, dt5⟩
    have Bt5 := Lib.hid (tb0.out.trans (dt5.mono (Nat.le_trans lw tb0.out.size)))
    have Nt5_6 := Lib.hid (tN6.out.below dt5 tm6)
    have mt5_6 := Nat.lt_of_lt_of_le tm6 dt5.size
    have Nt5_8 := Lib.hid (tN8.out.below dt5 tm8)
    have mt5_8 := Nat.lt_of_lt_of_le tm8 dt5.size
    clear dt5
    refine hK.out _ _ (by exact ⟨Bt5.out, Nt5_8.out.c0, Nt5_8.out.c1⟩) (fun hHeld => ?_)
    clear hK K
    refine wpAnyH_ready (rs := [3]) (by kernel_rfl) (by simp) ?_
    refine (allReady_put (some 28) rfl rfl (fun K hK => ?_) AllReadyH.nil)
    go_simp
    (with_reducible refine (HSU.out _).mono ?_)
    rintro e xt6 ⟨rfl, dt6⟩
    have Bt6 := Lib.hid (Bt5.out.trans (dt6.mono (Nat.le_trans lw Bt5.out.size)))
    have Nt6_6 := Lib.hid (Nt5_6.out.below dt6 mt5_6)
    have mt6_6 := Nat.lt_of_lt_of_le mt5_6 dt6.size
    have Nt6_8 := Lib.hid (Nt5_8.out.below dt6 mt5_8)
    have mt6_8 := Nat.lt_of_lt_of_le mt5_8 dt6.size
    clear dt6
    refine hK.out _ _ (by exact ⟨Bt6.out, Nt6_8.out.c0, Nt6_8.out.c1⟩) (fun hHeld => ?_)
    clear hK K
    try simp only [Act.put, List.setIfInBounds_toArray, List.set_cons_zero, List.set_cons_succ]
    refine wpAnyH_ready (rs := [5]) (by kernel_rfl) (by simp) ?_
    refine (allReady_put (some 30) rfl rfl (fun K hK => ?_) AllReadyH.nil)
    go_simp
    (with_reducible refine (HP1.out _).mono ?_)
    rintro e xt7 ⟨rfl, dt7⟩
    have Bt7 := Lib.hid (Bt6.out.trans (dt7.mono (Nat.le_trans lw Bt6.out.size)))
    have Nt7_6 := Lib.hid (Nt6_6.out.below dt7 mt6_6)
    have mt7_6 := Nat.lt_of_lt_of_le mt6_6 dt7.size
    have Nt7_8 := Lib.hid (Nt6_8.out.below dt7 mt6_8)
    have mt7_8 := Nat.lt_of_lt_of_le mt6_8 dt7.size
    clear dt7
    refine hK.out _ _ (by exact ⟨Bt7.out, Nt7_8.out.c0, Nt7_8.out.c1⟩) (fun hHeld => ?_)
    clear hK K
    refine wpAnyH_ready (rs := [6]) (by kernel_rfl) (by simp) ?_
    refine (allReady_put (some 31) rfl rfl (fun K hK => ?_) AllReadyH.nil)
    go_simp
    (with_reducible refine (HQU.out _).mono ?_)
    rintro e xt8 ⟨rfl, dt8⟩
    have Bt8 := Lib.hid (Bt7.out.trans (dt8.mono (Nat.le_trans lw Bt7.out.size)))
    have Nt8_6 := Lib.hid (Nt7_6.out.below dt8 mt7_6)
    have mt8_6 := Nat.lt_of_lt_of_le mt7_6 dt8.size
    have Nt8_8 := Lib.hid (Nt7_8.out.below dt8 mt7_8)
    have mt8_8 := Nat.lt_of_lt_of_le mt7_8 dt8.size
    clear dt8
    refine hK.out _ _ (by exact ⟨Bt8.out, Nt8_8.out.c0, Nt8_8.out.c1⟩) (fun hHeld => ?_)
    clear hK K
    try simp only [Act.put, List.setIfInBounds_toArray, List.set_cons_zero, List.set_cons_succ]
    refine wpAnyH_ready (rs := [8]) (by kernel_rfl) (by simp) ?_
    refine (allReady_put (some 33) rfl rfl (fun K hK => ?_) AllReadyH.nil)
    go_simp
    (with_reducible refine (HIW.out _).mono ?_)
    rintro e xt9 ⟨rfl, dt9⟩
    have Bt9 := Lib.hid (Bt8.out.trans (dt9.mono (Nat.le_trans lw Bt8.out.size)))
    have Nt9_6 := Lib.hid (Nt8_6.out.below dt9 mt8_6)
    have mt9_6 := Nat.lt_of_lt_of_le mt8_6 dt9.size
    have Nt9_8 := Lib.hid (Nt8_8.out.below dt9 mt8_8)
    have mt9_8 := Nat.lt_of_lt_of_le mt8_8 dt9.size
    clear dt9
    refine hK.out _ _ (by exact ⟨Bt9.out, Nt9_8.out.c0, Nt9_8.out.c1⟩) (fun hHeld => ?_)
    clear hK K
    try simp only [Act.put, List.setIfInBounds_toArray, List.set_cons_zero, List.set_cons_succ]
    refine wpAnyH_put (i := 9) (v := ?t10) (some 34) rfl rfl (by kernel_rfl) (by kernel_rfl) (by kernel_rfl) (fun _ _ _ h => h) (Or.inl ⟨by kernel_rfl, ?ht10⟩) (by assumption) ?rt10
    case ht10 => (intro w hSw; (try dsimp only at hSw); go_simp; (try with_reducible rfl))
    try simp only [Act.put, List.setIfInBounds_toArray, List.set_cons_zero, List.set_cons_succ]
    refine wpAnyH_ready (rs := [10]) (by kernel_rfl) (by simp) ?_
    refine (allReady_put (none) rfl rfl (fun K hK => ?_) AllReadyH.nil)
    refine stepb_storeN rfl rfl rfl Nt9_6.out Bt9.out le1 rfl rfl (fun xt11 gt11 pt11 bt11_ qt11 => ?_)
    have Nt11 := Lib.hid gt11
    have Bt11 := Lib.hid bt11_
    have mt11 := Nat.lt_of_lt_of_le mt9_6 (Nat.le_of_eq qt11.symm)
    have Nt11_8 := Lib.hid (pt11 _ _ ne86 Nt9_8.out)
    have mt11_8 := Nat.lt_of_lt_of_le mt9_8 (Nat.le_of_eq qt11.symm)
    clear gt11 pt11 bt11_ qt11
    refine hK.out _ _ (by exact ⟨Bt11.out, Nt11_8.out.c0, Nt11_8.out.c1⟩) (fun hHeld => ?_)
    clear hK K
    try simp only [Act.put]
    refine wpAnyH_ready (rs := [11]) (by kernel_rfl) (by simp) ?_
    refine (allReady_put (some 7) rfl rfl (fun K hK => ?_) AllReadyH.nil)
    go_simp
    refine hK.out _ _ (by exact ⟨Bt11.out, Nt11_8.out.c0, Nt11_8.out.c1⟩) (fun hHeld => ?_)
    clear hK K
    try simp only [Act.put, List.setIfInBounds_toArray, List.set_cons_zero, List.set_cons_succ]
    refine wpAnyH_done (by kernel_rfl) ?_ _
    go_wp2
    have k0 := Nt11.out.c0
    have k1 := Nt11.out.c1
    have hfin := HBW.out.trans Bt11.out
    exact bodyPost_ret (v := .tuple #[.agg #[.complex .f64 M.1 M.2.1, .float .f64 M.2.2], .bool true]) (by simp [results, Tryz.results233, go_sem, k0, k1]) rfl ⟨rfl, hfin⟩

end Go.Proofs.YtbgjcpnbdgljbaaGreatDoor

/- cycles' test of the map 2z at a ball about 0. -/
namespace Go.Proofs.YtbgjcpnbdgljbaaGreatDoor
open Go.RowKit Go.Fil
attribute [local irreducible] fop fsqrt fup fabs fneg pick fmax

/-- The slope over a ball about 0. -/
def SLr (r : Nat) : Bl := mulS (slP (0, 0, r)) one1
/-- How far the step turns. -/
def TNr (r : Nat) : Bl := subS (4607182418800017408, 0, 0) (mulS (subS (SLr r) (4607182418800017408, 0, 0)) QB)
/-- What the test asks for. -/
structure TOk (r : Nat) : Prop where
  may : mayS (0, 0, r) = true
  nw : isWholeS (0, 0, r) = false
  on : isWholeS (onP (0, 0, r)) = false
  sl : isWholeS (subS (SLr r) (4607182418800017408, 0, 0)) = false
  con : (contractsS MV (TNr r) r).2 = true
theorem wp_named {c : Code} {P : Program} {Q : Exit → Act → World → Prop} {a : Act} {w : World} (h : ∀ x, x = w → c.wp P Q a x) : c.wp P Q a w := h w rfl
set_option maxRecDepth 100000 in
set_option maxHeartbeats 1600000 in
theorem test0 {A1 A2 : Option Addr} {c1 c2 : Nat} {r : Nat} (hr : TOk r) {w : World} (hM : Mp w w.heap.size A1 A2) :
    Calls Tryz.prog 234 #[.agg #[.slice A1 2 c1, .slice A2 1 c2, .int .i64 1], .agg #[.complex .f64 0 0, .float .f64 r], .complex .f64 4607182418800017408 0] w (RY true w) := by
  have p1 : pointS 4607182418800017408 0 = (4607182418800017408, 0, 0) := by decide +kernel
  have HM := Lib.hid hM
  have HMV := Lib.hid (fun w (hM : Mp w w.heap.size A1 A2) => move0 (c1 := c1) (c2 := c2) hM)
  have HAF := Lib.hid (fun w (hM : Mp w w.heap.size A1 A2) => after_any (c1 := c1) (c2 := c2) (0, 0, r) hr.may hr.nw hM)
  have HP1 := Lib.hid (fun w => point_any 4607182418800017408 0 w)
  have HIW := Lib.hid (fun w => iswhole_any (onP (0, 0, r)).1 (onP (0, 0, r)).2.1 (onP (0, 0, r)).2.2 w)
  have hiw : isWholeS ((onP (0, 0, r)).1, (onP (0, 0, r)).2.1, (onP (0, 0, r)).2.2) = false := hr.on
  have HS1 := Lib.hid (fun w => bsub_any (SLr r).1 (SLr r).2.1 (SLr r).2.2 4607182418800017408 0 0 w)
  have HQU := Lib.hid (fun w => bquo_one (subS (SLr r) (4607182418800017408, 0, 0)).1 (subS (SLr r) (4607182418800017408, 0, 0)).2.1 (subS (SLr r) (4607182418800017408, 0, 0)).2.2 hr.sl w)
  have HS2 := Lib.hid (fun w => bsub_any 4607182418800017408 0 0 (mulS (subS (SLr r) (4607182418800017408, 0, 0)) QB).1 (mulS (subS (SLr r) (4607182418800017408, 0, 0)) QB).2.1 (mulS (subS (SLr r) (4607182418800017408, 0, 0)) QB).2.2 w)
  have HCO := Lib.hid (fun w => contracts_any MV.1 MV.2.1 MV.2.2 (TNr r).1 (TNr r).2.1 (TNr r).2.2 r w)
  have hco : (contractsS (MV.1, MV.2.1, MV.2.2) ((TNr r).1, (TNr r).2.1, (TNr r).2.2) r).2 = true := hr.con
  rw [p1] at HP1
  rw [hiw] at HIW
  rw [hco] at HCO
  rw [show ((SLr r).1, (SLr r).2.1, (SLr r).2.2) = SLr r from rfl] at HS1
  rw [show ((subS (SLr r) (4607182418800017408, 0, 0)).1, (subS (SLr r) (4607182418800017408, 0, 0)).2.1, (subS (SLr r) (4607182418800017408, 0, 0)).2.2) = subS (SLr r) (4607182418800017408, 0, 0) from rfl] at HQU
  rw [show ((mulS (subS (SLr r) (4607182418800017408, 0, 0)) QB).1, (mulS (subS (SLr r) (4607182418800017408, 0, 0)) QB).2.1, (mulS (subS (SLr r) (4607182418800017408, 0, 0)) QB).2.2) = mulS (subS (SLr r) (4607182418800017408, 0, 0)) QB from rfl, show subS (4607182418800017408, 0, 0) (mulS (subS (SLr r) (4607182418800017408, 0, 0)) QB) = TNr r from rfl] at HS2
  have e1 : mulS (slP (0, 0, r)) one1 = SLr r := rfl
  rw [e1] at HAF
  generalize TNr r = T at *
  generalize mulS (subS (SLr r) (4607182418800017408, 0, 0)) QB = Y at *
  generalize subS (SLr r) (4607182418800017408, 0, 0) = X at *
  generalize SLr r = V at *
  generalize onP (0, 0, r) = U at *
  generalize MV = M at *
  clear hM p1 hr hiw hco e1
  go_enter Tryz.func234, Tryz.ntmps234
  go_upto_region 6 with (first
    | (go_at_call 233; (with_reducible refine (HMV.out _ (HM.out.now (by repeat (first | exact Below.refl _ _ | refine below_drewN ?_ _ | refine Below.alloc ?_ (by first | omega | (simp; omega) | simp) _ | refine Below.setCell ?_ (by first | omega | (simp; omega) | simp) _ | refine Below.trans ?_ (Below.mono (by assumption) (by first | omega | (simp; omega) | simp)) | apply Below.drew)))).mono ?_); rintro e w1 ⟨rfl, hb1⟩; obtain ⟨hc1, hf1⟩ := bcell hb1; have s1 := hb1.size; (try simp at s1); have y1 : w.heap.size < w1.heap.size := (by omega); have y1' : w.heap.size + 1 < w1.heap.size := (by omega))
    | (go_at_call 242; (with_reducible refine (HAF.out _ (HM.out.now (by repeat (first | exact Below.refl _ _ | refine below_drewN ?_ _ | refine Below.alloc ?_ (by first | omega | (simp; omega) | simp) _ | refine Below.setCell ?_ (by first | omega | (simp; omega) | simp) _ | refine Below.trans ?_ (Below.mono (by assumption) (by first | omega | (simp; omega) | simp)) | apply Below.drew)))).mono ?_); rintro e w2 ⟨rfl, hb2⟩; obtain ⟨hc2, hf2⟩ := bcell hb2; have s2 := hb2.size; (try simp at s2); have y2 : w.heap.size < w2.heap.size := (by omega); have y2' : w.heap.size + 1 < w2.heap.size := (by omega); have y2'' : w1.heap.size < w2.heap.size := (by omega))
    | (go_at_call 60; (with_reducible refine (HIW.out _).mono ?_); rintro e w3 ⟨rfl, hb3⟩; obtain ⟨hc3, hf3⟩ := bcell hb3; have s3 := hb3.size; (try simp at s3); have y3 : w.heap.size < w3.heap.size := (by omega); have y3' : w.heap.size + 1 < w3.heap.size := (by omega); have y3'' : w1.heap.size < w3.heap.size := (by omega); have y3a : w2.heap.size < w3.heap.size := (by omega); have y3b : w2.heap.size + 1 < w3.heap.size := (by omega))
    | (go_at_call 112; (with_reducible refine (HP1.out _).mono ?_); rintro e w4 ⟨rfl, hb4⟩; obtain ⟨hc4, hf4⟩ := bcell hb4; have s4 := hb4.size; (try simp at s4); have y4 : w.heap.size < w4.heap.size := (by omega); have y4' : w.heap.size + 1 < w4.heap.size := (by omega); have y4'' : w1.heap.size < w4.heap.size := (by omega); have y4a : w2.heap.size < w4.heap.size := (by omega); have y4b : w2.heap.size + 1 < w4.heap.size := (by omega)))
  have a12 : (w4.alloc (.cells #[.complex .f64 4607182418800017408 0, .float .f64 0] 57)).cell? ⟨w4.heap.size, 0, none⟩ = some (.complex .f64 4607182418800017408 0) := by rw [World.cell?_alloc_at _ _ _ _ rfl]; rfl
  have b12 : (w4.alloc (.cells #[.complex .f64 4607182418800017408 0, .float .f64 0] 57)).cell? ⟨w4.heap.size, 1, none⟩ = some (.float .f64 0) := by rw [World.cell?_alloc_at _ _ _ _ rfl]; rfl
  have a10 : (w4.alloc (.cells #[.complex .f64 4607182418800017408 0, .float .f64 0] 57)).cell? ⟨w2.heap.size + 1, 0, none⟩ = some (.complex .f64 V.1 V.2.1) := by simp [go_sem, *]
  have b10 : (w4.alloc (.cells #[.complex .f64 4607182418800017408 0, .float .f64 0] 57)).cell? ⟨w2.heap.size + 1, 1, none⟩ = some (.float .f64 V.2.2) := by simp [go_sem, *]
  have v1 : w1.heap.size < w2.heap.size + 1 := by omega
  have v2 : w1.heap.size < w2.heap.size + 1 + 1 := by omega
  have v3 : w1.heap.size < w2.heap.size + 2 := by omega
  have a7 : (w4.alloc (.cells #[.complex .f64 4607182418800017408 0, .float .f64 0] 57)).cell? ⟨w1.heap.size, 0, none⟩ = some (.complex .f64 M.1 M.2.1) := by simp [go_sem, *]
  have b7 : (w4.alloc (.cells #[.complex .f64 4607182418800017408 0, .float .f64 0] 57)).cell? ⟨w1.heap.size, 1, none⟩ = some (.float .f64 M.2.2) := by simp [go_sem, *]
  have b4 : (w4.alloc (.cells #[.complex .f64 4607182418800017408 0, .float .f64 0] 57)).cell? ⟨w.heap.size + 1, 1, none⟩ = some (.float .f64 r) := by simp [go_sem, *]
  have hbr : Below w.heap.size w (w4.alloc (.cells #[.complex .f64 4607182418800017408 0, .float .f64 0] 57)) := by repeat (first | exact Below.refl _ _ | refine below_drewN ?_ _ | refine Below.alloc ?_ (by first | omega | (simp; omega) | simp) _ | refine Below.setCell ?_ (by first | omega | (simp; omega) | simp) _ | refine Below.trans ?_ (Below.mono (by assumption) (by first | omega | (simp; omega) | simp)) | apply Below.drew)
  have hsz : (w4.alloc (.cells #[.complex .f64 4607182418800017408 0, .float .f64 0] 57)).heap.size = w4.heap.size + 1 := by simp
  generalize w4.alloc (.cells #[.complex .f64 4607182418800017408 0, .float .f64 0] 57) = wr at *
  have l12 : w4.heap.size < wr.heap.size := by omega
  have l10 : w2.heap.size + 1 < wr.heap.size := by omega
  have l7 : w1.heap.size < wr.heap.size := by omega
  have l4 : w.heap.size + 1 < wr.heap.size := by omega
  have HBR := Lib.hid hbr
  clear hbr hsz hc1 hf1 hc2 hf2 hc3 hf3 hc4 hf4 hb1 hb2 hb3 hb4
  go_cut [13] (fun s13 wx => ∃ g13, s13 = .pointer (some ⟨g13, 0, none⟩) ∧ VCell wx g13 T ∧ g13 < wx.heap.size ∧ Below wr.heap.size wr wx)
  case first =>
    have vb0 := Lib.hid (show Below wr.heap.size wr wr.drew from (Below.refl _ _).drew)
    refine wp_region_held_drew (S := fun x => Below wr.heap.size wr x ∧ x.cell? ⟨w4.heap.size, 0, none⟩ = some (.complex .f64 4607182418800017408 0) ∧ x.cell? ⟨w4.heap.size, 1, none⟩ = some (.float .f64 0) ∧ x.cell? ⟨w2.heap.size + 1, 0, none⟩ = some (.complex .f64 V.1 V.2.1) ∧ x.cell? ⟨w2.heap.size + 1, 1, none⟩ = some (.float .f64 V.2.2)) (by kernel_rfl) (by exact ⟨vb0.out, (Below.cell (vb0.out) (p := ⟨w4.heap.size, 0, none⟩) l12).trans a12, (Below.cell (vb0.out) (p := ⟨w4.heap.size, 1, none⟩) l12).trans b12, (Below.cell (vb0.out) (p := ⟨w2.heap.size + 1, 0, none⟩) l10).trans a10, (Below.cell (vb0.out) (p := ⟨w2.heap.size + 1, 1, none⟩) l10).trans b10⟩) (fun hHeld => ?_)
    refine wpAnyH_put (i := 0) (v := ?v1) (some 45) rfl rfl (by kernel_rfl) (by kernel_rfl) (by kernel_rfl) (fun _ _ _ h => h) (Or.inl ⟨by kernel_rfl, ?hv1⟩) (by assumption) ?rv1
    case hv1 => (intro w hSw; (try dsimp only at hSw); go_simp; (try with_reducible rfl))
    try simp only [Act.put, List.setIfInBounds_toArray, List.set_cons_zero, List.set_cons_succ]
    refine wpAnyH_put (i := 1) (v := ?v2) (some 46) rfl rfl (by kernel_rfl) (by kernel_rfl) (by kernel_rfl) (fun _ _ _ h => h) (Or.inl ⟨by kernel_rfl, ?hv2⟩) (by assumption) ?rv2
    case hv2 => (intro w hSw; (try dsimp only at hSw); go_simp; (try with_reducible rfl))
    try simp only [Act.put, List.setIfInBounds_toArray, List.set_cons_zero, List.set_cons_succ]
    refine wpAnyH_put (i := 2) (v := ?v3) (some 47) rfl rfl (by kernel_rfl) (by kernel_rfl) (by kernel_rfl) (fun _ _ _ h => h) (Or.inl ⟨by kernel_rfl, ?hv3⟩) (by assumption) ?rv3
    case hv3 => (intro w hSw; (try dsimp only at hSw); go_simp; (try with_reducible rfl))
    try simp only [Act.put, List.setIfInBounds_toArray, List.set_cons_zero, List.set_cons_succ]
    refine wpAnyH_put (i := 4) (v := ?v4) (some 49) rfl rfl (by kernel_rfl) (by kernel_rfl) (by kernel_rfl) (fun _ _ _ h => h) (Or.inl ⟨by kernel_rfl, ?hv4⟩) (by assumption) ?rv4
    case hv4 => (intro w hSw; (try dsimp only at hSw); go_simp; (try with_reducible rfl))
    try simp only [Act.put, List.setIfInBounds_toArray, List.set_cons_zero, List.set_cons_succ]
    refine wpAnyH_ready (rs := [3, 8]) (by kernel_rfl) (by simp) ?_
    refine (allReady_put (some 48) rfl rfl (fun K hK => ?_) (allReady_put (some 13) rfl rfl (fun K hK => ?_) AllReadyH.nil))
    · go_simp
      (with_reducible refine (HS1.out _).mono ?_)
      rintro e xv5 ⟨rfl, dv5⟩
      have Bv5 := Lib.hid (vb0.out.trans (dv5.mono (Nat.le_trans (Nat.le_refl _) vb0.out.size)))
      clear dv5
      refine hK.out _ _ (by exact ⟨Bv5.out, (Below.cell (Bv5.out) (p := ⟨w4.heap.size, 0, none⟩) l12).trans a12, (Below.cell (Bv5.out) (p := ⟨w4.heap.size, 1, none⟩) l12).trans b12, (Below.cell (Bv5.out) (p := ⟨w2.heap.size + 1, 0, none⟩) l10).trans a10, (Below.cell (Bv5.out) (p := ⟨w2.heap.size + 1, 1, none⟩) l10).trans b10⟩) (fun hHeld => ?_)
      clear hK K
      try simp only [Act.put, List.setIfInBounds_toArray, List.set_cons_zero, List.set_cons_succ]
      refine wpAnyH_ready (rs := [5, 8]) (by kernel_rfl) (by simp) ?_
      refine (allReady_put (some 50) rfl rfl (fun K hK => ?_) (allReady_put (some 13) rfl rfl (fun K hK => ?_) AllReadyH.nil))
      · go_simp
        (with_reducible refine (HP1.out _).mono ?_)
        rintro e xv6 ⟨rfl, dv6⟩
        have Bv6 := Lib.hid (Bv5.out.trans (dv6.mono (Nat.le_trans (Nat.le_refl _) Bv5.out.size)))
        clear dv6
        refine hK.out _ _ (by exact ⟨Bv6.out, (Below.cell (Bv6.out) (p := ⟨w4.heap.size, 0, none⟩) l12).trans a12, (Below.cell (Bv6.out) (p := ⟨w4.heap.size, 1, none⟩) l12).trans b12, (Below.cell (Bv6.out) (p := ⟨w2.heap.size + 1, 0, none⟩) l10).trans a10, (Below.cell (Bv6.out) (p := ⟨w2.heap.size + 1, 1, none⟩) l10).trans b10⟩) (fun hHeld => ?_)
        clear hK K
        refine wpAnyH_ready (rs := [6, 8]) (by kernel_rfl) (by simp) ?_
        refine (allReady_put (some 51) rfl rfl (fun K hK => ?_) (allReady_put (some 13) rfl rfl (fun K hK => ?_) AllReadyH.nil))
        · go_simp
          (with_reducible refine (HQU.out _).mono ?_)
          rintro e xv7 ⟨rfl, dv7⟩
          have Bv7 := Lib.hid (Bv6.out.trans (dv7.mono (Nat.le_trans (Nat.le_refl _) Bv6.out.size)))
          clear dv7
          refine hK.out _ _ (by exact ⟨Bv7.out, (Below.cell (Bv7.out) (p := ⟨w4.heap.size, 0, none⟩) l12).trans a12, (Below.cell (Bv7.out) (p := ⟨w4.heap.size, 1, none⟩) l12).trans b12, (Below.cell (Bv7.out) (p := ⟨w2.heap.size + 1, 0, none⟩) l10).trans a10, (Below.cell (Bv7.out) (p := ⟨w2.heap.size + 1, 1, none⟩) l10).trans b10⟩) (fun hHeld => ?_)
          clear hK K
          try simp only [Act.put, List.setIfInBounds_toArray, List.set_cons_zero, List.set_cons_succ]
          refine wpAnyH_ready (rs := [7, 8]) (by kernel_rfl) (by simp) ?_
          refine (allReady_put (some 52) rfl rfl (fun K hK => ?_) (allReady_put (some 13) rfl rfl (fun K hK => ?_) AllReadyH.nil))
          · go_simp
            (with_reducible refine (HS2.out _).mono ?_)
            rintro e xv8 ⟨rfl, dv8⟩
            have Bv8 := Lib.hid (Bv7.out.trans (dv8.mono (Nat.le_trans (Nat.le_refl _) Bv7.out.size)))
            clear dv8
            refine hK.out _ _ (by exact ⟨Bv8.out, (Below.cell (Bv8.out) (p := ⟨w4.heap.size, 0, none⟩) l12).trans a12, (Below.cell (Bv8.out) (p := ⟨w4.heap.size, 1, none⟩) l12).trans b12, (Below.cell (Bv8.out) (p := ⟨w2.heap.size + 1, 0, none⟩) l10).trans a10, (Below.cell (Bv8.out) (p := ⟨w2.heap.size + 1, 1, none⟩) l10).trans b10⟩) (fun hHeld => ?_)
            clear hK K
            try simp only [Act.put, List.setIfInBounds_toArray, List.set_cons_zero, List.set_cons_succ]
            refine wpAnyH_ready (rs := [8]) (by kernel_rfl) (by simp) ?_
            refine (allReady_put (some 13) rfl rfl (fun K hK => ?_) AllReadyH.nil)
            refine stepb_alloc rfl rfl rfl Bv8.out (Nat.le_trans (Nat.le_refl _) Bv8.out.size) (fun bv9 xv9 gv9 lv9 ov9 mv9 bv9_ dv9 => ?_)
            have Nv9 := Lib.hid gv9
            have Bv9 := Lib.hid bv9_
            clear gv9 bv9_ dv9
            refine hK.out _ _ (by exact ⟨Bv9.out, (Below.cell (Bv9.out) (p := ⟨w4.heap.size, 0, none⟩) l12).trans a12, (Below.cell (Bv9.out) (p := ⟨w4.heap.size, 1, none⟩) l12).trans b12, (Below.cell (Bv9.out) (p := ⟨w2.heap.size + 1, 0, none⟩) l10).trans a10, (Below.cell (Bv9.out) (p := ⟨w2.heap.size + 1, 1, none⟩) l10).trans b10⟩) (fun hHeld => ?_)
            clear hK K
            try simp only [Act.put, List.setIfInBounds_toArray, List.set_cons_zero, List.set_cons_succ]
            refine wpAnyH_ready (rs := [9]) (by kernel_rfl) (by simp) ?_
            refine (allReady_put (none) rfl rfl (fun K hK => ?_) AllReadyH.nil)
            refine stepb_storeN rfl rfl rfl Nv9.out Bv9.out lv9 rfl rfl (fun xv10 gv10 pv10 bv10_ qv10 => ?_)
            have Nv10 := Lib.hid gv10
            have Bv10 := Lib.hid bv10_
            have mv10 := Nat.lt_of_lt_of_le mv9 (Nat.le_of_eq qv10.symm)
            clear gv10 pv10 bv10_ qv10
            refine hK.out _ _ (by exact ⟨Bv10.out, (Below.cell (Bv10.out) (p := ⟨w4.heap.size, 0, none⟩) l12).trans a12, (Below.cell (Bv10.out) (p := ⟨w4.heap.size, 1, none⟩) l12).trans b12, (Below.cell (Bv10.out) (p := ⟨w2.heap.size + 1, 0, none⟩) l10).trans a10, (Below.cell (Bv10.out) (p := ⟨w2.heap.size + 1, 1, none⟩) l10).trans b10⟩) (fun hHeld => ?_)
            clear hK K
            try simp only [Act.put]
            refine wpAnyH_done (by kernel_rfl) ?_ _
            go_wp2
            go_meet
            case rel => exact ⟨bv9, rfl, Nv10.out, mv10, Bv10.out⟩
          · refine stepb_alloc rfl rfl rfl Bv7.out (Nat.le_trans (Nat.le_refl _) Bv7.out.size) (fun bv11 xv11 gv11 lv11 ov11 mv11 bv11_ dv11 => ?_)
            have Nv11 := Lib.hid gv11
            have Bv11 := Lib.hid bv11_
            clear gv11 bv11_ dv11
            refine hK.out _ _ (by exact ⟨Bv11.out, (Below.cell (Bv11.out) (p := ⟨w4.heap.size, 0, none⟩) l12).trans a12, (Below.cell (Bv11.out) (p := ⟨w4.heap.size, 1, none⟩) l12).trans b12, (Below.cell (Bv11.out) (p := ⟨w2.heap.size + 1, 0, none⟩) l10).trans a10, (Below.cell (Bv11.out) (p := ⟨w2.heap.size + 1, 1, none⟩) l10).trans b10⟩) (fun hHeld => ?_)
            clear hK K
            try simp only [Act.put, List.setIfInBounds_toArray, List.set_cons_zero, List.set_cons_succ]
            refine wpAnyH_ready (rs := [7]) (by kernel_rfl) (by simp) ?_
            refine (allReady_put (some 52) rfl rfl (fun K hK => ?_) AllReadyH.nil)
            go_simp
            (with_reducible refine (HS2.out _).mono ?_)
            rintro e xv12 ⟨rfl, dv12⟩
            have Bv12 := Lib.hid (Bv11.out.trans (dv12.mono (Nat.le_trans (Nat.le_refl _) Bv11.out.size)))
            have Nv12_13 := Lib.hid (Nv11.out.below dv12 mv11)
            have mv12_13 := Nat.lt_of_lt_of_le mv11 dv12.size
            clear dv12
            refine hK.out _ _ (by exact ⟨Bv12.out, (Below.cell (Bv12.out) (p := ⟨w4.heap.size, 0, none⟩) l12).trans a12, (Below.cell (Bv12.out) (p := ⟨w4.heap.size, 1, none⟩) l12).trans b12, (Below.cell (Bv12.out) (p := ⟨w2.heap.size + 1, 0, none⟩) l10).trans a10, (Below.cell (Bv12.out) (p := ⟨w2.heap.size + 1, 1, none⟩) l10).trans b10⟩) (fun hHeld => ?_)
            clear hK K
            try simp only [Act.put, List.setIfInBounds_toArray, List.set_cons_zero, List.set_cons_succ]
            refine wpAnyH_ready (rs := [9]) (by kernel_rfl) (by simp) ?_
            refine (allReady_put (none) rfl rfl (fun K hK => ?_) AllReadyH.nil)
            refine stepb_storeN rfl rfl rfl Nv12_13.out Bv12.out lv11 rfl rfl (fun xv13 gv13 pv13 bv13_ qv13 => ?_)
            have Nv13 := Lib.hid gv13
            have Bv13 := Lib.hid bv13_
            have mv13 := Nat.lt_of_lt_of_le mv12_13 (Nat.le_of_eq qv13.symm)
            clear gv13 pv13 bv13_ qv13
            refine hK.out _ _ (by exact ⟨Bv13.out, (Below.cell (Bv13.out) (p := ⟨w4.heap.size, 0, none⟩) l12).trans a12, (Below.cell (Bv13.out) (p := ⟨w4.heap.size, 1, none⟩) l12).trans b12, (Below.cell (Bv13.out) (p := ⟨w2.heap.size + 1, 0, none⟩) l10).trans a10, (Below.cell (Bv13.out) (p := ⟨w2.heap.size + 1, 1, none⟩) l10).trans b10⟩) (fun hHeld => ?_)
            clear hK K
            try simp only [Act.put]
            refine wpAnyH_done (by kernel_rfl) ?_ _
            go_wp2
            go_meet
            case rel => exact ⟨bv11, rfl, Nv13.out, mv13, Bv13.out⟩
        · refine stepb_alloc rfl rfl rfl Bv6.out (Nat.le_trans (Nat.le_refl _) Bv6.out.size) (fun bv14 xv14 gv14 lv14 ov14 mv14 bv14_ dv14 => ?_)
          have Nv14 := Lib.hid gv14
          have Bv14 := Lib.hid bv14_
          clear gv14 bv14_ dv14
          refine hK.out _ _ (by exact ⟨Bv14.out, (Below.cell (Bv14.out) (p := ⟨w4.heap.size, 0, none⟩) l12).trans a12, (Below.cell (Bv14.out) (p := ⟨w4.heap.size, 1, none⟩) l12).trans b12, (Below.cell (Bv14.out) (p := ⟨w2.heap.size + 1, 0, none⟩) l10).trans a10, (Below.cell (Bv14.out) (p := ⟨w2.heap.size + 1, 1, none⟩) l10).trans b10⟩) (fun hHeld => ?_)
          clear hK K
          try simp only [Act.put, List.setIfInBounds_toArray, List.set_cons_zero, List.set_cons_succ]
          refine wpAnyH_ready (rs := [6]) (by kernel_rfl) (by simp) ?_
          refine (allReady_put (some 51) rfl rfl (fun K hK => ?_) AllReadyH.nil)
          go_simp
          (with_reducible refine (HQU.out _).mono ?_)
          rintro e xv15 ⟨rfl, dv15⟩
          have Bv15 := Lib.hid (Bv14.out.trans (dv15.mono (Nat.le_trans (Nat.le_refl _) Bv14.out.size)))
          have Nv15_13 := Lib.hid (Nv14.out.below dv15 mv14)
          have mv15_13 := Nat.lt_of_lt_of_le mv14 dv15.size
          clear dv15
          refine hK.out _ _ (by exact ⟨Bv15.out, (Below.cell (Bv15.out) (p := ⟨w4.heap.size, 0, none⟩) l12).trans a12, (Below.cell (Bv15.out) (p := ⟨w4.heap.size, 1, none⟩) l12).trans b12, (Below.cell (Bv15.out) (p := ⟨w2.heap.size + 1, 0, none⟩) l10).trans a10, (Below.cell (Bv15.out) (p := ⟨w2.heap.size + 1, 1, none⟩) l10).trans b10⟩) (fun hHeld => ?_)
          clear hK K
          try simp only [Act.put, List.setIfInBounds_toArray, List.set_cons_zero, List.set_cons_succ]
          refine wpAnyH_ready (rs := [7]) (by kernel_rfl) (by simp) ?_
          refine (allReady_put (some 52) rfl rfl (fun K hK => ?_) AllReadyH.nil)
          go_simp
          (with_reducible refine (HS2.out _).mono ?_)
          rintro e xv16 ⟨rfl, dv16⟩
          have Bv16 := Lib.hid (Bv15.out.trans (dv16.mono (Nat.le_trans (Nat.le_refl _) Bv15.out.size)))
          have Nv16_13 := Lib.hid (Nv15_13.out.below dv16 mv15_13)
          have mv16_13 := Nat.lt_of_lt_of_le mv15_13 dv16.size
          clear dv16
          refine hK.out _ _ (by exact ⟨Bv16.out, (Below.cell (Bv16.out) (p := ⟨w4.heap.size, 0, none⟩) l12).trans a12, (Below.cell (Bv16.out) (p := ⟨w4.heap.size, 1, none⟩) l12).trans b12, (Below.cell (Bv16.out) (p := ⟨w2.heap.size + 1, 0, none⟩) l10).trans a10, (Below.cell (Bv16.out) (p := ⟨w2.heap.size + 1, 1, none⟩) l10).trans b10⟩) (fun hHeld => ?_)
          clear hK K
          try simp only [Act.put, List.setIfInBounds_toArray, List.set_cons_zero, List.set_cons_succ]
          refine wpAnyH_ready (rs := [9]) (by kernel_rfl) (by simp) ?_
          refine (allReady_put (none) rfl rfl (fun K hK => ?_) AllReadyH.nil)
          refine stepb_storeN rfl rfl rfl Nv16_13.out Bv16.out lv14 rfl rfl (fun xv17 gv17 pv17 bv17_ qv17 => ?_)
          have Nv17 := Lib.hid gv17
          have Bv17 := Lib.hid bv17_
          have mv17 := Nat.lt_of_lt_of_le mv16_13 (Nat.le_of_eq qv17.symm)
          clear gv17 pv17 bv17_ qv17
          refine hK.out _ _ (by exact ⟨Bv17.out, (Below.cell (Bv17.out) (p := ⟨w4.heap.size, 0, none⟩) l12).trans a12, (Below.cell (Bv17.out) (p := ⟨w4.heap.size, 1, none⟩) l12).trans b12, (Below.cell (Bv17.out) (p := ⟨w2.heap.size + 1, 0, none⟩) l10).trans a10, (Below.cell (Bv17.out) (p := ⟨w2.heap.size + 1, 1, none⟩) l10).trans b10⟩) (fun hHeld => ?_)
          clear hK K
          try simp only [Act.put]
          refine wpAnyH_done (by kernel_rfl) ?_ _
          go_wp2
          go_meet
          case rel => exact ⟨bv14, rfl, Nv17.out, mv17, Bv17.out⟩
      · refine stepb_alloc rfl rfl rfl Bv5.out (Nat.le_trans (Nat.le_refl _) Bv5.out.size) (fun bv18 xv18 gv18 lv18 ov18 mv18 bv18_ dv18 => ?_)
        have Nv18 := Lib.hid gv18
        have Bv18 := Lib.hid bv18_
        clear gv18 bv18_ dv18
        refine hK.out _ _ (by exact ⟨Bv18.out, (Below.cell (Bv18.out) (p := ⟨w4.heap.size, 0, none⟩) l12).trans a12, (Below.cell (Bv18.out) (p := ⟨w4.heap.size, 1, none⟩) l12).trans b12, (Below.cell (Bv18.out) (p := ⟨w2.heap.size + 1, 0, none⟩) l10).trans a10, (Below.cell (Bv18.out) (p := ⟨w2.heap.size + 1, 1, none⟩) l10).trans b10⟩) (fun hHeld => ?_)
        clear hK K
        try simp only [Act.put, List.setIfInBounds_toArray, List.set_cons_zero, List.set_cons_succ]
        refine wpAnyH_ready (rs := [5]) (by kernel_rfl) (by simp) ?_
        refine (allReady_put (some 50) rfl rfl (fun K hK => ?_) AllReadyH.nil)
        go_simp
        (with_reducible refine (HP1.out _).mono ?_)
        rintro e xv19 ⟨rfl, dv19⟩
        have Bv19 := Lib.hid (Bv18.out.trans (dv19.mono (Nat.le_trans (Nat.le_refl _) Bv18.out.size)))
        have Nv19_13 := Lib.hid (Nv18.out.below dv19 mv18)
        have mv19_13 := Nat.lt_of_lt_of_le mv18 dv19.size
        clear dv19
        refine hK.out _ _ (by exact ⟨Bv19.out, (Below.cell (Bv19.out) (p := ⟨w4.heap.size, 0, none⟩) l12).trans a12, (Below.cell (Bv19.out) (p := ⟨w4.heap.size, 1, none⟩) l12).trans b12, (Below.cell (Bv19.out) (p := ⟨w2.heap.size + 1, 0, none⟩) l10).trans a10, (Below.cell (Bv19.out) (p := ⟨w2.heap.size + 1, 1, none⟩) l10).trans b10⟩) (fun hHeld => ?_)
        clear hK K
        refine wpAnyH_ready (rs := [6]) (by kernel_rfl) (by simp) ?_
        refine (allReady_put (some 51) rfl rfl (fun K hK => ?_) AllReadyH.nil)
        go_simp
        (with_reducible refine (HQU.out _).mono ?_)
        rintro e xv20 ⟨rfl, dv20⟩
        have Bv20 := Lib.hid (Bv19.out.trans (dv20.mono (Nat.le_trans (Nat.le_refl _) Bv19.out.size)))
        have Nv20_13 := Lib.hid (Nv19_13.out.below dv20 mv19_13)
        have mv20_13 := Nat.lt_of_lt_of_le mv19_13 dv20.size
        clear dv20
        refine hK.out _ _ (by exact ⟨Bv20.out, (Below.cell (Bv20.out) (p := ⟨w4.heap.size, 0, none⟩) l12).trans a12, (Below.cell (Bv20.out) (p := ⟨w4.heap.size, 1, none⟩) l12).trans b12, (Below.cell (Bv20.out) (p := ⟨w2.heap.size + 1, 0, none⟩) l10).trans a10, (Below.cell (Bv20.out) (p := ⟨w2.heap.size + 1, 1, none⟩) l10).trans b10⟩) (fun hHeld => ?_)
        clear hK K
        try simp only [Act.put, List.setIfInBounds_toArray, List.set_cons_zero, List.set_cons_succ]
        refine wpAnyH_ready (rs := [7]) (by kernel_rfl) (by simp) ?_
        refine (allReady_put (some 52) rfl rfl (fun K hK => ?_) AllReadyH.nil)
        go_simp
        (with_reducible refine (HS2.out _).mono ?_)
        rintro e xv21 ⟨rfl, dv21⟩
        have Bv21 := Lib.hid (Bv20.out.trans (dv21.mono (Nat.le_trans (Nat.le_refl _) Bv20.out.size)))
        have Nv21_13 := Lib.hid (Nv20_13.out.below dv21 mv20_13)
        have mv21_13 := Nat.lt_of_lt_of_le mv20_13 dv21.size
        clear dv21
        refine hK.out _ _ (by exact ⟨Bv21.out, (Below.cell (Bv21.out) (p := ⟨w4.heap.size, 0, none⟩) l12).trans a12, (Below.cell (Bv21.out) (p := ⟨w4.heap.size, 1, none⟩) l12).trans b12, (Below.cell (Bv21.out) (p := ⟨w2.heap.size + 1, 0, none⟩) l10).trans a10, (Below.cell (Bv21.out) (p := ⟨w2.heap.size + 1, 1, none⟩) l10).trans b10⟩) (fun hHeld => ?_)
        clear hK K
        try simp only [Act.put, List.setIfInBounds_toArray, List.set_cons_zero, List.set_cons_succ]
        refine wpAnyH_ready (rs := [9]) (by kernel_rfl) (by simp) ?_
        refine (allReady_put (none) rfl rfl (fun K hK => ?_) AllReadyH.nil)
        refine stepb_storeN rfl rfl rfl Nv21_13.out Bv21.out lv18 rfl rfl (fun xv22 gv22 pv22 bv22_ qv22 => ?_)
        have Nv22 := Lib.hid gv22
        have Bv22 := Lib.hid bv22_
        have mv22 := Nat.lt_of_lt_of_le mv21_13 (Nat.le_of_eq qv22.symm)
        clear gv22 pv22 bv22_ qv22
        refine hK.out _ _ (by exact ⟨Bv22.out, (Below.cell (Bv22.out) (p := ⟨w4.heap.size, 0, none⟩) l12).trans a12, (Below.cell (Bv22.out) (p := ⟨w4.heap.size, 1, none⟩) l12).trans b12, (Below.cell (Bv22.out) (p := ⟨w2.heap.size + 1, 0, none⟩) l10).trans a10, (Below.cell (Bv22.out) (p := ⟨w2.heap.size + 1, 1, none⟩) l10).trans b10⟩) (fun hHeld => ?_)
        clear hK K
        try simp only [Act.put]
        refine wpAnyH_done (by kernel_rfl) ?_ _
        go_wp2
        go_meet
        case rel => exact ⟨bv18, rfl, Nv22.out, mv22, Bv22.out⟩
    · refine stepb_alloc rfl rfl rfl vb0.out (Nat.le_trans (Nat.le_refl _) vb0.out.size) (fun bv23 xv23 gv23 lv23 ov23 mv23 bv23_ dv23 => ?_)
      have Nv23 := Lib.hid gv23
      have Bv23 := Lib.hid bv23_
      clear gv23 bv23_ dv23
      refine hK.out _ _ (by exact ⟨Bv23.out, (Below.cell (Bv23.out) (p := ⟨w4.heap.size, 0, none⟩) l12).trans a12, (Below.cell (Bv23.out) (p := ⟨w4.heap.size, 1, none⟩) l12).trans b12, (Below.cell (Bv23.out) (p := ⟨w2.heap.size + 1, 0, none⟩) l10).trans a10, (Below.cell (Bv23.out) (p := ⟨w2.heap.size + 1, 1, none⟩) l10).trans b10⟩) (fun hHeld => ?_)
      clear hK K
      try simp only [Act.put, List.setIfInBounds_toArray, List.set_cons_zero, List.set_cons_succ]
      refine wpAnyH_ready (rs := [3]) (by kernel_rfl) (by simp) ?_
      refine (allReady_put (some 48) rfl rfl (fun K hK => ?_) AllReadyH.nil)
      go_simp
      (with_reducible refine (HS1.out _).mono ?_)
      rintro e xv24 ⟨rfl, dv24⟩
      have Bv24 := Lib.hid (Bv23.out.trans (dv24.mono (Nat.le_trans (Nat.le_refl _) Bv23.out.size)))
      have Nv24_13 := Lib.hid (Nv23.out.below dv24 mv23)
      have mv24_13 := Nat.lt_of_lt_of_le mv23 dv24.size
      clear dv24
      refine hK.out _ _ (by exact ⟨Bv24.out, (Below.cell (Bv24.out) (p := ⟨w4.heap.size, 0, none⟩) l12).trans a12, (Below.cell (Bv24.out) (p := ⟨w4.heap.size, 1, none⟩) l12).trans b12, (Below.cell (Bv24.out) (p := ⟨w2.heap.size + 1, 0, none⟩) l10).trans a10, (Below.cell (Bv24.out) (p := ⟨w2.heap.size + 1, 1, none⟩) l10).trans b10⟩) (fun hHeld => ?_)
      clear hK K
      try simp only [Act.put, List.setIfInBounds_toArray, List.set_cons_zero, List.set_cons_succ]
      refine wpAnyH_ready (rs := [5]) (by kernel_rfl) (by simp) ?_
      refine (allReady_put (some 50) rfl rfl (fun K hK => ?_) AllReadyH.nil)
      go_simp
      (with_reducible refine (HP1.out _).mono ?_)
      rintro e xv25 ⟨rfl, dv25⟩
      have Bv25 := Lib.hid (Bv24.out.trans (dv25.mono (Nat.le_trans (Nat.le_refl _) Bv24.out.size)))
      have Nv25_13 := Lib.hid (Nv24_13.out.below dv25 mv24_13)
      have mv25_13 := Nat.lt_of_lt_of_le mv24_13 dv25.size
      clear dv25
      refine hK.out _ _ (by exact ⟨Bv25.out, (Below.cell (Bv25.out) (p := ⟨w4.heap.size, 0, none⟩) l12).trans a12, (Below.cell (Bv25.out) (p := ⟨w4.heap.size, 1, none⟩) l12).trans b12, (Below.cell (Bv25.out) (p := ⟨w2.heap.size + 1, 0, none⟩) l10).trans a10, (Below.cell (Bv25.out) (p := ⟨w2.heap.size + 1, 1, none⟩) l10).trans b10⟩) (fun hHeld => ?_)
      clear hK K
      refine wpAnyH_ready (rs := [6]) (by kernel_rfl) (by simp) ?_
      refine (allReady_put (some 51) rfl rfl (fun K hK => ?_) AllReadyH.nil)
      go_simp
      (with_reducible refine (HQU.out _).mono ?_)
      rintro e xv26 ⟨rfl, dv26⟩
      have Bv26 := Lib.hid (Bv25.out.trans (dv26.mono (Nat.le_trans (Nat.le_refl _) Bv25.out.size)))
      have Nv26_13 := Lib.hid (Nv25_13.out.below dv26 mv25_13)
      have mv26_13 := Nat.lt_of_lt_of_le mv25_13 dv26.size
      clear dv26
      refine hK.out _ _ (by exact ⟨Bv26.out, (Below.cell (Bv26.out) (p := ⟨w4.heap.size, 0, none⟩) l12).trans a12, (Below.cell (Bv26.out) (p := ⟨w4.heap.size, 1, none⟩) l12).trans b12, (Below.cell (Bv26.out) (p := ⟨w2.heap.size + 1, 0, none⟩) l10).trans a10, (Below.cell (Bv26.out) (p := ⟨w2.heap.size + 1, 1, none⟩) l10).trans b10⟩) (fun hHeld => ?_)
      clear hK K
      try simp only [Act.put, List.setIfInBounds_toArray, List.set_cons_zero, List.set_cons_succ]
      refine wpAnyH_ready (rs := [7]) (by kernel_rfl) (by simp) ?_
      refine (allReady_put (some 52) rfl rfl (fun K hK => ?_) AllReadyH.nil)
      go_simp
      (with_reducible refine (HS2.out _).mono ?_)
      rintro e xv27 ⟨rfl, dv27⟩
      have Bv27 := Lib.hid (Bv26.out.trans (dv27.mono (Nat.le_trans (Nat.le_refl _) Bv26.out.size)))
      have Nv27_13 := Lib.hid (Nv26_13.out.below dv27 mv26_13)
      have mv27_13 := Nat.lt_of_lt_of_le mv26_13 dv27.size
      clear dv27
      refine hK.out _ _ (by exact ⟨Bv27.out, (Below.cell (Bv27.out) (p := ⟨w4.heap.size, 0, none⟩) l12).trans a12, (Below.cell (Bv27.out) (p := ⟨w4.heap.size, 1, none⟩) l12).trans b12, (Below.cell (Bv27.out) (p := ⟨w2.heap.size + 1, 0, none⟩) l10).trans a10, (Below.cell (Bv27.out) (p := ⟨w2.heap.size + 1, 1, none⟩) l10).trans b10⟩) (fun hHeld => ?_)
      clear hK K
      try simp only [Act.put, List.setIfInBounds_toArray, List.set_cons_zero, List.set_cons_succ]
      refine wpAnyH_ready (rs := [9]) (by kernel_rfl) (by simp) ?_
      refine (allReady_put (none) rfl rfl (fun K hK => ?_) AllReadyH.nil)
      refine stepb_storeN rfl rfl rfl Nv27_13.out Bv27.out lv23 rfl rfl (fun xv28 gv28 pv28 bv28_ qv28 => ?_)
      have Nv28 := Lib.hid gv28
      have Bv28 := Lib.hid bv28_
      have mv28 := Nat.lt_of_lt_of_le mv27_13 (Nat.le_of_eq qv28.symm)
      clear gv28 pv28 bv28_ qv28
      refine hK.out _ _ (by exact ⟨Bv28.out, (Below.cell (Bv28.out) (p := ⟨w4.heap.size, 0, none⟩) l12).trans a12, (Below.cell (Bv28.out) (p := ⟨w4.heap.size, 1, none⟩) l12).trans b12, (Below.cell (Bv28.out) (p := ⟨w2.heap.size + 1, 0, none⟩) l10).trans a10, (Below.cell (Bv28.out) (p := ⟨w2.heap.size + 1, 1, none⟩) l10).trans b10⟩) (fun hHeld => ?_)
      clear hK K
      try simp only [Act.put]
      refine wpAnyH_done (by kernel_rfl) ?_ _
      go_wp2
      go_meet
      case rel => exact ⟨bv23, rfl, Nv28.out, mv28, Bv28.out⟩

  case rest =>
    rename World => wx
    obtain ⟨g13, rfl, h13, l13, hbx⟩ := hcut
    have x0 := h13.c0
    have x1 := h13.c1
    have x2 := (hbx.cell (p := ⟨w1.heap.size, 0, none⟩) l7).trans a7
    have x3 := (hbx.cell (p := ⟨w1.heap.size, 1, none⟩) l7).trans b7
    have x4 := (hbx.cell (p := ⟨w.heap.size + 1, 1, none⟩) l4).trans b4
    have hbw := HBR.out.trans (hbx.mono HBR.out.size)
    have HBW := Lib.hid hbw
    clear h13 hbx hbw a12 b12 a10 b10 a7 b7 b4
    go_wp2_with (go_at_call 117; (with_reducible refine (HCO.out _).mono ?_); rintro e w5 ⟨q, rfl, hb5⟩)
    go_ret
    exact ⟨rfl, HBW.out.trans (hb5.mono HBW.out.size)⟩
end Go.Proofs.YtbgjcpnbdgljbaaGreatDoor
