/- Division by z less r, coefficient by coefficient. No program is in sight. -/
import Derived.Test.YtbgjcpnbdgljbaaGreatDoorMRat
import Derived.Test.YtbgjcpnbdgljbaaGreatDoorMLaw
import Derived.Deep.MidRow
import Derived.Deep.RegionHeld3
namespace Go.Fil
open Go

/-- The k-th of the sums that division makes. -/
def zqk (r : Zi) (p : List Zi) (k : Nat) : Zi := (zquo r (p.drop k)).1
theorem zqk_last {r : Zi} {p : List Zi} {k : Nat} (h : k + 1 = p.length) : zqk r p k = zpl p k := by
  have h2 : p.drop k = [p[k]'(by omega)] := by
    rw [List.drop_eq_getElem_cons (by omega), List.drop_eq_nil_of_le (by omega)]
  unfold zqk zpl
  rw [h2, zquo, List.getD_eq_getElem?_getD, List.getElem?_eq_getElem (by omega)]; rfl
theorem zqk_step {r : Zi} {p : List Zi} {k : Nat} (h : k + 1 < p.length) : zqk r p k = zadd (zpl p k) (zmul r (zqk r p (k + 1))) := by
  have h1 : p.drop k = p[k]'(by omega) :: p.drop (k + 1) := List.drop_eq_getElem_cons (by omega)
  have h2 : p.drop (k + 1) = p[k + 1] :: p.drop (k + 2) := List.drop_eq_getElem_cons h
  unfold zqk zpl
  rw [h1, h2, zquo, List.getD_eq_getElem?_getD, List.getElem?_eq_getElem (by omega)]; rfl
theorem zquo_nth {r : Zi} {p : List Zi} {j : Nat} (h : j + 1 < p.length) : zpl (zquo r p).2 j = zqk r p (j + 1) := by
  induction p generalizing j with
  | nil => simp at h
  | cons c q ih =>
    cases q with
    | nil => simp at h
    | cons d q =>
      rw [zquo]
      cases j with
      | zero => rfl
      | succ j =>
        rw [zpl_cons_succ, ih (by simpa using h)]; rfl
theorem zqk_bound {r : Zi} {p : List Zi} {C G : Nat} (hp : ∀ c ∈ p, zn c ≤ C) (hr : zn r ≤ G) (hG : 1 ≤ G) (k : Nat) : zn (zqk r p k) ≤ C * geo G p.length := by
  unfold zqk
  refine Nat.le_trans (zn_zquo (fun c hc => hp c (List.mem_of_mem_drop hc)) hr).1 (Nat.mul_le_mul_left _ (geo_mono G hG ?_))
  rw [List.length_drop]; omega
theorem zquo_top {r : Zi} {p : List Zi} {n : Nat} (h : p.length = n + 2) : zpl (zquo r p).2 n = zpl p (n + 1) := by
  rw [zquo_nth (by omega), zqk_last (by omega)]
end Go.Fil

/- Walking over variables that hold whole complex numbers. -/
namespace Go.Proofs.YtbgjcpnbdgljbaaGreatDoor
open Go.RowKit Go.Fil Go.Shelf

/-- A whole complex number as a value. -/
def gv (z : Zi) : Value := .agg #[.bool (dn (wd z.re)), .string (ds (wd z.re)), .int .i64 (wd z.re).e, .bool (dn (wd z.im)), .string (ds (wd z.im)), .int .i64 (wd z.im).e]
theorem gv_zero : (.agg #[.bool false, .string ⟨#[]⟩, .int .i64 0, .bool false, .string ⟨#[]⟩, .int .i64 0] : Value) = gv z0 := by unfold gv; exact z0_val.symm
theorem setZ_other {w : World} {G b : Nat} (hne : G ≠ b) (z : Zi) (o : Nat) : (setZ w b z).cell? ⟨G, o, none⟩ = w.cell? ⟨G, o, none⟩ ∧ (setZ w b z).frozen? ⟨G, o, none⟩ = w.frozen? ⟨G, o, none⟩ := by
  unfold setZ
  exact ⟨by simp [go_sem], by simp [go_sem]⟩
theorem NCell.other {w : World} {G b : Nat} {y : Zi} (h : NCell w G y) (hne : G ≠ b) (z : Zi) : NCell (setZ w b z) G y :=
  ⟨⟨(setZ_other hne z 0).1.trans h.n.1, (setZ_other hne z 1).1.trans h.n.2.1, (setZ_other hne z 2).1.trans h.n.2.2.1, (setZ_other hne z 3).1.trans h.n.2.2.2.1, (setZ_other hne z 4).1.trans h.n.2.2.2.2.1, (setZ_other hne z 5).1.trans h.n.2.2.2.2.2⟩, fun o => (setZ_other hne z o).2.trans (h.f o)⟩
/-- Variables that hold whole numbers, all different, laid since a world. -/
structure Env (B : Nat) (w1 w : World) (l : List (Nat × Zi)) : Prop where
  hB : B ≤ w1.heap.size
  be : Below B w1 w
  cell : ∀ p, p ∈ l → NCell w p.1 p.2
  lo : ∀ p, p ∈ l → B ≤ p.1 ∧ p.1 < w.heap.size
  ne : l.Pairwise fun p q => p.1 ≠ q.1
theorem Env.size {B : Nat} {w1 w : World} {l : List (Nat × Zi)} (h : Env B w1 w l) : B ≤ w.heap.size := Nat.le_trans h.hB h.be.size
theorem Env.start {B : Nat} {w : World} (h : B ≤ w.heap.size) : Env B w w [] := ⟨h, Below.refl _ _, (fun _ h => by cases h), (fun _ h => by cases h), List.Pairwise.nil⟩
theorem Env.below {B : Nat} {w1 w w' : World} {l : List (Nat × Zi)} (h : Env B w1 w l) (hb : Below w.heap.size w w') : Env B w1 w' l :=
  ⟨h.hB, h.be.trans (hb.mono h.size), fun p hp => (h.cell p hp).below hb (h.lo p hp).2, fun p hp => ⟨(h.lo p hp).1, Nat.lt_of_lt_of_le (h.lo p hp).2 hb.size⟩, h.ne⟩
theorem Env.new {B : Nat} {w1 w : World} {l : List (Nat × Zi)} (h : Env B w1 w l) : Env B w1 (w.alloc (.cells #[.bool false, .string ⟨#[]⟩, .int .i64 0, .bool false, .string ⟨#[]⟩, .int .i64 0] 31)) ((w.heap.size, z0) :: l) := by
  have h2 := h.below (alloc_below w (.cells #[.bool false, .string ⟨#[]⟩, .int .i64 0, .bool false, .string ⟨#[]⟩, .int .i64 0] 31))
  refine ⟨h2.hB, h2.be, fun p hp => ?_, fun p hp => ?_, ?_⟩
  · rcases List.mem_cons.1 hp with rfl | hp
    · exact NCell.zero w _
    · exact h2.cell p hp
  · rcases List.mem_cons.1 hp with rfl | hp
    · exact ⟨h.size, by simp⟩
    · exact h2.lo p hp
  · refine List.pairwise_cons.2 ⟨fun p hp => ?_, h.ne⟩
    have := (h.lo p hp).2
    show w.heap.size ≠ p.1
    omega
theorem Env.newOf {B : Nat} {w1 w : World} {l : List (Nat × Zi)} (h : Env B w1 w l) (z : Zi) : Env B w1 (w.alloc (.cells #[.bool (dn (wd z.re)), .string (ds (wd z.re)), .int .i64 (wd z.re).e, .bool (dn (wd z.im)), .string (ds (wd z.im)), .int .i64 (wd z.im).e] 31)) ((w.heap.size, z) :: l) := by
  have h2 := h.below (alloc_below w (.cells #[.bool (dn (wd z.re)), .string (ds (wd z.re)), .int .i64 (wd z.re).e, .bool (dn (wd z.im)), .string (ds (wd z.im)), .int .i64 (wd z.im).e] 31))
  refine ⟨h2.hB, h2.be, fun p hp => ?_, fun p hp => ?_, ?_⟩
  · rcases List.mem_cons.1 hp with rfl | hp
    · exact NCell.new w _ _
    · exact h2.cell p hp
  · rcases List.mem_cons.1 hp with rfl | hp
    · exact ⟨h.size, by simp⟩
    · exact h2.lo p hp
  · refine List.pairwise_cons.2 ⟨fun p hp => ?_, h.ne⟩
    have := (h.lo p hp).2
    show w.heap.size ≠ p.1
    omega
theorem Env.set {B : Nat} {w1 w : World} {l : List (Nat × Zi)} (h : Env B w1 w l) {i b : Nat} {y : Zi} (hi : l[i]? = some (b, y)) (z : Zi) : Env B w1 (setZ w b z) (l.set i (b, z)) := by
  have hil : i < l.length := (List.getElem?_eq_some_iff.1 hi).1
  have hie : l[i] = (b, y) := (List.getElem?_eq_some_iff.1 hi).2
  have hm : (b, y) ∈ l := hie ▸ List.getElem_mem hil
  have hlo := h.lo _ hm
  have hfst : (l.set i (b, z)).map (·.1) = l.map (·.1) := by
    rw [List.map_set]
    apply List.ext_getElem?
    intro k
    rw [List.getElem?_set]
    split
    · rename_i hk
      subst hk
      rw [List.getElem?_map, hi]; simp [hil]
    · rfl
  have hmem : ∀ p, p ∈ l.set i (b, z) → p = (b, z) ∨ (p ∈ l ∧ p.1 ≠ b) := by
    intro p hp
    obtain ⟨k, hk, rfl⟩ := List.getElem_of_mem hp
    rw [List.getElem_set]
    split
    · exact .inl rfl
    · rename_i hki
      have hk2 : k < l.length := by simpa using hk
      refine .inr ⟨List.getElem_mem hk2, ?_⟩
      have hpw := List.pairwise_iff_getElem.1 h.ne
      rcases Nat.lt_or_gt_of_ne hki with hlt | hlt
      · have := hpw i k hil hk2 hlt
        rw [hie] at this
        exact fun e => this e.symm
      · have := hpw k i hk2 hil hlt
        rw [hie] at this
        exact this
  refine ⟨h.hB, Below.setZ h.be hlo.1 z, fun p hp => ?_, fun p hp => ?_, ?_⟩
  · rcases hmem p hp with rfl | ⟨hp, hne⟩
    · exact (h.cell _ hm).set z
    · exact (h.cell p hp).other hne z
  · rw [setZ_size]
    rcases hmem p hp with rfl | ⟨hp, hne⟩
    · exact hlo
    · exact h.lo p hp
  · have h1 := h.ne
    rw [← List.pairwise_map (f := fun p : Nat × Zi => p.1) (R := fun x y => x ≠ y)] at h1 ⊢
    rw [hfst]; exact h1
theorem Env.dr {B : Nat} {w1 w : World} {l : List (Nat × Zi)} (h : Env B w1 w l) : Env B w1 w.drew l := h.below (Below.refl _ _).drew
theorem infoG6 : (Tryz.prog.info? 31).map (·.size) = some 6 := by kernel_rfl
theorem zrange {w : World} {b : Nat} {z : Zi} (h : NumAt w b z) : w.rangeAt b 0 (gcells z) := by
  obtain ⟨h0, h1, h2, h3, h4, h5⟩ := h
  intro j v hv
  rw [Nat.zero_add]
  unfold gcells at hv
  match j, hv with
  | 0, hv => simp at hv; rw [← hv]; exact h0
  | 1, hv => simp at hv; rw [← hv]; exact h1
  | 2, hv => simp at hv; rw [← hv]; exact h2
  | 3, hv => simp at hv; rw [← hv]; exact h3
  | 4, hv => simp at hv; rw [← hv]; exact h4
  | 5, hv => simp at hv; rw [← hv]; exact h5
section
variable {ops : Array Oper} {rest : List Oper} {Q : Exit → Act → World → Prop} {a : Act} {w w1 : World} {l : List (Nat × Zi)} {B : Nat}
theorem wpl_load {dst : Option Nat} {t : TypeId} {pos : String} {af : Array Edge} {gd : Option (Nat × Bool)} {x : Operand} {b : Nat} {z : Zi} (hE : Env B w1 w l) (hw : Region.wanted ⟨dst, .load 31 x, t, pos, af, gd⟩ (yielded ops a.tmps) = true) (hx : a.eval x = .pointer (some ⟨b, 0, none⟩)) (hm : (b, z) ∈ l)
    (K : wpList Tryz.prog ops Q rest (a.put dst (gv z)) w) : wpList Tryz.prog ops Q (⟨dst, .load 31 x, t, pos, af, gd⟩ :: rest) a w :=
  BigFrame.wpList_want hw fun _ hK => wp_load_mid _ x rfl b 0 hx (gcells z) _ (zrange (hE.cell _ hm).n) Tryz.underlying31 rfl infoG6 (hK _ _ K)
theorem wpl_store {dst : Option Nat} {t : TypeId} {pos : String} {af : Array Edge} {x v : Operand} {i b : Nat} {y z : Zi} (hE : Env B w1 w l) (hx : a.eval x = .pointer (some ⟨b, 0, none⟩)) (hv : a.eval v = gv z) (hi : l[i]? = some (b, y))
    (K : ∀ w', Env B w1 w' (l.set i (b, z)) → wpList Tryz.prog ops Q rest (a.put dst undef) w') : wpList Tryz.prog ops Q (⟨dst, .store 31 x v, t, pos, af, none⟩ :: rest) a w := by
  have hm : (b, y) ∈ l := by
    have hil : i < l.length := (List.getElem?_eq_some_iff.1 hi).1
    have hie : l[i] = (b, y) := (List.getElem?_eq_some_iff.1 hi).2
    exact hie ▸ List.getElem_mem hil
  have hc := hE.cell _ hm
  refine wpList_store_mid rfl _ x v rfl b 0 (gcells z).toArray hx hv (fun j hj => ?_) infoG6 (by simp [gcells, Value.oneCell']) (K (setZ w b z) (hE.set hi z))
  refine ⟨?_, ?_⟩
  · have h6 : j < (gcells y).length := hj
    have := zrange hc.n j _ (List.getElem?_eq_getElem h6)
    rw [this]; rfl
  · exact hc.f (0 + j)
theorem wpl_alloc {dst : Option Nat} {t : TypeId} {pos : String} {af : Array Edge} (hE : Env B w1 w l)
    (K : ∀ b w', Env B w1 w' ((b, z0) :: l) → Below w.heap.size w w' → wpList Tryz.prog ops Q rest (a.put dst (.pointer (some ⟨b, 0, none⟩))) w') : wpList Tryz.prog ops Q (⟨dst, .alloc 31, t, pos, af, none⟩ :: rest) a w := by
  refine wpList_plain rfl fun K' hK => ?_
  have h := hK _ _ (K _ _ hE.new (alloc_below _ _))
  have hr : (Instr.alloc 31 true (.tuple #[])).run Tryz.prog w = .ok (.pointer (some ⟨w.heap.size, 0, none⟩)) (w.alloc (.cells #[.bool false, .string ⟨#[]⟩, .int .i64 0, .bool false, .string ⟨#[]⟩, .int .i64 0] 31)) := by
    simp [Instr.alloc, go_sem]
  unfold Oper.wp execOp
  simp only [Sem.run_bind, hr, Sem.run_pure, Result.andThen_ok]
  exact h
theorem wpl_box {dst : Option Nat} {t : TypeId} {pos : String} {af : Array Edge} {x : Operand} {z : Zi} (hE : Env B w1 w l) (hx : a.eval x = gv z)
    (K : ∀ b w', Env B w1 w' ((b, z) :: l) → Below w.heap.size w w' → wpList Tryz.prog ops Q rest (a.put dst (.pointer (some ⟨b, 0, none⟩))) w') : wpList Tryz.prog ops Q (⟨dst, .box 31 x, t, pos, af, none⟩ :: rest) a w := by
  refine wpList_plain rfl fun K' hK => ?_
  have h := hK _ _ (K _ _ (hE.newOf z) (alloc_below _ _))
  have hr : (Instr.box 31 (gv z)).run Tryz.prog w = .ok (.pointer (some ⟨w.heap.size, 0, none⟩)) (w.alloc (.cells #[.bool (dn (wd z.re)), .string (ds (wd z.re)), .int .i64 (wd z.re).e, .bool (dn (wd z.im)), .string (ds (wd z.im)), .int .i64 (wd z.im).e] 31)) := by
    unfold gv
    simp [Instr.box, go_sem]
  unfold Oper.wp execOp
  simp only [Sem.run_bind, hx, hr, Sem.run_pure, Result.andThen_ok]
  exact h
theorem wpl_build {dst : Option Nat} {t : TypeId} {pos : String} {af : Array Edge} {gd : Option (Nat × Bool)} (hw : Region.wanted ⟨dst, .build 31 #[], t, pos, af, gd⟩ (yielded ops a.tmps) = true)
    (K : wpList Tryz.prog ops Q rest (a.put dst (gv z0)) w) : wpList Tryz.prog ops Q (⟨dst, .build 31 #[], t, pos, af, gd⟩ :: rest) a w := by
  refine BigFrame.wpList_want hw fun K' hK => ?_
  have h := hK _ _ K
  have hr : (Instr.build 31 #[]).run Tryz.prog w = .ok (gv z0) w := by
    rw [← gv_zero]
    simp [Instr.build, go_sem]
  unfold Oper.wp execOp
  simp only [Array.map_empty, Sem.run_bind, hr, Sem.run_pure, Result.andThen_ok]
  exact h
theorem guardG (op : BinOp) (x y : Operand) (z z' : Zi) : (eqGuard op 31 x y (gv z) (gv z')).run Tryz.prog w = .ok () w := by
  have hg : Tryz.prog.eqGuardType Tryz.prog.depth 31 = false := by kernel_rfl
  unfold gv eqGuard
  simp [go_sem, hg]
theorem run_eqG (z : Zi) : (binOp .eql 31 (gv z) (gv z)).run Tryz.prog w = .ok (.bool true) w := by
  unfold gv
  simp [go_sem]
theorem run_neG (z : Zi) : (binOp .neq 31 (gv z) (gv z)).run Tryz.prog w = .ok (.bool false) w := by
  unfold gv
  simp [go_sem]
theorem ds_empty {n : Int} (h : ds (wd n) = ⟨#[]⟩) : n = 0 := by
  by_cases h0 : n = 0
  · exact h0
  · exfalso
    have h1 : ds (wd n) = natS (od n.natAbs) := by unfold ds wd; rw [mkD_m, odI_natAbs]
    rw [h1] at h
    have h2 := od_pos (n := n.natAbs) (by omega)
    have h3 : (bbs (od n.natAbs)).length = 0 := by
      have := congrArg (fun b : ByteArray => b.data.size) h
      simpa [natS, bstr] using this
    rw [bbs_length] at h3
    have h4 : bl (od n.natAbs) = 0 := by omega
    have h5 := bl_lt (od n.natAbs)
    rw [h4] at h5
    omega
theorem bytes_nil {b : ByteArray} (h : b.toList = []) : b = ⟨#[]⟩ := by
  rw [ByteArray.toList_eq] at h
  obtain ⟨⟨l⟩⟩ := b
  simp at h
  subst h; rfl
theorem run_eqG0 {z : Zi} (h : z ≠ z0) : (binOp .eql 31 (gv z) (gv z0)).run Tryz.prog w = .ok (.bool false) w := by
  rw [← gv_zero]
  have hne : ¬ (ds (wd z.re) = ⟨#[]⟩ ∧ ds (wd z.im) = ⟨#[]⟩) := fun ⟨h1, h2⟩ => h (Zi.ext' (ds_empty h1) (ds_empty h2))
  unfold gv
  simp [go_sem]
  intro _ a2 _ _ a5
  exact absurd ⟨bytes_nil a2, bytes_nil a5⟩ hne
end
end Go.Proofs.YtbgjcpnbdgljbaaGreatDoor

/- poly.Divide at whole numbers. -/
namespace Go.Proofs.YtbgjcpnbdgljbaaGreatDoor
open Go.RowKit Go.Fil Go.Shelf
attribute [local irreducible] fop fsqrt fup fabs fneg pick mulRe mulIm

theorem set_cv (l : List Cc) (j : Nat) (c : Cc) : (l.map cv).set j (.complex .f64 c.1 c.2) = (l.set j c).map cv := by rw [List.map_set]; rfl
theorem zeros_cv (n : Nat) : (madeCells #[.complex .f64 0 0] n).toList = (List.replicate n ((0, 0) : Cc)).map cv := by
  rw [toList_madeCells_one, List.map_replicate]; rfl
theorem nth_set (l : List Cc) (j k : Nat) (c : Cc) (hj : j < l.length) : nth (l.set j c) k = if j = k then c else nth l k := by
  unfold nth
  rw [List.getD_eq_getElem?_getD, List.getD_eq_getElem?_getD, List.getElem?_set]
  split
  · subst_vars; simp
  · rfl
/-- The quotient's places from k on are those of the exact quotient. -/
def DivTo (p : List Zi) (r : Zi) (bs : List Cc) (k : Nat) : Prop := ∀ j, k ≤ j → j + 1 < p.length → FC (nth bs j) (zqk r p (j + 1))
/-- What Divide answers. -/
def RDiv (p : List Zi) (r : Zi) (w : World) (e : Ending) (w' : World) : Prop := ∃ v rs c, e = .returned (.tuple #[v, .complex .f64 c.1 c.2, .int .i64 0]) ∧ FCs rs (zquo r p).2 ∧ FC c (zquo r p).1 ∧ w'.ownsRow w.heap.size 41 1 v (p.length - 1) (rs.map cv) ∧ Below w.heap.size w w'
set_option maxRecDepth 100000 in
theorem div_short (A : Option Addr) (n cap : Nat) (ps : List Cc) (hn : ps.length = n) (h2 : n < 2) (hck : checkS ps = true) (a b : Nat) (w : World) (hs : Seq w w.heap.size A (ps.map cv)) :
    Calls Tryz.prog 21 #[.slice A n cap, .complex .f64 a b] w fun e w' => e = .returned (.tuple #[.slice none 0 0, .complex .f64 0 0, .int .i64 90]) ∧ Below w.heap.size w w' := by
  have HS := Lib.hid hs
  have HN := Lib.hid hn
  have h2' : (n : Int) < 2 := by omega
  clear hs hn
  go_enter Tryz.func21, Tryz.ntmps21
  go_wp2_with fail
  refine Calls.mono (all_one w.heap.size A n cap ps HN.out (by omega) w.heap.size _ ?hs ?hg) ?k
  case hs => exact HS.out.below (B' := w.heap.size) (by repeat (first | exact Below.refl _ _ | refine below_drewN ?_ _ | refine Below.alloc ?_ (by first | omega | (simp; omega) | simp) _ | refine Below.setCell ?_ (by first | omega | (simp; omega) | simp) _ | refine Below.trans ?_ (Below.mono (by assumption) (by first | omega | (simp; omega) | simp)) | apply Below.drew)) (Nat.le_refl _)
  case hg => rw [World.cell?_alloc_at _ _ _ _ (by simp)]; rfl
  rintro e w' ⟨rfl, rfl⟩
  rw [hck]
  clear hck
  go_wp2
  exact bodyPost_ret (v := .tuple #[.slice none 0 0, .complex .f64 0 0, .int .i64 90]) (by simp [results, Tryz.results21, go_sem]) rfl ⟨rfl, by repeat (first | exact Below.refl _ _ | refine below_drewN ?_ _ | refine Below.alloc ?_ (by first | omega | (simp; omega) | simp) _ | refine Below.setCell ?_ (by first | omega | (simp; omega) | simp) _ | refine Below.trans ?_ (Below.mono (by assumption) (by first | omega | (simp; omega) | simp)) | apply Below.drew)⟩
set_option maxRecDepth 100000 in
set_option maxHeartbeats 6400000 in
theorem div_any (A : Option Addr) (m cap : Nat) (ps : List Cc) (p : List Zi) (hn : p.length = m + 2) (hle : m + 2 ≤ 9) (hfc : FCs ps p) (hck : checkS ps = true) (rc : Cc) (r : Zi) (hr : FC rc r) (hzr : zn r ≤ 16) (hzp : ∀ c ∈ p, zn c ≤ 16) (w : World) (hs : Seq w w.heap.size A (ps.map cv)) :
    Calls Tryz.prog 21 #[.slice A (m + 2) cap, .complex .f64 rc.1 rc.2] w (RDiv p r w) := by
  obtain ⟨i0, hi, hz0, hz1, hz2⟩ := info_parts Tryz.infoC
  have hgeo : geo 16 9 = 4581298449 := by decide +kernel
  have hbz : ∀ k, zn (zqk r p k) ≤ 73300775184 := by
    intro k
    have h1 := zqk_bound hzp hzr (by decide) k
    have h2 := Nat.mul_le_mul_left 16 (geo_mono 16 (by decide) (show p.length ≤ 9 by omega))
    omega
  have HZ := Lib.hid hbz
  have HZP := Lib.hid hzp
  have HZR := Lib.hid hzr
  have HFC := Lib.hid hfc
  have HS := Lib.hid hs
  have HN := Lib.hid hn
  have HPN := Lib.hid (hfc.1.trans hn)
  have HR := Lib.hid hr
  have hfr := hr.fin
  obtain ⟨b0, o0, hA, hb0, _⟩ := hs.cat (k := 0) (by have := hfc.1; omega)
  subst hA
  have hct := hs.cell (k := m + 1) (by have := hfc.1; omega)
  have n2 : ¬ ((m : Int) + 2 < 2) := by omega
  clear hs hn hfc hr hbz hzp hzr hgeo
  go_enter Tryz.func21, Tryz.ntmps21
  go_wp2_with fail
  refine Calls.mono (all_one w.heap.size (some ⟨b0, o0, none⟩) (m + 2) cap ps HPN.out (by omega) w.heap.size _ ?hs ?hg) ?k
  case hs => exact HS.out.below (B' := w.heap.size) (by repeat (first | exact Below.refl _ _ | refine below_drewN ?_ _ | refine Below.alloc ?_ (by first | omega | (simp; omega) | simp) _ | refine Below.setCell ?_ (by first | omega | (simp; omega) | simp) _ | refine Below.trans ?_ (Below.mono (by assumption) (by first | omega | (simp; omega) | simp)) | apply Below.drew)) (Nat.le_refl _)
  case hg => rw [World.cell?_alloc_at _ _ _ _ (by simp)]; rfl
  rintro e w' ⟨rfl, rfl⟩
  rw [hck]
  clear hck
  have e1 : (m : Int) + 2 - 1 = (m : Int) + 1 := by omega
  go_wp2_with (first
    | (go_at_call 52; refine (pfinite_any _ _ _).mono ?_; rintro e w' ⟨rfl, rfl⟩)
    | (at_make; refine wpList_make_full _ rfl _ _ 24 rfl w.heap.size 41 i0 (.complex .f64 0 0) 1 Tryz.underlying24 hi hz0 hz1 _ _ _ _ (m + 1) rfl rfl (by omega) (by omega) ?b2 ?b3 (by simp) ?_))
  case b2 => first | omega | (rw [hz2]; omega)
  case b3 => unfold maxLen; omega
  intro w1 hown hgrow
  have hb1 : Below w.heap.size w w1 := ((Below.refl _ _).alloc (Nat.le_refl _) _).grown hgrow (by simp) (fun k hk => by cases hk)
  have hown' : w1.ownsRow w.heap.size 41 1 (.slice (some ⟨w.heap.size + 1, 0, none⟩) (m + 1) (m + 1)) (m + 1) ((List.replicate (m + 1) ((0, 0) : Cc)).map cv) := by
    rw [← zeros_cv]
    exact hown
  clear hown
  have hct1 := (hb1.cell (p := ⟨b0, o0 + (m + 1), none⟩) hb0).trans hct
  have HOWN := Lib.hid hown'
  have HB1 := Lib.hid hb1
  have hcm : w1.cell? ⟨w.heap.size + 1, m, none⟩ = some (.complex .f64 0 0) := by
    rw [hown'.cellAt m (by omega), List.getElem?_map, List.getElem?_replicate, if_pos (by omega)]; rfl
  have hfm : w1.frozen? ⟨w.heap.size + 1, m, none⟩ = false := hown'.frozenAt m
  have j0 : (0 : Int) ≤ (m : Int) + 1 := by omega
  have j1 : (m : Int) + 1 < (m : Int) + 2 := by omega
  have j2 : (0 : Int) ≤ (m : Int) := by omega
  have j3 : (m : Int) < (m : Int) + 1 := by omega
  clear hown' hgrow hb1 hct e1 n2
  go_wp2
  simp only [show m + 2 - 1 = m + 1 by omega]
  go_loopw [8] (fun i wr => ∃ (k : Nat) (bs : List Cc), k ≤ m ∧ i = .int .i64 (k : Int) ∧ bs.length = m + 1 ∧ Hid (DivTo p r bs k) ∧
      wr.ownsRow w.heap.size 41 1 (.slice (some ⟨w.heap.size + 1, 0, none⟩) (m + 1) (m + 1)) (m + 1) (bs.map cv) ∧ Below w.heap.size w wr) (fun i _ => (intOf i).toNat)
  case atStart =>
    refine ⟨m, (List.replicate (m + 1) (0, 0)).set m (nth ps (m + 1)), Nat.le_refl _, rfl, by simp, Lib.hid fun j hj1 hj2 => ?_, ?_, HB1.out.setCell (by show w.heap.size ≤ w.heap.size + 1; omega) _⟩
    · have hjm : j = m := by have := HN.out; omega
      subst hjm
      rw [nth_set _ _ _ _ (by simp), if_pos rfl, zqk_last (by have := HN.out; omega)]
      exact HFC.out.at _
    · rw [← set_cv]; exact (HOWN.out.stored m _).1
  case round =>
    obtain ⟨k, bs, hk, rfl, hbl, hdv, hown, hnx⟩ := hrel
    cases k with
    | zero =>
      have hcp := (HS.out.below hnx (Nat.le_refl _)).cell (k := 0) (by have := HPN.out; omega)
      rw [Nat.add_zero] at hcp
      have hc1 : wr.cell? ⟨w.heap.size + 1, 0, none⟩ = some (.complex .f64 (nth bs 0).1 (nth bs 0).2) := by
        rw [hown.cellAt 0 (by omega), List.getElem?_map, List.getElem?_eq_getElem (by omega), nth_eq (by omega)]; rfl
      have HMUL := Lib.hid (fun w => cmul_z HR.out (hdv.out 0 (Nat.le_refl _) (by have := HN.out; omega)) (by have h1 := HZ.out 1; have h2 := HZR.out; have := Nat.mul_le_mul h2 h1; show zn r * zn (zqk r p 1) < _; omega) w)
      have HADD := Lib.hid (fun (c : Cc) hc w => cadd_z (HFC.out.at 0) (d := c) (b := zmul r (zqk r p 1)) hc (by
        have h1 := HZ.out 1; have h2 := HZR.out; have h3 := Nat.mul_le_mul h2 h1; have h4 := zn_mul r (zqk r p 1)
        have h5 : zn (zpl p 0) ≤ 16 := by
          unfold zpl
          rw [List.getD_eq_getElem?_getD, List.getElem?_eq_getElem (by have := HN.out; omega)]
          exact HZP.out _ (List.getElem_mem _)
        omega) w)
      have HDV := Lib.hid hdv
      have HOWN2 := Lib.hid hown
      have HNX := Lib.hid hnx
      have HBL := Lib.hid hbl
      have hlb : b0 < wr.heap.size := Nat.lt_of_lt_of_le hb0 hnx.size
      have k3 : (0 : Int) < (m : Int) + 2 := by omega
      have k4 : (0 : Int) < (m : Int) + 1 := by omega
      clear hown hnx hbl hdv hk
      go_wp2_with fail
      go_region_held3 (fun x => x.cell? ⟨b0, o0, none⟩ = some (.complex .f64 (nth ps 0).1 (nth ps 0).2) ∧ x.cell? ⟨w.heap.size + 1, 0, none⟩ = some (.complex .f64 (nth bs 0).1 (nth bs 0).2))
        (refine ⟨?_, ?_⟩ <;> first
          | assumption
          | (simp [go_sem, *]; done))
        (first
          | (go_at_call 45; refine (HMUL.out _).mono ?_; rintro e w2 ⟨cm, jm, rfl, hcm, rfl⟩)
          | (go_at_call 38; refine (HADD.out _ hcm _).mono ?_; rintro e w3 ⟨ca, ja, rfl, hca, rfl⟩))
      have hown0 := (own_drewN HOWN2.out (1 + jm + ja)).alloc (Obj.cells #[Value.complex .f64 ca.1 ca.2] 41)
      have HCA := Lib.hid hca
      go_wp2_with (first
        | (at_builtin; refine wpList_append_grows _ rfl _ _ 24 rfl 41 i0 (.complex .f64 0 0) 1 16 Tryz.underlying24 hi hz0 hz1 hz2 rfl (by decide) (some ⟨w.heap.size + 1, 0, none⟩) (m + 1) (m + 1) (bs.map cv) rfl (by intro h; cases h) (by rw [List.length_map, HBL.out]; omega) ?ho ⟨wr.heap.size, 0, none⟩ 1 1 [.complex .f64 ca.1 ca.2] rfl rfl ?c1 ?c2 (by omega) ?c3 (by omega) ?_))
      case ho =>
        intro b hb j u hj
        cases hb
        have hjl : j < m + 1 := by have := (List.getElem?_eq_some_iff.1 hj).1; rw [List.length_map, HBL.out] at this; exact this
        rw [Addr.add_lit, Nat.zero_add, hown0.cellAt j (by omega), hj]
      case c1 => exact cell_one_new (wr.drewN _) _ _
      case c2 => intro u hu; simp at hu; subst hu; rfl
      case c3 => unfold maxLen; omega
      intro v' w4 hownA hgrowA
      have hb4 : Below w.heap.size w w4 := ((below_drewN HNX.out (1 + jm + ja)).alloc (by have := HNX.out.size; simp; omega) _).grown hgrowA (by have := HNX.out.size; simp; omega) (fun q hq => by cases hq)
      have hownB : w4.ownsRow w.heap.size 41 1 (.slice (some ⟨w.heap.size + 1, 0, none⟩) (m + 1) (m + 1)) (m + 1) (bs.map cv) := own_below hown0 ((Below.refl _ _).grown hgrowA (Nat.le_refl _) (fun q hq => by cases hq))
      have hownL : w4.ownsRow (wr.heap.size + 1) 41 1 v' (m + 1 + 1) ((bs ++ [ca]).map cv) := by
        rw [List.map_append]; exact hownA
      obtain ⟨A4, c4, rfl, hs4⟩ := seq_of_own hownL
      have HS4 := Lib.hid hs4
      have HOB := Lib.hid hownB
      have HB4 := Lib.hid hb4
      have hfl : ∀ j, j < m + 2 → cfin (nth (bs ++ [ca]) j).1 (nth (bs ++ [ca]) j).2 = true := by
        intro j hj
        have hbl := HBL.out
        rcases Nat.lt_or_ge j (m + 1) with h1 | h1
        · have : nth (bs ++ [ca]) j = nth bs j := by
            unfold nth
            rw [List.getD_eq_getElem?_getD, List.getD_eq_getElem?_getD, List.getElem?_append_left (by omega)]
          rw [this]
          exact (HDV.out j (Nat.zero_le _) (by have := HN.out; omega)).fin
        · have : nth (bs ++ [ca]) j = ca := by
            unfold nth
            rw [List.getD_eq_getElem?_getD, List.getElem?_append_right (by omega), show j - bs.length = 0 by omega]; rfl
          rw [this]
          exact HCA.out.fin
      have HFL := Lib.hid hfl
      have HLL : Hid ((bs ++ [ca]).length = m + 2) := Lib.hid (by rw [List.length_append, HBL.out]; rfl)
      clear hown0 hca hownA hgrowA hb4 hownB hownL hs4 hfl hcp hc1
      go_wp2
      go_loop [5, 75] (fun r i => ∃ j : Nat, j ≤ m + 2 ∧ r = .complex .f64 ca.1 ca.2 ∧ i = .int .i64 j) (fun _ i => m + 2 - (intOf i).toNat)
      case atStart => exact ⟨0, Nat.zero_le _, rfl, rfl⟩
      case round =>
        obtain ⟨j, hj, rfl, rfl⟩ := hrel
        by_cases hlt : j < m + 2
        · obtain ⟨b, o, rfl, hb, hcl⟩ := HS4.out.cat (k := j) (by have := HLL.out; omega)
          have hfj := HFL.out j hlt
          go_wp2_with (first
            | (go_at_call 52; refine (pfinite_any _ _ _).mono ?_; rintro e w' ⟨rfl, rfl⟩))
          go_round
          case rel => exact ⟨j + 1, by omega, rfl, by go_num⟩
          case measure => simp [intOf]; omega
        · obtain rfl : j = m + 2 := by omega
          go_wp2
          refine bodyPost_ret (v := .tuple #[.slice (some ⟨w.heap.size + 1, 0, none⟩) (m + 1) (m + 1), .complex .f64 ca.1 ca.2, .int .i64 0]) (by simp [results, Tryz.results21, go_sem]) rfl ?_
          have hpn := HN.out
          refine ⟨_, bs, ca, rfl, ⟨?_, fun k hk => ?_⟩, ?_, ?_, HB4.out⟩
          · have h1 := HBL.out
            cases p with
            | nil => simp at hpn
            | cons c q => rw [zquo_length]; simp at hpn; omega
          · have hk2 : k + 1 < p.length := by
              cases p with
              | nil => simp at hpn
              | cons c q => rw [zquo_length] at hk; simp; omega
            have h2 := HDV.out k (Nat.zero_le _) hk2
            rw [← zquo_nth hk2] at h2
            exact h2
          · have h3 : zqk r p 0 = (zquo r p).1 := by unfold zqk; rw [List.drop_zero]
            rw [← h3, zqk_step (by omega)]
            exact HCA.out
          · rw [show p.length - 1 = m + 1 by omega]; exact HOB.out
    | succ k =>
      have hcp := (HS.out.below hnx (Nat.le_refl _)).cell (k := k + 1) (by have := HPN.out; omega)
      have hc1 : wr.cell? ⟨w.heap.size + 1, k + 1, none⟩ = some (.complex .f64 (nth bs (k + 1)).1 (nth bs (k + 1)).2) := by
        rw [hown.cellAt (k + 1) (by omega), List.getElem?_map, List.getElem?_eq_getElem (by omega), nth_eq (by omega)]; rfl
      have hc2 : wr.cell? ⟨w.heap.size + 1, k, none⟩ = some (.complex .f64 (nth bs k).1 (nth bs k).2) := by
        rw [hown.cellAt k (by omega), List.getElem?_map, List.getElem?_eq_getElem (by omega), nth_eq (by omega)]; rfl
      have hf2 : wr.frozen? ⟨w.heap.size + 1, k, none⟩ = false := hown.frozenAt k
      have HMUL := Lib.hid (fun w => cmul_z HR.out (hdv.out (k + 1) (Nat.le_refl _) (by have := HN.out; omega)) (by have h1 := HZ.out (k + 1 + 1); have h2 := HZR.out; have := Nat.mul_le_mul h2 h1; omega) w)
      have HADD := Lib.hid (fun (c : Cc) hc w => cadd_z (HFC.out.at (k + 1)) (d := c) (b := zmul r (zqk r p (k + 1 + 1))) hc (by
        have h1 := HZ.out (k + 1 + 1); have h2 := HZR.out; have h3 := Nat.mul_le_mul h2 h1; have h4 := zn_mul r (zqk r p (k + 1 + 1))
        have h5 : zn (zpl p (k + 1)) ≤ 16 := by
          unfold zpl
          rw [List.getD_eq_getElem?_getD, List.getElem?_eq_getElem (by have := HN.out; omega)]
          exact HZP.out _ (List.getElem_mem _)
        omega) w)
      have HDV := Lib.hid hdv
      have HOWN2 := Lib.hid hown
      have HNX := Lib.hid hnx
      have HBL := Lib.hid hbl
      have hlb : b0 < wr.heap.size := Nat.lt_of_lt_of_le hb0 hnx.size
      have k0 : (0 : Int) ≤ (k : Int) := by omega
      have k1 : (k : Int) < (m : Int) + 1 := by omega
      have k2 : (0 : Int) ≤ (k : Int) + 1 := by omega
      have k3 : (k : Int) + 1 < (m : Int) + 2 := by omega
      have k4 : (k : Int) + 1 < (m : Int) + 1 := by omega
      have k5 : ((k : Int) + 1).toNat = k + 1 := by omega
      have kw1 : IntKind.i64.wrap ((k : Int) + 1 - 1) = (k : Int) := by rw [show (k : Int) + 1 - 1 = (k : Int) by omega]; exact IntWalk.i64_in _ (by omega)
      have kw2 : IntKind.i64.wrap (k : Int) = (k : Int) := IntWalk.i64_in _ (by omega)
      have hne : w.heap.size + 1 ≠ b0 := by omega
      have hne2 : b0 ≠ w.heap.size + 1 := by omega
      clear hown hnx hbl hdv
      go_wp2_with fail
      go_region_held3 (fun x => x.cell? ⟨b0, o0 + (k + 1), none⟩ = some (.complex .f64 (nth ps (k + 1)).1 (nth ps (k + 1)).2) ∧ x.cell? ⟨w.heap.size + 1, k + 1, none⟩ = some (.complex .f64 (nth bs (k + 1)).1 (nth bs (k + 1)).2))
        (refine ⟨?_, ?_⟩ <;> first
          | assumption
          | (simp [go_sem, *]; done))
        (first
          | (go_at_call 45; refine (HMUL.out _).mono ?_; rintro e w2 ⟨cm, jm, rfl, hcm, rfl⟩)
          | (go_at_call 38; refine (HADD.out _ hcm _).mono ?_; rintro e w3 ⟨ca, ja, rfl, hca, rfl⟩))
      go_wp2
      go_roundw
      case rel =>
        refine ⟨k, bs.set k ca, by omega, rfl, by rw [List.length_set]; exact HBL.out, Lib.hid fun j hj1 hj2 => ?_, ?_, (below_drewN HNX.out _).setCell (by show w.heap.size ≤ w.heap.size + 1; omega) _⟩
        · rw [nth_set _ _ _ _ (by have := HBL.out; omega)]
          split
          · rename_i hkj
            subst hkj
            rw [zqk_step (by have := HN.out; omega)]
            exact hca
          · exact HDV.out j (by omega) hj2
        · rw [← set_cv]; exact ((own_drewN HOWN2.out _).stored k _).1
      case measure => simp [intOf]
end Go.Proofs.YtbgjcpnbdgljbaaGreatDoor
