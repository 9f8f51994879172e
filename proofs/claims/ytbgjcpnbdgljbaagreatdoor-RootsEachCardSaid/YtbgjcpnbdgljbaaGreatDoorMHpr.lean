/- law16.product: its walk. -/
import Derived.Test.YtbgjcpnbdgljbaaGreatDoorMHga
import Derived.Test.YtbgjcpnbdgljbaaGreatDoorMExb
import Derived.Test.YtbgjcpnbdgljbaaGreatDoorMVal
import Derived.Deep.DeepCutAuto
import Derived.IntWalk
namespace Go.Proofs.YtbgjcpnbdgljbaaGreatDoor
open Go.RowKit Go.Fil Go.Shelf
attribute [local irreducible] fop fsqrt fup fabs fneg pick fmax floatOfInt ge

section
variable {ops : Array Oper} {S : World → Prop} {a : Act}
/-- A float operation whose result is no NaN may be taken first. -/
theorem yields_fop {op : Oper} {x y : Operand} {k : BinOp} {t u : TypeId} {a1 b1 X : Nat} (hw : Region.wanted op (yielded ops a.tmps) = true) (ho : op.op = .binOp k t x y u) (hx : a.eval x = .float .f64 a1) (hy : a.eval y = .float .f64 b1) (hk : k = .quo ∧ floatBits k .f64 a1 b1 = some X) : YieldsIf Tryz.prog ops S op (.float .f64 X) a := by
  refine .inl ⟨hw, fun w _ => ?_⟩
  obtain ⟨rfl, hf⟩ := hk
  have hr := run_float_arith (P := Tryz.prog) w .quo t .f64 a1 b1 X hf
  unfold execOp
  simp only [ho, hx, hy, Sem.run_bind, eqGuard, Bool.not_false, if_true, Sem.run_pure, Result.andThen_ok, hr]
end
theorem floatBits_fin {k : BinOp} {a b X : Nat} (h : fop k a b = X) (hX : fin X = true) : floatBits k .f64 a b = some X := by
  unfold fop at h
  cases hf : floatBits k .f64 a b with
  | some r => rw [hf] at h; exact congrArg some h
  | none =>
    rw [hf] at h
    have : X = qnan := h.symm
    rw [this] at hX
    exact absurd hX (by decide)

/-- Pairs of small numbers, as they lie in memory. -/
def prs (L : List Zi) : List Value := L.flatMap fun G => [.int .i8 G.re, .int .i8 G.im]
theorem prs_at {L : List Zi} {k : Nat} (hk : k < L.length) : (prs L)[k * 2]? = some (.int .i8 (nthZ L k).re) ∧ (prs L)[k * 2 + 1]? = some (.int .i8 (nthZ L k).im) := by
  induction L generalizing k with
  | nil => simp at hk
  | cons G L ih =>
    have hc : prs (G :: L) = .int .i8 G.re :: .int .i8 G.im :: prs L := rfl
    rw [hc]
    cases k with
    | zero => exact ⟨rfl, rfl⟩
    | succ k =>
      have h := ih (k := k) (by simpa using hk)
      rw [show (k + 1) * 2 = k * 2 + 2 by omega, show k * 2 + 2 + 1 = k * 2 + 1 + 2 by omega, nthZ_cons_succ]
      exact h
theorem Seq.pat {w : World} {B : Nat} {A : Option Addr} {L : List Zi} (h : Seq w B A (prs L)) {k : Nat} (hk : k < L.length) :
    ∃ b o, A = some ⟨b, o, none⟩ ∧ b < B ∧ w.cell? ⟨b, o + k * 2, none⟩ = some (.int .i8 (nthZ L k).re) ∧ w.cell? ⟨b, o + k * 2 + 1, none⟩ = some (.int .i8 (nthZ L k).im) := by
  obtain ⟨h0, h1⟩ := prs_at hk
  rcases h with h | ⟨b, o, hA, hb, hc⟩
  · rw [h] at h0; simp at h0
  · exact ⟨b, o, hA, hb, hc _ _ h0, hc _ _ h1⟩
theorem sgs_one : sgs (zmake ([] : List Zi).reverse) = [gz (zr 1) 0] := rfl
/-- A new row of one number. -/
theorem own_one (w : World) (base : Nat) (hb : base ≤ w.heap.size) (g : Gs) (t : TypeId) : (w.alloc (.cells #[.bool (dn g.1), .string (ds g.1), .int .i64 g.1.e, .bool (dn g.2), .string (ds g.2), .int .i64 g.2.e] t)).ownsRow base t 6 (.slice (some ⟨w.heap.size, 0, none⟩) 1 1) 1 (ecs [g]) := by
  have h := World.ownsRow_lit (base := base) (e := t) (size := 6) w #[.bool (dn g.1), .string (ds g.1), .int .i64 g.1.e, .bool (dn g.2), .string (ds g.2), .int .i64 g.2.e] 1 hb (by unfold maxLen; omega) rfl
  exact h
/-- What product answers. -/
def RPr (L : List Zi) (w : World) (e : Ending) (w' : World) : Prop :=
  (e = .returned (.tuple #[.slice none 0 0, .slice none 0 0, .bool false]) ∨
    ∃ (v1 v2 : Value) (ps : List Cc), e = .returned (.tuple #[v1, v2, .bool true]) ∧ ps.length = L.length + 1 ∧ (∀ k, k < L.length + 1 → FW (nth ps k) ∧ qof (nth ps k) = zq (4 * (L.length - k)) (nthZ (zmake L.reverse) k)) ∧
      w'.ownsRow w.heap.size 41 1 v1 (L.length + 1) (ps.map cv) ∧ w'.ownsRow w.heap.size 31 6 v2 L.length (ecs (gl L))) ∧ Below w.heap.size w w'
theorem flD_one : flD 4607182418800017408 = sd 1 0 := Dya.ext' (by decide +kernel) (by decide +kernel)
theorem flD_nul : flD 0 = sd 0 0 := Dya.ext' (by decide +kernel) (by decide +kernel)
theorem one_gz (w : World) (hT : Tab w) : Calls Tryz.prog 22 #[.complex .f64 4607182418800017408 0] w (RGv (sd 1 0) (sd 0 0) w) := by
  have h := gcomplex_any 4607182418800017408 0 (by decide) (by decide) (by decide) (by decide) w hT
  rwa [flD_one, flD_nul] at h
set_option maxRecDepth 100000 in
set_option maxHeartbeats 6400000 in
theorem product_any (A : Option Addr) (n cap : Nat) (L : List Zi) (hn : L.length = n) (hL : Small L) (w : World) (hs : Seq w w.heap.size A (prs L)) (hT : Tab w) :
    Calls Tryz.prog 23 #[.slice A n cap] w (RPr L w) := by
  obtain ⟨i0, hi, hz0, hz1, hz2⟩ := info_parts Tryz.infoG
  have HS := Lib.hid hs
  have HT := Lib.hid hT
  have HN := Lib.hid hn
  have HL := Lib.hid hL
  have hn10 : n ≤ 10 := by have := hL.1; omega
  have HC1 := Lib.hid one_gz
  clear hs hT hn hL
  go_enter Tryz.func23, Tryz.ntmps23
  go_wp2_with fail
  refine (HC1.out _ HT.out).mono ?_
  rintro e w1 ⟨rfl, hb1⟩
  have HB1 := Lib.hid hb1
  have HT1 := Lib.hid (HT.out.below hb1)
  have HS1 := Lib.hid (HS.out.below hb1 (Nat.le_refl _))
  have s1 := hb1.size
  clear hb1 HC1
  go_wp2_with fail
  go_loopw [7, 8, 9] (fun p v i wr => ∃ (q gp cp : Nat), q ≤ n ∧ i = .int .i64 q ∧ p = .slice (some ⟨gp, 0, none⟩) (q + 1) cp ∧ wr.ownsRow w.heap.size 31 6 (.slice (some ⟨gp, 0, none⟩) (q + 1) cp) (q + 1) (ecs (sgs (zmake (L.take q).reverse))) ∧ wr.ownsRow w.heap.size 31 6 v q (ecs (gl (L.take q))) ∧ (v.ownBlock = none ∨ v.ownBlock ≠ (Value.slice (some ⟨gp, 0, none⟩) (q + 1) cp).ownBlock) ∧ Below w.heap.size w wr) (fun _ _ i _ => n - (intOf i).toNat)
  case atStart =>
    refine ⟨0, w1.heap.size + 1, 1, Nat.zero_le _, rfl, rfl, ?_, World.ownsRow_nil _ _ _ _, .inl rfl, (HB1.out.alloc s1 _).alloc (by simp; omega) _⟩
    have h := own_one (w1.alloc (.cells #[.bool (dn (sd 1 0)), .string (ds (sd 1 0)), .int .i64 (sd 1 0).e, .bool (dn (sd 0 0)), .string (ds (sd 0 0)), .int .i64 (sd 0 0).e] 31)) w.heap.size (by simp; omega) (gz (zr 1) 0) 31
    simpa [gz, zr, sgs, zmake] using h
  case round =>
    obtain ⟨q, gp, cp, hq, rfl, rfl, hop, hov, hsep, hbw⟩ := hrel
    have HOP := Lib.hid hop
    have HOV := Lib.hid hov
    have HSEP := Lib.hid hsep
    have HBW := Lib.hid hbw
    clear hop hov hsep hbw
    by_cases hlq : q < n
    · obtain ⟨b, o, rfl, hb, hc0, hc1⟩ := (HS.out.below HBW.out (Nat.le_refl _)).pat (k := q) (by have := HN.out; omega)
      have hsm := HL.out.at' (k := q) (by have := HN.out; omega)
      obtain ⟨fx1, fx2⟩ := sixteenth hsm.1 hsm.2.1
      obtain ⟨fy1, fy2⟩ := sixteenth hsm.2.2.1 hsm.2.2.2
      obtain ⟨X, hX⟩ : ∃ X, fop .quo (floatOfInt .f64 (nthZ L q).re) 4625196817309499392 = X := ⟨_, rfl⟩
      obtain ⟨Y, hY⟩ : ∃ Y, fop .quo (floatOfInt .f64 (nthZ L q).im) 4625196817309499392 = Y := ⟨_, rfl⟩
      have hXl : X < 18446744073709551616 := by rw [← hX]; exact fop_lt _ _ _
      have hYl : Y < 18446744073709551616 := by rw [← hY]; exact fop_lt _ _ _
      rw [hX] at fx1 fx2
      rw [hY] at fy1 fy2
      have HCX := Lib.hid (fun w hT => gg_complex (z := nthZ L q) (k := 4) fx1 fy1 hXl hYl fx2 fy2 w hT)
      have HX := Lib.hid (And.intro (rfl : BinOp.quo = BinOp.quo) (floatBits_fin hX fx2))
      have HY := Lib.hid (And.intro (rfl : BinOp.quo = BinOp.quo) (floatBits_fin hY fy2))
      have HTr := Lib.hid (HT.out.below HBW.out)
      have q0 : (0 : Int) ≤ (q : Int) := by omega
      have q1 : (q : Int) < (n : Int) := by omega
      have q2 : (q : Int) ≤ 10 := by omega
      have hbl : b < wr.heap.size := Nat.lt_of_lt_of_le hb HBW.out.size
      clear fx1 fx2 fy1 fy2 hXl hYl hX hY hsm hb s1 hq
      go_upto_region 7 with fail
      go_cut [10, 11] (fun s10 s11 wx => ∃ gb, s10 = .pointer (some ⟨gb, 0, none⟩) ∧ s11 = .int .i64 0 ∧ GCell wx gb (gz (nthZ L q) 4) ∧ wr.heap.size ≤ gb ∧ gb < wx.heap.size ∧ Below wr.heap.size wr wx)
      case first =>
        refine wp_region_held_drew (S := fun x => Below wr.heap.size wr x ∧ x.cell? ⟨b, o + q * 2, none⟩ = some (.int .i8 (nthZ L q).re) ∧ x.cell? ⟨b, o + q * 2 + 1, none⟩ = some (.int .i8 (nthZ L q).im)) (by kernel_rfl) (by exact ⟨(Below.refl _ _).drew, (Below.cell ((Below.refl _ _).drew) (p := ⟨b, o + q * 2, none⟩) hbl).trans hc0, (Below.cell ((Below.refl _ _).drew) (p := ⟨b, o + q * 2 + 1, none⟩) hbl).trans hc1⟩) (fun hHeld => ?_)
        have vb0 := Lib.hid (show Below wr.heap.size wr wr.drew from (Below.refl _ _).drew)
        refine wpAnyH_put (i := 0) (v := ?v1) (some 37) rfl rfl (by kernel_rfl) (by kernel_rfl) (by kernel_rfl) (fun _ _ _ h => h) (Or.inl ⟨by kernel_rfl, ?hv1⟩) (by assumption) ?rv1
        case hv1 => (intro w hSw; (try dsimp only at hSw); go_simp; (try with_reducible rfl))
        try simp only [Act.put, List.setIfInBounds_toArray, List.set_cons_zero, List.set_cons_succ]
        refine wpAnyH_put (i := 1) (v := ?v2) (some 38) rfl rfl (by kernel_rfl) (by kernel_rfl) (by kernel_rfl) (fun _ _ _ h => h) (Or.inl ⟨by kernel_rfl, ?hv2⟩) (by assumption) ?rv2
        case hv2 => (intro w hSw; (try dsimp only at hSw); go_simp; (try with_reducible rfl))
        try simp only [Act.put, List.setIfInBounds_toArray, List.set_cons_zero, List.set_cons_succ]
        refine wpAnyH_put (i := 2) (v := ?v3) (some 39) rfl rfl (by kernel_rfl) (by kernel_rfl) (by kernel_rfl) (fun _ _ _ h => h) (Or.inl ⟨by kernel_rfl, ?hv3⟩) (by assumption) ?rv3
        case hv3 => (intro w hSw; (try dsimp only at hSw); go_simp; (try with_reducible rfl))
        try simp only [Act.put, List.setIfInBounds_toArray, List.set_cons_zero, List.set_cons_succ]
        refine wpAnyH_put (i := 3) (v := ?v4) (some 40) rfl rfl (by kernel_rfl) (by kernel_rfl) (by kernel_rfl) (fun _ _ _ h => h) (Or.inl ⟨by kernel_rfl, ?hv4⟩) (by assumption) ?rv4
        case hv4 => (intro w hSw; (try dsimp only at hSw); go_simp; (try with_reducible rfl))
        try simp only [Act.put, List.setIfInBounds_toArray, List.set_cons_zero, List.set_cons_succ]
        refine wpAnyH_put (i := 4) (v := ?v5) (some 41) rfl rfl (by kernel_rfl) (by kernel_rfl) (by kernel_rfl) (fun _ _ _ h => h) (Or.inl ⟨by kernel_rfl, ?hv5⟩) (by assumption) ?rv5
        case hv5 => (intro w hSw; (try dsimp only at hSw); go_simp; (try with_reducible rfl))
        try simp only [Act.put, List.setIfInBounds_toArray, List.set_cons_zero, List.set_cons_succ]
        refine wpAnyH_put (i := 5) (v := ?v6) (some 42) rfl rfl (by kernel_rfl) (by kernel_rfl) (by kernel_rfl) (fun _ _ _ h => h) (Or.inl ⟨by kernel_rfl, ?hv6⟩) (by assumption) ?rv6
        case hv6 => (intro w hSw; (try dsimp only at hSw); go_simp; (try with_reducible rfl))
        try simp only [Act.put, List.setIfInBounds_toArray, List.set_cons_zero, List.set_cons_succ]
        refine wpAnyH_put (i := 6) (v := .float .f64 X) (some 43) rfl rfl (by kernel_rfl) (by kernel_rfl) (by kernel_rfl) (fun _ _ _ h => h) (yields_fop (by kernel_rfl) rfl rfl rfl HX.out) (by assumption) ?_
        try simp only [Act.put, List.setIfInBounds_toArray, List.set_cons_zero, List.set_cons_succ]
        refine wpAnyH_put (i := 7) (v := ?v8) (some 44) rfl rfl (by kernel_rfl) (by kernel_rfl) (by kernel_rfl) (fun _ _ _ h => h) (Or.inl ⟨by kernel_rfl, ?hv8⟩) (by assumption) ?rv8
        case hv8 => (intro w hSw; (try dsimp only at hSw); go_simp; (try with_reducible rfl))
        try simp only [Act.put, List.setIfInBounds_toArray, List.set_cons_zero, List.set_cons_succ]
        refine wpAnyH_put (i := 8) (v := ?v9) (some 45) rfl rfl (by kernel_rfl) (by kernel_rfl) (by kernel_rfl) (fun _ _ _ h => h) (Or.inl ⟨by kernel_rfl, ?hv9⟩) (by assumption) ?rv9
        case hv9 => (intro w hSw; (try dsimp only at hSw); go_simp; (try with_reducible rfl))
        try simp only [Act.put, List.setIfInBounds_toArray, List.set_cons_zero, List.set_cons_succ]
        refine wpAnyH_put (i := 9) (v := ?v10) (some 46) rfl rfl (by kernel_rfl) (by kernel_rfl) (by kernel_rfl) (fun _ _ _ h => h) (Or.inl ⟨by kernel_rfl, ?hv10⟩) (by assumption) ?rv10
        case hv10 => (intro w hSw; (try dsimp only at hSw); go_simp; (try with_reducible rfl))
        try simp only [Act.put, List.setIfInBounds_toArray, List.set_cons_zero, List.set_cons_succ]
        refine wpAnyH_put (i := 10) (v := ?v11) (some 47) rfl rfl (by kernel_rfl) (by kernel_rfl) (by kernel_rfl) (fun _ _ _ h => h) (Or.inl ⟨by kernel_rfl, ?hv11⟩) (by assumption) ?rv11
        case hv11 => (intro w hSw; (try dsimp only at hSw); go_simp; (try with_reducible rfl))
        try simp only [Act.put, List.setIfInBounds_toArray, List.set_cons_zero, List.set_cons_succ]
        refine wpAnyH_put (i := 11) (v := ?v12) (some 48) rfl rfl (by kernel_rfl) (by kernel_rfl) (by kernel_rfl) (fun _ _ _ h => h) (Or.inl ⟨by kernel_rfl, ?hv12⟩) (by assumption) ?rv12
        case hv12 => (intro w hSw; (try dsimp only at hSw); go_simp; (try with_reducible rfl))
        try simp only [Act.put, List.setIfInBounds_toArray, List.set_cons_zero, List.set_cons_succ]
        refine wpAnyH_put (i := 12) (v := ?v13) (some 49) rfl rfl (by kernel_rfl) (by kernel_rfl) (by kernel_rfl) (fun _ _ _ h => h) (Or.inl ⟨by kernel_rfl, ?hv13⟩) (by assumption) ?rv13
        case hv13 => (intro w hSw; (try dsimp only at hSw); go_simp; (try with_reducible rfl))
        try simp only [Act.put, List.setIfInBounds_toArray, List.set_cons_zero, List.set_cons_succ]
        refine wpAnyH_put (i := 13) (v := .float .f64 Y) (some 50) rfl rfl (by kernel_rfl) (by kernel_rfl) (by kernel_rfl) (fun _ _ _ h => h) (yields_fop (by kernel_rfl) rfl rfl rfl HY.out) (by assumption) ?_
        try simp only [Act.put, List.setIfInBounds_toArray, List.set_cons_zero, List.set_cons_succ]
        refine wpAnyH_put (i := 14) (v := ?v15) (some 51) rfl rfl (by kernel_rfl) (by kernel_rfl) (by kernel_rfl) (fun _ _ _ h => h) (Or.inl ⟨by kernel_rfl, ?hv15⟩) (by assumption) ?rv15
        case hv15 => (intro w hSw; (try dsimp only at hSw); go_simp; (try with_reducible rfl))
        try simp only [Act.put, List.setIfInBounds_toArray, List.set_cons_zero, List.set_cons_succ]
        refine wpAnyH_ready (rs := [15, 19]) (by kernel_rfl) (by simp) ?_
        refine (allReady_put (some 52) rfl rfl (fun K hK => ?_) (allReady_put (some 10) rfl rfl (fun K hK => ?_) AllReadyH.nil))
        · go_simp
          (with_reducible refine (HCX.out _ (HTr.out.below vb0.out)).mono ?_)
          rintro e xv16 ⟨rfl, dv16⟩
          have Bv16 := Lib.hid (vb0.out.trans (dv16.mono vb0.out.size))
          clear dv16
          refine hK.out _ _ (by exact ⟨Bv16.out, (Below.cell (Bv16.out) (p := ⟨b, o + q * 2, none⟩) hbl).trans hc0, (Below.cell (Bv16.out) (p := ⟨b, o + q * 2 + 1, none⟩) hbl).trans hc1⟩) (fun hHeld => ?_)
          clear hK K
          try simp only [Act.put, List.setIfInBounds_toArray, List.set_cons_zero, List.set_cons_succ]
          refine wpAnyH_put (i := 16) (v := ?v17) (some 36) rfl rfl (by kernel_rfl) (by kernel_rfl) (by kernel_rfl) (fun _ _ _ h => h) (Or.inl ⟨by kernel_rfl, ?hv17⟩) (by assumption) ?rv17
          case hv17 => (intro w hSw; (try dsimp only at hSw); go_simp; (try with_reducible rfl))
          try simp only [Act.put, List.setIfInBounds_toArray, List.set_cons_zero, List.set_cons_succ]
          refine wpAnyH_put (i := 17) (v := ?v18) (some 53) rfl rfl (by kernel_rfl) (by kernel_rfl) (by kernel_rfl) (fun _ _ _ h => h) (Or.inl ⟨by kernel_rfl, ?hv18⟩) (by assumption) ?rv18
          case hv18 => (intro w hSw; (try dsimp only at hSw); go_simp; (try with_reducible rfl))
          try simp only [Act.put, List.setIfInBounds_toArray, List.set_cons_zero, List.set_cons_succ]
          refine wpAnyH_put (i := 18) (v := ?v19) (some 54) rfl rfl (by kernel_rfl) (by kernel_rfl) (by kernel_rfl) (fun _ _ _ h => h) (Or.inl ⟨by kernel_rfl, ?hv19⟩) (by assumption) ?rv19
          case hv19 => (intro w hSw; (try dsimp only at hSw); go_simp; (try with_reducible rfl))
          try simp only [Act.put, List.setIfInBounds_toArray, List.set_cons_zero, List.set_cons_succ]
          refine wpAnyH_ready (rs := [19]) (by kernel_rfl) (by simp) ?_
          refine (allReady_put (some 10) rfl rfl (fun K hK => ?_) AllReadyH.nil)
          refine stepg_alloc rfl rfl rfl Bv16.out (Nat.le_trans (Nat.le_refl _) Bv16.out.size) (fun bv20 xv20 gv20 lv20 mv20 bv20_ _ => ?_)
          have Nv20 := Lib.hid gv20
          have Bv20 := Lib.hid bv20_
          clear gv20 bv20_
          refine hK.out _ _ (by exact ⟨Bv20.out, (Below.cell (Bv20.out) (p := ⟨b, o + q * 2, none⟩) hbl).trans hc0, (Below.cell (Bv20.out) (p := ⟨b, o + q * 2 + 1, none⟩) hbl).trans hc1⟩) (fun hHeld => ?_)
          clear hK K
          try simp only [Act.put, List.setIfInBounds_toArray, List.set_cons_zero, List.set_cons_succ]
          refine wpAnyH_ready (rs := [20]) (by kernel_rfl) (by simp) ?_
          refine (allReady_put (none) rfl rfl (fun K hK => ?_) AllReadyH.nil)
          refine stepg_storeN rfl rfl rfl Nv20.out Bv20.out lv20 rfl rfl (fun xv21 gv21 bv21 qv21 => ?_)
          have Nv21 := Lib.hid gv21
          have Bv21 := Lib.hid bv21
          have mv21 := Nat.lt_of_lt_of_le mv20 (Nat.le_of_eq qv21.symm)
          clear gv21 bv21 qv21
          refine hK.out _ _ (by exact ⟨Bv21.out, (Below.cell (Bv21.out) (p := ⟨b, o + q * 2, none⟩) hbl).trans hc0, (Below.cell (Bv21.out) (p := ⟨b, o + q * 2 + 1, none⟩) hbl).trans hc1⟩) (fun hHeld => ?_)
          clear hK K
          try simp only [Act.put]
          refine wpAnyH_ready (rs := [21]) (by kernel_rfl) (by simp) ?_
          refine (allReady_put (some 11) rfl rfl (fun K hK => ?_) AllReadyH.nil)
          go_simp
          refine hK.out _ _ (by exact ⟨Bv21.out, (Below.cell (Bv21.out) (p := ⟨b, o + q * 2, none⟩) hbl).trans hc0, (Below.cell (Bv21.out) (p := ⟨b, o + q * 2 + 1, none⟩) hbl).trans hc1⟩) (fun hHeld => ?_)
          clear hK K
          try simp only [Act.put, List.setIfInBounds_toArray, List.set_cons_zero, List.set_cons_succ]
          refine wpAnyH_done (by kernel_rfl) ?_ _
          go_wp2
          go_meet
          case rel => exact ⟨bv20, rfl, rfl, Nv21.out, lv20, mv21, Bv21.out⟩
        · refine stepg_alloc rfl rfl rfl vb0.out (Nat.le_trans (Nat.le_refl _) vb0.out.size) (fun bv23 xv23 gv23 lv23 mv23 bv23_ _ => ?_)
          have Nv23 := Lib.hid gv23
          have Bv23 := Lib.hid bv23_
          clear gv23 bv23_
          refine hK.out _ _ (by exact ⟨Bv23.out, (Below.cell (Bv23.out) (p := ⟨b, o + q * 2, none⟩) hbl).trans hc0, (Below.cell (Bv23.out) (p := ⟨b, o + q * 2 + 1, none⟩) hbl).trans hc1⟩) (fun hHeld => ?_)
          clear hK K
          try simp only [Act.put, List.setIfInBounds_toArray, List.set_cons_zero, List.set_cons_succ]
          refine wpAnyH_ready (rs := [15]) (by kernel_rfl) (by simp) ?_
          refine (allReady_put (some 52) rfl rfl (fun K hK => ?_) AllReadyH.nil)
          go_simp
          (with_reducible refine (HCX.out _ (HTr.out.below Bv23.out)).mono ?_)
          rintro e xv24 ⟨rfl, dv24⟩
          have Bv24 := Lib.hid (Bv23.out.trans (dv24.mono Bv23.out.size))
          have Nv24 := Lib.hid (Nv23.out.below dv24 mv23)
          have mv24 := Nat.lt_of_lt_of_le mv23 dv24.size
          clear dv24
          refine hK.out _ _ (by exact ⟨Bv24.out, (Below.cell (Bv24.out) (p := ⟨b, o + q * 2, none⟩) hbl).trans hc0, (Below.cell (Bv24.out) (p := ⟨b, o + q * 2 + 1, none⟩) hbl).trans hc1⟩) (fun hHeld => ?_)
          clear hK K
          try simp only [Act.put, List.setIfInBounds_toArray, List.set_cons_zero, List.set_cons_succ]
          refine wpAnyH_put (i := 16) (v := ?v25) (some 36) rfl rfl (by kernel_rfl) (by kernel_rfl) (by kernel_rfl) (fun _ _ _ h => h) (Or.inl ⟨by kernel_rfl, ?hv25⟩) (by assumption) ?rv25
          case hv25 => (intro w hSw; (try dsimp only at hSw); go_simp; (try with_reducible rfl))
          try simp only [Act.put, List.setIfInBounds_toArray, List.set_cons_zero, List.set_cons_succ]
          refine wpAnyH_put (i := 17) (v := ?v26) (some 53) rfl rfl (by kernel_rfl) (by kernel_rfl) (by kernel_rfl) (fun _ _ _ h => h) (Or.inl ⟨by kernel_rfl, ?hv26⟩) (by assumption) ?rv26
          case hv26 => (intro w hSw; (try dsimp only at hSw); go_simp; (try with_reducible rfl))
          try simp only [Act.put, List.setIfInBounds_toArray, List.set_cons_zero, List.set_cons_succ]
          refine wpAnyH_put (i := 18) (v := ?v27) (some 54) rfl rfl (by kernel_rfl) (by kernel_rfl) (by kernel_rfl) (fun _ _ _ h => h) (Or.inl ⟨by kernel_rfl, ?hv27⟩) (by assumption) ?rv27
          case hv27 => (intro w hSw; (try dsimp only at hSw); go_simp; (try with_reducible rfl))
          try simp only [Act.put, List.setIfInBounds_toArray, List.set_cons_zero, List.set_cons_succ]
          refine wpAnyH_ready (rs := [20]) (by kernel_rfl) (by simp) ?_
          refine (allReady_put (none) rfl rfl (fun K hK => ?_) AllReadyH.nil)
          refine stepg_storeN rfl rfl rfl Nv24.out Bv24.out lv23 rfl rfl (fun xv28 gv28 bv28 qv28 => ?_)
          have Nv28 := Lib.hid gv28
          have Bv28 := Lib.hid bv28
          have mv28 := Nat.lt_of_lt_of_le mv24 (Nat.le_of_eq qv28.symm)
          clear gv28 bv28 qv28
          refine hK.out _ _ (by exact ⟨Bv28.out, (Below.cell (Bv28.out) (p := ⟨b, o + q * 2, none⟩) hbl).trans hc0, (Below.cell (Bv28.out) (p := ⟨b, o + q * 2 + 1, none⟩) hbl).trans hc1⟩) (fun hHeld => ?_)
          clear hK K
          try simp only [Act.put]
          refine wpAnyH_ready (rs := [21]) (by kernel_rfl) (by simp) ?_
          refine (allReady_put (some 11) rfl rfl (fun K hK => ?_) AllReadyH.nil)
          go_simp
          refine hK.out _ _ (by exact ⟨Bv28.out, (Below.cell (Bv28.out) (p := ⟨b, o + q * 2, none⟩) hbl).trans hc0, (Below.cell (Bv28.out) (p := ⟨b, o + q * 2 + 1, none⟩) hbl).trans hc1⟩) (fun hHeld => ?_)
          clear hK K
          try simp only [Act.put, List.setIfInBounds_toArray, List.set_cons_zero, List.set_cons_succ]
          refine wpAnyH_done (by kernel_rfl) ?_ _
          go_wp2
          go_meet
          case rel => exact ⟨bv23, rfl, rfl, Nv28.out, lv23, mv28, Bv28.out⟩

      case rest =>
        obtain ⟨gb, rfl, rfl, hgc, hlo, hhi, hbc⟩ := hcut
        have HGC := Lib.hid hgc
        have HBC := Lib.hid hbc
        have HOVc := Lib.hid (own_below HOV.out hbc)
        have HOPc := Lib.hid (own_below HOP.out hbc)
        have sc := hbc.size
        have sw := HBW.out.size
        have hvl : ∀ k, u8.ownBlock = some k → w.heap.size ≤ k ∧ k < wr.heap.size := HOV.out.lt
        obtain ⟨⟨c0, c1, c2, c3, c4, c5⟩, _⟩ := hgc
        have HVL := Lib.hid hvl
        clear hbc hvl hc0 hc1 hbl
        go_wp2_with (at_builtin; refine wpList_append_own_at _ rfl _ _ 49 rfl w.heap.size 31 i0 (.agg #[.bool false, .string ⟨#[]⟩, .int .i64 0, .bool false, .string ⟨#[]⟩, .int .i64 0]) 6 64 Tryz.underlying49 hi hz0 hz1 hz2 rfl (by decide) _ _ _ rfl (HOVc.out.alloc _) ⟨wc.heap.size, 0, none⟩ 1 1 (ecells (gz (nthZ L q) 4)) rfl rfl ?c1 ?c2 ?c3 ?c4 ?c5 ?_)
        case c1 => exact fun j u hj => hj
        case c2 => exact ecells_one _
        case c3 => unfold maxLen; omega
        case c4 => omega
        case c5 => omega
        intro v' w8 hown' hgrow _ hat
        have z8 : wc.heap.size + 1 ≤ w8.heap.size := by have := hgrow.size; simpa using this
        have hqn : q < L.length := by have := HN.out; omega
        have HOV8 := Lib.hid (show w8.ownsRow w.heap.size 31 6 v' (q + 1) (ecs (gl (L.take (q + 1)))) by rw [gl_take hqn, ecs_append, ecs_one]; exact hown')
        have HOP8 := Lib.hid ((HOPc.out.alloc (.cells #[.bool (dn (gz (nthZ L q) 4).1), .string (ds (gz (nthZ L q) 4).1), .int .i64 (gz (nthZ L q) 4).1.e, .bool (dn (gz (nthZ L q) 4).2), .string (ds (gz (nthZ L q) 4).2), .int .i64 (gz (nthZ L q) 4).2.e] 31)).kept hgrow (sep_swap HSEP.out))
        have HG8 := Lib.hid ((HGC.out.below (alloc_below wc (.cells #[.bool (dn (gz (nthZ L q) 4).1), .string (ds (gz (nthZ L q) 4).1), .int .i64 (gz (nthZ L q) 4).1.e, .bool (dn (gz (nthZ L q) 4).2), .string (ds (gz (nthZ L q) 4).2), .int .i64 (gz (nthZ L q) 4).2.e] 31)) hhi).grown hgrow (by simp; omega) (fun e => by have := (HVL.out gb e).2; omega))
        have HB8 := Lib.hid (show Below w.heap.size w w8 from ((HBW.out.trans (HBC.out.mono sw)).alloc (by omega) _).grown hgrow (by simp; omega) (fun k hk => (HVL.out k hk).1))
        obtain ⟨w9, hrun, hmk, hgr9⟩ := run_make_full (P := Tryz.prog) w8 w.heap.size 49 31 i0 (.agg #[.bool false, .string ⟨#[]⟩, .int .i64 0, .bool false, .string ⟨#[]⟩, .int .i64 0]) 6 Tryz.underlying49 hi hz0 hz1 .i64 .i64 (q + 2) (by rw [hz2]; omega) (by unfold maxLen; omega) (by omega)
        rw [show (((q + 2 : Nat)) : Int) = (q : Int) + 1 + 1 by omega] at hrun
        have hb9 : Below w8.heap.size w8 w9 := (Below.refl _ _).grown hgr9 (Nat.le_refl _) (fun k hk => by cases hk)
        have HMK := Lib.hid (show w9.ownsRow w.heap.size 31 6 (.slice (some ⟨w8.heap.size, 0, none⟩) (q + 2) (q + 2)) (q + 2) (ecs (qst q (nthZ L q) (zmake (L.take q).reverse) 0)) by rw [qst_zero, ← zeros_row]; exact hmk)
        have HB9 := Lib.hid hb9
        have HAT := Lib.hid hat
        clear hown' hgrow hat hgr9 hmk hb9 c0 c1 c2 c3 c4 c5
        obtain ⟨P, hP⟩ : ∃ P, zmake (L.take q).reverse = P := ⟨_, rfl⟩
        have hPl : P.length = q + 1 := by rw [← hP]; exact zmake_take_len (by omega)
        have hPz : ∀ j, Zb 90 (nthZ P j) := fun j => by rw [← hP]; exact HL.out.zb q j
        have hPs : ∀ j, Zb 91 (nthZ (zstep (nthZ L q) P) j) := fun j => by rw [← hP, ← zmake_take hqn]; exact (HL.out.zb (q + 1) j).mono (by decide)
        have hPn : zmake (L.take (q + 1)).reverse = zstep (nthZ L q) P := by rw [← hP]; exact zmake_take hqn
        have hGz : Zb 9 (nthZ L q) := HL.out.zbG hqn
        rw [hP] at HMK HOP8
        have HPL := Lib.hid hPl
        have HPZ := Lib.hid hPz
        have HPS := Lib.hid hPs
        have HPN := Lib.hid hPn
        have HGZ := Lib.hid hGz
        generalize nthZ L q = G at *
        clear hP hPl hPz hPs hPn hGz HX HY HCX HGC HBC HOVc HOPc
        have l8 : gb < w8.heap.size := by omega
        go_wp2
        go_loopw [13] (fun k wz => ∃ j : Nat, j ≤ q + 1 ∧ k = .int .i64 j ∧ wz.ownsRow w.heap.size 31 6 (.slice (some ⟨w8.heap.size, 0, none⟩) (q + 2) (q + 2)) (q + 2) (ecs (qst q G P j)) ∧ Below w8.heap.size w8 wz) (fun k _ => q + 1 - (intOf k).toNat)
        case atStart => exact ⟨0, Nat.zero_le _, rfl, HMK.out, HB9.out⟩
        case round =>
          rename World => wx
          obtain ⟨j, hj, rfl, hoq, hbx⟩ := hrel
          have HOQ := Lib.hid hoq
          have HBX := Lib.hid hbx
          have sx := hbx.size
          clear hoq hbx
          by_cases hjq : j < q + 1
          · have EP := Lib.hid (show EAt wx gp (j * 6) (gz (nthZ P j) (4 * (q - j))) from by
              have h := (own_eat HOP8.out hjq).2.1
              rw [sgs_at P (by rw [HPL.out]; exact hjq), HPL.out, show q + 1 - 1 - j = q - j by omega] at h
              exact h.below HBX.out (own_eat HOP8.out hjq).1)
            have EG := Lib.hid (HG8.out.n.below HBX.out l8)
            have lgp : gp < wx.heap.size := Nat.lt_of_lt_of_le (own_eat HOP8.out hjq).1 sx
            have lgb : gb < wx.heap.size := by omega
            have HTx := Lib.hid (HT.out.below (HB8.out.trans (HBX.out.mono HB8.out.size)))
            have HNG := Lib.hid (fun w => gg_neg G (HGZ.out.mono (by decide)) 4 (by decide) w)
            have HMU := Lib.hid (fun w hT => gg_mul (nthZ P j) (zneg G) ((HPZ.out j).mono (by decide)) (Zb.neg (HGZ.out.mono (by decide))) (4 * (q - j)) 4 (by omega) (by decide) w hT)
            have j0 : (0 : Int) ≤ (j : Int) := by omega
            have j1 : (j : Int) < (q : Int) + 1 := by omega
            have j2 : (j : Int) < (q : Int) + 2 := by omega
            have j3 : (j : Int) + 1 < (q : Int) + 2 := by omega
            have j4 : 0 ≤ (j : Int) + 1 := by omega
            go_upto_region 15 with fail
            go_cut [14, 15] (fun s14 s15 wy => ∃ gm, s14 = .pointer (some ⟨gm, 0, none⟩) ∧ s15 = .int .i64 0 ∧ GCell wy gm (gz (zmul (nthZ P j) (zneg G)) (4 * (q - j) + 4)) ∧ wx.heap.size ≤ gm ∧ gm < wy.heap.size ∧ Below wx.heap.size wx wy)
            case first =>
              refine wp_region_held_drew (S := fun x => Below wx.heap.size wx x) (by kernel_rfl) (by exact (Below.refl _ _).drew) (fun hHeld => ?_)
              have tb0 := Lib.hid (show Below wx.heap.size wx wx.drew from (Below.refl _ _).drew)
              refine wpAnyH_put (i := 0) (v := ?t1) (some 72) rfl rfl (by kernel_rfl) (by kernel_rfl) (by kernel_rfl) (fun _ _ _ h => h) (Or.inl ⟨by kernel_rfl, ?ht1⟩) (by assumption) ?rt1
              case ht1 => (intro w hSw; (try dsimp only at hSw); go_simp; (try with_reducible rfl))
              try simp only [Act.put, List.setIfInBounds_toArray, List.set_cons_zero, List.set_cons_succ]
              refine wpAnyH_put (i := 1) (v := ?t2) (some 73) rfl rfl (by kernel_rfl) (by kernel_rfl) (by kernel_rfl) (fun _ _ _ h => h) (Or.inl ⟨by kernel_rfl, ?ht2⟩) (by assumption) ?rt2
              case ht2 => (intro w hSw; (try dsimp only at hSw); go_simp; (try with_reducible rfl))
              try simp only [Act.put, List.setIfInBounds_toArray, List.set_cons_zero, List.set_cons_succ]
              refine wpAnyH_put (i := 2) (v := ?t3) (some 74) rfl rfl (by kernel_rfl) (by kernel_rfl) (by kernel_rfl) (fun _ _ _ h => h) (Or.inl ⟨by kernel_rfl, ?ht3⟩) (by assumption) ?rt3
              case ht3 => (intro w hSw; (try dsimp only at hSw); go_simp; (try with_reducible rfl))
              try simp only [Act.put, List.setIfInBounds_toArray, List.set_cons_zero, List.set_cons_succ]
              refine wpAnyH_put (i := 3) (v := ge (gz (nthZ P j) (4 * (q - j)))) (some 75) rfl rfl (by kernel_rfl) (by kernel_rfl) (by kernel_rfl) (fun _ _ _ h => h) (yields_ge (by kernel_rfl) rfl rfl (fun x (hx : Below wx.heap.size wx x) => EP.out.below hx lgp)) (by assumption) ?_
              try simp only [Act.put, List.setIfInBounds_toArray, List.set_cons_zero, List.set_cons_succ]
              refine wpAnyH_put (i := 4) (v := ge (gz G 4)) (some 76) rfl rfl (by kernel_rfl) (by kernel_rfl) (by kernel_rfl) (fun _ _ _ h => h) (yields_ge (by kernel_rfl) rfl rfl (fun x (hx : Below wx.heap.size wx x) => EG.out.below hx lgb)) (by assumption) ?_
              try simp only [Act.put, List.setIfInBounds_toArray, List.set_cons_zero, List.set_cons_succ]
              refine wpAnyH_ready (rs := [5, 10]) (by kernel_rfl) (by simp) ?_
              refine (allReady_put (some 77) rfl rfl (fun K hK => ?_) (allReady_put (some 14) rfl rfl (fun K hK => ?_) AllReadyH.nil))
              · go_simp
                (with_reducible refine (HNG.out _).mono ?_)
                rintro e xt6 ⟨rfl, dt6⟩
                have Bt6 := Lib.hid (tb0.out.trans (dt6.mono tb0.out.size))
                clear dt6
                refine hK.out _ _ (by exact Bt6.out) (fun hHeld => ?_)
                clear hK K
                try simp only [Act.put, List.setIfInBounds_toArray, List.set_cons_zero, List.set_cons_succ]
                refine wpAnyH_ready (rs := [6, 10]) (by kernel_rfl) (by simp) ?_
                refine (allReady_put (some 78) rfl rfl (fun K hK => ?_) (allReady_put (some 14) rfl rfl (fun K hK => ?_) AllReadyH.nil))
                · go_simp
                  (with_reducible refine (HMU.out _ (HTx.out.below Bt6.out)).mono ?_)
                  rintro e xt7 ⟨rfl, dt7⟩
                  have Bt7 := Lib.hid (Bt6.out.trans (dt7.mono Bt6.out.size))
                  clear dt7
                  refine hK.out _ _ (by exact Bt7.out) (fun hHeld => ?_)
                  clear hK K
                  try simp only [Act.put, List.setIfInBounds_toArray, List.set_cons_zero, List.set_cons_succ]
                  refine wpAnyH_put (i := 7) (v := ?t8) (some 71) rfl rfl (by kernel_rfl) (by kernel_rfl) (by kernel_rfl) (fun _ _ _ h => h) (Or.inl ⟨by kernel_rfl, ?ht8⟩) (by assumption) ?rt8
                  case ht8 => (intro w hSw; (try dsimp only at hSw); go_simp; (try with_reducible rfl))
                  try simp only [Act.put, List.setIfInBounds_toArray, List.set_cons_zero, List.set_cons_succ]
                  refine wpAnyH_put (i := 8) (v := ?t9) (some 79) rfl rfl (by kernel_rfl) (by kernel_rfl) (by kernel_rfl) (fun _ _ _ h => h) (Or.inl ⟨by kernel_rfl, ?ht9⟩) (by assumption) ?rt9
                  case ht9 => (intro w hSw; (try dsimp only at hSw); go_simp; (try with_reducible rfl))
                  try simp only [Act.put, List.setIfInBounds_toArray, List.set_cons_zero, List.set_cons_succ]
                  refine wpAnyH_put (i := 9) (v := ?t10) (some 80) rfl rfl (by kernel_rfl) (by kernel_rfl) (by kernel_rfl) (fun _ _ _ h => h) (Or.inl ⟨by kernel_rfl, ?ht10⟩) (by assumption) ?rt10
                  case ht10 => (intro w hSw; (try dsimp only at hSw); go_simp; (try with_reducible rfl))
                  try simp only [Act.put, List.setIfInBounds_toArray, List.set_cons_zero, List.set_cons_succ]
                  refine wpAnyH_ready (rs := [10]) (by kernel_rfl) (by simp) ?_
                  refine (allReady_put (some 14) rfl rfl (fun K hK => ?_) AllReadyH.nil)
                  refine stepg_alloc rfl rfl rfl Bt7.out (Nat.le_trans (Nat.le_refl _) Bt7.out.size) (fun bt11 xt11 gt11 lt11 mt11 bt11_ _ => ?_)
                  have Nt11 := Lib.hid gt11
                  have Bt11 := Lib.hid bt11_
                  clear gt11 bt11_
                  refine hK.out _ _ (by exact Bt11.out) (fun hHeld => ?_)
                  clear hK K
                  try simp only [Act.put, List.setIfInBounds_toArray, List.set_cons_zero, List.set_cons_succ]
                  refine wpAnyH_ready (rs := [11]) (by kernel_rfl) (by simp) ?_
                  refine (allReady_put (none) rfl rfl (fun K hK => ?_) AllReadyH.nil)
                  refine stepg_storeN rfl rfl rfl Nt11.out Bt11.out lt11 rfl rfl (fun xt12 gt12 bt12 qt12 => ?_)
                  have Nt12 := Lib.hid gt12
                  have Bt12 := Lib.hid bt12
                  have mt12 := Nat.lt_of_lt_of_le mt11 (Nat.le_of_eq qt12.symm)
                  clear gt12 bt12 qt12
                  refine hK.out _ _ (by exact Bt12.out) (fun hHeld => ?_)
                  clear hK K
                  try simp only [Act.put]
                  refine wpAnyH_ready (rs := [12]) (by kernel_rfl) (by simp) ?_
                  refine (allReady_put (some 15) rfl rfl (fun K hK => ?_) AllReadyH.nil)
                  go_simp
                  refine hK.out _ _ (by exact Bt12.out) (fun hHeld => ?_)
                  clear hK K
                  try simp only [Act.put, List.setIfInBounds_toArray, List.set_cons_zero, List.set_cons_succ]
                  refine wpAnyH_done (by kernel_rfl) ?_ _
                  go_wp2
                  go_meet
                  case rel => exact ⟨bt11, rfl, rfl, Nt12.out, lt11, mt12, Bt12.out⟩
                · refine stepg_alloc rfl rfl rfl Bt6.out (Nat.le_trans (Nat.le_refl _) Bt6.out.size) (fun bt14 xt14 gt14 lt14 mt14 bt14_ _ => ?_)
                  have Nt14 := Lib.hid gt14
                  have Bt14 := Lib.hid bt14_
                  clear gt14 bt14_
                  refine hK.out _ _ (by exact Bt14.out) (fun hHeld => ?_)
                  clear hK K
                  try simp only [Act.put, List.setIfInBounds_toArray, List.set_cons_zero, List.set_cons_succ]
                  refine wpAnyH_ready (rs := [6]) (by kernel_rfl) (by simp) ?_
                  refine (allReady_put (some 78) rfl rfl (fun K hK => ?_) AllReadyH.nil)
                  go_simp
                  (with_reducible refine (HMU.out _ (HTx.out.below Bt14.out)).mono ?_)
                  rintro e xt15 ⟨rfl, dt15⟩
                  have Bt15 := Lib.hid (Bt14.out.trans (dt15.mono Bt14.out.size))
                  have Nt15 := Lib.hid (Nt14.out.below dt15 mt14)
                  have mt15 := Nat.lt_of_lt_of_le mt14 dt15.size
                  clear dt15
                  refine hK.out _ _ (by exact Bt15.out) (fun hHeld => ?_)
                  clear hK K
                  try simp only [Act.put, List.setIfInBounds_toArray, List.set_cons_zero, List.set_cons_succ]
                  refine wpAnyH_put (i := 7) (v := ?t16) (some 71) rfl rfl (by kernel_rfl) (by kernel_rfl) (by kernel_rfl) (fun _ _ _ h => h) (Or.inl ⟨by kernel_rfl, ?ht16⟩) (by assumption) ?rt16
                  case ht16 => (intro w hSw; (try dsimp only at hSw); go_simp; (try with_reducible rfl))
                  try simp only [Act.put, List.setIfInBounds_toArray, List.set_cons_zero, List.set_cons_succ]
                  refine wpAnyH_put (i := 8) (v := ?t17) (some 79) rfl rfl (by kernel_rfl) (by kernel_rfl) (by kernel_rfl) (fun _ _ _ h => h) (Or.inl ⟨by kernel_rfl, ?ht17⟩) (by assumption) ?rt17
                  case ht17 => (intro w hSw; (try dsimp only at hSw); go_simp; (try with_reducible rfl))
                  try simp only [Act.put, List.setIfInBounds_toArray, List.set_cons_zero, List.set_cons_succ]
                  refine wpAnyH_put (i := 9) (v := ?t18) (some 80) rfl rfl (by kernel_rfl) (by kernel_rfl) (by kernel_rfl) (fun _ _ _ h => h) (Or.inl ⟨by kernel_rfl, ?ht18⟩) (by assumption) ?rt18
                  case ht18 => (intro w hSw; (try dsimp only at hSw); go_simp; (try with_reducible rfl))
                  try simp only [Act.put, List.setIfInBounds_toArray, List.set_cons_zero, List.set_cons_succ]
                  refine wpAnyH_ready (rs := [11]) (by kernel_rfl) (by simp) ?_
                  refine (allReady_put (none) rfl rfl (fun K hK => ?_) AllReadyH.nil)
                  refine stepg_storeN rfl rfl rfl Nt15.out Bt15.out lt14 rfl rfl (fun xt19 gt19 bt19 qt19 => ?_)
                  have Nt19 := Lib.hid gt19
                  have Bt19 := Lib.hid bt19
                  have mt19 := Nat.lt_of_lt_of_le mt15 (Nat.le_of_eq qt19.symm)
                  clear gt19 bt19 qt19
                  refine hK.out _ _ (by exact Bt19.out) (fun hHeld => ?_)
                  clear hK K
                  try simp only [Act.put]
                  refine wpAnyH_ready (rs := [12]) (by kernel_rfl) (by simp) ?_
                  refine (allReady_put (some 15) rfl rfl (fun K hK => ?_) AllReadyH.nil)
                  go_simp
                  refine hK.out _ _ (by exact Bt19.out) (fun hHeld => ?_)
                  clear hK K
                  try simp only [Act.put, List.setIfInBounds_toArray, List.set_cons_zero, List.set_cons_succ]
                  refine wpAnyH_done (by kernel_rfl) ?_ _
                  go_wp2
                  go_meet
                  case rel => exact ⟨bt14, rfl, rfl, Nt19.out, lt14, mt19, Bt19.out⟩
              · refine stepg_alloc rfl rfl rfl tb0.out (Nat.le_trans (Nat.le_refl _) tb0.out.size) (fun bt21 xt21 gt21 lt21 mt21 bt21_ _ => ?_)
                have Nt21 := Lib.hid gt21
                have Bt21 := Lib.hid bt21_
                clear gt21 bt21_
                refine hK.out _ _ (by exact Bt21.out) (fun hHeld => ?_)
                clear hK K
                try simp only [Act.put, List.setIfInBounds_toArray, List.set_cons_zero, List.set_cons_succ]
                refine wpAnyH_ready (rs := [5]) (by kernel_rfl) (by simp) ?_
                refine (allReady_put (some 77) rfl rfl (fun K hK => ?_) AllReadyH.nil)
                go_simp
                (with_reducible refine (HNG.out _).mono ?_)
                rintro e xt22 ⟨rfl, dt22⟩
                have Bt22 := Lib.hid (Bt21.out.trans (dt22.mono Bt21.out.size))
                have Nt22 := Lib.hid (Nt21.out.below dt22 mt21)
                have mt22 := Nat.lt_of_lt_of_le mt21 dt22.size
                clear dt22
                refine hK.out _ _ (by exact Bt22.out) (fun hHeld => ?_)
                clear hK K
                try simp only [Act.put, List.setIfInBounds_toArray, List.set_cons_zero, List.set_cons_succ]
                refine wpAnyH_ready (rs := [6]) (by kernel_rfl) (by simp) ?_
                refine (allReady_put (some 78) rfl rfl (fun K hK => ?_) AllReadyH.nil)
                go_simp
                (with_reducible refine (HMU.out _ (HTx.out.below Bt22.out)).mono ?_)
                rintro e xt23 ⟨rfl, dt23⟩
                have Bt23 := Lib.hid (Bt22.out.trans (dt23.mono Bt22.out.size))
                have Nt23 := Lib.hid (Nt22.out.below dt23 mt22)
                have mt23 := Nat.lt_of_lt_of_le mt22 dt23.size
                clear dt23
                refine hK.out _ _ (by exact Bt23.out) (fun hHeld => ?_)
                clear hK K
                try simp only [Act.put, List.setIfInBounds_toArray, List.set_cons_zero, List.set_cons_succ]
                refine wpAnyH_put (i := 7) (v := ?t24) (some 71) rfl rfl (by kernel_rfl) (by kernel_rfl) (by kernel_rfl) (fun _ _ _ h => h) (Or.inl ⟨by kernel_rfl, ?ht24⟩) (by assumption) ?rt24
                case ht24 => (intro w hSw; (try dsimp only at hSw); go_simp; (try with_reducible rfl))
                try simp only [Act.put, List.setIfInBounds_toArray, List.set_cons_zero, List.set_cons_succ]
                refine wpAnyH_put (i := 8) (v := ?t25) (some 79) rfl rfl (by kernel_rfl) (by kernel_rfl) (by kernel_rfl) (fun _ _ _ h => h) (Or.inl ⟨by kernel_rfl, ?ht25⟩) (by assumption) ?rt25
                case ht25 => (intro w hSw; (try dsimp only at hSw); go_simp; (try with_reducible rfl))
                try simp only [Act.put, List.setIfInBounds_toArray, List.set_cons_zero, List.set_cons_succ]
                refine wpAnyH_put (i := 9) (v := ?t26) (some 80) rfl rfl (by kernel_rfl) (by kernel_rfl) (by kernel_rfl) (fun _ _ _ h => h) (Or.inl ⟨by kernel_rfl, ?ht26⟩) (by assumption) ?rt26
                case ht26 => (intro w hSw; (try dsimp only at hSw); go_simp; (try with_reducible rfl))
                try simp only [Act.put, List.setIfInBounds_toArray, List.set_cons_zero, List.set_cons_succ]
                refine wpAnyH_ready (rs := [11]) (by kernel_rfl) (by simp) ?_
                refine (allReady_put (none) rfl rfl (fun K hK => ?_) AllReadyH.nil)
                refine stepg_storeN rfl rfl rfl Nt23.out Bt23.out lt21 rfl rfl (fun xt27 gt27 bt27 qt27 => ?_)
                have Nt27 := Lib.hid gt27
                have Bt27 := Lib.hid bt27
                have mt27 := Nat.lt_of_lt_of_le mt23 (Nat.le_of_eq qt27.symm)
                clear gt27 bt27 qt27
                refine hK.out _ _ (by exact Bt27.out) (fun hHeld => ?_)
                clear hK K
                try simp only [Act.put]
                refine wpAnyH_ready (rs := [12]) (by kernel_rfl) (by simp) ?_
                refine (allReady_put (some 15) rfl rfl (fun K hK => ?_) AllReadyH.nil)
                go_simp
                refine hK.out _ _ (by exact Bt27.out) (fun hHeld => ?_)
                clear hK K
                try simp only [Act.put, List.setIfInBounds_toArray, List.set_cons_zero, List.set_cons_succ]
                refine wpAnyH_done (by kernel_rfl) ?_ _
                go_wp2
                go_meet
                case rel => exact ⟨bt21, rfl, rfl, Nt27.out, lt21, mt27, Bt27.out⟩

            case rest =>
              rename World => wb
              obtain ⟨gm, rfl, rfl, hgm, hml, hmh, hbm⟩ := hcut
              rw [show 4 * (q - j) + 4 = 4 * (q + 1 - j) by omega] at hgm
              have HGM := Lib.hid hgm
              have HBM := Lib.hid hbm
              have sm := hbm.size
              have HOB := Lib.hid (own_below HOQ.out hbm)
              have hq8 := own_eat HOB.out (k := j) (by omega)
              have EQ := Lib.hid (show EAt wb w8.heap.size (j * 6) (gz (nthZ (z0 :: P) j) (4 * (q + 1 - j))) from by have h := hq8.2.1; rw [qst_here q G P (by omega)] at h; exact h)
              have EM := Lib.hid hgm.n
              have lgq : w8.heap.size < wb.heap.size := hq8.1
              have HTb := Lib.hid (HTx.out.below hbm)
              have hz0P : Zb 90 (nthZ (z0 :: P) j) := by
                cases j with
                | zero => exact (show Zb 90 z0 from ⟨by decide, by decide⟩)
                | succ j => rw [nthZ_cons_succ]; exact HPZ.out j
              have HAD := Lib.hid (fun w hT => gg_add (nthZ (z0 :: P) j) (zmul (nthZ P j) (zneg G)) (hz0P.mono (by decide)) (((HPZ.out j).mul (Zb.neg (HGZ.out.mono (by decide)))).mono (by decide)) (4 * (q + 1 - j)) (by omega) w hT)
              rw [show zadd (nthZ (z0 :: P) j) (zmul (nthZ P j) (zneg G)) = nthZ (zstep G P) j from (zstepF_at z0 G P (by rw [HPL.out]; exact hjq)).symm] at HAD
              clear hgm hbm hq8 hz0P HNG HMU EG
              go_upto_region 16 with fail
              go_cut [16, 17] (fun s16 s17 wy => ∃ ga, s16 = .pointer (some ⟨ga, 0, none⟩) ∧ s17 = .int .i64 0 ∧ GCell wy ga (gz (nthZ (zstep G P) j) (4 * (q + 1 - j))) ∧ wb.heap.size ≤ ga ∧ ga < wy.heap.size ∧ Below wb.heap.size wb wy)
              case first =>
                refine wp_region_held_drew (S := fun x => Below wb.heap.size wb x) (by kernel_rfl) (by exact (Below.refl _ _).drew) (fun hHeld => ?_)
                have sb0 := Lib.hid (show Below wb.heap.size wb wb.drew from (Below.refl _ _).drew)
                refine wpAnyH_put (i := 0) (v := ?s1) (some 82) rfl rfl (by kernel_rfl) (by kernel_rfl) (by kernel_rfl) (fun _ _ _ h => h) (Or.inl ⟨by kernel_rfl, ?hs1⟩) (by assumption) ?rs1
                case hs1 => (intro w hSw; (try dsimp only at hSw); go_simp; (try with_reducible rfl))
                try simp only [Act.put, List.setIfInBounds_toArray, List.set_cons_zero, List.set_cons_succ]
                refine wpAnyH_put (i := 1) (v := ?s2) (some 83) rfl rfl (by kernel_rfl) (by kernel_rfl) (by kernel_rfl) (fun _ _ _ h => h) (Or.inl ⟨by kernel_rfl, ?hs2⟩) (by assumption) ?rs2
                case hs2 => (intro w hSw; (try dsimp only at hSw); go_simp; (try with_reducible rfl))
                try simp only [Act.put, List.setIfInBounds_toArray, List.set_cons_zero, List.set_cons_succ]
                refine wpAnyH_put (i := 2) (v := ?s3) (some 84) rfl rfl (by kernel_rfl) (by kernel_rfl) (by kernel_rfl) (fun _ _ _ h => h) (Or.inl ⟨by kernel_rfl, ?hs3⟩) (by assumption) ?rs3
                case hs3 => (intro w hSw; (try dsimp only at hSw); go_simp; (try with_reducible rfl))
                try simp only [Act.put, List.setIfInBounds_toArray, List.set_cons_zero, List.set_cons_succ]
                refine wpAnyH_put (i := 3) (v := ge (gz (nthZ (z0 :: P) j) (4 * (q + 1 - j)))) (some 85) rfl rfl (by kernel_rfl) (by kernel_rfl) (by kernel_rfl) (fun _ _ _ h => h) (yields_ge (by kernel_rfl) rfl rfl (fun x (hx : Below wb.heap.size wb x) => EQ.out.below hx lgq)) (by assumption) ?_
                try simp only [Act.put, List.setIfInBounds_toArray, List.set_cons_zero, List.set_cons_succ]
                refine wpAnyH_put (i := 4) (v := ge (gz (zmul (nthZ P j) (zneg G)) (4 * (q + 1 - j)))) (some 86) rfl rfl (by kernel_rfl) (by kernel_rfl) (by kernel_rfl) (fun _ _ _ h => h) (yields_ge (by kernel_rfl) rfl rfl (fun x (hx : Below wb.heap.size wb x) => EM.out.below hx hmh)) (by assumption) ?_
                try simp only [Act.put, List.setIfInBounds_toArray, List.set_cons_zero, List.set_cons_succ]
                refine wpAnyH_ready (rs := [5, 9]) (by kernel_rfl) (by simp) ?_
                refine (allReady_put (some 87) rfl rfl (fun K hK => ?_) (allReady_put (some 16) rfl rfl (fun K hK => ?_) AllReadyH.nil))
                · go_simp
                  (with_reducible refine (HAD.out _ (HTb.out.below sb0.out)).mono ?_)
                  rintro e xs6 ⟨rfl, ds6⟩
                  have Bs6 := Lib.hid (sb0.out.trans (ds6.mono sb0.out.size))
                  clear ds6
                  refine hK.out _ _ (by exact Bs6.out) (fun hHeld => ?_)
                  clear hK K
                  try simp only [Act.put, List.setIfInBounds_toArray, List.set_cons_zero, List.set_cons_succ]
                  refine wpAnyH_put (i := 6) (v := ?s7) (some 81) rfl rfl (by kernel_rfl) (by kernel_rfl) (by kernel_rfl) (fun _ _ _ h => h) (Or.inl ⟨by kernel_rfl, ?hs7⟩) (by assumption) ?rs7
                  case hs7 => (intro w hSw; (try dsimp only at hSw); go_simp; (try with_reducible rfl))
                  try simp only [Act.put, List.setIfInBounds_toArray, List.set_cons_zero, List.set_cons_succ]
                  refine wpAnyH_put (i := 7) (v := ?s8) (some 88) rfl rfl (by kernel_rfl) (by kernel_rfl) (by kernel_rfl) (fun _ _ _ h => h) (Or.inl ⟨by kernel_rfl, ?hs8⟩) (by assumption) ?rs8
                  case hs8 => (intro w hSw; (try dsimp only at hSw); go_simp; (try with_reducible rfl))
                  try simp only [Act.put, List.setIfInBounds_toArray, List.set_cons_zero, List.set_cons_succ]
                  refine wpAnyH_put (i := 8) (v := ?s9) (some 89) rfl rfl (by kernel_rfl) (by kernel_rfl) (by kernel_rfl) (fun _ _ _ h => h) (Or.inl ⟨by kernel_rfl, ?hs9⟩) (by assumption) ?rs9
                  case hs9 => (intro w hSw; (try dsimp only at hSw); go_simp; (try with_reducible rfl))
                  try simp only [Act.put, List.setIfInBounds_toArray, List.set_cons_zero, List.set_cons_succ]
                  refine wpAnyH_ready (rs := [9]) (by kernel_rfl) (by simp) ?_
                  refine (allReady_put (some 16) rfl rfl (fun K hK => ?_) AllReadyH.nil)
                  refine stepg_alloc rfl rfl rfl Bs6.out (Nat.le_trans (Nat.le_refl _) Bs6.out.size) (fun bs10 xs10 gs10 ls10 ms10 bs10_ _ => ?_)
                  have Ns10 := Lib.hid gs10
                  have Bs10 := Lib.hid bs10_
                  clear gs10 bs10_
                  refine hK.out _ _ (by exact Bs10.out) (fun hHeld => ?_)
                  clear hK K
                  try simp only [Act.put, List.setIfInBounds_toArray, List.set_cons_zero, List.set_cons_succ]
                  refine wpAnyH_ready (rs := [10]) (by kernel_rfl) (by simp) ?_
                  refine (allReady_put (none) rfl rfl (fun K hK => ?_) AllReadyH.nil)
                  refine stepg_storeN rfl rfl rfl Ns10.out Bs10.out ls10 rfl rfl (fun xs11 gs11 bs11 qs11 => ?_)
                  have Ns11 := Lib.hid gs11
                  have Bs11 := Lib.hid bs11
                  have ms11 := Nat.lt_of_lt_of_le ms10 (Nat.le_of_eq qs11.symm)
                  clear gs11 bs11 qs11
                  refine hK.out _ _ (by exact Bs11.out) (fun hHeld => ?_)
                  clear hK K
                  try simp only [Act.put]
                  refine wpAnyH_ready (rs := [11]) (by kernel_rfl) (by simp) ?_
                  refine (allReady_put (some 17) rfl rfl (fun K hK => ?_) AllReadyH.nil)
                  go_simp
                  refine hK.out _ _ (by exact Bs11.out) (fun hHeld => ?_)
                  clear hK K
                  try simp only [Act.put, List.setIfInBounds_toArray, List.set_cons_zero, List.set_cons_succ]
                  refine wpAnyH_done (by kernel_rfl) ?_ _
                  go_wp2
                  go_meet
                  case rel => exact ⟨bs10, rfl, rfl, Ns11.out, ls10, ms11, Bs11.out⟩
                · refine stepg_alloc rfl rfl rfl sb0.out (Nat.le_trans (Nat.le_refl _) sb0.out.size) (fun bs13 xs13 gs13 ls13 ms13 bs13_ _ => ?_)
                  have Ns13 := Lib.hid gs13
                  have Bs13 := Lib.hid bs13_
                  clear gs13 bs13_
                  refine hK.out _ _ (by exact Bs13.out) (fun hHeld => ?_)
                  clear hK K
                  try simp only [Act.put, List.setIfInBounds_toArray, List.set_cons_zero, List.set_cons_succ]
                  refine wpAnyH_ready (rs := [5]) (by kernel_rfl) (by simp) ?_
                  refine (allReady_put (some 87) rfl rfl (fun K hK => ?_) AllReadyH.nil)
                  go_simp
                  (with_reducible refine (HAD.out _ (HTb.out.below Bs13.out)).mono ?_)
                  rintro e xs14 ⟨rfl, ds14⟩
                  have Bs14 := Lib.hid (Bs13.out.trans (ds14.mono Bs13.out.size))
                  have Ns14 := Lib.hid (Ns13.out.below ds14 ms13)
                  have ms14 := Nat.lt_of_lt_of_le ms13 ds14.size
                  clear ds14
                  refine hK.out _ _ (by exact Bs14.out) (fun hHeld => ?_)
                  clear hK K
                  try simp only [Act.put, List.setIfInBounds_toArray, List.set_cons_zero, List.set_cons_succ]
                  refine wpAnyH_put (i := 6) (v := ?s15) (some 81) rfl rfl (by kernel_rfl) (by kernel_rfl) (by kernel_rfl) (fun _ _ _ h => h) (Or.inl ⟨by kernel_rfl, ?hs15⟩) (by assumption) ?rs15
                  case hs15 => (intro w hSw; (try dsimp only at hSw); go_simp; (try with_reducible rfl))
                  try simp only [Act.put, List.setIfInBounds_toArray, List.set_cons_zero, List.set_cons_succ]
                  refine wpAnyH_put (i := 7) (v := ?s16) (some 88) rfl rfl (by kernel_rfl) (by kernel_rfl) (by kernel_rfl) (fun _ _ _ h => h) (Or.inl ⟨by kernel_rfl, ?hs16⟩) (by assumption) ?rs16
                  case hs16 => (intro w hSw; (try dsimp only at hSw); go_simp; (try with_reducible rfl))
                  try simp only [Act.put, List.setIfInBounds_toArray, List.set_cons_zero, List.set_cons_succ]
                  refine wpAnyH_put (i := 8) (v := ?s17) (some 89) rfl rfl (by kernel_rfl) (by kernel_rfl) (by kernel_rfl) (fun _ _ _ h => h) (Or.inl ⟨by kernel_rfl, ?hs17⟩) (by assumption) ?rs17
                  case hs17 => (intro w hSw; (try dsimp only at hSw); go_simp; (try with_reducible rfl))
                  try simp only [Act.put, List.setIfInBounds_toArray, List.set_cons_zero, List.set_cons_succ]
                  refine wpAnyH_ready (rs := [10]) (by kernel_rfl) (by simp) ?_
                  refine (allReady_put (none) rfl rfl (fun K hK => ?_) AllReadyH.nil)
                  refine stepg_storeN rfl rfl rfl Ns14.out Bs14.out ls13 rfl rfl (fun xs18 gs18 bs18 qs18 => ?_)
                  have Ns18 := Lib.hid gs18
                  have Bs18 := Lib.hid bs18
                  have ms18 := Nat.lt_of_lt_of_le ms14 (Nat.le_of_eq qs18.symm)
                  clear gs18 bs18 qs18
                  refine hK.out _ _ (by exact Bs18.out) (fun hHeld => ?_)
                  clear hK K
                  try simp only [Act.put]
                  refine wpAnyH_ready (rs := [11]) (by kernel_rfl) (by simp) ?_
                  refine (allReady_put (some 17) rfl rfl (fun K hK => ?_) AllReadyH.nil)
                  go_simp
                  refine hK.out _ _ (by exact Bs18.out) (fun hHeld => ?_)
                  clear hK K
                  try simp only [Act.put, List.setIfInBounds_toArray, List.set_cons_zero, List.set_cons_succ]
                  refine wpAnyH_done (by kernel_rfl) ?_ _
                  go_wp2
                  go_meet
                  case rel => exact ⟨bs13, rfl, rfl, Ns18.out, ls13, ms18, Bs18.out⟩

              case rest =>
                rename World => wd
                obtain ⟨ga, rfl, rfl, hga, hal, hah, hba⟩ := hcut
                have sd' := hba.size
                have HBD := Lib.hid (show Below w8.heap.size w8 wd from HBX.out.trans ((HBM.out.trans (hba.mono sm)).mono sx))
                have HO1 := Lib.hid (own_below HOB.out hba).drew
                have ho2 := own_setE HO1.out j (gz (nthZ (zstep G P) j) (4 * (q + 1 - j)))
                have ho3 := own_setE ho2 (j + 1) (gz (nthZ P j) (4 * (q - j)))
                have q1e := own_eat HO1.out (k := j) (by omega)
                have q2e := own_eat ho2 (k := j + 1) (by omega)
                have A0 : EAt wd.drew ga 0 (gz (nthZ (zstep G P) j) (4 * (q + 1 - j))) := hga.n.below (Below.refl _ _).drew hah
                have B0 : EAt wd.drew gp (j * 6) (gz (nthZ P j) (4 * (q - j))) := EP.out.below ((HBM.out.trans (hba.mono sm)).drew) lgp
                have ne1 : ga ≠ w8.heap.size := by omega
                have ne2 : gp ≠ w8.heap.size := by have := (own_eat HOP8.out hjq).1; omega
                have A1 := A0.other ne1 (j * 6) (gz (nthZ (zstep G P) j) (4 * (q + 1 - j)))
                have B1 := B0.other ne2 (j * 6) (gz (nthZ (zstep G P) j) (4 * (q + 1 - j)))
                have A2 := A1.other ne1 ((j + 1) * 6) (gz (nthZ P j) (4 * (q - j)))
                have B2 := B1.other ne2 ((j + 1) * 6) (gz (nthZ P j) (4 * (q - j)))
                have hbe := below_setE (below_setE HBD.out.drew (Nat.le_refl _) (j * 6) (gz (nthZ (zstep G P) j) (4 * (q + 1 - j)))) (Nat.le_refl _) ((j + 1) * 6) (gz (nthZ P j) (4 * (q - j)))
                have HS12 := Lib.hid (And.intro A0 B0)
                have HS1 := Lib.hid (And.intro A1 B1)
                have HS2 := Lib.hid (And.intro A2 B2)
                have HQ1 := Lib.hid q1e
                have HQ2 := Lib.hid q2e
                have HO3 := Lib.hid (show World.ownsRow _ _ _ _ _ _ (ecs (qst q G P (j + 1))) from by rw [← qst_next q G P hjq]; exact ho3)
                have HBE := Lib.hid hbe
                have hj1w : IntKind.i64.wrap ((j : Int) + 1) = (j : Int) + 1 := IntWalk.i64_in _ (by omega)
                clear A0 A1 A2 B0 B1 B2 q1e q2e ho2 ho3 hga hba hbe HAD
                go_upto_region 19 with fail
                refine wp_region_held_drew (S := fun x => EAt x ga 0 (gz (nthZ (zstep G P) j) (4 * (q + 1 - j))) ∧ EAt x gp (j * 6) (gz (nthZ P j) (4 * (q - j)))) (by kernel_rfl) (by exact HS12.out) (fun hHeld => ?_)
                refine wpAnyH_put (i := 0) (v := ?r1) (some 96) rfl rfl (by kernel_rfl) (by kernel_rfl) (by kernel_rfl) (fun _ _ _ h => h) (Or.inl ⟨by kernel_rfl, ?hr1⟩) (by assumption) ?rr1
                case hr1 => (intro w hSw; (try dsimp only at hSw); go_simp; (try with_reducible rfl))
                try simp only [Act.put, List.setIfInBounds_toArray, List.set_cons_zero, List.set_cons_succ]
                refine wpAnyH_put (i := 1) (v := ?r2) (some 97) rfl rfl (by kernel_rfl) (by kernel_rfl) (by kernel_rfl) (fun _ _ _ h => h) (Or.inl ⟨by kernel_rfl, ?hr2⟩) (by assumption) ?rr2
                case hr2 => (intro w hSw; (try dsimp only at hSw); go_simp; (try with_reducible rfl))
                try simp only [Act.put, List.setIfInBounds_toArray, List.set_cons_zero, List.set_cons_succ]
                refine wpAnyH_put (i := 2) (v := ?r3) (some 98) rfl rfl (by kernel_rfl) (by kernel_rfl) (by kernel_rfl) (fun _ _ _ h => h) (Or.inl ⟨by kernel_rfl, ?hr3⟩) (by assumption) ?rr3
                case hr3 => (intro w hSw; (try dsimp only at hSw); go_simp; (try with_reducible rfl))
                try simp only [Act.put, List.setIfInBounds_toArray, List.set_cons_zero, List.set_cons_succ]
                refine wpAnyH_put (i := 3) (v := ?r4) (some 99) rfl rfl (by kernel_rfl) (by kernel_rfl) (by kernel_rfl) (fun _ _ _ h => h) (Or.inl ⟨by kernel_rfl, ?hr4⟩) (by assumption) ?rr4
                case hr4 => (intro w hSw; (try dsimp only at hSw); go_simp; (try with_reducible rfl))
                try simp only [Act.put, List.setIfInBounds_toArray, List.set_cons_zero, List.set_cons_succ]
                refine wpAnyH_put (i := 4) (v := ?r5) (some 100) rfl rfl (by kernel_rfl) (by kernel_rfl) (by kernel_rfl) (fun _ _ _ h => h) (Or.inl ⟨by kernel_rfl, ?hr5⟩) (by assumption) ?rr5
                case hr5 => (intro w hSw; (try dsimp only at hSw); go_simp; (try with_reducible rfl))
                try simp only [Act.put, List.setIfInBounds_toArray, List.set_cons_zero, List.set_cons_succ]
                refine wpAnyH_put (i := 5) (v := ge (gz (nthZ (zstep G P) j) (4 * (q + 1 - j)))) (some 101) rfl rfl (by kernel_rfl) (by kernel_rfl) (by kernel_rfl) (fun _ _ _ h => h) (yields_ge (by kernel_rfl) rfl rfl (fun x (hx : EAt x ga 0 (gz (nthZ (zstep G P) j) (4 * (q + 1 - j))) ∧ EAt x gp (j * 6) (gz (nthZ P j) (4 * (q - j)))) => hx.1)) (by assumption) ?_
                try simp only [Act.put, List.setIfInBounds_toArray, List.set_cons_zero, List.set_cons_succ]
                refine wpAnyH_put (i := 6) (v := ?r7) (some 102) rfl rfl (by kernel_rfl) (by kernel_rfl) (by kernel_rfl) (fun _ _ _ h => h) (Or.inl ⟨by kernel_rfl, ?hr7⟩) (by assumption) ?rr7
                case hr7 => (intro w hSw; (try dsimp only at hSw); go_simp; (try with_reducible rfl))
                try simp only [Act.put, List.setIfInBounds_toArray, List.set_cons_zero, List.set_cons_succ]
                refine wpAnyH_put (i := 7) (v := ?r8) (some 103) rfl rfl (by kernel_rfl) (by kernel_rfl) (by kernel_rfl) (fun _ _ _ h => h) (Or.inl ⟨by kernel_rfl, ?hr8⟩) (by assumption) ?rr8
                case hr8 => (intro w hSw; (try dsimp only at hSw); go_simp; (try with_reducible rfl))
                try simp only [Act.put, List.setIfInBounds_toArray, List.set_cons_zero, List.set_cons_succ]
                refine wpAnyH_put (i := 8) (v := ?r9) (some 104) rfl rfl (by kernel_rfl) (by kernel_rfl) (by kernel_rfl) (fun _ _ _ h => h) (Or.inl ⟨by kernel_rfl, ?hr9⟩) (by assumption) ?rr9
                case hr9 => (intro w hSw; (try dsimp only at hSw); go_simp; (try with_reducible rfl))
                try simp only [Act.put, List.setIfInBounds_toArray, List.set_cons_zero, List.set_cons_succ]
                refine wpAnyH_put (i := 9) (v := ge (gz (nthZ P j) (4 * (q - j)))) (some 105) rfl rfl (by kernel_rfl) (by kernel_rfl) (by kernel_rfl) (fun _ _ _ h => h) (yields_ge (by kernel_rfl) rfl rfl (fun x (hx : EAt x ga 0 (gz (nthZ (zstep G P) j) (4 * (q + 1 - j))) ∧ EAt x gp (j * 6) (gz (nthZ P j) (4 * (q - j)))) => hx.2)) (by assumption) ?_
                try simp only [Act.put, List.setIfInBounds_toArray, List.set_cons_zero, List.set_cons_succ]
                refine wpAnyH_put (i := 10) (v := ?r11) (some 106) rfl rfl (by kernel_rfl) (by kernel_rfl) (by kernel_rfl) (fun _ _ _ h => h) (Or.inl ⟨by kernel_rfl, ?hr11⟩) (by assumption) ?rr11
                case hr11 => (intro w hSw; (try dsimp only at hSw); go_simp; (try with_reducible rfl))
                try simp only [Act.put, List.setIfInBounds_toArray, List.set_cons_zero, List.set_cons_succ]
                refine wpAnyH_ready (rs := [11]) (by kernel_rfl) (by simp) ?_
                refine (allReady_put (none) rfl rfl (fun K hK => ?_) AllReadyH.nil)
                refine stepg_store rfl rfl rfl HQ1.out.2.1 (fun j _ => HQ1.out.2.2 _) rfl rfl ?_
                refine hK.out _ _ (by exact HS1.out) (fun hHeld => ?_)
                clear hK K
                try simp only [Act.put]
                refine wpAnyH_put (i := 12) (v := ?r13) (some 107) rfl rfl (by kernel_rfl) (by kernel_rfl) (by kernel_rfl) (fun _ _ _ h => h) (Or.inl ⟨by kernel_rfl, ?hr13⟩) (by assumption) ?rr13
                case hr13 => (intro w hSw; (try dsimp only at hSw); go_simp; (try with_reducible rfl))
                try simp only [Act.put, List.setIfInBounds_toArray, List.set_cons_zero, List.set_cons_succ]
                refine wpAnyH_ready (rs := [13]) (by kernel_rfl) (by simp) ?_
                refine (allReady_put (none) rfl rfl (fun K hK => ?_) AllReadyH.nil)
                refine stepg_store rfl rfl rfl HQ2.out.2.1 (fun j _ => HQ2.out.2.2 _) rfl rfl ?_
                refine hK.out _ _ (by exact HS2.out) (fun hHeld => ?_)
                clear hK K
                try simp only [Act.put]
                refine wpAnyH_done (by kernel_rfl) ?_ _

                go_wp2
                go_roundw
                case rel => exact ⟨j + 1, by omega, by go_num, HO3.out, HBE.out⟩
                case measure => simp [intOf]; omega
          · obtain rfl : j = q + 1 := by omega
            rw [qst_last q G P HPL.out, ← HPN.out] at HOQ
            have hb9' : Below w.heap.size w wx := HB8.out.trans (HBX.out.mono HB8.out.size)
            have hvx := own_below HOV8.out HBX.out
            have hsepx : v'.ownBlock = none ∨ v'.ownBlock ≠ (Value.slice (some ⟨w8.heap.size, 0, none⟩) (q + 2) (q + 2)).ownBlock := .inr (fun e => by have := (HOV8.out.lt w8.heap.size e).2; omega)
            have hb9x : w8.heap.size ≤ wx.heap.size := sx
            clear hjq hlo hhi
            go_wp2
            go_roundw
            case rel => exact ⟨q + 1, w8.heap.size, q + 2, by omega, by go_num, rfl, HOQ.out, hvx, hsepx, hb9'⟩
            case measure => simp [intOf]; omega
    · obtain rfl : q = n := by omega
      obtain ⟨P, hP⟩ : ∃ P, zmake L.reverse = P := ⟨_, rfl⟩
      have htk : L.take q = L := List.take_of_length_le (by have := HN.out; omega)
      rw [htk, hP] at HOP
      rw [htk] at HOV
      have hPl : P.length = q + 1 := by rw [← hP, zmake_length, List.length_reverse, HN.out]
      have hPz : ∀ j, Zb 90 (nthZ P j) := fun j => by rw [← hP, ← htk]; exact HL.out.zb q j
      have HPL := Lib.hid hPl
      have HPZ := Lib.hid hPz
      have HPE := Lib.hid hP
      have sw := HBW.out.size
      obtain ⟨ic, hic, hc0, hc1, hc2⟩ := info_parts Tryz.infoC
      clear hP htk hPl hPz hlq
      go_wp2
      go_loopw [18, 19] (fun u i wz => ∃ (k : Nat) (vo : Value) (ps : List Cc), vo = u ∧ k ≤ q + 1 ∧ i = .int .i64 k ∧ ps.length = k ∧ (∀ j, j < k → FW (nth ps j) ∧ qof (nth ps j) = zq (4 * (q - j)) (nthZ P j)) ∧ wz.ownsRow wr.heap.size 41 1 vo k (ps.map cv) ∧ Below wr.heap.size wr wz) (fun _ i _ => q + 1 - (intOf i).toNat)
      case atStart => exact ⟨0, _, [], rfl, Nat.zero_le _, rfl, rfl, (fun j h => absurd h (Nat.not_lt_zero j)), World.ownsRow_nil _ _ _ _, Below.refl _ _⟩
      case round =>
        rename World => wx
        obtain ⟨k, vo, ps, hvo, hk, rfl, hpl, hps, hown, hbx⟩ := hrel
        subst hvo
        have HPSL := Lib.hid hpl
        have HPS := Lib.hid hps
        have HOW := Lib.hid hown
        have HBX := Lib.hid hbx
        have sx := hbx.size
        clear hpl hps hown hbx
        by_cases hkq : k < q + 1
        · have hoe := own_eat HOP.out hkq
          have lgp : gp < wr.heap.size := hoe.1
          have EP := Lib.hid (show EAt wx gp (k * 6) (gz (nthZ P k) (4 * (q - k))) from by
            have h := hoe.2.1
            rw [sgs_at P (by rw [HPL.out]; exact hkq), HPL.out, show q + 1 - 1 - k = q - k by omega] at h
            exact h.below HBX.out hoe.1)
          have k0 : (0 : Int) ≤ (k : Int) := by omega
          have k1 : (k : Int) < (q : Int) + 1 := by omega
          have HTx := Lib.hid (HT.out.below (HBW.out.trans (HBX.out.mono sw)))
          have HNE := Lib.hid (fun w => gg_near (z := nthZ P k) (e := 4 * (q - k)) ((HPZ.out k).mono (by decide)) (by omega) w)
          clear hoe
          go_wp2_with (first
            | ((with_reducible refine wplg_at EP.out ?_ ?_ ?_); (any_goals rfl))
            | (go_at_call 20; (with_reducible refine (HNE.out _).mono ?_); rintro e w3 ⟨⟨F, G, rfl, hF, hG⟩, hb3⟩; obtain ⟨f1, f2⟩ := hF; obtain ⟨g1, g2⟩ := hG; have HF1 := Lib.hid f1; have HF2 := Lib.hid f2; have HG1 := Lib.hid g1; have HG2 := Lib.hid g2; have HB3 := Lib.hid hb3; clear f1 f2 g1 g2 hb3)
            | (go_at_call 22; (with_reducible refine (gg_complexF HF1.out HG1.out HF2.out HG2.out _ (HTx.out.below HB3.out)).mono ?_); rintro e w4 ⟨rfl, hb4⟩; have HB4 := Lib.hid hb4; clear hb4)
            | ((with_reducible refine wplg_alloc ?_); intro bb w5 hg5 hl5 hm5 hb5; have HG5 := Lib.hid hg5; have HB5 := Lib.hid hb5; clear hg5 hb5)
            | ((with_reducible refine wplg_storeN (g := ?_) HG5.out HB5.out hl5 ?_ ?_ ?_); (any_goals rfl); intro w6 hg6 hb6 hs6; have HG6 := Lib.hid hg6; have HB6 := Lib.hid hb6; have HS6 := Lib.hid hs6; clear hg6 hb6 hs6))
          have hm6 : bb < w6.heap.size := by rw [HS6.out]; exact hm5
          have A0 : EAt w6.drew bb 0 (flD F, flD G) := HG6.out.n.below (Below.refl _ _).drew hm6
          have hb36 : Below wx.heap.size wx w6 := HB3.out.trans ((HB4.out.trans (HB6.out.mono HB4.out.size)).mono HB3.out.size)
          have B0 : EAt w6.drew gp (k * 6) (gz (nthZ P k) (4 * (q - k))) := EP.out.below hb36.drew (by omega)
          have HS0 := Lib.hid (And.intro A0 B0)
          have HB36 := Lib.hid hb36
          have s6 := hb36.size
          clear A0 B0 hb36
          by_cases hg : ((flD F, flD G) : Gs) = gz (nthZ P k) (4 * (q - k))
          · have HD := Lib.hid (show (!decide (((flD F, flD G) : Gs) = gz (nthZ P k) (4 * (q - k)))) = false by rw [decide_eq_true hg]; rfl)
            have hq1 : qof (F, G) = zq (4 * (q - k)) (nthZ P k) := by
              have e1 : flD F = sd (nthZ P k).re (4 * (q - k)) := congrArg Prod.fst hg
              have e2 : flD G = sd (nthZ P k).im (4 * (q - k)) := congrArg Prod.snd hg
              have d1 := flD_fv F
              have d2 := flD_fv G
              rw [e1] at d1
              rw [e2] at d2
              unfold sd at d1 d2
              rw [dv_mk] at d1 d2
              exact Qi.ext' d1.symm d2.symm
            have HQ := Lib.hid (And.intro (show FW (F, G) from ⟨cfin_of HF2.out HG2.out, HF1.out, HG1.out⟩) hq1)
            have HOW6 := Lib.hid (own_below HOW.out HB36.out)
            have hvl : ∀ k, vo.ownBlock = some k → wr.heap.size ≤ k ∧ k < wx.heap.size := HOW.out.lt
            have HVL := Lib.hid hvl
            clear hg hq1 hvl
            refine wp_region_held_drew (S := fun x => EAt x bb 0 (flD F, flD G) ∧ EAt x gp (k * 6) (gz (nthZ P k) (4 * (q - k)))) (by kernel_rfl) (by exact HS0.out) (fun hHeld => ?_)
            refine wpAnyH_put (i := 0) (v := ?pf1) (some 128) rfl rfl (by kernel_rfl) (by kernel_rfl) (by kernel_rfl) (fun _ _ _ h => h) (Or.inl ⟨by kernel_rfl, ?hpf1⟩) (by assumption) ?rpf1
            case hpf1 => (intro w hSw; (try dsimp only at hSw); go_simp; (try with_reducible rfl))
            try simp only [Act.put, List.setIfInBounds_toArray, List.set_cons_zero, List.set_cons_succ]
            refine wpAnyH_put (i := 1) (v := ?pf2) (some 129) rfl rfl (by kernel_rfl) (by kernel_rfl) (by kernel_rfl) (fun _ _ _ h => h) (Or.inl ⟨by kernel_rfl, ?hpf2⟩) (by assumption) ?rpf2
            case hpf2 => (intro w hSw; (try dsimp only at hSw); go_simp; (try with_reducible rfl))
            try simp only [Act.put, List.setIfInBounds_toArray, List.set_cons_zero, List.set_cons_succ]
            refine wpAnyH_put (i := 2) (v := ?pf3) (some 130) rfl rfl (by kernel_rfl) (by kernel_rfl) (by kernel_rfl) (fun _ _ _ h => h) (Or.inl ⟨by kernel_rfl, ?hpf3⟩) (by assumption) ?rpf3
            case hpf3 => (intro w hSw; (try dsimp only at hSw); go_simp; (try with_reducible rfl))
            try simp only [Act.put, List.setIfInBounds_toArray, List.set_cons_zero, List.set_cons_succ]
            refine wpAnyH_put (i := 3) (v := ?pf4) (some 131) rfl rfl (by kernel_rfl) (by kernel_rfl) (by kernel_rfl) (fun _ _ _ h => h) (Or.inl ⟨by kernel_rfl, ?hpf4⟩) (by assumption) ?rpf4
            case hpf4 => (intro w hSw; (try dsimp only at hSw); go_simp; (try with_reducible rfl))
            try simp only [Act.put, List.setIfInBounds_toArray, List.set_cons_zero, List.set_cons_succ]
            refine wpAnyH_put (i := 4) (v := ?pf5) (some 132) rfl rfl (by kernel_rfl) (by kernel_rfl) (by kernel_rfl) (fun _ _ _ h => h) (Or.inl ⟨by kernel_rfl, ?hpf5⟩) (by assumption) ?rpf5
            case hpf5 => (intro w hSw; (try dsimp only at hSw); go_simp; (try with_reducible rfl))
            try simp only [Act.put, List.setIfInBounds_toArray, List.set_cons_zero, List.set_cons_succ]
            refine wpAnyH_put (i := 5) (v := ?pf6) (some 133) rfl rfl (by kernel_rfl) (by kernel_rfl) (by kernel_rfl) (fun _ _ _ h => h) (Or.inl ⟨by kernel_rfl, ?hpf6⟩) (by assumption) ?rpf6
            case hpf6 => (intro w hSw; (try dsimp only at hSw); go_simp; (try with_reducible rfl))
            try simp only [Act.put, List.setIfInBounds_toArray, List.set_cons_zero, List.set_cons_succ]
            refine wpAnyH_put (i := 6) (v := ?pf7) (some 134) rfl rfl (by kernel_rfl) (by kernel_rfl) (by kernel_rfl) (fun _ _ _ h => h) (Or.inl ⟨by kernel_rfl, ?hpf7⟩) (by assumption) ?rpf7
            case hpf7 => (intro w hSw; (try dsimp only at hSw); go_simp; (try with_reducible rfl))
            try simp only [Act.put, List.setIfInBounds_toArray, List.set_cons_zero, List.set_cons_succ]
            refine wpAnyH_put (i := 7) (v := ge ((flD F, flD G))) (some 135) rfl rfl (by kernel_rfl) (by kernel_rfl) (by kernel_rfl) (fun _ _ _ h => h) (yields_ge (by kernel_rfl) rfl rfl (fun x (hx : EAt x bb 0 (flD F, flD G) ∧ EAt x gp (k * 6) (gz (nthZ P k) (4 * (q - k)))) => hx.1)) (by assumption) ?_
            try simp only [Act.put, List.setIfInBounds_toArray, List.set_cons_zero, List.set_cons_succ]
            refine wpAnyH_put (i := 8) (v := ?pf9) (some 136) rfl rfl (by kernel_rfl) (by kernel_rfl) (by kernel_rfl) (fun _ _ _ h => h) (Or.inl ⟨by kernel_rfl, ?hpf9⟩) (by assumption) ?rpf9
            case hpf9 => (intro w hSw; (try dsimp only at hSw); go_simp; (try with_reducible rfl))
            try simp only [Act.put, List.setIfInBounds_toArray, List.set_cons_zero, List.set_cons_succ]
            refine wpAnyH_put (i := 9) (v := ?pf10) (some 137) rfl rfl (by kernel_rfl) (by kernel_rfl) (by kernel_rfl) (fun _ _ _ h => h) (Or.inl ⟨by kernel_rfl, ?hpf10⟩) (by assumption) ?rpf10
            case hpf10 => (intro w hSw; (try dsimp only at hSw); go_simp; (try with_reducible rfl))
            try simp only [Act.put, List.setIfInBounds_toArray, List.set_cons_zero, List.set_cons_succ]
            refine wpAnyH_put (i := 10) (v := ?pf11) (some 138) rfl rfl (by kernel_rfl) (by kernel_rfl) (by kernel_rfl) (fun _ _ _ h => h) (Or.inl ⟨by kernel_rfl, ?hpf11⟩) (by assumption) ?rpf11
            case hpf11 => (intro w hSw; (try dsimp only at hSw); go_simp; (try with_reducible rfl))
            try simp only [Act.put, List.setIfInBounds_toArray, List.set_cons_zero, List.set_cons_succ]
            refine wpAnyH_put (i := 11) (v := ge (gz (nthZ P k) (4 * (q - k)))) (some 139) rfl rfl (by kernel_rfl) (by kernel_rfl) (by kernel_rfl) (fun _ _ _ h => h) (yields_ge (by kernel_rfl) rfl rfl (fun x (hx : EAt x bb 0 (flD F, flD G) ∧ EAt x gp (k * 6) (gz (nthZ P k) (4 * (q - k)))) => hx.2)) (by assumption) ?_
            try simp only [Act.put, List.setIfInBounds_toArray, List.set_cons_zero, List.set_cons_succ]
            refine wpAnyH_put (i := 12) (v := .bool false) (some 140) rfl rfl (by kernel_rfl) (by kernel_rfl) (by kernel_rfl) (fun _ _ _ h => h) (yields_ne (by kernel_rfl) rfl rfl rfl HD.out) (by assumption) ?_
            try simp only [Act.put, List.setIfInBounds_toArray, List.set_cons_zero, List.set_cons_succ]
            refine wpAnyH_put (i := 13) (v := ?pf14) (some 141) rfl rfl (by kernel_rfl) (by kernel_rfl) (by kernel_rfl) (fun _ _ _ h => h) (Or.inl ⟨by kernel_rfl, ?hpf14⟩) (by assumption) ?rpf14
            case hpf14 => (intro w hSw; (try dsimp only at hSw); go_simp; (try with_reducible rfl))
            try simp only [Act.put, List.setIfInBounds_toArray, List.set_cons_zero, List.set_cons_succ]
            refine wpAnyH_done (by kernel_rfl) ?_ _

            go_wp2_with (at_builtin; refine wpList_append_own_at _ rfl _ _ 25 rfl wr.heap.size 41 ic (.complex .f64 0 0) 1 16 Tryz.underlying25 hic hc0 hc1 hc2 rfl (by decide) _ _ _ rfl (HOW6.out.drew.alloc _) ⟨w6.heap.size, 0, none⟩ 1 1 [.complex .f64 F G] rfl rfl ?d1 ?d2 ?d3 ?d4 ?d5 ?_)
            case d1 => exact fun j u hj => (World.cell?_drew _ _).trans (c_new w6 _ _ _ j u hj)
            case d2 => intro u hu; simp at hu; subst hu; rfl
            case d3 => unfold maxLen; omega
            case d4 => omega
            case d5 => first | omega | (simp; omega)
            intro vn w8 hown' hgrow _ _
            have hnx : Below wr.heap.size wr w8 := ((HBX.out.trans (HB36.out.mono sx)).drew.alloc (by simp; omega) _).grown hgrow (by simp; omega) (fun k hk => (HVL.out k hk).1)
            have hown8 : w8.ownsRow wr.heap.size 41 1 vn (k + 1) ((ps ++ [(F, G)]).map cv) := by rw [List.map_append]; exact hown'
            clear hown' hgrow
            go_wp2
            go_roundw
            case rel =>
              refine ⟨k + 1, vn, ps ++ [(F, G)], rfl, by omega, by go_num, by rw [List.length_append, HPSL.out]; rfl, fun j hj => ?_, hown8, hnx⟩
              by_cases hjk : j < k
              · have e : nth (ps ++ [(F, G)]) j = nth ps j := by
                  unfold nth
                  rw [List.getD_eq_getElem?_getD, List.getD_eq_getElem?_getD, List.getElem?_append_left (by have := HPSL.out; omega)]
                rw [e]
                exact HPS.out j hjk
              · obtain rfl : j = k := by omega
                have e : nth (ps ++ [(F, G)]) j = (F, G) := by
                  unfold nth
                  rw [List.getD_eq_getElem?_getD, List.getElem?_append_right (by have := HPSL.out; omega), HPSL.out, Nat.sub_self]
                  rfl
                rw [e]
                exact HQ.out
            case measure => simp [intOf]; omega
          · have HD := Lib.hid (show (!decide (((flD F, flD G) : Gs) = gz (nthZ P k) (4 * (q - k)))) = true by rw [decide_eq_false hg]; rfl)
            have hbl : Below w.heap.size w w6.drew := (HBW.out.trans ((HBX.out.trans (HB36.out.mono sx)).mono sw)).drew
            have HBL := Lib.hid hbl
            clear hg hbl
            refine wp_region_held_drew (S := fun x => EAt x bb 0 (flD F, flD G) ∧ EAt x gp (k * 6) (gz (nthZ P k) (4 * (q - k)))) (by kernel_rfl) (by exact HS0.out) (fun hHeld => ?_)
            refine wpAnyH_put (i := 0) (v := ?pt1) (some 128) rfl rfl (by kernel_rfl) (by kernel_rfl) (by kernel_rfl) (fun _ _ _ h => h) (Or.inl ⟨by kernel_rfl, ?hpt1⟩) (by assumption) ?rpt1
            case hpt1 => (intro w hSw; (try dsimp only at hSw); go_simp; (try with_reducible rfl))
            try simp only [Act.put, List.setIfInBounds_toArray, List.set_cons_zero, List.set_cons_succ]
            refine wpAnyH_put (i := 1) (v := ?pt2) (some 129) rfl rfl (by kernel_rfl) (by kernel_rfl) (by kernel_rfl) (fun _ _ _ h => h) (Or.inl ⟨by kernel_rfl, ?hpt2⟩) (by assumption) ?rpt2
            case hpt2 => (intro w hSw; (try dsimp only at hSw); go_simp; (try with_reducible rfl))
            try simp only [Act.put, List.setIfInBounds_toArray, List.set_cons_zero, List.set_cons_succ]
            refine wpAnyH_put (i := 2) (v := ?pt3) (some 130) rfl rfl (by kernel_rfl) (by kernel_rfl) (by kernel_rfl) (fun _ _ _ h => h) (Or.inl ⟨by kernel_rfl, ?hpt3⟩) (by assumption) ?rpt3
            case hpt3 => (intro w hSw; (try dsimp only at hSw); go_simp; (try with_reducible rfl))
            try simp only [Act.put, List.setIfInBounds_toArray, List.set_cons_zero, List.set_cons_succ]
            refine wpAnyH_put (i := 3) (v := ?pt4) (some 131) rfl rfl (by kernel_rfl) (by kernel_rfl) (by kernel_rfl) (fun _ _ _ h => h) (Or.inl ⟨by kernel_rfl, ?hpt4⟩) (by assumption) ?rpt4
            case hpt4 => (intro w hSw; (try dsimp only at hSw); go_simp; (try with_reducible rfl))
            try simp only [Act.put, List.setIfInBounds_toArray, List.set_cons_zero, List.set_cons_succ]
            refine wpAnyH_put (i := 4) (v := ?pt5) (some 132) rfl rfl (by kernel_rfl) (by kernel_rfl) (by kernel_rfl) (fun _ _ _ h => h) (Or.inl ⟨by kernel_rfl, ?hpt5⟩) (by assumption) ?rpt5
            case hpt5 => (intro w hSw; (try dsimp only at hSw); go_simp; (try with_reducible rfl))
            try simp only [Act.put, List.setIfInBounds_toArray, List.set_cons_zero, List.set_cons_succ]
            refine wpAnyH_put (i := 5) (v := ?pt6) (some 133) rfl rfl (by kernel_rfl) (by kernel_rfl) (by kernel_rfl) (fun _ _ _ h => h) (Or.inl ⟨by kernel_rfl, ?hpt6⟩) (by assumption) ?rpt6
            case hpt6 => (intro w hSw; (try dsimp only at hSw); go_simp; (try with_reducible rfl))
            try simp only [Act.put, List.setIfInBounds_toArray, List.set_cons_zero, List.set_cons_succ]
            refine wpAnyH_put (i := 6) (v := ?pt7) (some 134) rfl rfl (by kernel_rfl) (by kernel_rfl) (by kernel_rfl) (fun _ _ _ h => h) (Or.inl ⟨by kernel_rfl, ?hpt7⟩) (by assumption) ?rpt7
            case hpt7 => (intro w hSw; (try dsimp only at hSw); go_simp; (try with_reducible rfl))
            try simp only [Act.put, List.setIfInBounds_toArray, List.set_cons_zero, List.set_cons_succ]
            refine wpAnyH_put (i := 7) (v := ge ((flD F, flD G))) (some 135) rfl rfl (by kernel_rfl) (by kernel_rfl) (by kernel_rfl) (fun _ _ _ h => h) (yields_ge (by kernel_rfl) rfl rfl (fun x (hx : EAt x bb 0 (flD F, flD G) ∧ EAt x gp (k * 6) (gz (nthZ P k) (4 * (q - k)))) => hx.1)) (by assumption) ?_
            try simp only [Act.put, List.setIfInBounds_toArray, List.set_cons_zero, List.set_cons_succ]
            refine wpAnyH_put (i := 8) (v := ?pt9) (some 136) rfl rfl (by kernel_rfl) (by kernel_rfl) (by kernel_rfl) (fun _ _ _ h => h) (Or.inl ⟨by kernel_rfl, ?hpt9⟩) (by assumption) ?rpt9
            case hpt9 => (intro w hSw; (try dsimp only at hSw); go_simp; (try with_reducible rfl))
            try simp only [Act.put, List.setIfInBounds_toArray, List.set_cons_zero, List.set_cons_succ]
            refine wpAnyH_put (i := 9) (v := ?pt10) (some 137) rfl rfl (by kernel_rfl) (by kernel_rfl) (by kernel_rfl) (fun _ _ _ h => h) (Or.inl ⟨by kernel_rfl, ?hpt10⟩) (by assumption) ?rpt10
            case hpt10 => (intro w hSw; (try dsimp only at hSw); go_simp; (try with_reducible rfl))
            try simp only [Act.put, List.setIfInBounds_toArray, List.set_cons_zero, List.set_cons_succ]
            refine wpAnyH_put (i := 10) (v := ?pt11) (some 138) rfl rfl (by kernel_rfl) (by kernel_rfl) (by kernel_rfl) (fun _ _ _ h => h) (Or.inl ⟨by kernel_rfl, ?hpt11⟩) (by assumption) ?rpt11
            case hpt11 => (intro w hSw; (try dsimp only at hSw); go_simp; (try with_reducible rfl))
            try simp only [Act.put, List.setIfInBounds_toArray, List.set_cons_zero, List.set_cons_succ]
            refine wpAnyH_put (i := 11) (v := ge (gz (nthZ P k) (4 * (q - k)))) (some 139) rfl rfl (by kernel_rfl) (by kernel_rfl) (by kernel_rfl) (fun _ _ _ h => h) (yields_ge (by kernel_rfl) rfl rfl (fun x (hx : EAt x bb 0 (flD F, flD G) ∧ EAt x gp (k * 6) (gz (nthZ P k) (4 * (q - k)))) => hx.2)) (by assumption) ?_
            try simp only [Act.put, List.setIfInBounds_toArray, List.set_cons_zero, List.set_cons_succ]
            refine wpAnyH_put (i := 12) (v := .bool true) (some 140) rfl rfl (by kernel_rfl) (by kernel_rfl) (by kernel_rfl) (fun _ _ _ h => h) (yields_ne (by kernel_rfl) rfl rfl rfl HD.out) (by assumption) ?_
            try simp only [Act.put, List.setIfInBounds_toArray, List.set_cons_zero, List.set_cons_succ]
            refine wpAnyH_put (i := 13) (v := ?pt14) (some 141) rfl rfl (by kernel_rfl) (by kernel_rfl) (by kernel_rfl) (fun _ _ _ h => h) (Or.inl ⟨by kernel_rfl, ?hpt14⟩) (by assumption) ?rpt14
            case hpt14 => (intro w hSw; (try dsimp only at hSw); go_simp; (try with_reducible rfl))
            try simp only [Act.put, List.setIfInBounds_toArray, List.set_cons_zero, List.set_cons_succ]
            refine wpAnyH_done (by kernel_rfl) ?_ _

            go_wp2
            exact bodyPost_ret (v := .tuple #[.slice none 0 0, .slice none 0 0, .bool false]) (by simp [results, Tryz.results23, go_sem]) rfl ⟨.inl rfl, HBL.out⟩
        · obtain rfl : k = q + 1 := by omega
          have hbl : Below w.heap.size w wx := HBW.out.trans (HBX.out.mono sw)
          have HOVx := Lib.hid (own_below HOV.out HBX.out)
          have HBL := Lib.hid hbl
          clear hbl hkq
          go_wp2
          exact bodyPost_ret (v := .tuple #[vo, u8, .bool true]) (by simp [results, Tryz.results23, go_sem]) rfl ⟨.inr ⟨vo, u8, ps, rfl, by rw [HPSL.out, HN.out], fun j hj => by rw [HN.out] at hj ⊢; rw [HPE.out]; exact HPS.out j hj, by rw [HN.out]; exact own_base HOW.out sw, by rw [HN.out]; exact HOVx.out⟩, HBL.out⟩
end Go.Proofs.YtbgjcpnbdgljbaaGreatDoor
