/- The contracts of slices.Clone, ratmap.Check, cplx.Lo at a real number. -/
import Derived.Test.YtbgjcpnbdgljbaaGreatDoorMGau
import Derived.Test.YtbgjcpnbdgljbaaGreatDoorMMax
namespace Go.Proofs.YtbgjcpnbdgljbaaGreatDoor
open Go.RowKit Go.Fil Go.Shelf
attribute [local irreducible] fop fsqrt fup fabs fneg pick fmax

/-- z^2 - 1. -/
def zsq : List Cc := [(13830554455654793216, 0), (0, 0), (4607182418800017408, 0)]
set_option maxHeartbeats 2000000 in
set_option maxRecDepth 100000 in
theorem clone_any (b o n c : Nat) (ps : List Cc) (hn : ps.length = n) (hle : n ≤ 1000000) (w : World) (hs : Seq w w.heap.size (some ⟨b, o, none⟩) (ps.map cv)) :
    Calls Tryz.prog 190 #[.slice (some ⟨b, o, none⟩) n c] w fun e w' => ∃ A c', e = .returned (.slice A n c') ∧ Seq w' w'.heap.size A (ps.map cv) ∧ (∀ b' o', A = some ⟨b', o', none⟩ → w.heap.size ≤ b') ∧ Below w.heap.size w w' := by
  have q : ∀ (w : World) (a : Option Addr) (n c n' c' : Nat), (binOp .eql 25 (.slice a n c) (.slice none n' c')).run Tryz.prog w = .ok (.bool a.isNone) w := fun w a n c n' c' => Lib.run_eql_slice_nil w _ _ a n c n' c' Tryz.underlying25
  obtain ⟨i0, hi, hz0, hz1, hz2⟩ := info_parts Tryz.infoC
  have HS := Lib.hid hs
  have HN := Lib.hid hn
  clear hs hn
  go_enter Tryz.func190, Tryz.ntmps190
  go_wp2_with (at_builtin; refine wpList_append_own _ rfl _ _ 25 rfl w.heap.size 41 i0 (.complex .f64 0 0) 1 16 Tryz.underlying25 hi hz0 hz1 hz2 rfl (by decide) _ _ _ rfl (World.ownsRow_made w #[] 0 (Nat.le_refl _) (Nat.zero_le _) rfl) ⟨b, o, none⟩ n c (ps.map cv) rfl ?qc1 ?qc2 ?qc3 ?qc4 ?qc5 ?qc6 ?_)
  case qc1 => simp; exact HN.out
  case qc2 =>
    intro j u hj
    rcases HS.out with h | ⟨b', o', hA, hb, hcl⟩
    · rw [h] at hj; simp at hj
    · injection hA with hA
      injection hA with hA1 hA2
      subst hA1 hA2
      rw [Addr.add_lit]
      exact Lib.cell?_alloc_some _ (hcl j u hj)
  case qc3 => intro u hu; obtain ⟨x, _, rfl⟩ := List.mem_map.1 hu; rfl
  case qc4 => unfold maxLen; omega
  case qc5 => omega
  case qc6 => simp
  intro v' w1 hown hgrow hnil
  go_wp2
  go_ret
  have hown2 : w1.ownsRow w.heap.size 41 1 v' n (ps.map cv) := by simpa using hown
  obtain ⟨A, c', rfl, hq⟩ := seq_of_own hown2
  exact ⟨A, c', by simp, hq, fun b' o' hA => (hown2.lt b' (by subst hA; rfl)).1, ((Below.refl _ w).alloc (Nat.le_refl _) _).grown hgrow (by simp) (by intro k hk; simp [Value.ownBlock] at hk; omega)⟩
theorem clonet_nil (w : World) :
    Calls Tryz.prog 129 #[.slice none 0 0] w fun e w' => e = .returned (.slice none 0 0) ∧ w = w' := by
  have q : ∀ (w : World) (a : Option Addr) (n c n' c' : Nat), (binOp .eql 69 (.slice a n c) (.slice none n' c')).run Tryz.prog w = .ok (.bool a.isNone) w := fun w a n c n' c' => Lib.run_eql_slice_nil w _ _ a n c n' c' Tryz.underlying69
  go_enter Tryz.func129, Tryz.ntmps129
  go_wp2
  go_ret
  exact ⟨rfl, rfl⟩
set_option maxRecDepth 100000 in
theorem mapcheck_any (A1 A2 : Option Addr) (n1 c1 n2 c2 : Nat) (ps qs : List Cc) (hn1 : ps.length = n1) (hn2 : qs.length = n2) (h1 : n1 ≤ 1000000) (h2 : n2 ≤ 1000000) (h10 : 0 < n1) (h20 : 0 < n2) (k1 : checkS ps = true) (k2 : checkS qs = true) (w : World) (hs1 : Seq w w.heap.size A1 (ps.map cv)) (hs2 : Seq w w.heap.size A2 (qs.map cv)) :
    Calls Tryz.prog 71 #[.agg #[.slice A1 n1 c1, .slice A2 n2 c2]] w fun e w' => e = .returned (.int .i64 0) ∧ Below w.heap.size w w' := by
  have hb0 := alloc_below w (.cells #[.slice A1 n1 c1, .slice A2 n2 c2] 68)
  have hc1 := check_any A1 n1 c1 ps hn1 (by omega) _ _ (hs1.below hb0 (Nat.le_refl _))
  have hc2 := check_any A2 n2 c2 qs hn2 (by omega) _ _ (hs2.below hb0 (Nat.le_refl _))
  rw [k1] at hc1
  rw [k2] at hc2
  have HC1 := Lib.hid hc1
  have HC2 := Lib.hid hc2
  have e1 : ((n1 : Int) == 0) = false := by rw [beq_eq_false_iff_ne]; omega
  have e2 : ((n2 : Int) == 0) = false := by rw [beq_eq_false_iff_ne]; omega
  clear hc1 hc2 k1 k2 hn1 hn2 hs1 hs2 hb0
  go_enter Tryz.func71, Tryz.ntmps71
  go_wp2_with (first
    | (go_at_call 82; (with_reducible refine HC1.out.mono ?_); rintro e w' ⟨rfl, rfl⟩)
    | (go_at_call 82; (with_reducible refine HC2.out.mono ?_); rintro e w' ⟨rfl, rfl⟩))
  go_ret
  exact ⟨rfl, by repeat (first | exact Below.refl _ _ | refine below_drewN ?_ _ | refine Below.alloc ?_ (by first | omega | (simp; omega) | simp) _ | refine Below.setCell ?_ (by first | omega | (simp; omega) | simp) _ | refine Below.trans ?_ (Below.mono (by assumption) (by first | omega | (simp; omega) | simp)) | apply Below.drew)⟩
theorem clo_real (a b : Nat) (hc : cfin a b = true) (hq : feq (sizeQ a b) 0 = true) (w : World) :
    Calls Tryz.prog 191 #[.complex .f64 a b] w (RF (sizeP a b) w) := by
  have hq' : (FloatKind.f64.format.order (sizeQ a b) 0 == some .eq) = true := hq
  clear hq
  go_enter Tryz.func191, Tryz.ntmps191
  go_wp2_with (first
    | (go_at_call 100; refine (kind_fin hc _).mono ?_; rintro e w' ⟨rfl, rfl⟩)
    | (go_at_call 168; refine (sizes_any _ _ _).mono ?_; rintro e w' ⟨s, t, rfl, rfl⟩))
  go_ret
  exact ⟨_, 0, rfl, rfl⟩
end Go.Proofs.YtbgjcpnbdgljbaaGreatDoor

/- The contract of escape.Radius of z^2 - 1. -/
namespace Go.Proofs.YtbgjcpnbdgljbaaGreatDoor
open Go.RowKit Go.Fil Go.Shelf
attribute [local irreducible] fop fsqrt fup fabs fneg pick fmax hiS sizeP sizeQ

def m1 : Nat := 13830554455654793216
def oneSt : List Cc := [(4607182418800017408, 0)]
theorem pk (x : Nat) (h : isNaN x = false) (s : Nat) : pick x s = x := pick_of h s
set_option maxRecDepth 100000 in
set_option maxHeartbeats 3200000 in
theorem radius_any (b1 b2 : Nat) (w : World) (hs1 : Seq w w.heap.size (some ⟨b1, 0, none⟩) (zsq.map cv)) (hs2 : Seq w w.heap.size (some ⟨b2, 0, none⟩) (oneSt.map cv)) :
    Calls Tryz.prog 130 #[.agg #[.slice (some ⟨b1, 0, none⟩) 3 3, .slice (some ⟨b2, 0, none⟩) 1 1]] w fun e w' => e = .returned (.tuple #[.float .f64 4613937818241073154, .int .i64 0]) ∧ Below w.heap.size w w' := by
  have hb0 := alloc_below w (.cells #[.slice (some ⟨b1, 0, none⟩) 3 3, .slice (some ⟨b2, 0, none⟩) 1 1] 68)
  have t1 := hs1.below hb0 (Nat.le_refl _)
  have t2 := hs2.below hb0 (Nat.le_refl _)
  have HC := Lib.hid (mapcheck_any (some ⟨b1, 0, none⟩) (some ⟨b2, 0, none⟩) 3 3 1 1 zsq oneSt rfl rfl (by decide) (by decide) (by decide) (by decide) (by decide +kernel) (by decide +kernel) _ (t1.more (by simp)) (t2.more (by simp)))
  have H1 := Lib.hid t1
  have H2 := Lib.hid t2
  clear hs1 hs2 hb0 t1 t2
  have e1 : (FloatKind.f64.format.order 13830554455654793216 0 == some .eq) = false := by decide +kernel
  have e2 : (FloatKind.f64.format.order 0 0 == some .eq) = true := by decide +kernel
  have e3 : hiS 13830554455654793216 0 = 4607182418800017408 := by decide +kernel
  have e4 : fop .add 0 4607182418800017408 = 4607182418800017408 := by decide +kernel
  have e5 : fup 4607182418800017408 = 4607182418800017409 := by decide +kernel
  have e6 : hiS 4607182418800017408 0 = 4607182418800017408 := by decide +kernel
  have e7 : fop .mul 4611686018427387904 4607182418800017408 = 4611686018427387904 := by decide +kernel
  have e8 : fop .add 4607182418800017409 4611686018427387904 = 4613937818241073152 := by decide +kernel
  have e9 : fup 4613937818241073152 = 4613937818241073153 := by decide +kernel
  have e10 : sizeP 4607182418800017408 0 = 4607182418800017408 := by decide +kernel
  have e11 : (FloatKind.f64.format.order 4607182418800017408 0 == some .eq) = false := by decide +kernel
  have e12 : fop .quo 4613937818241073153 4607182418800017408 = 4613937818241073153 := by decide +kernel
  have e13 : fup 4613937818241073153 = 4613937818241073154 := by decide +kernel
  have e14 : fmax 4607182418800017408 4613937818241073154 = 4613937818241073154 := by decide +kernel
  have e15 : infB 4613937818241073154 = false := by decide +kernel
  have p1 : ∀ s, pick 4607182418800017408 s = 4607182418800017408 := pick_of (by decide)
  have p2 : ∀ s, pick 4607182418800017409 s = 4607182418800017409 := pick_of (by decide)
  have p3 : ∀ s, pick 4611686018427387904 s = 4611686018427387904 := pick_of (by decide)
  have p4 : ∀ s, pick 4613937818241073152 s = 4613937818241073152 := pick_of (by decide)
  have p5 : ∀ s, pick 4613937818241073153 s = 4613937818241073153 := pick_of (by decide)
  have p6 : ∀ s, pick 4613937818241073154 s = 4613937818241073154 := pick_of (by decide)
  have n1 : NB 4607182418800017408 := .inr (by decide)
  have n2 : NB 4607182418800017409 := .inr (by decide)
  have n3 : NB 4611686018427387904 := .inr (by decide)
  have n4 : NB 4613937818241073152 := .inr (by decide)
  have n5 : NB 4613937818241073153 := .inr (by decide)
  have n6 : NB 4613937818241073154 := .inr (by decide)
  go_enter Tryz.func130, Tryz.ntmps130
  go_wp2_with (go_at_call 71; refine (HC.out).mono ?_; rintro e w1 ⟨rfl, hb⟩; obtain ⟨hc, hf⟩ := bcell hb; (try simp only [World.heap_drewN, World.cell?_drewN, World.frozen?_drewN] at hc hf); have z0 : w.heap.size < w1.heap.size := (by have := hb.size; try simp at this; omega); have u1 := (H1.out.below hb (by simp)); have u2 := (H2.out.below hb (by simp)); have c0 : w1.cell? ⟨b1, 0, none⟩ = some (.complex .f64 13830554455654793216 0) := u1.cell (ps := zsq) (k := 0) (by decide); have c1 : w1.cell? ⟨b1, 1, none⟩ = some (.complex .f64 0 0) := u1.cell (ps := zsq) (k := 1) (by decide); have c2 : w1.cell? ⟨b1, 2, none⟩ = some (.complex .f64 4607182418800017408 0) := u1.cell (ps := zsq) (k := 2) (by decide); have c3 : w1.cell? ⟨b2, 0, none⟩ = some (.complex .f64 4607182418800017408 0) := u2.cell (ps := oneSt) (k := 0) (by decide); clear u1 u2)
  refine wp_loop_rounds 3 ?_
  rw [rounds_succ]
  go_wp2_with (first
    | (go_at_call 106; refine (hi_any _ _ _).mono ?_; rintro e w' ⟨s, n, rfl, rfl⟩)
    | (go_at_call 170; refine (up_any _ n1 _).mono ?_; rintro e w' ⟨s, rfl, rfl⟩))
  rw [rounds_succ]
  go_wp2
  rw [rounds_succ]
  have hl := fun w => clo_real 4607182418800017408 0 (by decide +kernel) (by decide +kernel) w
  rw [e10] at hl
  have HL := Lib.hid hl
  clear hl
  go_wp2_with (first
    | (go_at_call 106; refine (hi_any _ _ _).mono ?_; rintro e w' ⟨s, n, rfl, rfl⟩)
    | (go_at_call 170; (with_reducible refine (up_any _ n4 _).mono ?_); rintro e w' ⟨s, rfl, rfl⟩)
    | (go_at_call 170; (with_reducible refine (up_any _ n5 _).mono ?_); rintro e w' ⟨s, rfl, rfl⟩)
    | (go_at_call 191; refine (HL.out _).mono ?_; rintro e w' ⟨s, n, rfl, rfl⟩)
    | (go_at_call 102; refine (isinf0_any _ _).mono ?_; rintro e w' ⟨rfl, rfl⟩))
  go_ret2
  exact ⟨rfl, by repeat (first | exact Below.refl _ _ | refine below_drewN ?_ _ | refine Below.alloc ?_ (by first | omega | (simp; omega) | simp) _ | refine Below.setCell ?_ (by first | omega | (simp; omega) | simp) _ | refine Below.trans ?_ (Below.mono (by assumption) (by first | omega | (simp; omega) | simp)) | apply Below.drew)⟩
end Go.Proofs.YtbgjcpnbdgljbaaGreatDoor

/- The contracts of escape.beyond, Beyond at the ball about 5. -/
namespace Go.Proofs.YtbgjcpnbdgljbaaGreatDoor
open Go.RowKit Go.Fil Go.Shelf
attribute [local irreducible] fop fsqrt fup fabs fneg pick fmax hiS sizeP sizeQ

/-- Five, a half, the radius; the norm, the sum's square. -/
def D5 : Dya := flD 4617315517961601024
def D0 : Dya := flD 0
def DH : Dya := flD 4602678819172646912
def DR : Dya := flD 4613937818241073154
def DN : Dya := addD (mulD D5 D5) (mulD D0 D0)
def DS : Dya := addD DH DR
def DQ : Dya := mulD DS DS
theorem ok_D5 : okD D5 := by decide +kernel
theorem ok_D0 : okD D0 := by decide +kernel
theorem ok_DH : okD DH := by decide +kernel
theorem ok_DR : okD DR := by decide +kernel
theorem ok_DS : okD DS := by decide +kernel
theorem ok_DN : okD DN := by decide +kernel
theorem ok_DQ : okD DQ := by decide +kernel
theorem n_complex (w : World) (hT : Tab w) : Calls Tryz.prog 22 #[.complex .f64 4617315517961601024 0] w (RGv D5 D0 w) := gcomplex_any 4617315517961601024 0 (by decide) (by decide) (by decide) (by decide) w hT
theorem n_half (w : World) (hT : Tab w) : Calls Tryz.prog 53 #[.float .f64 4602678819172646912] w (RDv DH w) := dfloat_any 4602678819172646912 (by decide) (by decide) w hT
theorem n_r (w : World) (hT : Tab w) : Calls Tryz.prog 53 #[.float .f64 4613937818241073154] w (RDv DR w) := dfloat_any 4613937818241073154 (by decide) (by decide) w hT
theorem n_norm (w : World) (hT : Tab w) : Calls Tryz.prog 50 #[.agg #[.bool (dn D5), .string (ds D5), .int .i64 D5.e, .bool (dn D0), .string (ds D0), .int .i64 D0.e]] w (RDv DN w) :=
  gnorm_any D5 D0 ok_D5 ok_D0 (by decide +kernel) (by decide +kernel) (by decide +kernel) w hT
theorem n_add (w : World) (hT : Tab w) : Calls Tryz.prog 43 #[.agg #[.bool (dn DH), .string (ds DH), .int .i64 DH.e], .agg #[.bool (dn DR), .string (ds DR), .int .i64 DR.e]] w (RDv DS w) :=
  dadd_any DH DR ok_DH ok_DR (by decide +kernel) (by decide +kernel) w hT
theorem n_mul (w : World) (hT : Tab w) : Calls Tryz.prog 48 #[.agg #[.bool (dn DS), .string (ds DS), .int .i64 DS.e], .agg #[.bool (dn DS), .string (ds DS), .int .i64 DS.e]] w (RDv DQ w) :=
  dmul_any DS DS ok_DS ok_DS (by decide +kernel) w hT
theorem n_cmp (w : World) : Calls Tryz.prog 251 #[.agg #[.bool (dn DN), .string (ds DN), .int .i64 DN.e], .agg #[.bool (dn DQ), .string (ds DQ), .int .i64 DQ.e]] w fun e w' => e = .returned (.tuple #[.int .i64 1, .int .i64 0]) ∧ Below w.heap.size w w' := by
  have h := dcmp_tops DN DQ ok_DN ok_DQ (by decide +kernel) (by decide +kernel) (by decide +kernel) w
  rwa [show (topD DN - topD DQ).sign = 1 by decide +kernel] at h
set_option maxRecDepth 100000 in
set_option maxHeartbeats 6400000 in
theorem beyond_any (w : World) (hT : Tab w) : Calls Tryz.prog 244 #[.agg #[.complex .f64 4617315517961601024 0, .float .f64 4602678819172646912], .float .f64 4613937818241073154] w fun e w' => e = .returned (.bool true) ∧ Below w.heap.size w w' := by
  have h0 : isWholeS (4617315517961601024, 0, 4602678819172646912) = false := by decide +kernel
  have hw := iswhole_any 4617315517961601024 0 4602678819172646912
  rw [h0] at hw
  have HW := Lib.hid hw
  have H1 := Lib.hid n_complex
  have H2 := Lib.hid n_half
  have H3 := Lib.hid n_r
  have H4 := Lib.hid n_norm
  have H5 := Lib.hid n_add
  have H6 := Lib.hid n_mul
  have H7 := Lib.hid n_cmp
  have HT := Lib.hid (hT.below (alloc_below w (.cells #[.complex .f64 4617315517961601024 0, .float .f64 4602678819172646912] 57)))
  clear h0 hw hT
  unfold RGv at H1
  unfold RDv at H2 H3 H4 H5 H6
  unfold RY at HW
  generalize dn D5 = n5 at *
  generalize ds D5 = s5 at *
  generalize D5.e = x5 at *
  generalize dn D0 = n0 at *
  generalize ds D0 = s0 at *
  generalize D0.e = x0 at *
  generalize dn DH = nH at *
  generalize ds DH = sH at *
  generalize DH.e = xH at *
  generalize dn DR = nR at *
  generalize ds DR = sR at *
  generalize DR.e = xR at *
  generalize dn DN = nN at *
  generalize ds DN = sN at *
  generalize DN.e = xN at *
  generalize dn DS = nS at *
  generalize ds DS = sS at *
  generalize DS.e = xS at *
  generalize dn DQ = nQ at *
  generalize ds DQ = sQ at *
  generalize DQ.e = xQ at *
  go_enter Tryz.func244, Tryz.ntmps244
  go_wp2_with fail
  refine (HW.out _).mono ?_
  rintro en w1 ⟨rfl, hb1⟩
  have b0 : w1.cell? ⟨w.heap.size, 0, none⟩ = some (.complex .f64 4617315517961601024 0) := (hb1.cell (p := ⟨w.heap.size, 0, none⟩) (by simp)).trans (by simp [go_sem])
  have b1 : w1.cell? ⟨w.heap.size, 1, none⟩ = some (.float .f64 4602678819172646912) := (hb1.cell (p := ⟨w.heap.size, 1, none⟩) (by simp)).trans (by simp [go_sem])
  have HB1 := Lib.hid (show Below w.heap.size w w1 by repeat (first | exact Below.refl _ _ | refine below_drewN ?_ _ | refine Below.alloc ?_ (by first | omega | (simp; omega) | simp) _ | refine Below.setCell ?_ (by first | omega | (simp; omega) | simp) _ | refine Below.trans ?_ (Below.mono (by assumption) (by first | omega | (simp; omega) | simp)) | apply Below.drew))
  have HT1 := Lib.hid (HT.out.below hb1)
  have z1 : w.heap.size < w1.heap.size := by have := hb1.size; simp at this; omega
  clear hb1
  go_wp2_with fail
  refine (H1.out _ HT1.out).mono ?_
  rintro en w2 ⟨rfl, hb⟩
  have HB2 := Lib.hid (show Below w.heap.size w w2 from HB1.out.trans (hb.mono (by omega)))
  have b2 : w2.cell? ⟨w.heap.size, 1, none⟩ = some (.float .f64 4602678819172646912) := (hb.cell (p := ⟨w.heap.size, 1, none⟩) z1).trans b1
  have z2 : w1.heap.size ≤ w2.heap.size := hb.size
  have y0_2 : w.heap.size < w2.heap.size := by omega
  have HT2 := Lib.hid ((HT1.out.below hb).below (alloc_below w2 (.cells #[.bool n5, .string s5, .int .i64 x5, .bool n0, .string s0, .int .i64 x0] 31)))
  clear hb b0 b1
  go_wp2_with fail
  refine (H2.out _ HT2.out).mono ?_
  rintro en w3 ⟨rfl, hb⟩
  have y2_3 : w2.heap.size < w3.heap.size := by have := hb.size; simp at this; omega
  have HB3 := Lib.hid (show Below w.heap.size w w3 from (HB2.out.alloc HB2.out.size _).trans (hb.mono (by have := HB2.out.size; simp; omega)))
  have c_30 : w3.cell? ⟨w2.heap.size, 0, none⟩ = some (.bool n5) := (hb.cell (p := ⟨w2.heap.size, 0, none⟩) (by simp <;> omega)).trans (by simp [go_sem, *])
  have c_31 : w3.cell? ⟨w2.heap.size, 1, none⟩ = some (.string s5) := (hb.cell (p := ⟨w2.heap.size, 1, none⟩) (by simp <;> omega)).trans (by simp [go_sem, *])
  have c_32 : w3.cell? ⟨w2.heap.size, 2, none⟩ = some (.int .i64 x5) := (hb.cell (p := ⟨w2.heap.size, 2, none⟩) (by simp <;> omega)).trans (by simp [go_sem, *])
  have c_33 : w3.cell? ⟨w2.heap.size, 3, none⟩ = some (.bool n0) := (hb.cell (p := ⟨w2.heap.size, 3, none⟩) (by simp <;> omega)).trans (by simp [go_sem, *])
  have c_34 : w3.cell? ⟨w2.heap.size, 4, none⟩ = some (.string s0) := (hb.cell (p := ⟨w2.heap.size, 4, none⟩) (by simp <;> omega)).trans (by simp [go_sem, *])
  have c_35 : w3.cell? ⟨w2.heap.size, 5, none⟩ = some (.int .i64 x0) := (hb.cell (p := ⟨w2.heap.size, 5, none⟩) (by simp <;> omega)).trans (by simp [go_sem, *])
  have HT3 := Lib.hid ((HT2.out.below hb).below (alloc_below w3 (.cells #[.bool nH, .string sH, .int .i64 xH] 29)))
  clear hb
  clear b2
  go_wp2_with fail
  refine (H3.out _ HT3.out).mono ?_
  rintro en w4 ⟨rfl, hb⟩
  have y3_4 : w3.heap.size < w4.heap.size := by have := hb.size; simp at this; omega
  have y2_4 : w2.heap.size < w4.heap.size := by omega
  have HB4 := Lib.hid (show Below w.heap.size w w4 from (HB3.out.alloc HB3.out.size _).trans (hb.mono (by have := HB3.out.size; simp; omega)))
  have c_40 : w4.cell? ⟨w2.heap.size, 0, none⟩ = some (.bool n5) := (hb.cell (p := ⟨w2.heap.size, 0, none⟩) (by simp <;> omega)).trans (by simp [go_sem, *])
  have c_41 : w4.cell? ⟨w2.heap.size, 1, none⟩ = some (.string s5) := (hb.cell (p := ⟨w2.heap.size, 1, none⟩) (by simp <;> omega)).trans (by simp [go_sem, *])
  have c_42 : w4.cell? ⟨w2.heap.size, 2, none⟩ = some (.int .i64 x5) := (hb.cell (p := ⟨w2.heap.size, 2, none⟩) (by simp <;> omega)).trans (by simp [go_sem, *])
  have c_43 : w4.cell? ⟨w2.heap.size, 3, none⟩ = some (.bool n0) := (hb.cell (p := ⟨w2.heap.size, 3, none⟩) (by simp <;> omega)).trans (by simp [go_sem, *])
  have c_44 : w4.cell? ⟨w2.heap.size, 4, none⟩ = some (.string s0) := (hb.cell (p := ⟨w2.heap.size, 4, none⟩) (by simp <;> omega)).trans (by simp [go_sem, *])
  have c_45 : w4.cell? ⟨w2.heap.size, 5, none⟩ = some (.int .i64 x0) := (hb.cell (p := ⟨w2.heap.size, 5, none⟩) (by simp <;> omega)).trans (by simp [go_sem, *])
  have x_40 : w4.cell? ⟨w3.heap.size, 0, none⟩ = some (.bool nH) := (hb.cell (p := ⟨w3.heap.size, 0, none⟩) (by simp <;> omega)).trans (by simp [go_sem, *])
  have x_41 : w4.cell? ⟨w3.heap.size, 1, none⟩ = some (.string sH) := (hb.cell (p := ⟨w3.heap.size, 1, none⟩) (by simp <;> omega)).trans (by simp [go_sem, *])
  have x_42 : w4.cell? ⟨w3.heap.size, 2, none⟩ = some (.int .i64 xH) := (hb.cell (p := ⟨w3.heap.size, 2, none⟩) (by simp <;> omega)).trans (by simp [go_sem, *])
  have HT4 := Lib.hid ((HT3.out.below hb).below (alloc_below w4 (.cells #[.bool nR, .string sR, .int .i64 xR] 29)))
  clear hb
  clear c_30 c_31 c_32 c_33 c_34 c_35
  go_wp2_with fail
  refine (H4.out _ HT4.out).mono ?_
  rintro en w5 ⟨rfl, hb⟩
  have y4_5 : w4.heap.size < w5.heap.size := by have := hb.size; simp at this; omega
  have y2_5 : w2.heap.size < w5.heap.size := by omega
  have y3_5 : w3.heap.size < w5.heap.size := by omega
  have HB5 := Lib.hid (show Below w.heap.size w w5 from (HB4.out.alloc HB4.out.size _).trans (hb.mono (by have := HB4.out.size; simp; omega)))
  have x_50 : w5.cell? ⟨w3.heap.size, 0, none⟩ = some (.bool nH) := (hb.cell (p := ⟨w3.heap.size, 0, none⟩) (by simp <;> omega)).trans (by simp [go_sem, *])
  have x_51 : w5.cell? ⟨w3.heap.size, 1, none⟩ = some (.string sH) := (hb.cell (p := ⟨w3.heap.size, 1, none⟩) (by simp <;> omega)).trans (by simp [go_sem, *])
  have x_52 : w5.cell? ⟨w3.heap.size, 2, none⟩ = some (.int .i64 xH) := (hb.cell (p := ⟨w3.heap.size, 2, none⟩) (by simp <;> omega)).trans (by simp [go_sem, *])
  have y_50 : w5.cell? ⟨w4.heap.size, 0, none⟩ = some (.bool nR) := (hb.cell (p := ⟨w4.heap.size, 0, none⟩) (by simp <;> omega)).trans (by simp [go_sem, *])
  have y_51 : w5.cell? ⟨w4.heap.size, 1, none⟩ = some (.string sR) := (hb.cell (p := ⟨w4.heap.size, 1, none⟩) (by simp <;> omega)).trans (by simp [go_sem, *])
  have y_52 : w5.cell? ⟨w4.heap.size, 2, none⟩ = some (.int .i64 xR) := (hb.cell (p := ⟨w4.heap.size, 2, none⟩) (by simp <;> omega)).trans (by simp [go_sem, *])
  have HT5 := Lib.hid ((HT4.out.below hb).below (alloc_below w5 (.cells #[.bool nN, .string sN, .int .i64 xN] 29)))
  clear hb
  clear c_40 c_41 c_42 c_43 c_44 c_45 x_40 x_41 x_42
  go_wp2_with fail
  refine (H5.out _ HT5.out).mono ?_
  rintro en w6 ⟨rfl, hb⟩
  have y5_6 : w5.heap.size < w6.heap.size := by have := hb.size; simp at this; omega
  have y2_6 : w2.heap.size < w6.heap.size := by omega
  have y3_6 : w3.heap.size < w6.heap.size := by omega
  have y4_6 : w4.heap.size < w6.heap.size := by omega
  have HB6 := Lib.hid (show Below w.heap.size w w6 from (HB5.out.alloc HB5.out.size _).trans (hb.mono (by have := HB5.out.size; simp; omega)))
  have n_60 : w6.cell? ⟨w5.heap.size, 0, none⟩ = some (.bool nN) := (hb.cell (p := ⟨w5.heap.size, 0, none⟩) (by simp <;> omega)).trans (by simp [go_sem, *])
  have n_61 : w6.cell? ⟨w5.heap.size, 1, none⟩ = some (.string sN) := (hb.cell (p := ⟨w5.heap.size, 1, none⟩) (by simp <;> omega)).trans (by simp [go_sem, *])
  have n_62 : w6.cell? ⟨w5.heap.size, 2, none⟩ = some (.int .i64 xN) := (hb.cell (p := ⟨w5.heap.size, 2, none⟩) (by simp <;> omega)).trans (by simp [go_sem, *])
  have HT6 := Lib.hid ((HT5.out.below hb).below (alloc_below w6 (.cells #[.bool nS, .string sS, .int .i64 xS] 29)))
  clear hb
  clear x_50 y_50 x_51 y_51 x_52 y_52
  go_wp2_with fail
  refine (H6.out _ HT6.out).mono ?_
  rintro en w7 ⟨rfl, hb⟩
  have y6_7 : w6.heap.size < w7.heap.size := by have := hb.size; simp at this; omega
  have y2_7 : w2.heap.size < w7.heap.size := by omega
  have y3_7 : w3.heap.size < w7.heap.size := by omega
  have y4_7 : w4.heap.size < w7.heap.size := by omega
  have y5_7 : w5.heap.size < w7.heap.size := by omega
  have HB7 := Lib.hid (show Below w.heap.size w w7 from (HB6.out.alloc HB6.out.size _).trans (hb.mono (by have := HB6.out.size; simp; omega)))
  have n_70 : w7.cell? ⟨w5.heap.size, 0, none⟩ = some (.bool nN) := (hb.cell (p := ⟨w5.heap.size, 0, none⟩) (by simp <;> omega)).trans (by simp [go_sem, *])
  have n_71 : w7.cell? ⟨w5.heap.size, 1, none⟩ = some (.string sN) := (hb.cell (p := ⟨w5.heap.size, 1, none⟩) (by simp <;> omega)).trans (by simp [go_sem, *])
  have n_72 : w7.cell? ⟨w5.heap.size, 2, none⟩ = some (.int .i64 xN) := (hb.cell (p := ⟨w5.heap.size, 2, none⟩) (by simp <;> omega)).trans (by simp [go_sem, *])
  have s_70 : w7.cell? ⟨w6.heap.size, 0, none⟩ = some (.bool nS) := (hb.cell (p := ⟨w6.heap.size, 0, none⟩) (by simp <;> omega)).trans (by simp [go_sem, *])
  have s_71 : w7.cell? ⟨w6.heap.size, 1, none⟩ = some (.string sS) := (hb.cell (p := ⟨w6.heap.size, 1, none⟩) (by simp <;> omega)).trans (by simp [go_sem, *])
  have s_72 : w7.cell? ⟨w6.heap.size, 2, none⟩ = some (.int .i64 xS) := (hb.cell (p := ⟨w6.heap.size, 2, none⟩) (by simp <;> omega)).trans (by simp [go_sem, *])
  have fz : ∀ o, w7.frozen? ⟨w6.heap.size, o, none⟩ = false := fun o => (hb.frozen (p := ⟨w6.heap.size, o, none⟩) (by simp)).trans (by simp [go_sem])
  clear hb
  clear n_60 n_61 n_62
  have j1 : w6.heap.size ≠ w5.heap.size := by omega
  have j2 : w5.heap.size ≠ w6.heap.size := by omega
  go_wp2_with fail
  refine (H7.out _).mono ?_
  rintro en w8 ⟨rfl, hb⟩
  have hbw : Below w.heap.size w w8 := (((HB7.out.setCell (by show w.heap.size ≤ w6.heap.size; exact HB6.out.size) _).setCell (by show w.heap.size ≤ w6.heap.size; exact HB6.out.size) _).setCell (by show w.heap.size ≤ w6.heap.size; exact HB6.out.size) _).trans (hb.mono (by simp; exact HB7.out.size))
  clear hb
  go_wp2
  go_ret
  exact ⟨rfl, hbw⟩
set_option maxRecDepth 100000 in
theorem Beyond_any (w : World) (hT : Tab w) : Calls Tryz.prog 224 #[.agg #[.complex .f64 4617315517961601024 0, .float .f64 4602678819172646912], .float .f64 4613937818241073154] w fun e w' => e = .returned (.tuple #[.bool true, .int .i64 0]) ∧ Below w.heap.size w w' := by
  have h0 : mayS (4617315517961601024, 0, 4602678819172646912) = true := by decide +kernel
  have hw := may_any 4617315517961601024 0 4602678819172646912
  rw [h0] at hw
  have h1 := finite_any 4613937818241073154
  rw [show finB 4613937818241073154 = true by decide +kernel] at h1
  have HM := Lib.hid hw
  have HF := Lib.hid h1
  have HY := Lib.hid beyond_any
  have HT := Lib.hid hT
  have e1 : (FloatKind.f64.format.order 4613937818241073154 0 == some .lt) = false := by decide +kernel
  unfold RY at HM
  clear h0 hw h1 hT
  go_enter Tryz.func224, Tryz.ntmps224
  go_wp2_with (first
    | (go_at_call 120; refine (HM.out _).mono ?_; rintro en w1 ⟨rfl, hb⟩; obtain ⟨hc, hf⟩ := bcell hb; (try simp only [World.heap_drewN, World.cell?_drewN, World.frozen?_drewN] at hc hf); have z0 : w.heap.size < w1.heap.size := (by have := hb.size; try simp at this; omega); have HT1 := Lib.hid (HT.out.below (show Below w.heap.size w w1 by repeat (first | exact Below.refl _ _ | refine below_drewN ?_ _ | refine Below.alloc ?_ (by first | omega | (simp; omega) | simp) _ | refine Below.setCell ?_ (by first | omega | (simp; omega) | simp) _ | refine Below.trans ?_ (Below.mono (by assumption) (by first | omega | (simp; omega) | simp)) | apply Below.drew))))
    | (go_at_call 180; refine (HF.out _).mono ?_; rintro en w' ⟨n, rfl, rfl⟩)
    | (go_at_call 244; (refine (HY.out _ (HT1.out.below (by repeat (first | exact Below.refl _ _ | refine below_drewN ?_ _ | refine Below.alloc ?_ (by first | omega | (simp; omega) | simp) _ | refine Below.setCell ?_ (by first | omega | (simp; omega) | simp) _ | refine Below.trans ?_ (Below.mono (by assumption) (by first | omega | (simp; omega) | simp)) | apply Below.drew)))).mono ?_; rintro en w2 ⟨rfl, hb2⟩)))
  go_ret2
  exact ⟨rfl, by repeat (first | exact Below.refl _ _ | refine below_drewN ?_ _ | refine Below.alloc ?_ (by first | omega | (simp; omega) | simp) _ | refine Below.setCell ?_ (by first | omega | (simp; omega) | simp) _ | refine Below.trans ?_ (Below.mono (by assumption) (by first | omega | (simp; omega) | simp)) | apply Below.drew)⟩
end Go.Proofs.YtbgjcpnbdgljbaaGreatDoor
