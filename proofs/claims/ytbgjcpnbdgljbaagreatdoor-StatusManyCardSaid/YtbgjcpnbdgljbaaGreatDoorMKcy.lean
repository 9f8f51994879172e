/- cycles.finite, may, nature. -/
import Derived.Test.YtbgjcpnbdgljbaaGreatDoorMKfl
namespace Go.Proofs.YtbgjcpnbdgljbaaGreatDoor
open Go.RowKit Go.Fil
attribute [local irreducible] fop fsqrt fup fabs fneg pick

set_option maxRecDepth 100000 in
/-- Numbers that are all finite. -/
theorem cyfin_any (A : Option Addr) (n cap : Nat) (zs : List Cc) (hn : zs.length = n) (hle : n ≤ 1000000) (hf : ∀ k, k < n → cfin (nth zs k).1 (nth zs k).2 = true) (w : World) (hs : Seq w w.heap.size A (zs.map cv)) :
    Calls Tryz.prog 140 #[.slice A n cap] w fun e w' => e = .returned (.bool true) ∧ w = w' := by
  have HS := Lib.hid hs
  have HN := Lib.hid hn
  have HF := Lib.hid hf
  clear hs hn hf
  go_enter Tryz.func140, Tryz.ntmps140
  go_wp2
  go_loop [7] (fun i => ∃ k : Nat, k ≤ n ∧ i = .int .i64 k) (fun i => n - (intOf i).toNat)
  case atStart => exact ⟨0, Nat.zero_le _, rfl⟩
  case round =>
    obtain ⟨k, hk, rfl⟩ := hrel
    by_cases hlt : k < n
    · obtain ⟨b, o, rfl, hb, hcl⟩ := HS.out.cat (k := k) (by have := HN.out; omega)
      have HK := Lib.hid (fun w => kind_fin (HF.out k hlt) w)
      have k0 : (0 : Int) ≤ (k : Int) := by omega
      have k1 : (k : Int) < (n : Int) := by omega
      go_wp2_with (go_at_call 100; (with_reducible refine (HK.out _).mono ?_); rintro e w' ⟨rfl, rfl⟩)
      go_round
      case rel => exact ⟨k + 1, by omega, by go_num⟩
      case measure => simp [intOf]; omega
    · obtain rfl : k = n := by omega
      go_wp2
      go_ret
      exact ⟨rfl, rfl⟩
theorem cyfin_one (a b : Nat) (h : cfin a b = true) (w : World) (g : Nat) (hg : w.cell? ⟨g, 0, none⟩ = some (.complex .f64 a b)) : Calls Tryz.prog 140 #[.slice (some ⟨g, 0, none⟩) 1 1] w fun e w' => e = .returned (.bool true) ∧ w = w' := by
  have hgl := World.block_lt_of_cell? w _ hg
  refine cyfin_any _ 1 1 [(a, b)] rfl (by decide) (fun k hk => ?_) w (.inr ⟨g, 0, rfl, hgl, fun j v hj => ?_⟩)
  · obtain rfl : k = 0 := by omega
    exact h
  · match j, hj with
    | 0, hj => simp [cv] at hj; rw [← hj]; exact hg
    | j + 1, hj => simp at hj
theorem cymay {A1 A2 : Option Addr} {c1 c2 : Nat} {w : World} (hM : Mp w w.heap.size A1 A2) : Calls Tryz.prog 139 #[.agg #[.slice A1 2 c1, .slice A2 1 c2], .int .i64 1, .complex .f64 0 0] w fun e w' => e = .returned (.bool true) ∧ Below w.heap.size w w' := by
  have hf : cfin 0 0 = true := by decide +kernel
  have HF := Lib.hid hf
  have HM := Lib.hid hM
  clear hM hf
  go_enter Tryz.func139, Tryz.ntmps139
  go_wp2_with (first
    | (go_at_call 71; (with_reducible refine (mcheck (HM.out.now (by repeat (first | exact Below.refl _ _ | refine below_drewN ?_ _ | refine Below.alloc ?_ (by first | omega | (simp; omega) | simp) _ | refine Below.setCell ?_ (by first | omega | (simp; omega) | simp) _ | refine Below.trans ?_ (Below.mono (by assumption) (by first | omega | (simp; omega) | simp)) | apply Below.drew)))).mono ?_); rintro e w1 ⟨rfl, hb⟩; have s1 := hb.size; (try simp at s1); have s2 : w.heap.size ≤ w1.heap.size := (by omega))
    | (go_at_call 140; (with_reducible refine (cyfin_one 0 0 HF.out _ _ ?_).mono ?_); (simp [go_sem]); rintro e w' ⟨rfl, rfl⟩))
  go_ret
  exact ⟨rfl, by repeat (first | exact Below.refl _ _ | refine below_drewN ?_ _ | refine Below.alloc ?_ (by first | omega | (simp; omega) | simp) _ | refine Below.setCell ?_ (by first | omega | (simp; omega) | simp) _ | refine Below.trans ?_ (Below.mono (by assumption) (by first | omega | (simp; omega) | simp)) | apply Below.drew)⟩
/-- A nature that is not that of attracting cycles. -/
def RNt (w : World) (e : Ending) (w' : World) : Prop := (∃ n : Int, n ≠ 1 ∧ e = .returned (.int .u8 n)) ∧ Below w.heap.size w w'
theorem nature_w (a b r : Nat) (h : isWholeS (a, b, r) = false) (hc : cfin a b = true) (hq : feq (sizeQ a b) 0 = true) (hh : flt (bhiS (a, b, r)) 4607182418800017408 = false) (w : World) : Calls Tryz.prog 237 #[.agg #[.complex .f64 a b, .float .f64 r]] w (RNt w) := by
  have HLO := Lib.hid (fun w => blo_w a b r h hc hq w)
  have HHI := Lib.hid (fun w => bhi_any a b r w)
  have hh' : (FloatKind.f64.format.order (bhiS (a, b, r)) 4607182418800017408 == some .lt) = false := hh
  generalize bhiS (a, b, r) = H at *
  clear hh h hc hq
  go_enter Tryz.func237, Tryz.ntmps237
  go_wp2_with (first
    | (go_at_call 115; (with_reducible refine (HHI.out _).mono ?_); rintro e w1 ⟨s, rfl, hb⟩; obtain ⟨hc, hf⟩ := bcell hb; (try simp only [World.heap_drewN, World.cell?_drewN, World.frozen?_drewN] at hc hf); have z0 : w.heap.size < w1.heap.size := (by have := hb.size; try simp at this; omega))
    | (go_at_call 250; (with_reducible refine (HLO.out _).mono ?_); rintro e w2 ⟨y, rfl, hb2⟩))
  all_goals
    go_ret
    refine ⟨⟨_, ?_, rfl⟩, by repeat (first | exact Below.refl _ _ | refine below_drewN ?_ _ | refine Below.alloc ?_ (by first | omega | (simp; omega) | simp) _ | refine Below.setCell ?_ (by first | omega | (simp; omega) | simp) _ | refine Below.trans ?_ (Below.mono (by assumption) (by first | omega | (simp; omega) | simp)) | apply Below.drew)⟩
    decide
end Go.Proofs.YtbgjcpnbdgljbaaGreatDoor

/- cycles' Newton of the map 2z at 0. -/
namespace Go.Proofs.YtbgjcpnbdgljbaaGreatDoor
open Go.RowKit Go.Fil
attribute [local irreducible] fop fsqrt fup fabs fneg pick

/-- A complex number, numbers drawn. -/
def RCv (x y : Nat) (w : World) (e : Ending) (w' : World) : Prop := ∃ n, e = .returned (.complex .f64 x y) ∧ w.drewN n = w'
theorem rc_v {x y a b : Nat} {w w' : World} {e : Ending} (h : RC a b w e w') (h1 : a = x) (h2 : b = y) (n1 : isNaN x = false) (n2 : isNaN y = false) : RCv x y w e w' := by
  subst h1; subst h2
  obtain ⟨s, t, n, he, hw⟩ := h
  rw [pick_of n1, pick_of n2] at he
  exact ⟨n, he, hw⟩
abbrev F1 : Nat := 4607182418800017408
abbrev F2 : Nat := 4611686018427387904
theorem mul21 (w : World) : Calls Tryz.prog 45 #[.complex .f64 4611686018427387904 0, .complex .f64 4607182418800017408 0] w (RCv 4611686018427387904 0 w) := (cmul_any _ _ _ _ w).mono fun _ _ h => rc_v h (by decide +kernel) (by decide +kernel) (by decide) (by decide)
theorem mul00 (w : World) : Calls Tryz.prog 45 #[.complex .f64 0 0, .complex .f64 0 0] w (RCv 0 0 w) := (cmul_any _ _ _ _ w).mono fun _ _ h => rc_v h (by decide +kernel) (by decide +kernel) (by decide) (by decide)
theorem mul11 (w : World) : Calls Tryz.prog 45 #[.complex .f64 4607182418800017408 0, .complex .f64 4607182418800017408 0] w (RCv 4607182418800017408 0 w) := (cmul_any _ _ _ _ w).mono fun _ _ h => rc_v h (by decide +kernel) (by decide +kernel) (by decide) (by decide)
theorem sub20 (w : World) : Calls Tryz.prog 110 #[.complex .f64 4611686018427387904 0, .complex .f64 0 0] w (RCv 4611686018427387904 0 w) := (csub_any _ _ _ _ w).mono fun _ _ h => rc_v h (by decide +kernel) (by decide +kernel) (by decide) (by decide)
theorem sub00 (w : World) : Calls Tryz.prog 110 #[.complex .f64 0 0, .complex .f64 0 0] w (RCv 0 0 w) := (csub_any _ _ _ _ w).mono fun _ _ h => rc_v h (by decide +kernel) (by decide +kernel) (by decide) (by decide)
theorem sub21 (w : World) : Calls Tryz.prog 110 #[.complex .f64 4611686018427387904 0, .complex .f64 4607182418800017408 0] w (RCv 4607182418800017408 0 w) := (csub_any _ _ _ _ w).mono fun _ _ h => rc_v h (by decide +kernel) (by decide +kernel) (by decide) (by decide)
theorem quo21 (w : World) : Calls Tryz.prog 109 #[.complex .f64 4611686018427387904 0, .complex .f64 4607182418800017408 0] w (RCv 4611686018427387904 0 w) := (cquo_any _ _ _ _ w).mono fun _ _ h => rc_v h (by decide +kernel) (by decide +kernel) (by decide) (by decide)
theorem quo01 (w : World) : Calls Tryz.prog 109 #[.complex .f64 0 0, .complex .f64 4607182418800017408 0] w (RCv 0 0 w) := (cquo_any _ _ _ _ w).mono fun _ _ h => rc_v h (by decide +kernel) (by decide +kernel) (by decide) (by decide)
theorem cyfin_three (a1 b1 a2 b2 a3 b3 : Nat) (h1 : cfin a1 b1 = true) (h2 : cfin a2 b2 = true) (h3 : cfin a3 b3 = true) (w : World) (g : Nat) (c1 : w.cell? ⟨g, 0, none⟩ = some (.complex .f64 a1 b1)) (c2 : w.cell? ⟨g, 1, none⟩ = some (.complex .f64 a2 b2)) (c3 : w.cell? ⟨g, 2, none⟩ = some (.complex .f64 a3 b3)) : Calls Tryz.prog 140 #[.slice (some ⟨g, 0, none⟩) 3 3] w fun e w' => e = .returned (.bool true) ∧ w = w' := by
  have hgl := World.block_lt_of_cell? w _ c1
  refine cyfin_any _ 3 3 [(a1, b1), (a2, b2), (a3, b3)] rfl (by decide) (fun k hk => ?_) w (.inr ⟨g, 0, rfl, hgl, fun j v hj => ?_⟩)
  · match k, hk with
    | 0, _ => exact h1
    | 1, _ => exact h2
    | 2, _ => exact h3
  · rw [Nat.zero_add]
    match j, hj with
    | 0, hj => simp [cv] at hj; rw [← hj]; exact c1
    | 1, hj => simp [cv] at hj; rw [← hj]; exact c2
    | 2, hj => simp [cv] at hj; rw [← hj]; exact c3
    | j + 3, hj => simp at hj
/-- Newton's numbers at 0. -/
def RNe (w : World) (e : Ending) (w' : World) : Prop := e = .returned (.tuple #[.complex .f64 0 0, .complex .f64 4607182418800017408 0, .bool true]) ∧ Below w.heap.size w w'
set_option maxRecDepth 100000 in
set_option maxHeartbeats 3200000 in
theorem newton0 {A1 A2 : Option Addr} {c1 c2 : Nat} {w : World} (hM : Mp w w.heap.size A1 A2) :
    Calls Tryz.prog 232 #[.agg #[.slice A1 2 c1, .slice A2 1 c2, .int .i64 1], .complex .f64 0 0] w (RNe w) := by
  have HM := Lib.hid hM
  have f0 : cfin 0 0 = true := by decide +kernel
  have f2 : cfin 4611686018427387904 0 = true := by decide +kernel
  have HF0 := Lib.hid f0
  have HF2 := Lib.hid f2
  clear hM f0 f2
  go_enter Tryz.func232, Tryz.ntmps232
  go_wp2
  go_loopw [7, 8, 23] (fun z y k wx => ∃ j : Nat, k = .int .i64 j ∧ j ≤ 1 ∧ z = .complex .f64 0 0 ∧ ((j = 0 ∧ y = .complex .f64 4607182418800017408 0) ∨ (j = 1 ∧ y = .complex .f64 4611686018427387904 0)) ∧ Below (w.heap.size + 1) (w.alloc (.cells #[.slice A1 2 c1, .slice A2 1 c2, .int .i64 1] 278)) wx) (fun _ _ k _ => 1 - (intOf k).toNat)
  case atStart => exact ⟨0, rfl, by decide, rfl, .inl ⟨rfl, rfl⟩, Below.refl _ _⟩
  case round =>
    rename World => wx
    obtain ⟨j, rfl, hj, rfl, hy, hbx⟩ := hrel
    have m0 : wx.cell? ⟨w.heap.size, 0, none⟩ = some (.slice A1 2 c1) := (hbx.cell (p := ⟨w.heap.size, 0, none⟩) (by simp)).trans (by rw [World.cell?_alloc_at _ _ _ _ rfl]; rfl)
    have m1 : wx.cell? ⟨w.heap.size, 1, none⟩ = some (.slice A2 1 c2) := (hbx.cell (p := ⟨w.heap.size, 1, none⟩) (by simp)).trans (by rw [World.cell?_alloc_at _ _ _ _ rfl]; rfl)
    have m2 : wx.cell? ⟨w.heap.size, 2, none⟩ = some (.int .i64 1) := (hbx.cell (p := ⟨w.heap.size, 2, none⟩) (by simp)).trans (by rw [World.cell?_alloc_at _ _ _ _ rfl]; rfl)
    have sx := hbx.size
    simp at sx
    have l0 : w.heap.size < wx.heap.size := by omega
    have hbw : Below w.heap.size w wx := (alloc_below w _).trans (hbx.mono (by omega))
    have HBW := Lib.hid hbw
    have HBX := Lib.hid hbx
    have HMX := Lib.hid (HM.out.now hbw)
    clear hbx hbw
    rcases hy with ⟨rfl, rfl⟩ | ⟨rfl, rfl⟩
    · clear hj
      go_wp2_with (first
        | (go_at_call 33; (with_reducible refine (atP0 (HMX.out.now (by repeat (first | exact Below.refl _ _ | refine below_drewN ?_ _ | refine Below.alloc ?_ (by first | omega | (simp; omega) | simp) _ | refine Below.setCell ?_ (by first | omega | (simp; omega) | simp) _ | refine Below.trans ?_ (Below.mono (by assumption) (by first | omega | (simp; omega) | simp)) | apply Below.drew)))).mono ?_); rintro e w3 ⟨rfl, hb⟩; obtain ⟨hc, hf⟩ := bcell hb; have t3 : wx.heap.size ≤ w3.heap.size := (by have := hb.size; (try simp at this); omega); have l3 : w.heap.size < w3.heap.size := (by have := hb.size; omega))
        | (go_at_call 33; (with_reducible refine (atQ0 (HMX.out.now (by repeat (first | exact Below.refl _ _ | refine below_drewN ?_ _ | refine Below.alloc ?_ (by first | omega | (simp; omega) | simp) _ | refine Below.setCell ?_ (by first | omega | (simp; omega) | simp) _ | refine Below.trans ?_ (Below.mono (by assumption) (by first | omega | (simp; omega) | simp)) | apply Below.drew)))).mono ?_); rintro e w4 ⟨rfl, hb4⟩; obtain ⟨hc4, hf4⟩ := bcell hb4; have t4 : wx.heap.size ≤ w4.heap.size := (by have := hb4.size; (try simp at this); omega); have l4 : w.heap.size < w4.heap.size := (by have := hb4.size; omega))
        | (go_at_call 108; (with_reducible refine (slP0 (HMX.out.now (by repeat (first | exact Below.refl _ _ | refine below_drewN ?_ _ | refine Below.alloc ?_ (by first | omega | (simp; omega) | simp) _ | refine Below.setCell ?_ (by first | omega | (simp; omega) | simp) _ | refine Below.trans ?_ (Below.mono (by assumption) (by first | omega | (simp; omega) | simp)) | apply Below.drew)))).mono ?_); rintro e w5 ⟨rfl, hb5⟩; obtain ⟨hc5, hf5⟩ := bcell hb5; have t5 : wx.heap.size ≤ w5.heap.size := (by have := hb5.size; (try simp at this); omega); have l5 : w.heap.size < w5.heap.size := (by have := hb5.size; omega))
        | (go_at_call 108; (with_reducible refine (slQ0 (HMX.out.now (by repeat (first | exact Below.refl _ _ | refine below_drewN ?_ _ | refine Below.alloc ?_ (by first | omega | (simp; omega) | simp) _ | refine Below.setCell ?_ (by first | omega | (simp; omega) | simp) _ | refine Below.trans ?_ (Below.mono (by assumption) (by first | omega | (simp; omega) | simp)) | apply Below.drew)))).mono ?_); rintro e w6 ⟨rfl, hb6⟩; obtain ⟨hc6, hf6⟩ := bcell hb6; have t6 : wx.heap.size ≤ w6.heap.size := (by have := hb6.size; (try simp at this); omega); have l6 : w.heap.size < w6.heap.size := (by have := hb6.size; omega))
        | (go_at_call 45; (with_reducible refine (mul21 _).mono ?_); rintro e w' ⟨n, rfl, rfl⟩)
        | (go_at_call 45; (with_reducible refine (mul00 _).mono ?_); rintro e w' ⟨n, rfl, rfl⟩)
        | (go_at_call 45; (with_reducible refine (mul11 _).mono ?_); rintro e w' ⟨n, rfl, rfl⟩)
        | (go_at_call 110; (with_reducible refine (sub20 _).mono ?_); rintro e w' ⟨n, rfl, rfl⟩)
        | (go_at_call 109; (with_reducible refine (quo21 _).mono ?_); rintro e w' ⟨n, rfl, rfl⟩)
        | (go_at_call 200; (with_reducible refine (ratAt0 (HMX.out.now (by repeat (first | exact Below.refl _ _ | refine below_drewN ?_ _ | refine Below.alloc ?_ (by first | omega | (simp; omega) | simp) _ | refine Below.setCell ?_ (by first | omega | (simp; omega) | simp) _ | refine Below.trans ?_ (Below.mono (by assumption) (by first | omega | (simp; omega) | simp)) | apply Below.drew)))).mono ?_); rintro e w7 ⟨rfl, hb7⟩; obtain ⟨hc7, hf7⟩ := bcell hb7; have t7 : wx.heap.size ≤ w7.heap.size := (by have := hb7.size; (try simp at this); omega); have l7 : w.heap.size < w7.heap.size := (by have := hb7.size; (try simp at this); omega))
        | (go_at_call 140; (with_reducible refine (cyfin_three _ _ _ _ _ _ HF0.out HF2.out HF2.out _ _ ?_ ?_ ?_).mono ?_); (simp [go_sem]); (simp [go_sem]); (simp [go_sem]); rintro e w' ⟨rfl, rfl⟩))
      have hbn : Below w.heap.size w wx := HBW.out
      have hbm := HBX.out
      refine ⟨⟨1, rfl, Nat.le_refl _, rfl, .inr ⟨rfl, rfl⟩, hbm.trans ?_⟩, by simp [intOf]⟩
      clear hbm hbn
      refine Below.mono (B := wx.heap.size) ?_ (by omega)
      repeat (first | exact Below.refl _ _ | refine below_drewN ?_ _ | refine Below.alloc ?_ (by first | omega | (simp; omega) | simp) _ | refine Below.setCell ?_ (by first | omega | (simp; omega) | simp) _ | refine Below.trans ?_ (Below.mono (by assumption) (by first | omega | (simp; omega) | simp)) | apply Below.drew)
    · go_wp2_with (first
        | (go_at_call 110; (with_reducible refine (sub00 _).mono ?_); rintro e w' ⟨n, rfl, rfl⟩)
        | (go_at_call 110; (with_reducible refine (sub21 _).mono ?_); rintro e w' ⟨n, rfl, rfl⟩))
      go_ret3
      exact ⟨rfl, by (have hbw := HBW.out; repeat (first | exact Below.refl _ _ | refine below_drewN ?_ _ | refine Below.alloc ?_ (by first | omega | (simp; omega) | simp) _ | refine Below.setCell ?_ (by first | omega | (simp; omega) | simp) _ | refine Below.trans ?_ (Below.mono (by assumption) (by first | omega | (simp; omega) | simp)) | apply Below.drew))⟩
end Go.Proofs.YtbgjcpnbdgljbaaGreatDoor

/- cycles.next, Seek of the map 2z at 0. -/
namespace Go.Proofs.YtbgjcpnbdgljbaaGreatDoor
open Go.RowKit Go.Fil
attribute [local irreducible] fop fsqrt fup fabs fneg pick

set_option maxRecDepth 100000 in
set_option maxHeartbeats 1600000 in
theorem next0 {A1 A2 : Option Addr} {c1 c2 : Nat} {w : World} (hM : Mp w w.heap.size A1 A2) :
    Calls Tryz.prog 231 #[.agg #[.slice A1 2 c1, .slice A2 1 c2, .int .i64 1], .complex .f64 0 0] w (RNe w) := by
  have HM := Lib.hid hM
  have f0 : cfin 0 0 = true := by decide +kernel
  have HF0 := Lib.hid f0
  clear hM f0
  go_enter Tryz.func231, Tryz.ntmps231
  go_wp2_with (first
    | (go_at_call 232; (with_reducible refine (newton0 (HM.out.now (by repeat (first | exact Below.refl _ _ | refine below_drewN ?_ _ | refine Below.alloc ?_ (by first | omega | (simp; omega) | simp) _ | refine Below.setCell ?_ (by first | omega | (simp; omega) | simp) _ | refine Below.trans ?_ (Below.mono (by assumption) (by first | omega | (simp; omega) | simp)) | apply Below.drew)))).mono ?_); rintro e w1 ⟨rfl, hb⟩; have s1 : w.heap.size ≤ w1.heap.size := (by have := hb.size; (try simp at this); omega))
    | (go_at_call 109; (with_reducible refine (quo01 _).mono ?_); rintro e w' ⟨n, rfl, rfl⟩)
    | (go_at_call 110; (with_reducible refine (sub00 _).mono ?_); rintro e w' ⟨n, rfl, rfl⟩)
    | (go_at_call 140; (with_reducible refine (cyfin_one 0 0 HF0.out _ _ ((World.cell?_alloc_at _ _ _ _ (by simp)).trans rfl)).mono ?_); rintro e w' ⟨rfl, rfl⟩))

  go_ret3
  exact ⟨rfl, by repeat (first | exact Below.refl _ _ | refine below_drewN ?_ _ | refine Below.alloc ?_ (by first | omega | (simp; omega) | simp) _ | refine Below.setCell ?_ (by first | omega | (simp; omega) | simp) _ | refine Below.trans ?_ (Below.mono (by assumption) (by first | omega | (simp; omega) | simp)) | apply Below.drew)⟩
set_option maxRecDepth 100000 in
set_option maxHeartbeats 1600000 in
theorem seek0 {A1 A2 : Option Addr} {c1 c2 : Nat} {w : World} (hM : Mp w w.heap.size A1 A2) :
    Calls Tryz.prog 201 #[.agg #[.slice A1 2 c1, .slice A2 1 c2], .int .i64 1, .complex .f64 0 0, .int .i64 64] w (RCI 0 0 w) := by
  have hmf : ∀ (fn : Fn) (first cap : Array Value) (w : World), (Instr.makeFunc fn first cap).run Tryz.prog w = .ok (.func fn first cap) w := fun _ _ _ _ => rfl
  have HM := Lib.hid hM
  have hsm : (likeB 0 0 && likeB 0 0) = true := by decide +kernel
  have hcs := fun w => csame_any 0 0 0 0 w
  rw [hsm] at hcs
  have HCS := Lib.hid hcs
  clear hM hsm hcs
  go_enter Tryz.func201, Tryz.ntmps201
  go_wp2_with (go_at_call 139; (with_reducible refine (cymay (HM.out.now (by repeat (first | exact Below.refl _ _ | refine below_drewN ?_ _ | refine Below.alloc ?_ (by first | omega | (simp; omega) | simp) _ | refine Below.setCell ?_ (by first | omega | (simp; omega) | simp) _ | refine Below.trans ?_ (Below.mono (by assumption) (by first | omega | (simp; omega) | simp)) | apply Below.drew)))).mono ?_); rintro e w1 ⟨rfl, hb⟩; obtain ⟨hc, hf⟩ := bcell hb; (try simp only [World.heap_drewN, World.cell?_drewN, World.frozen?_drewN] at hc hf); have z0 : w.heap.size < w1.heap.size := (by have := hb.size; try simp at this; omega))
  have s1 : w.heap.size ≤ w1.heap.size := by omega
  have hbw : Below w.heap.size w w1 := by repeat (first | exact Below.refl _ _ | refine below_drewN ?_ _ | refine Below.alloc ?_ (by first | omega | (simp; omega) | simp) _ | refine Below.setCell ?_ (by first | omega | (simp; omega) | simp) _ | refine Below.trans ?_ (Below.mono (by assumption) (by first | omega | (simp; omega) | simp)) | apply Below.drew)
  have HBW := Lib.hid hbw
  have HM1 := Lib.hid (HM.out.now hbw)
  clear hbw hc hf hb
  go_loopw [2, 32] (fun z k wx => z = .complex .f64 0 0 ∧ k = .int .i64 0 ∧ wx = w1) (fun _ _ _ => 0)
  case atStart => exact ⟨rfl, rfl, rfl⟩
  case round =>
    obtain ⟨rfl, rfl, rfl⟩ := hrel
    go_wp2_with (first
      | (go_at_call 231; (with_reducible refine (next0 HM1.out).mono ?_); rintro e w2 ⟨rfl, hb2⟩)
      | (go_at_call 183; (with_reducible refine (HCS.out _).mono ?_); rintro e w' ⟨rfl, rfl⟩))
    go_ret2
    exact ⟨rfl, HBW.out.trans (hb2.mono HBW.out.size)⟩
end Go.Proofs.YtbgjcpnbdgljbaaGreatDoor
