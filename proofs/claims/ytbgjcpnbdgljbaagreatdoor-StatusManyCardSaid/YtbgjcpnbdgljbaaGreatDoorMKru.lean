/- flow.Run of the map 2z, one step; cycles' sure for the period 1. -/
import Derived.Test.YtbgjcpnbdgljbaaGreatDoorMKfl
import Derived.Test.YtbgjcpnbdgljbaaGreatDoorMKmo
import Derived.Maps.AppendAt
import Derived.WalkMore
namespace Go.Proofs.YtbgjcpnbdgljbaaGreatDoor
open Go.RowKit Go.Fil
attribute [local irreducible] fop fsqrt fup fabs fneg pick

/-- What Run answers: two rows of two balls. -/
def RRu (B U I V : Bl) (w : World) (e : Ending) (w' : World) : Prop := (∃ g c g' c', e = .returned (.tuple #[.agg #[.slice (some ⟨g, 0, none⟩) 2 c, .slice (some ⟨g', 0, none⟩) 2 c'], .int .i64 0]) ∧ w'.ownsRow w.heap.size 57 2 (.slice (some ⟨g, 0, none⟩) 2 c) 2 (bcells [B, U]) ∧ w'.ownsRow w.heap.size 57 2 (.slice (some ⟨g', 0, none⟩) 2 c') 2 (bcells [I, V])) ∧ Below w.heap.size w w'
theorem own2_form {w : World} {base e : Nat} {v : Value} {xs : List Value} (h : w.ownsRow base e 2 v 2 xs) : ∃ g c, v = .slice (some ⟨g, 0, none⟩) 2 c := by
  rcases h.2 with ⟨_, h⟩ | ⟨g, c, _, hv, _⟩
  · cases h
  · exact ⟨g, c, hv⟩
set_option maxRecDepth 100000 in
set_option maxHeartbeats 3200000 in
theorem run1 {A1 A2 : Option Addr} {c1 c2 : Nat} (B : Bl) (hm : mayS B = true) (hw : isWholeS B = false) {w : World} (hM : Mp w w.heap.size A1 A2) :
    Calls Tryz.prog 235 #[.agg #[.slice A1 2 c1, .slice A2 1 c2], .agg #[.complex .f64 B.1 B.2.1, .float .f64 B.2.2], .int .i64 1] w (RRu B (onP B) one1 (mulS (slP B) one1) w) := by
  obtain ⟨i0, hi, hz0, hz1, hz2⟩ := info_parts Tryz.infoB
  obtain ⟨a, b, r⟩ := B
  dsimp only at hm hw ⊢
  have HST := Lib.hid (fun w (hM : Mp w w.heap.size A1 A2) => fsteps (c1 := c1) (c2 := c2) a b r hm hM)
  have HS1 := Lib.hid (fun g w (hM : Mp w w.heap.size A1 A2) hc0 hc1 => step1_any (c1 := c1) (c2 := c2) (a, b, r) one1 g hm hw hM hc0 hc1)
  have HON := Lib.hid flow_one
  have HSP := Lib.hid stepper_any
  have HM := Lib.hid hM
  have e3 : pointS 4607182418800017408 0 = one1 := rfl
  rw [e3] at HON
  generalize onP (a, b, r) = U at *
  generalize mulS (slP (a, b, r)) one1 = V at *
  generalize one1 = I at *
  clear hM hm hw e3
  go_enter Tryz.func235, Tryz.ntmps235
  go_wp2_with (first
    | (go_at_call 194; (with_reducible refine (HST.out _ (HM.out.now (by repeat (first | exact Below.refl _ _ | refine below_drewN ?_ _ | refine Below.alloc ?_ (by first | omega | (simp; omega) | simp) _ | refine Below.setCell ?_ (by first | omega | (simp; omega) | simp) _ | refine Below.trans ?_ (Below.mono (by assumption) (by first | omega | (simp; omega) | simp)) | apply Below.drew)))).mono ?_); rintro e w1 ⟨rfl, hb⟩; obtain ⟨hc, hf⟩ := bcell hb; (try simp only [World.heap_drewN, World.cell?_drewN, World.frozen?_drewN] at hc hf); have z0 : w.heap.size < w1.heap.size := (by have := hb.size; (try simp at this); omega); have z1 : w.heap.size + 1 < w1.heap.size := (by have := hb.size; (try simp at this); omega); have z2 : w.heap.size + 1 + 1 < w1.heap.size := (by have := hb.size; (try simp at this); omega); have z3 : w.heap.size + 2 < w1.heap.size := (by omega))
    | (go_at_call 248; (with_reducible refine (HSP.out _ _ _).mono ?_); rintro e w' ⟨rfl, rfl⟩)
    | (go_at_call 249; (with_reducible refine (HON.out _).mono ?_); rintro e w2 ⟨rfl, hb2⟩; obtain ⟨hc2, hf2⟩ := bcell hb2; have s2 := hb2.size; (try simp at s2); have y1 : w.heap.size < w2.heap.size := (by omega); have y2 : w.heap.size + 1 < w2.heap.size := (by omega); have y3 : w.heap.size + 1 + 1 < w2.heap.size := (by omega)))
  have HE0 : ∃ E, ((((w2.alloc (.cells #[.complex .f64 I.1 I.2.1, .float .f64 I.2.2] 57)).alloc (.cells #[.complex .f64 a b, .float .f64 r] 57)).alloc (.cells #[.complex .f64 I.1 I.2.1, .float .f64 I.2.2] 57)).alloc (.cells #[.slice (some ⟨w2.heap.size + 1, 0, none⟩) 1 1, .slice (some ⟨w2.heap.size + 1 + 1, 0, none⟩) 1 1] 284)) = E := ⟨_, rfl⟩
  obtain ⟨E, hE⟩ := HE0
  have q1 : w.heap.size + 1 + 1 < w1.heap.size := by omega
  have q2 : w1.heap.size < w2.heap.size := by omega
  have Y : Below w1.heap.size w1 E := by rw [← hE]; clear hE hb; repeat (first | exact Below.refl _ _ | refine below_drewN ?_ _ | refine Below.alloc ?_ (by first | omega | (simp; omega) | simp) _ | refine Below.setCell ?_ (by first | omega | (simp; omega) | simp) _ | refine Below.trans ?_ (Below.mono (by assumption) (by first | omega | (simp; omega) | simp)) | apply Below.drew)
  have Z : Below w2.heap.size w2 E := by rw [← hE]; clear hE hb hb2; repeat (first | exact Below.refl _ _ | refine below_drewN ?_ _ | refine Below.alloc ?_ (by first | omega | (simp; omega) | simp) _ | refine Below.setCell ?_ (by first | omega | (simp; omega) | simp) _ | refine Below.trans ?_ (Below.mono (by assumption) (by first | omega | (simp; omega) | simp)) | apply Below.drew)
  have c40 : E.cell? ⟨w.heap.size + 1, 0, none⟩ = some (.complex .f64 a b) := (Y.cell (p := ⟨w.heap.size + 1, 0, none⟩) z1).trans ((hb.cell (p := ⟨w.heap.size + 1, 0, none⟩) (by simp)).trans (by simp [go_sem]))
  have c41 : E.cell? ⟨w.heap.size + 1, 1, none⟩ = some (.float .f64 r) := (Y.cell (p := ⟨w.heap.size + 1, 1, none⟩) z1).trans ((hb.cell (p := ⟨w.heap.size + 1, 1, none⟩) (by simp)).trans (by simp [go_sem]))
  have f4 : ∀ o, E.frozen? ⟨w.heap.size + 1, o, none⟩ = false := fun o => (Y.frozen (p := ⟨w.heap.size + 1, o, none⟩) z1).trans ((hb.frozen (p := ⟨w.heap.size + 1, o, none⟩) (by simp)).trans (by simp [go_sem]))
  have c60 : E.cell? ⟨w.heap.size + 1 + 1, 0, none⟩ = some (.slice none 0 0) := (Y.cell (p := ⟨w.heap.size + 1 + 1, 0, none⟩) z2).trans ((hb.cell (p := ⟨w.heap.size + 1 + 1, 0, none⟩) (by simp)).trans (by simp [go_sem]))
  have c61 : E.cell? ⟨w.heap.size + 1 + 1, 1, none⟩ = some (.slice none 0 0) := (Y.cell (p := ⟨w.heap.size + 1 + 1, 1, none⟩) z2).trans ((hb.cell (p := ⟨w.heap.size + 1 + 1, 1, none⟩) (by simp)).trans (by simp [go_sem]))
  have f6 : ∀ o, E.frozen? ⟨w.heap.size + 1 + 1, o, none⟩ = false := fun o => (Y.frozen (p := ⟨w.heap.size + 1 + 1, o, none⟩) z2).trans ((hb.frozen (p := ⟨w.heap.size + 1 + 1, o, none⟩) (by simp)).trans (by simp [go_sem]))
  have m0 : E.cell? ⟨w1.heap.size, 0, none⟩ = some (.slice A1 2 c1) := (Z.cell (p := ⟨w1.heap.size, 0, none⟩) q2).trans ((hb2.cell (p := ⟨w1.heap.size, 0, none⟩) (by simp)).trans (by rw [World.cell?_alloc_at _ _ _ _ rfl]; rfl))
  have m1 : E.cell? ⟨w1.heap.size, 1, none⟩ = some (.slice A2 1 c2) := (Z.cell (p := ⟨w1.heap.size, 1, none⟩) q2).trans ((hb2.cell (p := ⟨w1.heap.size, 1, none⟩) (by simp)).trans (by rw [World.cell?_alloc_at _ _ _ _ rfl]; rfl))
  have c100 : E.cell? ⟨w2.heap.size, 0, none⟩ = some (.complex .f64 I.1 I.2.1) := by rw [← hE]; simp [go_sem]
  have c101 : E.cell? ⟨w2.heap.size, 1, none⟩ = some (.float .f64 I.2.2) := by rw [← hE]; simp [go_sem]
  have c110 : E.cell? ⟨w2.heap.size + 1 + 1 + 1, 0, none⟩ = some (.slice (some ⟨w2.heap.size + 1, 0, none⟩) 1 1) := by rw [← hE]; simp [go_sem]
  have c111 : E.cell? ⟨w2.heap.size + 1 + 1 + 1, 1, none⟩ = some (.slice (some ⟨w2.heap.size + 1 + 1, 0, none⟩) 1 1) := by rw [← hE]; simp [go_sem]
  have f10 : ∀ o, E.frozen? ⟨w2.heap.size, o, none⟩ = false := by intro o; rw [← hE]; simp [go_sem]
  have f11 : ∀ o, E.frozen? ⟨w2.heap.size + 1 + 1 + 1, o, none⟩ = false := by intro o; rw [← hE]; simp [go_sem]
  have hbe : Below w.heap.size w E := by rw [← hE]; clear hE Y Z; repeat (first | exact Below.refl _ _ | refine below_drewN ?_ _ | refine Below.alloc ?_ (by first | omega | (simp; omega) | simp) _ | refine Below.setCell ?_ (by first | omega | (simp; omega) | simp) _ | refine Below.trans ?_ (Below.mono (by assumption) (by first | omega | (simp; omega) | simp)) | apply Below.drew)
  have hsz : E.heap.size = w2.heap.size + 4 := by rw [← hE]; simp
  have R1 : E.ownsRow w.heap.size 57 2 (.slice (some ⟨w2.heap.size + 1, 0, none⟩) 1 1) 1 (bcells [(a, b, r)]) := by
    have h := World.ownsRow_lit (base := w.heap.size) (e := 57) (size := 2) (w2.alloc (.cells #[.complex .f64 I.1 I.2.1, .float .f64 I.2.2] 57)) #[.complex .f64 a b, .float .f64 r] 1 (by simp; omega) (by decide) rfl
    rw [World.size_alloc] at h
    rw [← hE]; exact (h.alloc _).alloc _
  have R2 : E.ownsRow w.heap.size 57 2 (.slice (some ⟨w2.heap.size + 1 + 1, 0, none⟩) 1 1) 1 (bcells [I]) := by
    have h := World.ownsRow_lit (base := w.heap.size) (e := 57) (size := 2) ((w2.alloc (.cells #[.complex .f64 I.1 I.2.1, .float .f64 I.2.2] 57)).alloc (.cells #[.complex .f64 a b, .float .f64 r] 57)) #[.complex .f64 I.1 I.2.1, .float .f64 I.2.2] 1 (by simp; omega) (by decide) rfl
    rw [World.size_alloc, World.size_alloc] at h
    rw [← hE]; exact h.alloc _
  rw [hE]
  have HBE := Lib.hid hbe
  have HR1 := Lib.hid R1
  have HR2 := Lib.hid R2
  clear hE hc hf hc2 hf2 hb hb2 hbe R1 R2 Y Z
  go_loopw [29] (fun k wx => (k = .int .i64 0 ∧ wx = E) ∨ (k = .int .i64 1 ∧ ∃ g c g' c', wx.cell? ⟨w2.heap.size + 1 + 1 + 1, 0, none⟩ = some (.slice (some ⟨g, 0, none⟩) 2 c) ∧ wx.cell? ⟨w2.heap.size + 1 + 1 + 1, 1, none⟩ = some (.slice (some ⟨g', 0, none⟩) 2 c') ∧ wx.cell? ⟨w.heap.size + 1 + 1, 0, none⟩ = some (.slice none 0 0) ∧ wx.cell? ⟨w.heap.size + 1 + 1, 1, none⟩ = some (.slice none 0 0) ∧ wx.frozen? ⟨w.heap.size + 1 + 1, 0, none⟩ = false ∧ wx.frozen? ⟨w.heap.size + 1 + 1, 1, none⟩ = false ∧ wx.ownsRow w.heap.size 57 2 (.slice (some ⟨g, 0, none⟩) 2 c) 2 (bcells [(a, b, r), U]) ∧ wx.ownsRow w.heap.size 57 2 (.slice (some ⟨g', 0, none⟩) 2 c') 2 (bcells [I, V]) ∧ Below w.heap.size w wx ∧ w.heap.size + 1 + 1 ≠ g ∧ w.heap.size + 1 + 1 ≠ g')) (fun k _ => 1 - (intOf k).toNat)
  case atStart => exact .inl ⟨rfl, rfl⟩
  case round =>
    rename World => wx
    rcases hrel with ⟨rfl, rfl⟩ | ⟨rfl, g, c, g', c', d0, d1, d2, d3, d4, d5, R1, R2, hbw, ng, ng'⟩
    · have HS := Lib.hid (HS1.out w1.heap.size wx (HM.out.now HBE.out) m0 m1)
      have k4 : w.heap.size + 1 < wx.heap.size := by omega
      have k6 : w.heap.size + 1 + 1 < wx.heap.size := by omega
      have k10 : w2.heap.size < wx.heap.size := by omega
      have k11 : w2.heap.size + 1 + 1 + 1 < wx.heap.size := by omega
      have k12 : w2.heap.size + 4 ≤ wx.heap.size := by omega
      clear hsz
      have f40 := f4 0
      have f41 := f4 1
      have f100 := f10 0
      have f101 := f10 1
      go_upto_region 9 with (go_at_call 254; (with_reducible refine HS.out.mono ?_); rintro e w3 ⟨rfl, hb⟩; obtain ⟨hc, hf⟩ := bcell hb; have s3 := hb.size)
      have v4 : VCell w3 (w.heap.size + 1) (a, b, r) := VCell.below ⟨c40, c41, f4⟩ hb k4
      have v10 : VCell w3 w2.heap.size I := VCell.below ⟨c100, c101, f10⟩ hb k10
      have e410 : w2.heap.size ≠ w.heap.size + 1 := by omega
      have v10' := (v10.other e410 U).set V
      have g1 := grown_of_below (row := some (w.heap.size + 1)) hb
      have hX : ∃ X, setB (setB w3 (w.heap.size + 1) U) w2.heap.size V = X := ⟨_, rfl⟩
      obtain ⟨X, hX⟩ := hX
      have kc : ∀ k o v, k < wx.heap.size → k ≠ w.heap.size + 1 → k ≠ w2.heap.size → wx.cell? ⟨k, o, none⟩ = some v → X.cell? ⟨k, o, none⟩ = some v := fun k o v hk n1 n2 h => by
        rw [← hX]; unfold setB
        exact cell_grown (grown_set _ _ _ _) (by simp; omega) (fun e => n2 (by injection e with e; exact e.symm)) (cell_grown (grown_set _ _ _ _) (by simp; omega) (fun e => n2 (by injection e with e; exact e.symm)) (cell_grown (grown_set _ _ _ _) (by simp; omega) (fun e => n1 (by injection e with e; exact e.symm)) (cell_grown (grown_set _ _ _ _) (by omega) (fun e => n1 (by injection e with e; exact e.symm)) (cell_grown g1 hk (fun e => n1 (by injection e with e; exact e.symm)) h))))
      have kf : ∀ k o, k < wx.heap.size → wx.frozen? ⟨k, o, none⟩ = false → X.frozen? ⟨k, o, none⟩ = false := fun k o hk h => by
        rw [← hX]; unfold setB
        rw [World.frozen?_setCell, World.frozen?_setCell, World.frozen?_setCell, World.frozen?_setCell]
        exact (hb.frozen (p := ⟨k, o, none⟩) hk).trans h
      have kr : ∀ {n : Nat} {v : Value} {xs : List Value}, wx.ownsRow w.heap.size 57 2 v n xs → v.ownBlock ≠ some (w.heap.size + 1) → v.ownBlock ≠ some w2.heap.size → X.ownsRow w.heap.size 57 2 v n xs := fun h n1 n2 => by
        rw [← hX]; unfold setB
        exact ((((own_below h hb).kept (grown_set _ _ _ _) (.inr n1)).kept (grown_set _ _ _ _) (.inr n1)).kept (grown_set _ _ _ _) (.inr n2)).kept (grown_set _ _ _ _) (.inr n2)
      rw [hX] at v10'
      have hXw : Below w.heap.size w X := by
        rw [← hX]
        exact below_setB (below_setB (HBE.out.trans (hb.mono HBE.out.size)) (by omega) _) (by omega) _
      have sX : w3.heap.size = X.heap.size := by rw [← hX, setB_size, setB_size]
      have HX := Lib.hid hXw
      have t0 := kc _ _ _ k11 (by omega) (by omega) c110
      have t1 := kc _ _ _ k11 (by omega) (by omega) c111
      have t0f := kf _ 0 k11 (f11 0)
      have t1f := kf _ 1 k11 (f11 1)
      have r0 := kc _ _ _ k6 (by omega) (by omega) c60
      have r1 := kc _ _ _ k6 (by omega) (by omega) c61
      have r0f := kf _ 0 k6 (f6 0)
      have r1f := kf _ 1 k6 (f6 1)
      have HO1 := Lib.hid (kr HR1.out (fun e => by have h : w2.heap.size + 1 = w.heap.size + 1 := Option.some.inj e; omega) (fun e => by have h : w2.heap.size + 1 = w2.heap.size := Option.some.inj e; omega))
      have HO2 := Lib.hid (kr HR2.out (fun e => by have h : w2.heap.size + 1 + 1 = w.heap.size + 1 := Option.some.inj e; omega) (fun e => by have h : w2.heap.size + 1 + 1 = w2.heap.size := Option.some.inj e; omega))
      have u4 := (v4.set U).other (Ne.symm e410) V
      rw [hX] at u4
      have u40 := u4.c0
      have u41 := u4.c1
      have u100 := v10'.c0
      have u101 := v10'.c1
      have sX4 : w2.heap.size + 4 ≤ X.heap.size := by omega
      change Code.wp _ _ _ _ (setB (setB w3 (w.heap.size + 1) U) w2.heap.size V)
      rw [hX]
      clear hX kc kf kr g1 v4 v10 v10' u4 hXw hb hc hf s3 sX
      go_wp2_with (at_builtin; refine wpList_append_own_at _ rfl _ _ 108 rfl w.heap.size 57 i0 (.agg #[.complex .f64 0 0, .float .f64 0]) 2 24 Tryz.underlying108 hi hz0 hz1 hz2 rfl (by decide) _ _ _ rfl (HO1.out.alloc _) ⟨X.heap.size, 0, none⟩ 1 1 [.complex .f64 U.1 U.2.1, .float .f64 U.2.2] rfl rfl ?c1 ?c2 ?c3 ?c4 ?c5 ?_)
      case c1 => exact ball_new X U _
      case c2 => intro u hu; simp at hu; rcases hu with rfl | rfl <;> rfl
      case c3 => unfold maxLen; omega
      case c4 => omega
      case c5 => have := HX.out.size; simp; omega
      intro v1 w7 hown1 hg1 _ hat1
      obtain ⟨g, c, rfl⟩ := own2_form hown1
      have hg1' : (X.alloc (.cells #[.complex .f64 U.1 U.2.1, .float .f64 U.2.2] 57)).grownBy w7 (some (w2.heap.size + 1)) := hg1
      have al := fun k (hk : k < X.heap.size) => (show k < (X.alloc (.cells #[.complex .f64 U.1 U.2.1, .float .f64 U.2.2] 57)).heap.size by simp; omega)
      have kc : ∀ k o v, k < X.heap.size → k ≠ w2.heap.size + 1 → X.cell? ⟨k, o, none⟩ = some v → w7.cell? ⟨k, o, none⟩ = some v := fun k o v hk n1 h => cell_grown hg1' (al k hk) (fun e => n1 (by injection e with e; exact e.symm)) ((World.cell?_alloc_past _ _ _ hk).trans h)
      have kf : ∀ k o, k < X.heap.size → k ≠ w2.heap.size + 1 → X.frozen? ⟨k, o, none⟩ = false → w7.frozen? ⟨k, o, none⟩ = false := fun k o hk n1 h => frozen_grown hg1' (al k hk) (fun e => n1 (by injection e with e; exact e.symm)) ((World.frozen?_alloc_past _ _ _ hk).trans h)
      have x6 : w.heap.size + 1 + 1 < X.heap.size := by omega
      have x10 : w2.heap.size < X.heap.size := by omega
      have x11 : w2.heap.size + 1 + 1 + 1 < X.heap.size := by omega
      have s0 := kc _ _ _ x11 (by omega) t0
      have s1 := kc _ _ _ x11 (by omega) t1
      have s0f := kf _ _ x11 (by omega) t0f
      have s1f := kf _ _ x11 (by omega) t1f
      have p0 := kc _ _ _ x6 (by omega) r0
      have p1 := kc _ _ _ x6 (by omega) r1
      have p0f := kf _ _ x6 (by omega) r0f
      have p1f := kf _ _ x6 (by omega) r1f
      have z0' := kc _ _ _ x10 (by omega) u100
      have z1' := kc _ _ _ x10 (by omega) u101
      have hw7 : Below w.heap.size w w7 := (HX.out.alloc (by have := HX.out.size; omega) (.cells #[.complex .f64 U.1 U.2.1, .float .f64 U.2.2] 57)).grown hg1' (by have := HX.out.size; simp; omega) (fun k e => by injection e with e; omega)
      have HW7 := Lib.hid hw7
      have HP1 := Lib.hid hown1
      have HP2 := Lib.hid ((HO2.out.alloc (.cells #[.complex .f64 U.1 U.2.1, .float .f64 U.2.2] 57)).kept hg1' (.inr (fun e => by have h : w2.heap.size + 1 + 1 = w2.heap.size + 1 := Option.some.inj e; omega)))
      have s7 : X.heap.size + 1 ≤ w7.heap.size := by have := hg1'.size; simpa using this
      have ng1 : w.heap.size + 1 + 1 ≠ g ∧ w2.heap.size + 1 + 1 ≠ g ∧ w2.heap.size + 1 + 1 + 1 ≠ g := by
        rcases hat1 with e | e
        · have h : g = w2.heap.size + 1 := Option.some.inj e
          omega
        · have h : g = X.heap.size + 1 := Option.some.inj e
          omega
      clear hat1 hown1 hg1 hg1' al kc kf t0 t1 t0f t1f r0 r1 r0f r1f u40 u41 u100 u101 hw7
      go_upto_region 10 with fail
      change Code.wp _ _ _ _ (w7.setCell ⟨w2.heap.size + 1 + 1 + 1, 0, none⟩ (.slice (some ⟨g, 0, none⟩) 2 c))
      have gs := grown_set w7 (w2.heap.size + 1 + 1 + 1) 0 (.slice (some ⟨g, 0, none⟩) 2 c)
      have kc : ∀ k o v, k < w7.heap.size → k ≠ w2.heap.size + 1 + 1 + 1 → w7.cell? ⟨k, o, none⟩ = some v → (w7.setCell ⟨w2.heap.size + 1 + 1 + 1, 0, none⟩ (.slice (some ⟨g, 0, none⟩) 2 c)).cell? ⟨k, o, none⟩ = some v := fun k o v hk n1 h => cell_grown gs hk (fun e => n1 (by injection e with e; exact e.symm)) h
      have kf : ∀ k o, w7.frozen? ⟨k, o, none⟩ = false → (w7.setCell ⟨w2.heap.size + 1 + 1 + 1, 0, none⟩ (.slice (some ⟨g, 0, none⟩) 2 c)).frozen? ⟨k, o, none⟩ = false := fun k o h => by rw [World.frozen?_setCell]; exact h
      have y6 : w.heap.size + 1 + 1 < w7.heap.size := by omega
      have y10 : w2.heap.size < w7.heap.size := by omega
      have t0 := World.cell?_setCell_same' w7 ⟨w2.heap.size + 1 + 1 + 1, 0, none⟩ (.slice (some ⟨g, 0, none⟩) 2 c) (by rw [s0]; rfl)
      have t1 : (w7.setCell ⟨w2.heap.size + 1 + 1 + 1, 0, none⟩ (.slice (some ⟨g, 0, none⟩) 2 c)).cell? ⟨w2.heap.size + 1 + 1 + 1, 1, none⟩ = some (.slice (some ⟨w2.heap.size + 1 + 1, 0, none⟩) 1 1) := (World.cell?_setCell_other _ _ _ _ (fun e => by injection e with _ e; cases e)).trans s1
      have t1f := kf _ _ s1f
      have r0 := kc _ _ _ y6 (by omega) p0
      have r1 := kc _ _ _ y6 (by omega) p1
      have r0f := kf _ _ p0f
      have r1f := kf _ _ p1f
      have u100 := kc _ _ _ y10 (by omega) z0'
      have u101 := kc _ _ _ y10 (by omega) z1'
      have HQ1 := Lib.hid (HP1.out.kept gs (.inr (fun e => by have h : g = w2.heap.size + 1 + 1 + 1 := Option.some.inj e; omega)))
      have HQ2 := Lib.hid (HP2.out.kept gs (.inr (fun e => by have h : w2.heap.size + 1 + 1 = w2.heap.size + 1 + 1 + 1 := Option.some.inj e; omega)))
      have hYw : Below w.heap.size w (w7.setCell ⟨w2.heap.size + 1 + 1 + 1, 0, none⟩ (.slice (some ⟨g, 0, none⟩) 2 c)) := HW7.out.setCell (by show w.heap.size ≤ w2.heap.size + 1 + 1 + 1; omega) _
      have HYW := Lib.hid hYw
      have sY : (w7.setCell ⟨w2.heap.size + 1 + 1 + 1, 0, none⟩ (.slice (some ⟨g, 0, none⟩) 2 c)).heap.size = w7.heap.size := by simp
      generalize w7.setCell ⟨w2.heap.size + 1 + 1 + 1, 0, none⟩ (.slice (some ⟨g, 0, none⟩) 2 c) = Y at *
      have sY4 : w2.heap.size + 5 ≤ Y.heap.size := by omega
      clear gs kc kf s0 s1 s0f s1f p0 p1 p0f p1f z0' z1' HP1 HP2 HW7 hYw sY s7
      go_wp2_with (at_builtin; refine wpList_append_own_at _ rfl _ _ 108 rfl w.heap.size 57 i0 (.agg #[.complex .f64 0 0, .float .f64 0]) 2 24 Tryz.underlying108 hi hz0 hz1 hz2 rfl (by decide) _ _ _ rfl (HQ2.out.alloc _) ⟨Y.heap.size, 0, none⟩ 1 1 [.complex .f64 V.1 V.2.1, .float .f64 V.2.2] rfl rfl ?c1 ?c2 ?c3 ?c4 ?c5 ?_)
      case c1 => exact ball_new Y V _
      case c2 => intro u hu; simp at hu; rcases hu with rfl | rfl <;> rfl
      case c3 => unfold maxLen; omega
      case c4 => omega
      case c5 => have := HYW.out.size; simp; omega
      intro v2 w9 hown2 hg2 _ hat2
      obtain ⟨g', c', rfl⟩ := own2_form hown2
      have hg2' : (Y.alloc (.cells #[.complex .f64 V.1 V.2.1, .float .f64 V.2.2] 57)).grownBy w9 (some (w2.heap.size + 1 + 1)) := hg2
      have al := fun k (hk : k < Y.heap.size) => (show k < (Y.alloc (.cells #[.complex .f64 V.1 V.2.1, .float .f64 V.2.2] 57)).heap.size by simp; omega)
      have kc : ∀ k o v, k < Y.heap.size → k ≠ w2.heap.size + 1 + 1 → Y.cell? ⟨k, o, none⟩ = some v → w9.cell? ⟨k, o, none⟩ = some v := fun k o v hk n1 h => cell_grown hg2' (al k hk) (fun e => n1 (by injection e with e; exact e.symm)) ((World.cell?_alloc_past _ _ _ hk).trans h)
      have kf : ∀ k o, k < Y.heap.size → k ≠ w2.heap.size + 1 + 1 → Y.frozen? ⟨k, o, none⟩ = false → w9.frozen? ⟨k, o, none⟩ = false := fun k o hk n1 h => frozen_grown hg2' (al k hk) (fun e => n1 (by injection e with e; exact e.symm)) ((World.frozen?_alloc_past _ _ _ hk).trans h)
      have x6 : w.heap.size + 1 + 1 < Y.heap.size := by omega
      have x11 : w2.heap.size + 1 + 1 + 1 < Y.heap.size := by omega
      have s0 := kc _ _ _ x11 (by omega) t0
      have s1 := kc _ _ _ x11 (by omega) t1
      have s1f := kf _ _ x11 (by omega) t1f
      have p0 := kc _ _ _ x6 (by omega) r0
      have p1 := kc _ _ _ x6 (by omega) r1
      have p0f := kf _ _ x6 (by omega) r0f
      have p1f := kf _ _ x6 (by omega) r1f
      have hw9 : Below w.heap.size w w9 := (HYW.out.alloc (by have := HYW.out.size; omega) (.cells #[.complex .f64 V.1 V.2.1, .float .f64 V.2.2] 57)).grown hg2' (by have := HYW.out.size; simp; omega) (fun k e => by injection e with e; omega)
      have ng2 : w.heap.size + 1 + 1 ≠ g' ∧ w2.heap.size + 1 + 1 + 1 ≠ g' := by
        rcases hat2 with e | e
        · have h : g' = w2.heap.size + 1 + 1 := Option.some.inj e
          omega
        · have h : g' = Y.heap.size + 1 := Option.some.inj e
          omega
      have gs := grown_set w9 (w2.heap.size + 1 + 1 + 1) 1 (.slice (some ⟨g', 0, none⟩) 2 c')
      have HF2 := Lib.hid (hown2.kept gs (.inr (fun e => by have h : g' = w2.heap.size + 1 + 1 + 1 := Option.some.inj e; omega)))
      have HF1 := Lib.hid (((HQ1.out.alloc (.cells #[.complex .f64 V.1 V.2.1, .float .f64 V.2.2] 57)).kept hg2' (.inr (fun e => by have h : g = w2.heap.size + 1 + 1 := Option.some.inj e; omega))).kept gs (.inr (fun e => by have h : g = w2.heap.size + 1 + 1 + 1 := Option.some.inj e; omega)))
      have HW9 := Lib.hid hw9
      have y6' : w.heap.size + 1 + 1 ≠ w2.heap.size + 1 + 1 + 1 := by omega
      clear hat2 hown2 hg2 hg2' al kc kf t0 t1 t1f r0 r1 r0f r1f u100 u101 hw9 gs
      go_wp2
      have gs := grown_set w9 (w2.heap.size + 1 + 1 + 1) 1 (.slice (some ⟨g', 0, none⟩) 2 c')
      have k6' : w.heap.size + 1 + 1 < w9.heap.size := World.block_lt_of_cell? w9 _ p0
      have n6 : (some (w2.heap.size + 1 + 1 + 1) : Option Nat) ≠ some (w.heap.size + 1 + 1) := fun e => y6' (Option.some.inj e).symm
      refine ⟨.inr ⟨rfl, g, c, g', c', (World.cell?_setCell_other _ _ _ _ (fun e => by injection e with _ e; cases e)).trans s0, World.cell?_setCell_same' _ _ _ (by rw [s1]; rfl), cell_grown gs k6' n6 p0, cell_grown gs k6' n6 p1, by rw [World.frozen?_setCell]; exact p0f, by rw [World.frozen?_setCell]; exact p1f, HF1.out, HF2.out, HW9.out.setCell (by show w.heap.size ≤ w2.heap.size + 1 + 1 + 1; omega) _, ng1.1, ng2.1⟩, by simp [intOf]⟩
    · go_wp2_with fail
      have n6 : ∀ k, w.heap.size + 1 + 1 ≠ k → (Value.slice (some ⟨k, 0, none⟩) 2 c).ownBlock = none ∨ (Value.slice (some ⟨k, 0, none⟩) 2 c).ownBlock ≠ some (w.heap.size + 1 + 1) := fun k h => .inr (fun e => h (Option.some.inj e).symm)
      exact bodyPost_ret (v := .tuple #[.agg #[.slice (some ⟨g, 0, none⟩) 2 c, .slice (some ⟨g', 0, none⟩) 2 c'], .int .i64 0]) (by simp [results, Tryz.results235, go_sem, d2, d3]) rfl ⟨⟨g, c, g', c', rfl, (R1.kept (grown_set _ _ _ _) (n6 g ng)).kept (grown_set _ _ _ _) (n6 g ng), (R2.kept (grown_set _ _ _ _) (n6 g' ng')).kept (grown_set _ _ _ _) (n6 g' ng')⟩, (hbw.setCell (by show w.heap.size ≤ w.heap.size + 1 + 1; omega) _).setCell (by show w.heap.size ≤ w.heap.size + 1 + 1; omega) _⟩
theorem sure1 (m1 m2 h1 h2 v : Value) (w : World) : Calls Tryz.prog 236 #[.agg #[m1, m2, .int .i64 1], .agg #[h1, h2], v] w (RY true w) := by
  go_enter Tryz.func236, Tryz.ntmps236
  go_wp2
  go_loop [7] (fun i => i = .int .i64 1) (fun _ => 0)
  case atStart => rfl
  case round =>
    subst hrel
    go_wp2
    go_ret
    exact ⟨rfl, by repeat (first | exact Below.refl _ _ | refine below_drewN ?_ _ | refine Below.alloc ?_ (by first | omega | (simp; omega) | simp) _ | refine Below.setCell ?_ (by first | omega | (simp; omega) | simp) _ | refine Below.trans ?_ (Below.mono (by assumption) (by first | omega | (simp; omega) | simp)) | apply Below.drew)⟩
end Go.Proofs.YtbgjcpnbdgljbaaGreatDoor

/- cycles.Certify of the map 2z at 0. -/
namespace Go.Proofs.YtbgjcpnbdgljbaaGreatDoor
open Go.RowKit Go.Fil
attribute [local irreducible] fop fsqrt fup fabs fneg pick fmax

/-- The radius, and the slope's ball. -/
def R0 : Nat := 4336966441157787648
def SL0 : Bl := mulS (slP (0, 0, R0)) one1
/-- The cycle, its point at block g. -/
def cyv (g : Nat) (n : Int) : Value := .agg #[.int .i64 1, .complex .f64 0 0, .float .f64 R0, .slice (some ⟨g, 0, none⟩) 1 1, .complex .f64 SL0.1 SL0.2.1, .float .f64 SL0.2.2, .int .u8 n]
structure Pt0 (w : World) (g : Nat) : Prop where
  c0 : w.cell? ⟨g, 0, none⟩ = some (.complex .f64 0 0)
  c1 : w.cell? ⟨g, 1, none⟩ = some (.float .f64 R0)
  lt : g < w.heap.size
def RCy (w : World) (e : Ending) (w' : World) : Prop := (∃ (g : Nat) (n : Int), n ≠ 1 ∧ e = .returned (.tuple #[cyv g n, .int .i64 0]) ∧ Pt0 w' g) ∧ Below w.heap.size w w'
theorem tok0 : TOk R0 := ⟨by decide +kernel, by decide +kernel, by decide +kernel, by decide +kernel, by decide +kernel⟩
set_option maxRecDepth 100000 in
set_option maxHeartbeats 1600000 in
theorem certify0 {A1 A2 : Option Addr} {c1 c2 : Nat} {w : World} (hM : Mp w w.heap.size A1 A2) :
    Calls Tryz.prog 202 #[.agg #[.slice A1 2 c1, .slice A2 1 c2], .int .i64 1, .complex .f64 0 0] w (RCy w) := by
  have hmf : ∀ (fn : Fn) (first cap : Array Value) (w : World), (Instr.makeFunc fn first cap).run Tryz.prog w = .ok (.func fn first cap) w := fun _ _ _ _ => rfl
  have eMV : MV = (0, 0, 0) := by decide +kernel
  have eHI : bhiS (0, 0, 0) = 0 := by decide +kernel
  have eFI : finB R0 = true := by decide +kernel
  have HM := Lib.hid hM
  have HMV := Lib.hid (fun w (hM : Mp w w.heap.size A1 A2) => move0 (c1 := c1) (c2 := c2) hM)
  have HHI := Lib.hid (fun w => (bhi_any 0 0 0 w).mono (R' := fun e w' => e = .returned (.float .f64 0) ∧ Below w.heap.size w w') fun e w' ⟨s, he, hb⟩ => ⟨by rw [he, eHI, pick_of (by decide)], hb⟩)
  have HFI := Lib.hid (fun w => finite_any R0 w)
  have HTE := Lib.hid (fun w (hM : Mp w w.heap.size A1 A2) => test0 (c1 := c1) (c2 := c2) tok0 hM)
  have HRU := Lib.hid (fun w (hM : Mp w w.heap.size A1 A2) => run1 (c1 := c1) (c2 := c2) (0, 0, R0) tok0.may tok0.nw hM)
  have HNA := Lib.hid (fun w => nature_w SL0.1 SL0.2.1 SL0.2.2 (by decide +kernel) (by decide +kernel) (by decide +kernel) (by decide +kernel) w)
  rw [eMV] at HMV
  rw [eFI] at HFI
  rw [show mulS (slP (0, 0, R0)) one1 = SL0 from rfl] at HRU
  have q1 : (FloatKind.f64.format.order 4607182418800017408 0 == some .eq) = false := by decide +kernel
  have q2 : (FloatKind.f64.format.order 0 0 == some .eq) = true := by decide +kernel
  have q3 : fop .mul 0 4611686018427387904 = 0 := by decide +kernel
  have q4 : ∀ n, pick 0 n = 0 := pick_of (by decide)
  clear hM eMV eHI eFI
  go_enter Tryz.func202, Tryz.ntmps202
  go_wp2
  go_step3
  go_wp2_with (first
    | (go_at_call 139; (with_reducible refine (cymay (HM.out.now (by repeat (first | exact Below.refl _ _ | refine below_drewN ?_ _ | refine Below.alloc ?_ (by first | omega | (simp; omega) | simp) _ | refine Below.setCell ?_ (by first | omega | (simp; omega) | simp) _ | refine Below.trans ?_ (Below.mono (by assumption) (by first | omega | (simp; omega) | simp)) | apply Below.drew)))).mono ?_); rintro e w1 ⟨rfl, hb1⟩; obtain ⟨hc1, hf1⟩ := bcell hb1; have s1 := hb1.size; (try simp at s1); have y1 : w.heap.size < w1.heap.size := (by omega); have y1' : w.heap.size + 1 < w1.heap.size := (by omega))
    | (go_at_call 232; (with_reducible refine (newton0 (HM.out.now (by repeat (first | exact Below.refl _ _ | refine below_drewN ?_ _ | refine Below.alloc ?_ (by first | omega | (simp; omega) | simp) _ | refine Below.setCell ?_ (by first | omega | (simp; omega) | simp) _ | refine Below.trans ?_ (Below.mono (by assumption) (by first | omega | (simp; omega) | simp)) | apply Below.drew)))).mono ?_); rintro e w2 ⟨rfl, hb2⟩; obtain ⟨hc2, hf2⟩ := bcell hb2; have s2 := hb2.size; (try simp at s2); have y2 : w.heap.size < w2.heap.size := (by omega); have y2' : w.heap.size + 1 < w2.heap.size := (by omega); have y2'' : w1.heap.size < w2.heap.size := (by omega))
    | (go_at_call 233; (with_reducible refine (HMV.out _ (HM.out.now (by repeat (first | exact Below.refl _ _ | refine below_drewN ?_ _ | refine Below.alloc ?_ (by first | omega | (simp; omega) | simp) _ | refine Below.setCell ?_ (by first | omega | (simp; omega) | simp) _ | refine Below.trans ?_ (Below.mono (by assumption) (by first | omega | (simp; omega) | simp)) | apply Below.drew)))).mono ?_); rintro e w3 ⟨rfl, hb3⟩; obtain ⟨hc3, hf3⟩ := bcell hb3; have s3 := hb3.size; (try simp at s3); have y3 : w.heap.size < w3.heap.size := (by omega); have y3' : w.heap.size + 1 < w3.heap.size := (by omega); have y3'' : w1.heap.size < w3.heap.size := (by omega))
    | (go_at_call 115; (with_reducible refine (HHI.out _).mono ?_); rintro e w4 ⟨rfl, hb4⟩; obtain ⟨hc4, hf4⟩ := bcell hb4; have s4 := hb4.size; (try simp at s4); have y4 : w.heap.size < w4.heap.size := (by omega); have y4' : w.heap.size + 1 < w4.heap.size := (by omega); have y4'' : w1.heap.size < w4.heap.size := (by omega)))
  go_step3
  have hE : ∃ E, (w4.drewN (fd BinOp.mul 0 4611686018427387904)).alloc (.cells #[.complex .f64 0 0, .float .f64 0] 57) = E := ⟨_, rfl⟩
  obtain ⟨E, hE⟩ := hE
  have Y : Below w1.heap.size w1 E := by rw [← hE]; clear hE hb1; repeat (first | exact Below.refl _ _ | refine below_drewN ?_ _ | refine Below.alloc ?_ (by first | omega | (simp; omega) | simp) _ | refine Below.setCell ?_ (by first | omega | (simp; omega) | simp) _ | refine Below.trans ?_ (Below.mono (by assumption) (by first | omega | (simp; omega) | simp)) | apply Below.drew)
  have Z : Below w2.heap.size w2 E := by rw [← hE]; clear hE hb1 hb2; repeat (first | exact Below.refl _ _ | refine below_drewN ?_ _ | refine Below.alloc ?_ (by first | omega | (simp; omega) | simp) _ | refine Below.setCell ?_ (by first | omega | (simp; omega) | simp) _ | refine Below.trans ?_ (Below.mono (by assumption) (by first | omega | (simp; omega) | simp)) | apply Below.drew)
  have hbe : Below w.heap.size w E := by rw [← hE]; clear hE Y Z; repeat (first | exact Below.refl _ _ | refine below_drewN ?_ _ | refine Below.alloc ?_ (by first | omega | (simp; omega) | simp) _ | refine Below.setCell ?_ (by first | omega | (simp; omega) | simp) _ | refine Below.trans ?_ (Below.mono (by assumption) (by first | omega | (simp; omega) | simp)) | apply Below.drew)
  have hsz : E.heap.size = w4.heap.size + 1 := by rw [← hE]; simp
  have m0 : E.cell? ⟨w.heap.size, 0, none⟩ = some (.slice A1 2 c1) := (Y.cell (p := ⟨w.heap.size, 0, none⟩) y1).trans ((hb1.cell (p := ⟨w.heap.size, 0, none⟩) (by simp; omega)).trans (by rw [World.cell?_alloc_past _ _ _ (by simp), World.cell?_alloc_at _ _ _ _ rfl]; rfl))
  have m1 : E.cell? ⟨w.heap.size, 1, none⟩ = some (.slice A2 1 c2) := (Y.cell (p := ⟨w.heap.size, 1, none⟩) y1).trans ((hb1.cell (p := ⟨w.heap.size, 1, none⟩) (by simp; omega)).trans (by rw [World.cell?_alloc_past _ _ _ (by simp), World.cell?_alloc_at _ _ _ _ rfl]; rfl))
  have t60 : E.cell? ⟨w.heap.size + 1, 0, none⟩ = some (.int .i64 0) := (Y.cell (p := ⟨w.heap.size + 1, 0, none⟩) y1').trans ((hb1.cell (p := ⟨w.heap.size + 1, 0, none⟩) (by first | (simp; done) | (simp; omega))).trans (by simp [go_sem]))
  have t61 : E.cell? ⟨w.heap.size + 1, 1, none⟩ = some (.complex .f64 0 0) := (Y.cell (p := ⟨w.heap.size + 1, 1, none⟩) y1').trans ((hb1.cell (p := ⟨w.heap.size + 1, 1, none⟩) (by first | (simp; done) | (simp; omega))).trans (by simp [go_sem]))
  have t62 : E.cell? ⟨w.heap.size + 1, 2, none⟩ = some (.float .f64 0) := (Y.cell (p := ⟨w.heap.size + 1, 2, none⟩) y1').trans ((hb1.cell (p := ⟨w.heap.size + 1, 2, none⟩) (by first | (simp; done) | (simp; omega))).trans (by simp [go_sem]))
  have t63 : E.cell? ⟨w.heap.size + 1, 3, none⟩ = some (.slice none 0 0) := (Y.cell (p := ⟨w.heap.size + 1, 3, none⟩) y1').trans ((hb1.cell (p := ⟨w.heap.size + 1, 3, none⟩) (by first | (simp; done) | (simp; omega))).trans (by simp [go_sem]))
  have t64 : E.cell? ⟨w.heap.size + 1, 4, none⟩ = some (.complex .f64 0 0) := (Y.cell (p := ⟨w.heap.size + 1, 4, none⟩) y1').trans ((hb1.cell (p := ⟨w.heap.size + 1, 4, none⟩) (by first | (simp; done) | (simp; omega))).trans (by simp [go_sem]))
  have t65 : E.cell? ⟨w.heap.size + 1, 5, none⟩ = some (.float .f64 0) := (Y.cell (p := ⟨w.heap.size + 1, 5, none⟩) y1').trans ((hb1.cell (p := ⟨w.heap.size + 1, 5, none⟩) (by first | (simp; done) | (simp; omega))).trans (by simp [go_sem]))
  have t66 : E.cell? ⟨w.heap.size + 1, 6, none⟩ = some (.int .u8 0) := (Y.cell (p := ⟨w.heap.size + 1, 6, none⟩) y1').trans ((hb1.cell (p := ⟨w.heap.size + 1, 6, none⟩) (by first | (simp; done) | (simp; omega))).trans (by simp [go_sem]))
  have f6 : ∀ o, E.frozen? ⟨w.heap.size + 1, o, none⟩ = false := fun o => (Y.frozen (p := ⟨w.heap.size + 1, o, none⟩) y1').trans ((hb1.frozen (p := ⟨w.heap.size + 1, o, none⟩) (by simp)).trans (by simp [go_sem]))
  have t80 : E.cell? ⟨w1.heap.size, 0, none⟩ = some (.slice A1 2 c1) := (Z.cell (p := ⟨w1.heap.size, 0, none⟩) y2'').trans ((hb2.cell (p := ⟨w1.heap.size, 0, none⟩) (by simp)).trans (by rw [World.cell?_alloc_at _ _ _ _ rfl]; rfl))
  have t81 : E.cell? ⟨w1.heap.size, 1, none⟩ = some (.slice A2 1 c2) := (Z.cell (p := ⟨w1.heap.size, 1, none⟩) y2'').trans ((hb2.cell (p := ⟨w1.heap.size, 1, none⟩) (by simp)).trans (by rw [World.cell?_alloc_at _ _ _ _ rfl]; rfl))
  have t82 : E.cell? ⟨w1.heap.size, 2, none⟩ = some (.int .i64 1) := (Z.cell (p := ⟨w1.heap.size, 2, none⟩) y2'').trans ((hb2.cell (p := ⟨w1.heap.size, 2, none⟩) (by simp)).trans (by rw [World.cell?_alloc_at _ _ _ _ rfl]; rfl))
  have hv16 : VCell E w4.heap.size (0, 0, 0) := by rw [← hE]; exact VCell.new (w4.drewN (fd BinOp.mul 0 4611686018427387904)) _ (0, 0, 0)
  have HM1 := Lib.hid (HM.out.now hbe)
  have HBE := Lib.hid hbe
  have HV16 := Lib.hid hv16
  have l1 : w1.heap.size < E.heap.size := by omega
  have l3 : w.heap.size < E.heap.size := by omega
  have l6 : w.heap.size + 1 < E.heap.size := by omega
  have l16 : w4.heap.size < E.heap.size := by omega
  have lw : w.heap.size ≤ E.heap.size := by omega
  have n31 : w.heap.size ≠ w4.heap.size := by omega
  have n61 : w.heap.size + 1 ≠ w4.heap.size := by omega
  have n81 : w1.heap.size ≠ w4.heap.size := by omega
  have n16 : w.heap.size ≤ w4.heap.size := by omega
  have c160 := hv16.c0
  have c161 := hv16.c1
  have f160 := hv16.f 0
  have f161 := hv16.f 1
  rw [hE]
  clear hE Y Z hbe hsz hc1 hf1 hc2 hf2 hc3 hf3 hc4 hf4 hb1 hb2 hb3 hb4 hv16 s1 s2 s3 s4 y1 y1' y2 y2' y2'' y3 y3' y3'' y4 y4' y4''
  go_wp2
  go_loopw [14, 17] (fun r k wx => r = .float .f64 R0 ∧ k = .int .i64 0 ∧ wx = E) (fun _ _ _ => 0)
  case atStart => exact ⟨rfl, rfl, rfl⟩
  case round =>
    rename World => wx
    obtain ⟨rfl, rfl, rfl⟩ := hrel
    go_upto_region 20 with fail
    have hX : ∃ X, setB wx w4.heap.size (0, 0, R0) = X := ⟨_, rfl⟩
    obtain ⟨X, hX⟩ := hX
    have hv := HV16.out.set (0, 0, R0)
    have kc : ∀ k o v, k < wx.heap.size → k ≠ w4.heap.size → wx.cell? ⟨k, o, none⟩ = some v → X.cell? ⟨k, o, none⟩ = some v := fun k o v hk n2 h => by
      rw [← hX]; unfold setB
      exact cell_grown (grown_set _ _ _ _) (by simp; omega) (fun e => n2 (by injection e with e; exact e.symm)) (cell_grown (grown_set _ _ _ _) hk (fun e => n2 (by injection e with e; exact e.symm)) h)
    have kf : ∀ k o, wx.frozen? ⟨k, o, none⟩ = false → X.frozen? ⟨k, o, none⟩ = false := fun k o h => by
      rw [← hX]; unfold setB
      rw [World.frozen?_setCell, World.frozen?_setCell]
      exact h
    have hbx : Below w.heap.size w X := by rw [← hX]; exact below_setB HBE.out n16 _
    have sx : X.heap.size = wx.heap.size := by rw [← hX, setB_size]
    replace m0 := kc _ _ _ l3 n31 m0
    replace m1 := kc _ _ _ l3 n31 m1
    replace t60 := kc _ _ _ l6 n61 t60
    replace t61 := kc _ _ _ l6 n61 t61
    replace t62 := kc _ _ _ l6 n61 t62
    replace t63 := kc _ _ _ l6 n61 t63
    replace t64 := kc _ _ _ l6 n61 t64
    replace t65 := kc _ _ _ l6 n61 t65
    replace t66 := kc _ _ _ l6 n61 t66
    replace t80 := kc _ _ _ l1 n81 t80
    replace t81 := kc _ _ _ l1 n81 t81
    replace t82 := kc _ _ _ l1 n81 t82
    replace f6 := fun o => kf _ _ (f6 o)
    rw [hX] at hv
    change Code.wp _ _ _ _ (setB wx w4.heap.size (0, 0, R0))
    rw [hX]
    have HBX := Lib.hid hbx
    have HMX := Lib.hid (HM.out.now hbx)
    have HVX := Lib.hid hv
    have l1' : w1.heap.size < X.heap.size := by omega
    have l3' : w.heap.size < X.heap.size := by omega
    have l6' : w.heap.size + 1 < X.heap.size := by omega
    have l16' : w4.heap.size < X.heap.size := by omega
    have lw' : w.heap.size ≤ X.heap.size := by omega
    have d0 := hv.c0
    have d1 := hv.c1
    clear hX kc kf hbx sx hv c160 c161 f160 f161 HV16 HBE HM1 l1 l3 l6 l16 lw
    go_upto_region 27 with (first
      | (go_at_call 180; (with_reducible refine (HFI.out _).mono ?_); rintro e w' ⟨n, rfl, rfl⟩)
      | (go_at_call 234; (with_reducible refine (HTE.out _ (HMX.out.now (by repeat (first | exact Below.refl _ _ | refine below_drewN ?_ _ | refine Below.alloc ?_ (by first | omega | (simp; omega) | simp) _ | refine Below.setCell ?_ (by first | omega | (simp; omega) | simp) _ | refine Below.trans ?_ (Below.mono (by assumption) (by first | omega | (simp; omega) | simp)) | apply Below.drew)))).mono ?_); rintro e w6 ⟨rfl, hb6⟩; obtain ⟨hc6, hf6⟩ := bcell hb6; (try simp only [World.heap_drewN, World.cell?_drewN, World.frozen?_drewN] at hc6 hf6); have s6 := hb6.size; (try simp at s6); have y1 : w1.heap.size < w6.heap.size := (by omega); have y3 : w.heap.size < w6.heap.size := (by omega); have y6 : w.heap.size + 1 < w6.heap.size := (by omega); have y16 : w4.heap.size < w6.heap.size := (by omega))
      | (go_at_call 235; (with_reducible refine (HRU.out _ (HMX.out.now (by repeat (first | exact Below.refl _ _ | refine below_drewN ?_ _ | refine Below.alloc ?_ (by first | omega | (simp; omega) | simp) _ | refine Below.setCell ?_ (by first | omega | (simp; omega) | simp) _ | refine Below.trans ?_ (Below.mono (by assumption) (by first | omega | (simp; omega) | simp)) | apply Below.drew)))).mono ?_); rintro e w7 ⟨⟨g, c, g', c', rfl, hr1, hr2⟩, hb7⟩; obtain ⟨hc7, hf7⟩ := bcell hb7; have s7 := hb7.size; (try simp at s7); have z1 : w1.heap.size < w7.heap.size := (by omega); have z3 : w.heap.size < w7.heap.size := (by omega); have z6 : w.heap.size + 1 < w7.heap.size := (by omega); have z16 : w4.heap.size < w7.heap.size := (by omega))
      | (go_at_call 236; (with_reducible refine (sure1 _ _ _ _ _ _).mono ?_); rintro e w8 ⟨rfl, hb8⟩; obtain ⟨hc8, hf8⟩ := bcell hb8; have s8 := hb8.size; (try simp at s8); have u1 : w1.heap.size < w8.heap.size := (by omega); have u3 : w.heap.size < w8.heap.size := (by omega); have u6 : w.heap.size + 1 < w8.heap.size := (by omega); have u16 : w4.heap.size < w8.heap.size := (by omega); have u18 : w7.heap.size < w8.heap.size := (by omega)))
    have HX8 : Below X.heap.size X w8 := by clear hc6 hf6 hc7 hf7 hc8 hf8; repeat (first | exact Below.refl _ _ | refine below_drewN ?_ _ | refine Below.alloc ?_ (by first | omega | (simp; omega) | simp) _ | refine Below.setCell ?_ (by first | omega | (simp; omega) | simp) _ | refine Below.trans ?_ (Below.mono (by assumption) (by first | omega | (simp; omega) | simp)) | apply Below.drew)
    have R1 := own_below (hr1.alloc (.cells #[.slice (some ⟨g, 0, none⟩) 2 c, .slice (some ⟨g', 0, none⟩) 2 c'] 284)) hb8
    have R2 := own_below (hr2.alloc (.cells #[.slice (some ⟨g, 0, none⟩) 2 c, .slice (some ⟨g', 0, none⟩) 2 c'] 284)) hb8
    have a180 : w8.cell? ⟨w7.heap.size, 0, none⟩ = some (.slice (some ⟨g, 0, none⟩) 2 c) := (hb8.cell (p := ⟨w7.heap.size, 0, none⟩) (by simp)).trans (by rw [World.cell?_alloc_at _ _ _ _ rfl]; rfl)
    have a181 : w8.cell? ⟨w7.heap.size, 1, none⟩ = some (.slice (some ⟨g', 0, none⟩) 2 c') := (hb8.cell (p := ⟨w7.heap.size, 1, none⟩) (by simp)).trans (by rw [World.cell?_alloc_at _ _ _ _ rfl]; rfl)
    have a162 : w8.cell? ⟨w4.heap.size, 0, none⟩ = some (.complex .f64 0 0) := (HX8.cell (p := ⟨w4.heap.size, 0, none⟩) l16').trans d0
    have a163 : w8.cell? ⟨w4.heap.size, 1, none⟩ = some (.float .f64 R0) := (HX8.cell (p := ⟨w4.heap.size, 1, none⟩) l16').trans d1
    have sl0 : w8.cell? ⟨g', 2, none⟩ = some (.complex .f64 SL0.1 SL0.2.1) := (R2.cellAt 2 (by decide)).trans rfl
    have sl1 : w8.cell? ⟨g', 3, none⟩ = some (.float .f64 SL0.2.2) := (R2.cellAt 3 (by decide)).trans rfl
    have pt0 : w8.cell? ⟨g, 0, none⟩ = some (.complex .f64 0 0) := (R1.cellAt 0 (by decide)).trans rfl
    have pt1 : w8.cell? ⟨g, 1, none⟩ = some (.float .f64 R0) := (R1.cellAt 1 (by decide)).trans rfl
    have lg : g < w8.heap.size := (R1.lt g rfl).2
    have hcap : 2 ≤ c := by
      rcases R1.2 with ⟨h, _⟩ | ⟨_, _, _, hv, _, _, hle, _⟩
      · cases h
      · injection hv with _ _ hv
        omega
    replace t60 := (HX8.cell (p := ⟨w.heap.size + 1, 0, none⟩) l6').trans t60
    replace t61 := (HX8.cell (p := ⟨w.heap.size + 1, 1, none⟩) l6').trans t61
    replace t62 := (HX8.cell (p := ⟨w.heap.size + 1, 2, none⟩) l6').trans t62
    replace t63 := (HX8.cell (p := ⟨w.heap.size + 1, 3, none⟩) l6').trans t63
    replace t64 := (HX8.cell (p := ⟨w.heap.size + 1, 4, none⟩) l6').trans t64
    replace t65 := (HX8.cell (p := ⟨w.heap.size + 1, 5, none⟩) l6').trans t65
    replace t66 := (HX8.cell (p := ⟨w.heap.size + 1, 6, none⟩) l6').trans t66
    replace f6 := fun o => (HX8.frozen (p := ⟨w.heap.size + 1, o, none⟩) l6').trans (f6 o)
    have hbw : Below w.heap.size w w8 := HBX.out.trans (HX8.mono HBX.out.size)
    have HBW := Lib.hid hbw
    have HX := Lib.hid HX8
    clear hc6 hf6 hb6 hc7 hf7 hb7 hc8 hf8 hb8 hr1 hr2 R1 R2 HX8 hbw s6 s7 s8 m0 m1 t80 t81 t82 d0 d1 y1 y3 y6 y16 z1 z3 z16
    go_upto_region 28 with fail
    have b200 : (w8.alloc (.cells #[.complex .f64 SL0.1 SL0.2.1, .float .f64 SL0.2.2] 57)).cell? ⟨w8.heap.size, 0, none⟩ = some (.complex .f64 SL0.1 SL0.2.1) := by rw [World.cell?_alloc_at _ _ _ _ rfl]; rfl
    have b201 : (w8.alloc (.cells #[.complex .f64 SL0.1 SL0.2.1, .float .f64 SL0.2.2] 57)).cell? ⟨w8.heap.size, 1, none⟩ = some (.float .f64 SL0.2.2) := by rw [World.cell?_alloc_at _ _ _ _ rfl]; rfl
    have hA : Below w8.heap.size w8 (w8.alloc (.cells #[.complex .f64 SL0.1 SL0.2.1, .float .f64 SL0.2.2] 57)) := alloc_below _ _
    have hsz : (w8.alloc (.cells #[.complex .f64 SL0.1 SL0.2.1, .float .f64 SL0.2.2] 57)).heap.size = w8.heap.size + 1 := by simp
    generalize w8.alloc (.cells #[.complex .f64 SL0.1 SL0.2.1, .float .f64 SL0.2.2] 57) = wr at *
    have a180' := (hA.cell (p := ⟨w7.heap.size, 0, none⟩) u18).trans a180
    have a162' := (hA.cell (p := ⟨w4.heap.size, 0, none⟩) u16).trans a162
    have a163' := (hA.cell (p := ⟨w4.heap.size, 1, none⟩) u16).trans a163
    have pt0' := (hA.cell (p := ⟨g, 0, none⟩) lg).trans pt0
    have pt1' := (hA.cell (p := ⟨g, 1, none⟩) lg).trans pt1
    have l18 : w7.heap.size < wr.heap.size := by omega
    have l16 : w4.heap.size < wr.heap.size := by omega
    have l20 : w8.heap.size < wr.heap.size := by omega
    have lg' : g < wr.heap.size := by omega
    have l6 : w.heap.size + 1 < wr.heap.size := by omega
    have n18 : (some (w.heap.size + 1) : Option Nat) ≠ some w7.heap.size := fun e => by have h := Option.some.inj e; omega
    have n16' : (some (w.heap.size + 1) : Option Nat) ≠ some w4.heap.size := fun e => by have h := Option.some.inj e; omega
    have n20 : (some (w.heap.size + 1) : Option Nat) ≠ some w8.heap.size := fun e => by have h := Option.some.inj e; omega
    have ng : (some (w.heap.size + 1) : Option Nat) ≠ some g := fun e => by
      have h := Option.some.inj e
      rw [← h, t61] at pt1
      cases pt1
    have hth : wr.there (w.heap.size + 1) 0 7 := by
      intro j hj
      have hf := (hA.frozen (p := ⟨w.heap.size + 1, 0 + j, none⟩) u6).trans (f6 _)
      have hc := hA.cell (p := ⟨w.heap.size + 1, 0 + j, none⟩) u6
      refine ⟨?_, hf⟩
      rw [hc]
      match j, hj with
      | 0, _ => rw [show 0 + 0 = 0 from rfl, t60]; rfl
      | 1, _ => rw [show 0 + 1 = 1 from rfl, t61]; rfl
      | 2, _ => rw [show 0 + 2 = 2 from rfl, t62]; rfl
      | 3, _ => rw [show 0 + 3 = 3 from rfl, t63]; rfl
      | 4, _ => rw [show 0 + 4 = 4 from rfl, t64]; rfl
      | 5, _ => rw [show 0 + 5 = 5 from rfl, t65]; rfl
      | 6, _ => rw [show 0 + 6 = 6 from rfl, t66]; rfl
    have hbr : Below w.heap.size w wr := HBW.out.trans (hA.mono HBW.out.size)
    have HBR := Lib.hid hbr
    have HTH := Lib.hid hth
    have hc0 : (1 : Int) ≤ (c : Int) := by omega
    clear hA hsz hbr hth a180 a162 a163 pt0 pt1 t60 t61 t62 t63 t64 t65 t66 f6 HBW a181 sl0 sl1
    have vb0 := Lib.hid (show World.grownBy wr wr.drew (some (w.heap.size + 1)) from grown_drew _ _)
    refine wp_region_held_drew (S := fun x => World.grownBy wr x (some (w.heap.size + 1)) ∧ x.cell? ⟨w4.heap.size, 0, none⟩ = some (.complex .f64 0 0) ∧ x.cell? ⟨w4.heap.size, 1, none⟩ = some (.float .f64 R0) ∧ x.cell? ⟨w7.heap.size, 0, none⟩ = some (.slice (some ⟨g, 0, none⟩) 2 c) ∧ x.cell? ⟨w8.heap.size, 0, none⟩ = some (.complex .f64 SL0.1 SL0.2.1) ∧ x.cell? ⟨w8.heap.size, 1, none⟩ = some (.float .f64 SL0.2.2)) (by kernel_rfl) (by exact ⟨vb0.out, cell_grown (vb0.out) l16 n16' a162', cell_grown (vb0.out) l16 n16' a163', cell_grown (vb0.out) l18 n18 a180', cell_grown (vb0.out) l20 n20 b200, cell_grown (vb0.out) l20 n20 b201⟩) (fun hHeld => ?_)
    refine wpAnyH_put (i := 0) (v := ?v1) (some 98) rfl rfl (by kernel_rfl) (by kernel_rfl) (by kernel_rfl) (fun _ _ _ h => h) (Or.inl ⟨by kernel_rfl, ?hv1⟩) (by assumption) ?rv1
    case hv1 => (intro w hSw; (try dsimp only at hSw); go_simp; (try with_reducible rfl))
    try simp only [Act.put, List.setIfInBounds_toArray, List.set_cons_zero, List.set_cons_succ]
    refine wpAnyH_put (i := 1) (v := ?v2) (some 99) rfl rfl (by kernel_rfl) (by kernel_rfl) (by kernel_rfl) (fun _ _ _ h => h) (Or.inl ⟨by kernel_rfl, ?hv2⟩) (by assumption) ?rv2
    case hv2 => (intro w hSw; (try dsimp only at hSw); go_simp; (try with_reducible rfl))
    try simp only [Act.put, List.setIfInBounds_toArray, List.set_cons_zero, List.set_cons_succ]
    refine wpAnyH_put (i := 2) (v := ?v3) (some 100) rfl rfl (by kernel_rfl) (by kernel_rfl) (by kernel_rfl) (fun _ _ _ h => h) (Or.inl ⟨by kernel_rfl, ?hv3⟩) (by assumption) ?rv3
    case hv3 => (intro w hSw; (try dsimp only at hSw); go_simp; (try with_reducible rfl))
    try simp only [Act.put, List.setIfInBounds_toArray, List.set_cons_zero, List.set_cons_succ]
    refine wpAnyH_put (i := 3) (v := ?v4) (some 101) rfl rfl (by kernel_rfl) (by kernel_rfl) (by kernel_rfl) (fun _ _ _ h => h) (Or.inl ⟨by kernel_rfl, ?hv4⟩) (by assumption) ?rv4
    case hv4 => (intro w hSw; (try dsimp only at hSw); go_simp; (try with_reducible rfl))
    try simp only [Act.put, List.setIfInBounds_toArray, List.set_cons_zero, List.set_cons_succ]
    refine wpAnyH_put (i := 4) (v := ?v5) (some 102) rfl rfl (by kernel_rfl) (by kernel_rfl) (by kernel_rfl) (fun _ _ _ h => h) (Or.inl ⟨by kernel_rfl, ?hv5⟩) (by assumption) ?rv5
    case hv5 => (intro w hSw; (try dsimp only at hSw); go_simp; (try with_reducible rfl))
    try simp only [Act.put, List.setIfInBounds_toArray, List.set_cons_zero, List.set_cons_succ]
    refine wpAnyH_put (i := 5) (v := ?v6) (some 103) rfl rfl (by kernel_rfl) (by kernel_rfl) (by kernel_rfl) (fun _ _ _ h => h) (Or.inl ⟨by kernel_rfl, ?hv6⟩) (by assumption) ?rv6
    case hv6 => (intro w hSw; (try dsimp only at hSw); go_simp; (try with_reducible rfl))
    try simp only [Act.put, List.setIfInBounds_toArray, List.set_cons_zero, List.set_cons_succ]
    refine wpAnyH_put (i := 6) (v := ?v7) (some 104) rfl rfl (by kernel_rfl) (by kernel_rfl) (by kernel_rfl) (fun _ _ _ h => h) (Or.inl ⟨by kernel_rfl, ?hv7⟩) (by assumption) ?rv7
    case hv7 => (intro w hSw; (try dsimp only at hSw); go_simp; (try with_reducible rfl))
    try simp only [Act.put, List.setIfInBounds_toArray, List.set_cons_zero, List.set_cons_succ]
    refine wpAnyH_put (i := 7) (v := ?v8) (some 105) rfl rfl (by kernel_rfl) (by kernel_rfl) (by kernel_rfl) (fun _ _ _ h => h) (Or.inl ⟨by kernel_rfl, ?hv8⟩) (by assumption) ?rv8
    case hv8 => (intro w hSw; (try dsimp only at hSw); go_simp; (try with_reducible rfl))
    try simp only [Act.put, List.setIfInBounds_toArray, List.set_cons_zero, List.set_cons_succ]
    refine wpAnyH_put (i := 8) (v := ?v9) (some 106) rfl rfl (by kernel_rfl) (by kernel_rfl) (by kernel_rfl) (fun _ _ _ h => h) (Or.inl ⟨by kernel_rfl, ?hv9⟩) (by assumption) ?rv9
    case hv9 => (intro w hSw; (try dsimp only at hSw); go_simp; (try with_reducible rfl))
    try simp only [Act.put, List.setIfInBounds_toArray, List.set_cons_zero, List.set_cons_succ]
    refine wpAnyH_ready (rs := [9]) (by kernel_rfl) (by simp) ?_
    refine (allReady_put (some 107) rfl rfl (fun K hK => ?_) AllReadyH.nil)
    go_simp
    (with_reducible refine (HNA.out _).mono ?_)
    rintro e xv10 ⟨⟨mv10, hmv10, rfl⟩, dv10⟩
    have Bv10 := Lib.hid (grown_then vb0.out dv10)
    have HTX := Lib.hid (there_then HTH.out l6 dv10)
    clear dv10
    refine hK.out _ _ (by exact ⟨Bv10.out, cell_grown (Bv10.out) l16 n16' a162', cell_grown (Bv10.out) l16 n16' a163', cell_grown (Bv10.out) l18 n18 a180', cell_grown (Bv10.out) l20 n20 b200, cell_grown (Bv10.out) l20 n20 b201⟩) (fun hHeld => ?_)
    clear hK K
    try simp only [Act.put, List.setIfInBounds_toArray, List.set_cons_zero, List.set_cons_succ]
    refine wpAnyH_put (i := 10) (v := ?v11) (some 108) rfl rfl (by kernel_rfl) (by kernel_rfl) (by kernel_rfl) (fun _ _ _ h => h) (Or.inl ⟨by kernel_rfl, ?hv11⟩) (by assumption) ?rv11
    case hv11 => (intro w hSw; (try dsimp only at hSw); go_simp; (try with_reducible rfl))
    try simp only [Act.put, List.setIfInBounds_toArray, List.set_cons_zero, List.set_cons_succ]
    refine wpAnyH_ready (rs := [11]) (by kernel_rfl) (by simp) ?_
    refine (allReady_put (none) rfl rfl (fun K hK => ?_) AllReadyH.nil)
    refine step_store_mid rfl rfl rfl (cells := #[.int .i64 1, .complex .f64 0 0, .float .f64 R0, .slice (some ⟨g, 0, none⟩) 1 1, .complex .f64 SL0.1 SL0.2.1, .float .f64 SL0.2.2, .int .u8 mv10]) rfl rfl ?th (by kernel_rfl) (by simp [Value.oneCell']) ?_
    case th => exact HTX.out
    have Bv12 := Lib.hid (grown_cells Bv10.out (#[.int .i64 1, .complex .f64 0 0, .float .f64 R0, .slice (some ⟨g, 0, none⟩) 1 1, .complex .f64 SL0.1 SL0.2.1, .float .f64 SL0.2.2, .int .u8 mv10]).toList 0)
    refine hK.out _ _ (by exact ⟨Bv12.out, cell_grown (Bv12.out) l16 n16' a162', cell_grown (Bv12.out) l16 n16' a163', cell_grown (Bv12.out) l18 n18 a180', cell_grown (Bv12.out) l20 n20 b200, cell_grown (Bv12.out) l20 n20 b201⟩) (fun hHeld => ?_)
    clear hK K
    try simp only [Act.put]
    refine wpAnyH_ready (rs := [12]) (by kernel_rfl) (by simp) ?_
    refine (allReady_put (some 7) rfl rfl (fun K hK => ?_) AllReadyH.nil)
    go_simp
    refine hK.out _ _ (by exact ⟨Bv12.out, cell_grown (Bv12.out) l16 n16' a162', cell_grown (Bv12.out) l16 n16' a163', cell_grown (Bv12.out) l18 n18 a180', cell_grown (Bv12.out) l20 n20 b200, cell_grown (Bv12.out) l20 n20 b201⟩) (fun hHeld => ?_)
    clear hK K
    try simp only [Act.put, List.setIfInBounds_toArray, List.set_cons_zero, List.set_cons_succ]
    refine wpAnyH_done (by kernel_rfl) ?_ _
    go_wp2
    have hrg := World.rangeAt_setCells_same xv10 (w.heap.size + 1) 0 (#[.int .i64 1, .complex .f64 0 0, .float .f64 R0, .slice (some ⟨g, 0, none⟩) 1 1, .complex .f64 SL0.1 SL0.2.1, .float .f64 SL0.2.2, .int .u8 mv10].toList) HTX.out
    have x0 := hrg 0 _ rfl
    have x1 := hrg 1 _ rfl
    have x2 := hrg 2 _ rfl
    have x3 := hrg 3 _ rfl
    have x4 := hrg 4 _ rfl
    have x5 := hrg 5 _ rfl
    have x6 := hrg 6 _ rfl
    simp only [Nat.zero_add, Nat.add_zero] at x0 x1 x2 x3 x4 x5 x6
    have hpt : Pt0 (xv10.setCells (w.heap.size + 1) 0 (#[.int .i64 1, .complex .f64 0 0, .float .f64 R0, .slice (some ⟨g, 0, none⟩) 1 1, .complex .f64 SL0.1 SL0.2.1, .float .f64 SL0.2.2, .int .u8 mv10].toList)) g := ⟨cell_grown Bv12.out lg' ng pt0', cell_grown Bv12.out lg' ng pt1', Nat.lt_of_lt_of_le lg' Bv12.out.size⟩
    have hfin : Below w.heap.size w (xv10.setCells (w.heap.size + 1) 0 (#[.int .i64 1, .complex .f64 0 0, .float .f64 R0, .slice (some ⟨g, 0, none⟩) 1 1, .complex .f64 SL0.1 SL0.2.1, .float .f64 SL0.2.2, .int .u8 mv10].toList)) := HBR.out.grown Bv12.out HBR.out.size (fun k e => by injection e with e; omega)
    generalize xv10.setCells (w.heap.size + 1) 0 (#[.int .i64 1, .complex .f64 0 0, .float .f64 R0, .slice (some ⟨g, 0, none⟩) 1 1, .complex .f64 SL0.1 SL0.2.1, .float .f64 SL0.2.2, .int .u8 mv10].toList) = wf at *
    refine bodyPost_ret (v := .tuple #[.agg #[.int .i64 1, .complex .f64 0 0, .float .f64 R0, .slice (some ⟨g, 0, none⟩) 1 1, .complex .f64 SL0.1 SL0.2.1, .float .f64 SL0.2.2, .int .u8 mv10], .int .i64 0]) (by simp [results, Tryz.results202, go_sem, x0, x1, x2, x3, x4, x5, x6]) rfl ?_
    exact ⟨⟨g, mv10, hmv10, rfl, hpt⟩, hfin⟩
end Go.Proofs.YtbgjcpnbdgljbaaGreatDoor
