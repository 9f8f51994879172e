/- The contracts of poly.On, poly.SlopeOn and ball.Contracts, at this translation. -/
import Derived.Test.YtmcihnpghcdnmaaPw
namespace Go.Proofs.Ytmcihnpghcdnmaa
open Go.RowKit Go.Fil
attribute [local irreducible] fop fsqrt fup fabs fneg pick

theorem seq_of_own2 {w : World} {base e n : Nat} {v : Value} {xs : List Value} (h : w.ownsRow base e 2 v n xs) : ∃ A c, v = .slice A n c ∧ Seq w w.heap.size A xs := by
  rcases n with _ | n
  · have hx : xs = [] := List.eq_nil_of_length_eq_zero (by simpa using h.1)
    rcases h.2 with ⟨rfl, _⟩ | ⟨g, cap, cur, rfl, _⟩
    · exact ⟨none, 0, rfl, .inl hx⟩
    · exact ⟨_, cap, rfl, .inl hx⟩
  · obtain ⟨g, cap, hv, _, hlt⟩ := World.ownsRow.form h (by omega)
    subst hv
    refine ⟨_, cap, rfl, .inr ⟨g, 0, rfl, hlt, fun k u hu => ?_⟩⟩
    have := h.cells (g := g) rfl k u hu
    rw [Addr.add_lit] at this
    exact this
theorem pointsS_length (ps : List Cc) : (pointsS ps).length = ps.length := by simp [pointsS, pointsTo]
/-- What On and SlopeOn answer. -/
def RBE (ok : Bool) (X : Bl) (w : World) (e : Ending) (w' : World) : Prop :=
  e = .returned (.tuple #[.agg #[.complex .f64 (if ok then X.1 else 0) (if ok then X.2.1 else 0), .float .f64 (if ok then X.2.2 else 0)], .int .i64 (errS ok)]) ∧ Below w.heap.size w w'
theorem On_ok (A : Option Addr) (n cap : Nat) (ps : List Cc) (hn : ps.length = n) (hm : n ≤ 9223372036854775807) (a b r : Nat) (w : World) (hs : Seq w w.heap.size A (ps.map cv)) (hc : checkS ps = true) (hmay : mayS (a, b, r) = true) :
    Calls Try.prog 18 #[.slice A n cap, .agg #[.complex .f64 a b, .float .f64 r]] w
      fun e w' => e = .returned (.tuple #[.agg #[.complex .f64 (onFrom (a, b, r) (pointsS ps) 0).1 (onFrom (a, b, r) (pointsS ps) 0).2.1, .float .f64 (onFrom (a, b, r) (pointsS ps) 0).2.2], .int .i64 0]) ∧ Below w.heap.size w w' := by
  have hn17 : n ≤ 17 := by unfold checkS at hc; simp at hc; omega
  have HS := Lib.hid hs
  have HN := Lib.hid hn
  clear hs hn
  go_enter Try.func18, Try.ntmps18
  go_wp2_with fail
  refine Calls.mono (all_one (w.heap.size + 1 + 1) A n cap ps HN.out hm w.heap.size _ ?hs ?hg) ?k
  case hs => exact HS.out.below (B' := w.heap.size) (by repeat (first | exact Below.refl _ _ | refine below_drewN ?_ _ | refine Below.alloc ?_ (by first | omega | (simp; omega) | simp) _ | refine Below.setCell ?_ (by first | omega | (simp; omega) | simp) _ | refine Below.trans ?_ (Below.mono (by assumption) (by first | omega | (simp; omega) | simp)) | apply Below.drew)) (Nat.le_refl _)
  case hg => rw [World.cell?_alloc_at _ _ _ _ (by simp)]; rfl
  rintro e w' ⟨rfl, rfl⟩
  rw [hc]
  clear hc
  go_wp2_with (go_at_call 36; refine (may_any _ _ _ _).mono ?_; rintro e w1 ⟨rfl, hb⟩; rw [hmay]; obtain ⟨hc, hf⟩ := bcell hb; (try simp only [World.heap_drewN, World.cell?_drewN, World.frozen?_drewN] at hc hf); have z0 : w.heap.size < w1.heap.size := (by have := hb.size; (try simp at this); omega); have z1 : w.heap.size + 1 < w1.heap.size := (by have := hb.size; (try simp at this); omega))
  have hww : Below w.heap.size w w1 := by repeat (first | exact Below.refl _ _ | refine below_drewN ?_ _ | refine Below.alloc ?_ (by first | omega | (simp; omega) | simp) _ | refine Below.setCell ?_ (by first | omega | (simp; omega) | simp) _ | refine Below.trans ?_ (Below.mono (by assumption) (by first | omega | (simp; omega) | simp)) | apply Below.drew)
  have hS1 := (HS.out.below hww (Nat.le_refl _)).more (Nat.le_of_lt z0)
  have HS1 := Lib.hid hS1
  have HL : Hid ((pointsS ps).length = n) := by rw [pointsS_length]; exact HN.out
  clear hS1
  go_region_held3 (fun x => x.cell? ⟨w.heap.size, 0, none⟩ = some (.complex .f64 a b) ∧ x.cell? ⟨w.heap.size, 1, none⟩ = some (.float .f64 r)) (((try dsimp only); refine ⟨?_, ?_⟩ <;> first | (simp [go_sem, World.cell?_alloc_past, *]; done) | (rw [hc _ _ (by first | assumption | (simp; assumption) | omega | (simp; omega))]; first | exact (‹_ ∧ _›).1 | exact (‹_ ∧ _›).2)))
    (first
      | (go_at_call 38; refine (points_any A n cap ps HN.out hn17 (w1.drewN 1) HS1.out).mono ?_; rintro e w2 ⟨v, rfl, hown, hb⟩; obtain ⟨A1, c1, rfl, hs1⟩ := seq_of_own2 hown; have HS2 := Lib.hid hs1; clear hown hs1; obtain ⟨hc, hf⟩ := bcell hb; simp only [World.heap_drewN, World.cell?_drewN, World.frozen?_drewN] at hc hf; have y0 : w.heap.size < w2.heap.size := (by have := hb.size; simp at this; omega); have y1 : w.heap.size + 1 < w2.heap.size := (by have := hb.size; simp at this; omega))
      | (go_at_call 37; refine (on_any _ n _ (pointsS ps) HL.out hn17 _ _ _ _ (Hid.out (by assumption))).mono ?_; rintro e w3 ⟨rfl, hb⟩; obtain ⟨hc, hf⟩ := bcell hb; have y0 : w.heap.size < w3.heap.size := (by have := hb.size; omega); have y1 : w.heap.size + 1 < w3.heap.size := (by have := hb.size; omega)))
  go_wp2
  exact bodyPost_ret (v := .tuple #[.agg #[.complex .f64 (onFrom (a, b, r) (pointsS ps) 0).1 (onFrom (a, b, r) (pointsS ps) 0).2.1, .float .f64 (onFrom (a, b, r) (pointsS ps) 0).2.2], .int .i64 0])
    (by simp [results, Try.results18, go_sem, *]) rfl ⟨rfl, by repeat (first | exact Below.refl _ _ | refine below_drewN ?_ _ | refine Below.alloc ?_ (by first | omega | (simp; omega) | simp) _ | refine Below.setCell ?_ (by first | omega | (simp; omega) | simp) _ | refine Below.trans ?_ (Below.mono (by assumption) (by first | omega | (simp; omega) | simp)) | apply Below.drew)⟩
set_option maxHeartbeats 1600000 in
theorem SlopeOn_ok (A : Option Addr) (n cap : Nat) (ps : List Cc) (hn : ps.length = n) (hm : n ≤ 9223372036854775807) (a b r : Nat) (w : World) (hs : Seq w w.heap.size A (ps.map cv)) (hc : checkS ps = true) (hmay : mayS (a, b, r) = true) :
    Calls Try.prog 23 #[.slice A n cap, .agg #[.complex .f64 a b, .float .f64 r]] w
      fun e w' => e = .returned (.tuple #[.agg #[.complex .f64 (onFrom (a, b, r) (slopesS ps) 0).1 (onFrom (a, b, r) (slopesS ps) 0).2.1, .float .f64 (onFrom (a, b, r) (slopesS ps) 0).2.2], .int .i64 0]) ∧ Below w.heap.size w w' := by
  have hn17 : n ≤ 17 := by unfold checkS at hc; simp at hc; omega
  obtain ⟨i0, hi, hz0, hz1, hz2⟩ := info_parts Try.infoB
  have HS := Lib.hid hs
  have HN := Lib.hid hn
  clear hs hn
  go_enter Try.func23, Try.ntmps23
  go_wp2_with fail
  refine Calls.mono (all_one (w.heap.size + 1 + 1) A n cap ps HN.out hm w.heap.size _ ?hs ?hg) ?k
  case hs => exact HS.out.below (B' := w.heap.size) (by repeat (first | exact Below.refl _ _ | refine below_drewN ?_ _ | refine Below.alloc ?_ (by first | omega | (simp; omega) | simp) _ | refine Below.setCell ?_ (by first | omega | (simp; omega) | simp) _ | refine Below.trans ?_ (Below.mono (by assumption) (by first | omega | (simp; omega) | simp)) | apply Below.drew)) (Nat.le_refl _)
  case hg => rw [World.cell?_alloc_at _ _ _ _ (by simp)]; rfl
  rintro e w' ⟨rfl, rfl⟩
  rw [hc]
  clear hc
  go_wp2_with (go_at_call 36; refine (may_any _ _ _ _).mono ?_; rintro e w1 ⟨rfl, hb⟩; rw [hmay]; obtain ⟨hc, hf⟩ := bcell hb; (try simp only [World.heap_drewN, World.cell?_drewN, World.frozen?_drewN] at hc hf); have z0 : w.heap.size < w1.heap.size := (by have := hb.size; (try simp at this); omega); have z1 : w.heap.size + 1 < w1.heap.size := (by have := hb.size; (try simp at this); omega))
  have hww : Below w.heap.size w w1 := by repeat (first | exact Below.refl _ _ | refine below_drewN ?_ _ | refine Below.alloc ?_ (by first | omega | (simp; omega) | simp) _ | refine Below.setCell ?_ (by first | omega | (simp; omega) | simp) _ | refine Below.trans ?_ (Below.mono (by assumption) (by first | omega | (simp; omega) | simp)) | apply Below.drew)
  have hS1 := (HS.out.below hww (Nat.le_refl _)).more (Nat.le_of_lt z0)
  have HS1 := Lib.hid hS1
  have hR : BCell w1 (w.heap.size + 1) (0, 0, 0) := BCell.below (X := (0, 0, 0)) ⟨by simp [go_sem], by simp [go_sem], by simp [go_sem], by simp [go_sem]⟩ hb (by simp)
  have hX : BCell w1 w.heap.size (a, b, r) := BCell.below (X := (a, b, r)) ⟨by simp [go_sem], by simp [go_sem], by simp [go_sem], by simp [go_sem]⟩ hb (by simp; omega)
  have HR := Lib.hid hR
  have HX := Lib.hid hX
  have HW := Lib.hid hww
  clear hS1 hR hX hww hc hf hb HS
  go_outline
  go_loopw [6, 7] (fun u i wr => ∃ (k : Nat) (v : Value), v = u ∧ 1 ≤ k ∧ (k ≤ n ∨ k = 1) ∧ i = .int .i64 k ∧ wr.ownsRow w1.heap.size 34 2 v (k - 1) (bcells (slopesTo ps k)) ∧ Below w1.heap.size w1 wr) (fun _ i _ => n - (intOf i).toNat)
  case atStart => exact ⟨1, _, rfl, Nat.le_refl _, .inr rfl, rfl, World.ownsRow_nil _ _ _ _, Below.refl _ _⟩
  case round =>
    obtain ⟨k, v, hv, hk1, hk, rfl, hown, hnx⟩ := hrel
    subst hv
    by_cases hlt : k < n
    · obtain ⟨bb, o, rfl, hbb, hcl⟩ := (HS1.out.below hnx (Nat.le_refl _)).cat (k := k) (by have := HN.out; omega)
      have i0' : (0 : Int) ≤ (k : Int) := by omega
      have i1 : (k : Int) < (n : Int) := by omega
      have hsz0 := hnx.size
      have hbw : bb < wr.heap.size := by omega
      go_wp2_with fail
      have hne : ¬ some bb = v.ownBlock := by
        intro h
        have := (hown.lt bb h.symm).1
        have := z0; have := z1; omega
      go_region_held3 (fun x => x.cell? ⟨bb, o + k, none⟩ = some (.complex .f64 (nth ps k).1 (nth ps k).2))
        (first
          | (simp [go_sem, World.cell?_alloc_past, *]; done)
          | (rw [hc _ _ (by first | assumption | (simp; assumption) | omega | (simp; omega))]; assumption)
          | (rw [World.cell?_alloc_past _ _ _ (by assumption)]; assumption)
          | (rw [hgrow.cell_far _ (by simp; omega) hne]; simp [go_sem, *]; done))
        (first
          | (go_at_call 19; refine (point_any _ _ _).mono ?_; rintro e w2 ⟨rfl, hb⟩; obtain ⟨hc, hf⟩ := bcell hb; (try simp only [World.heap_drewN, World.cell?_drewN, World.frozen?_drewN] at hc hf); have hsz := hb.size; (try simp at hsz); have hbw : bb < w2.heap.size := (by omega))
          | (go_at_call 21; refine (bmul_any _ _ _ _ _ _ _).mono ?_; rintro e w2 ⟨rfl, hb⟩; obtain ⟨hc, hf⟩ := bcell hb; (try simp only [World.heap_drewN, World.cell?_drewN, World.frozen?_drewN] at hc hf); have hsz := hb.size; (try simp at hsz); have hbw : bb < w2.heap.size := (by omega))
          | (refine step_append_lies _ (by rfl) _ _ _ (by rfl) w1.heap.size 34 i0 (.agg #[.complex .f64 0 0, .float .f64 0]) 2 24 Try.underlying65 hi hz0 hz1 hz2 rfl (by decide) v (k - 1) (bcells (slopesTo ps k)) (by rfl) (own_below hown (by repeat (first | exact Below.refl _ _ | refine below_drewN ?_ _ | refine Below.alloc ?_ (by first | omega | (simp; omega) | simp) _ | refine Below.setCell ?_ (by first | omega | (simp; omega) | simp) _ | refine Below.trans ?_ (Below.mono (by assumption) (by first | omega | (simp; omega) | simp)) | apply Below.drew))) ⟨_, 0, none⟩ 1 1 [.complex .f64 (slopeB ps k).1 (slopeB ps k).2.1, .float .f64 (slopeB ps k).2.2] (by rfl) (by rfl) (ball_new _ _ _) (by intro u hu; simp at hu; rcases hu with rfl | rfl <;> rfl) (by decide) (by unfold maxLen; omega) (by omega) (by have := hnx.size; simp; omega) _ rfl ?_; intro gg cap' w4 hown1 hgrow hat hlt4))
      have hnx' : Below w1.heap.size w1 w4 := (hnx.trans (show Below w1.heap.size wr _ from by repeat (first | exact Below.refl _ _ | refine below_drewN ?_ _ | refine Below.alloc ?_ (by first | omega | (simp; omega) | simp) _ | refine Below.setCell ?_ (by first | omega | (simp; omega) | simp) _ | refine Below.trans ?_ (Below.mono (by assumption) (by first | omega | (simp; omega) | simp)) | apply Below.drew))).grown hgrow (by have := hnx.size; simp; omega) (fun q hq => (hown.lt q hq).1)
      have hown2 : w4.ownsRow w1.heap.size 34 2 (.slice (some ⟨gg, 0, none⟩) k cap') (k + 1 - 1) (bcells (slopesTo ps (k + 1))) := by
        have ek : k - 1 + 1 = k := by omega
        rw [ek] at hown1
        rw [slopesTo_next ps hk1, bcells_append, show k + 1 - 1 = k by omega]
        exact hown1
      go_wp2
      go_roundw
      case rel => exact ⟨k + 1, _, rfl, by omega, by omega, by go_num, hown2, hnx'⟩
      case measure => simp [intOf]; omega
    · have e : slopesTo ps k = slopesS ps := by
        unfold slopesS
        have := HN.out
        rcases hk with h | h
        · rw [show k = ps.length by omega]
        · unfold slopesTo; rw [show k - 1 = 0 by omega, show ps.length - 1 = 0 by omega]
      rw [e] at hown
      have hkn : k - 1 = n - 1 := by omega
      rw [hkn] at hown
      clear e hkn
      have HL : Hid ((slopesS ps).length = n - 1) := Lib.hid (by unfold slopesS; rw [slopesTo_length]; have := HN.out; omega)
      obtain ⟨A1, c1, rfl, hs1⟩ := seq_of_own2 hown
      obtain ⟨x0, x1, x2, x3⟩ := HX.out.below hnx z0
      obtain ⟨r0, r1, r2, r3⟩ := HR.out.below hnx z1
      have hsz0 := hnx.size
      have HS2 := Lib.hid hs1
      have HNX := Lib.hid hnx
      clear hs1 hown hnx
      have q0 : w.heap.size < wr.heap.size := by omega
      have q1 : w.heap.size + 1 < wr.heap.size := by omega
      go_wp2_with (go_at_call 37; refine (on_any _ (n - 1) _ (slopesS ps) HL.out (by omega) _ _ _ _ HS2.out).mono ?_; rintro e w3 ⟨rfl, hb⟩; obtain ⟨hc, hf⟩ := bcell hb; have hsz := hb.size)
      exact bodyPost_ret (v := .tuple #[.agg #[.complex .f64 (onFrom (a, b, r) (slopesS ps) 0).1 (onFrom (a, b, r) (slopesS ps) 0).2.1, .float .f64 (onFrom (a, b, r) (slopesS ps) 0).2.2], .int .i64 0])
        (by simp [results, Try.results23, go_sem, *]) rfl ⟨rfl, by
          refine Below.setCell ?_ (by simp) _
          refine Below.setCell ?_ (by simp) _
          exact (HW.out.trans (HNX.out.mono (by omega))).trans (hb.mono (by omega))⟩
end Go.Proofs.Ytmcihnpghcdnmaa
