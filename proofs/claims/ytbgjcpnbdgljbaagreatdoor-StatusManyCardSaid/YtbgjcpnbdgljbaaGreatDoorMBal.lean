/- The contracts of package ball's functions on balls, at this translation. -/
import Derived.Test.YtbgjcpnbdgljbaaGreatDoorMCpl
import Derived.Below
import Derived.RowKit3
import Derived.WalkSmall
import Derived.ScopeJumps
import Derived.WalkMore
import Derived.Deep.RegionHeld3
import Derived.BigQuiet
import Derived.Deep.QuietTactic
namespace Go.Proofs.YtbgjcpnbdgljbaaGreatDoor
open Go.RowKit Go.Fil
attribute [local irreducible] fop fsqrt fup fabs fneg pick

theorem bcell {W w1 : World} (hb : Below W.heap.size W w1) : (∀ b o, b < W.heap.size → w1.cell? ⟨b, o, none⟩ = W.cell? ⟨b, o, none⟩) ∧ (∀ b o, b < W.heap.size → w1.frozen? ⟨b, o, none⟩ = W.frozen? ⟨b, o, none⟩) :=
  ⟨fun b o h => hb.cell (p := ⟨b, o, none⟩) h, fun b o h => hb.frozen (p := ⟨b, o, none⟩) h⟩
/-- A ball, new memory; a yes or no, new memory. -/
def RB (B : Bl) (w : World) (e : Ending) (w' : World) : Prop := e = .returned (.agg #[.complex .f64 B.1 B.2.1, .float .f64 B.2.2]) ∧ Below w.heap.size w w'
def RY (y : Bool) (w : World) (e : Ending) (w' : World) : Prop := e = .returned (.bool y) ∧ Below w.heap.size w w'

theorem whole_any (w : World) : Calls Tryz.prog 175 #[] w (RB wholeS w) := by
  go_enter Tryz.func175, Tryz.ntmps175
  go_wp2_with (go_at_call 167; refine (inf1_any _).mono ?_; rintro e w' ⟨rfl, rfl⟩)
  exact bodyPost_ret (v := .agg #[.complex .f64 0 0, .float .f64 9218868437227405312]) (by simp [results, Tryz.results175, go_sem]) rfl ⟨rfl, by repeat (first | exact Below.refl _ _ | refine below_drewN ?_ _ | refine Below.alloc ?_ (by first | omega | (simp; omega) | simp) _ | refine Below.setCell ?_ (by first | omega | (simp; omega) | simp) _ | refine Below.trans ?_ (Below.mono (by assumption) (by first | omega | (simp; omega) | simp)) | apply Below.drew)⟩
theorem may_any (a b r : Nat) (w : World) : Calls Tryz.prog 120 #[.agg #[.complex .f64 a b, .float .f64 r]] w (RY (mayS (a, b, r)) w) := by
  cases h1 : pinfB r
  · have e1 : mayS (a, b, r) = (cfin a b && (finB r && !signB r)) := by unfold mayS; simp [h1]
    rw [e1]
    clear e1
    cases h2 : cfin a b <;> cases h3 : finB r <;> cases h4 : signB r
    all_goals
      go_enter Tryz.func120, Tryz.ntmps120
      go_wp2_with (first
        | (go_at_call 102; refine (isinf1_any _ _).mono ?_; rintro e w' ⟨rfl, rfl⟩)
        | (go_at_call 184; refine (bfinite_any _ _ _).mono ?_; rintro e w' ⟨rfl, rfl⟩)
        | (go_at_call 180; refine (finite_any _ _).mono ?_; rintro e w' ⟨n, rfl, rfl⟩)
        | (go_at_call 185; refine (signbit_any _ _).mono ?_; rintro e w' ⟨rfl, rfl⟩))
      go_ret
      exact ⟨rfl, by repeat (first | exact Below.refl _ _ | refine below_drewN ?_ _ | refine Below.alloc ?_ (by first | omega | (simp; omega) | simp) _ | refine Below.setCell ?_ (by first | omega | (simp; omega) | simp) _ | refine Below.trans ?_ (Below.mono (by assumption) (by first | omega | (simp; omega) | simp)) | apply Below.drew)⟩
  · have e1 : mayS (a, b, r) = (likeB a 0 && likeB b 0) := by unfold mayS; simp [h1]
    rw [e1]
    clear e1
    go_enter Tryz.func120, Tryz.ntmps120
    go_wp2_with (first
      | (go_at_call 102; refine (isinf1_any _ _).mono ?_; rintro e w' ⟨rfl, rfl⟩)
      | (go_at_call 183; refine (csame_any _ _ _ _ _).mono ?_; rintro e w' ⟨rfl, rfl⟩))
    go_ret
    exact ⟨rfl, by repeat (first | exact Below.refl _ _ | refine below_drewN ?_ _ | refine Below.alloc ?_ (by first | omega | (simp; omega) | simp) _ | refine Below.setCell ?_ (by first | omega | (simp; omega) | simp) _ | refine Below.trans ?_ (Below.mono (by assumption) (by first | omega | (simp; omega) | simp)) | apply Below.drew)⟩
theorem iswhole_any (a b r : Nat) (w : World) : Calls Tryz.prog 60 #[.agg #[.complex .f64 a b, .float .f64 r]] w (RY (isWholeS (a, b, r)) w) := by
  unfold isWholeS
  cases h1 : mayS (a, b, r)
  · go_enter Tryz.func60, Tryz.ntmps60
    go_wp2_with (go_at_call 120; refine (may_any _ _ _ _).mono ?_; rintro e w' ⟨rfl, hb⟩)
    go_ret
    exact ⟨rfl, (show Below w.heap.size w _ by repeat (first | exact Below.refl _ _ | refine below_drewN ?_ _ | refine Below.alloc ?_ (by first | omega | (simp; omega) | simp) _ | refine Below.setCell ?_ (by first | omega | (simp; omega) | simp) _ | refine Below.trans ?_ (Below.mono (by assumption) (by first | omega | (simp; omega) | simp)) | apply Below.drew)).trans (hb.mono (by simp))⟩
  · go_enter Tryz.func60, Tryz.ntmps60
    go_wp2_with (first
      | (go_at_call 120; refine (may_any _ _ _ _).mono ?_; rintro e w' ⟨rfl, hb⟩; obtain ⟨hc, hf⟩ := bcell hb)
      | (go_at_call 102; refine (isinf1_any _ _).mono ?_; rintro e w' ⟨rfl, rfl⟩))
    go_ret
    exact ⟨rfl, (show Below w.heap.size w _ by repeat (first | exact Below.refl _ _ | refine below_drewN ?_ _ | refine Below.alloc ?_ (by first | omega | (simp; omega) | simp) _ | refine Below.setCell ?_ (by first | omega | (simp; omega) | simp) _ | refine Below.trans ?_ (Below.mono (by assumption) (by first | omega | (simp; omega) | simp)) | apply Below.drew)).trans (hb.mono (by simp))⟩
/-- A scope in which one label is jumped to, once, from ahead of it. -/
theorem wp_scope_once {P : Program} {a : Act} {w : World} {Q : Exit → Act → World → Prop} {c rest : Code} (l : Nat) (hf : findLabel c l = some rest)
    (first : c.wp P (Exit.jump l (fun a' w' => rest.wp P (Exit.jump l (fun _ _ => False) Q) a' w') Q) a w) : (Code.scope c).wp P Q a w :=
  wp_scope_jumps l (fun a' w' => rest.wp P (Exit.jump l (fun _ _ => False) Q) a' w') (fun _ _ => 0) hf first fun _ _ h =>
    Code.wp_mono (fun e _ _ q => by cases e <;> first | exact q | exact ⟨q.1, q.2.elim⟩) h
theorem told_fin (a b r : Nat) (h1 : cfin a b = true) (h2 : finB r = true) (w : World) : Calls Tryz.prog 174 #[.complex .f64 a b, .float .f64 r] w (RB (a, b, r) w) := by
  go_enter Tryz.func174, Tryz.ntmps174
  go_wp2
  go_step3
  go_wp2_with (first
    | (go_at_call 184; refine (bfinite_any _ _ _).mono ?_; rintro e w' ⟨rfl, rfl⟩)
    | (go_at_call 180; refine (finite_any _ _).mono ?_; rintro e w' ⟨n, rfl, rfl⟩))
  simp only [Exit.noGoto]
  exact bodyPost_ret (v := .agg #[.complex .f64 a b, .float .f64 r]) (by simp [results, Tryz.results174, go_sem]) rfl ⟨rfl, by repeat (first | exact Below.refl _ _ | refine below_drewN ?_ _ | refine Below.alloc ?_ (by first | omega | (simp; omega) | simp) _ | refine Below.setCell ?_ (by first | omega | (simp; omega) | simp) _ | refine Below.trans ?_ (Below.mono (by assumption) (by first | omega | (simp; omega) | simp)) | apply Below.drew)⟩
theorem told_not (a b r : Nat) (h : (cfin a b && finB r) = false) (w : World) : Calls Tryz.prog 174 #[.complex .f64 a b, .float .f64 r] w (RB wholeS w) := by
  cases h1 : cfin a b
  · clear h
    go_enter Tryz.func174, Tryz.ntmps174
    go_wp2
    refine wp_scope_once 0 rfl ?_
    go_wp2_with (first
      | (go_at_call 184; refine (bfinite_any _ _ _).mono ?_; rintro e w' ⟨rfl, rfl⟩)
      | (go_at_call 180; refine (finite_any _ _).mono ?_; rintro e w' ⟨n, rfl, rfl⟩))
    go_step3
    refine ⟨rfl, ?_⟩
    go_wp2_with (go_at_call 175; refine (whole_any _).mono ?_; rintro e w' ⟨rfl, hb⟩; obtain ⟨hc, hf⟩ := bcell hb)
    simp only [Exit.jump]
    exact bodyPost_ret (v := .agg #[.complex .f64 wholeS.1 wholeS.2.1, .float .f64 wholeS.2.2]) (by simp [results, Tryz.results174, go_sem, hc]) rfl ⟨rfl, by repeat (first | exact Below.refl _ _ | refine below_drewN ?_ _ | refine Below.alloc ?_ (by first | omega | (simp; omega) | simp) _ | refine Below.setCell ?_ (by first | omega | (simp; omega) | simp) _ | refine Below.trans ?_ (Below.mono (by assumption) (by first | omega | (simp; omega) | simp)) | apply Below.drew)⟩
  · rw [h1] at h
    have h2 : finB r = false := by simpa using h
    clear h
    go_enter Tryz.func174, Tryz.ntmps174
    go_wp2
    refine wp_scope_once 0 rfl ?_
    go_wp2_with (first
      | (go_at_call 184; refine (bfinite_any _ _ _).mono ?_; rintro e w' ⟨rfl, rfl⟩)
      | (go_at_call 180; refine (finite_any _ _).mono ?_; rintro e w' ⟨n, rfl, rfl⟩))
    go_step3
    refine ⟨rfl, ?_⟩
    go_wp2_with (go_at_call 175; refine (whole_any _).mono ?_; rintro e w' ⟨rfl, hb⟩; obtain ⟨hc, hf⟩ := bcell hb)
    simp only [Exit.jump]
    exact bodyPost_ret (v := .agg #[.complex .f64 wholeS.1 wholeS.2.1, .float .f64 wholeS.2.2]) (by simp [results, Tryz.results174, go_sem, hc]) rfl ⟨rfl, by repeat (first | exact Below.refl _ _ | refine below_drewN ?_ _ | refine Below.alloc ?_ (by first | omega | (simp; omega) | simp) _ | refine Below.setCell ?_ (by first | omega | (simp; omega) | simp) _ | refine Below.trans ?_ (Below.mono (by assumption) (by first | omega | (simp; omega) | simp)) | apply Below.drew)⟩
theorem told_any (a b r : Nat) (w : World) : Calls Tryz.prog 174 #[.complex .f64 a b, .float .f64 r] w (RB (toldS a b r) w) := by
  unfold toldS
  split
  · rename_i h
    simp only [Bool.and_eq_true] at h
    exact told_fin a b r h.1 h.2 w
  · rename_i h
    exact told_not a b r (by simpa using h) w
theorem point_any (a b : Nat) (w : World) : Calls Tryz.prog 112 #[.complex .f64 a b] w (RB (pointS a b) w) := by
  unfold pointS
  go_enter Tryz.func112, Tryz.ntmps112
  go_wp2_with (go_at_call 174; refine (told_any _ _ _ _).mono ?_; rintro e w' ⟨rfl, hb⟩; obtain ⟨hc, hf⟩ := bcell hb)
  exact bodyPost_ret (v := .agg #[.complex .f64 (toldS a b 0).1 (toldS a b 0).2.1, .float .f64 (toldS a b 0).2.2]) (by simp [results, Tryz.results112, go_sem, hc]) rfl ⟨rfl, by repeat (first | exact Below.refl _ _ | refine below_drewN ?_ _ | refine Below.alloc ?_ (by first | omega | (simp; omega) | simp) _ | refine Below.setCell ?_ (by first | omega | (simp; omega) | simp) _ | refine Below.trans ?_ (Below.mono (by assumption) (by first | omega | (simp; omega) | simp)) | apply Below.drew)⟩
end Go.Proofs.YtbgjcpnbdgljbaaGreatDoor

/- The contracts of package ball's functions on balls whose statements draw their order, at this translation. -/
namespace Go.Proofs.YtbgjcpnbdgljbaaGreatDoor
open Go.RowKit Go.Fil
attribute [local irreducible] fop fsqrt fup fabs fneg pick

theorem bneg_not (a b r : Nat) (h : isWholeS (a, b, r) = false) (w : World) : Calls Tryz.prog 113 #[.agg #[.complex .f64 a b, .float .f64 r]] w (RB (fneg a, fneg b, r) w) := by
  have hn := not_whole_nan h
  have n1 : ∀ s, pick (fneg a) s = fneg a := pick_of (by rw [isNaN_fneg]; exact hn.1)
  have n2 : ∀ s, pick (fneg b) s = fneg b := pick_of (by rw [isNaN_fneg]; exact hn.2.1)
  clear hn
  go_enter Tryz.func113, Tryz.ntmps113
  go_wp2_with (go_at_call 60; refine (iswhole_any _ _ _ _).mono ?_; rintro e w1 ⟨rfl, hb⟩; obtain ⟨hc, hf⟩ := bcell hb; (try simp only [World.heap_drewN, World.cell?_drewN, World.frozen?_drewN] at hc hf); have z0 : w.heap.size < w1.heap.size := (by have := hb.size; (try simp at this); omega); have z1 : w.heap.size + 1 < w1.heap.size := (by have := hb.size; (try simp at this); omega))
  go_region_held3 (fun x => x.cell? ⟨w.heap.size, 0, none⟩ = some (.complex .f64 a b) ∧ x.cell? ⟨w.heap.size, 1, none⟩ = some (.float .f64 r)) (simp [go_sem, *])
    (first
      | (go_at_call 176; refine (cneg_any _ _ _).mono ?_; rintro e w' ⟨s, t, rfl, rfl⟩; simp only [n1, n2]))
  go_wp2
  exact bodyPost_ret (v := .agg #[.complex .f64 (fneg a) (fneg b), .float .f64 r]) (by simp [results, Tryz.results113, go_sem, hc]) rfl ⟨rfl, by repeat (first | exact Below.refl _ _ | refine below_drewN ?_ _ | refine Below.alloc ?_ (by first | omega | (simp; omega) | simp) _ | refine Below.setCell ?_ (by first | omega | (simp; omega) | simp) _ | refine Below.trans ?_ (Below.mono (by assumption) (by first | omega | (simp; omega) | simp)) | apply Below.drew)⟩
theorem bneg_whole (a b r : Nat) (h : isWholeS (a, b, r) = true) (w : World) : Calls Tryz.prog 113 #[.agg #[.complex .f64 a b, .float .f64 r]] w (RB wholeS w) := by
  go_enter Tryz.func113, Tryz.ntmps113
  go_wp2_with (first
    | (go_at_call 60; refine (iswhole_any _ _ _ _).mono ?_; rintro e w1 ⟨rfl, hb⟩; obtain ⟨hc, hf⟩ := bcell hb; (try simp only [World.heap_drewN, World.cell?_drewN, World.frozen?_drewN] at hc hf); have z0 : w.heap.size < w1.heap.size := (by have := hb.size; (try simp at this); omega); have z1 : w.heap.size + 1 < w1.heap.size := (by have := hb.size; (try simp at this); omega))
    | (go_at_call 175; refine (whole_any _).mono ?_; rintro e w1 ⟨rfl, hb⟩; obtain ⟨hc, hf⟩ := bcell hb; (try simp only [World.heap_drewN, World.cell?_drewN, World.frozen?_drewN] at hc hf); have z0 : w.heap.size < w1.heap.size := (by have := hb.size; (try simp at this); omega); have z1 : w.heap.size + 1 < w1.heap.size := (by have := hb.size; (try simp at this); omega)))
  exact bodyPost_ret (v := .agg #[.complex .f64 wholeS.1 wholeS.2.1, .float .f64 wholeS.2.2]) (by simp [results, Tryz.results113, go_sem, *]) rfl ⟨rfl, by repeat (first | exact Below.refl _ _ | refine below_drewN ?_ _ | refine Below.alloc ?_ (by first | omega | (simp; omega) | simp) _ | refine Below.setCell ?_ (by first | omega | (simp; omega) | simp) _ | refine Below.trans ?_ (Below.mono (by assumption) (by first | omega | (simp; omega) | simp)) | apply Below.drew)⟩
theorem bneg_any (a b r : Nat) (w : World) : Calls Tryz.prog 113 #[.agg #[.complex .f64 a b, .float .f64 r]] w (RB (negS (a, b, r)) w) := by
  unfold negS
  cases h : isWholeS (a, b, r)
  · exact bneg_not a b r h w
  · exact bneg_whole a b r h w
theorem bhi_not (a b r : Nat) (h : isWholeS (a, b, r) = false) (w : World) : Calls Tryz.prog 115 #[.agg #[.complex .f64 a b, .float .f64 r]] w fun e w' => ∃ s, e = .returned (.float .f64 (pick (plusS (hiS a b) r) s)) ∧ Below w.heap.size w w' := by
  go_enter Tryz.func115, Tryz.ntmps115
  go_wp2_with (go_at_call 60; refine (iswhole_any _ _ _ _).mono ?_; rintro e w1 ⟨rfl, hb⟩; obtain ⟨hc, hf⟩ := bcell hb; (try simp only [World.heap_drewN, World.cell?_drewN, World.frozen?_drewN] at hc hf); have z0 : w.heap.size < w1.heap.size := (by have := hb.size; try simp at this; omega))
  go_region_held3 (fun x => x.cell? ⟨w.heap.size, 0, none⟩ = some (.complex .f64 a b) ∧ x.cell? ⟨w.heap.size, 1, none⟩ = some (.float .f64 r)) (simp [go_sem, *])
    (first
      | (go_at_call 106; refine (hi_any _ _ _).mono ?_; rintro e w' ⟨s, n, rfl, rfl⟩)
      | (go_at_call 177; refine (plus_any _ _ _).mono ?_; rintro e w' ⟨s, n, rfl, rfl⟩))
  go_wp2
  go_ret
  exact ⟨_, rfl, by repeat (first | exact Below.refl _ _ | refine below_drewN ?_ _ | refine Below.alloc ?_ (by first | omega | (simp; omega) | simp) _ | refine Below.setCell ?_ (by first | omega | (simp; omega) | simp) _ | refine Below.trans ?_ (Below.mono (by assumption) (by first | omega | (simp; omega) | simp)) | apply Below.drew)⟩
theorem bhi_whole (a b r : Nat) (h : isWholeS (a, b, r) = true) (w : World) : Calls Tryz.prog 115 #[.agg #[.complex .f64 a b, .float .f64 r]] w fun e w' => e = .returned (.float .f64 9218868437227405312) ∧ Below w.heap.size w w' := by
  go_enter Tryz.func115, Tryz.ntmps115
  go_wp2_with (first
    | (go_at_call 60; refine (iswhole_any _ _ _ _).mono ?_; rintro e w1 ⟨rfl, hb⟩; obtain ⟨hc, hf⟩ := bcell hb; (try simp only [World.heap_drewN, World.cell?_drewN, World.frozen?_drewN] at hc hf); have z0 : w.heap.size < w1.heap.size := (by have := hb.size; try simp at this; omega))
    | (go_at_call 167; refine (inf1_any _).mono ?_; rintro e w' ⟨rfl, rfl⟩))
  go_ret
  exact ⟨rfl, by repeat (first | exact Below.refl _ _ | refine below_drewN ?_ _ | refine Below.alloc ?_ (by first | omega | (simp; omega) | simp) _ | refine Below.setCell ?_ (by first | omega | (simp; omega) | simp) _ | refine Below.trans ?_ (Below.mono (by assumption) (by first | omega | (simp; omega) | simp)) | apply Below.drew)⟩
/-- A float, new memory. -/
def RFB (X : Nat) (w : World) (e : Ending) (w' : World) : Prop := ∃ s, e = .returned (.float .f64 (pick X s)) ∧ Below w.heap.size w w'
theorem bhi_any (a b r : Nat) (w : World) : Calls Tryz.prog 115 #[.agg #[.complex .f64 a b, .float .f64 r]] w (RFB (bhiS (a, b, r)) w) := by
  unfold bhiS
  cases h : isWholeS (a, b, r)
  · exact bhi_not a b r h w
  · exact (bhi_whole a b r h w).mono fun e w' ⟨he, hw⟩ => ⟨0, by rw [if_pos rfl, pick_of (by decide)]; exact he, hw⟩
theorem bsub_not (a b r c d q : Nat) (h1 : isWholeS (a, b, r) = false) (h2 : isWholeS (c, d, q) = false) (w : World) :
    Calls Tryz.prog 118 #[.agg #[.complex .f64 a b, .float .f64 r], .agg #[.complex .f64 c d, .float .f64 q]] w
      (RB (toldS (fop .sub a c) (fop .sub b d) (plusS (plusS r q) (lostBothS a b (fneg c) (fneg d)))) w) := by
  go_enter Tryz.func118, Tryz.ntmps118
  go_wp2_with (go_at_call 60; refine (iswhole_any _ _ _ _).mono ?_; rintro e w1 ⟨rfl, hb⟩; obtain ⟨hc, hf⟩ := bcell hb; (try simp only [World.heap_drewN, World.cell?_drewN, World.frozen?_drewN] at hc hf); have z0 : w.heap.size < w1.heap.size := (by have := hb.size; (try simp at this); omega); have z1 : w.heap.size + 1 < w1.heap.size := (by have := hb.size; (try simp at this); omega); have z2 : w.heap.size + 1 + 1 < w1.heap.size := (by have := hb.size; (try simp at this); omega); have z3 : w.heap.size + 2 < w1.heap.size := (by omega))
  go_region_held3 (fun x => x.cell? ⟨w.heap.size, 0, none⟩ = some (.complex .f64 a b) ∧ x.cell? ⟨w.heap.size, 1, none⟩ = some (.float .f64 r) ∧ x.cell? ⟨w.heap.size + 1, 0, none⟩ = some (.complex .f64 c d) ∧ x.cell? ⟨w.heap.size + 1, 1, none⟩ = some (.float .f64 q)) (((try dsimp only); refine ⟨?_, ?_, ?_, ?_⟩ <;> first | (simp [go_sem, World.cell?_alloc_past, *]; done) | (rw [hc _ _ (by first | assumption | (simp; assumption) | omega | (simp; omega))]; first | exact (‹_ ∧ _ ∧ _ ∧ _›).1 | exact (‹_ ∧ _ ∧ _ ∧ _›).2.1 | exact (‹_ ∧ _ ∧ _ ∧ _›).2.2.1 | exact (‹_ ∧ _ ∧ _ ∧ _›).2.2.2)))
    (first
      | (go_at_call 176; refine (cneg_any _ _ _).mono ?_; rintro e w' ⟨s, t, rfl, rfl⟩)
      | (go_at_call 110; refine (csub_any _ _ _ _ _).mono ?_; rintro e w' ⟨s, t, n, rfl, rfl⟩)
      | (go_at_call 177; refine (plus_any _ _ _).mono ?_; rintro e w' ⟨s, n, rfl, rfl⟩)
      | (go_at_call 181; refine (lostBoth_any _ _ _ _ _).mono ?_; rintro e w' ⟨s, n, rfl, rfl⟩)
      | (go_at_call 174; refine (told_any _ _ _ _).mono ?_; rintro e w1 ⟨rfl, hb⟩; obtain ⟨hc, hf⟩ := bcell hb; (try simp only [World.heap_drewN, World.cell?_drewN, World.frozen?_drewN] at hc hf); have z0 : w.heap.size < w1.heap.size := (by have := hb.size; (try simp at this); omega); have z1 : w.heap.size + 1 < w1.heap.size := (by have := hb.size; (try simp at this); omega); have z2 : w.heap.size + 1 + 1 < w1.heap.size := (by have := hb.size; (try simp at this); omega); have z3 : w.heap.size + 2 < w1.heap.size := (by omega)))
  go_wp2
  exact bodyPost_ret (v := .agg #[.complex .f64 (toldS (fop .sub a c) (fop .sub b d) (plusS (plusS r q) (lostBothS a b (fneg c) (fneg d)))).1 (toldS (fop .sub a c) (fop .sub b d) (plusS (plusS r q) (lostBothS a b (fneg c) (fneg d)))).2.1, .float .f64 (toldS (fop .sub a c) (fop .sub b d) (plusS (plusS r q) (lostBothS a b (fneg c) (fneg d)))).2.2])
    (by simp [results, Tryz.results118, go_sem, *]) rfl ⟨rfl, by repeat (first | exact Below.refl _ _ | refine below_drewN ?_ _ | refine Below.alloc ?_ (by first | omega | (simp; omega) | simp) _ | refine Below.setCell ?_ (by first | omega | (simp; omega) | simp) _ | refine Below.trans ?_ (Below.mono (by assumption) (by first | omega | (simp; omega) | simp)) | apply Below.drew)⟩
theorem bsub_whole (a b r c d q : Nat) (h : (isWholeS (a, b, r) || isWholeS (c, d, q)) = true) (w : World) :
    Calls Tryz.prog 118 #[.agg #[.complex .f64 a b, .float .f64 r], .agg #[.complex .f64 c d, .float .f64 q]] w (RB wholeS w) := by
  cases h1 : isWholeS (a, b, r)
  · have h2 : isWholeS (c, d, q) = true := by simpa [h1] using h
    clear h
    go_enter Tryz.func118, Tryz.ntmps118
    go_wp2_with (first
      | (go_at_call 60; refine (iswhole_any _ _ _ _).mono ?_; rintro e w1 ⟨rfl, hb⟩; obtain ⟨hc, hf⟩ := bcell hb; (try simp only [World.heap_drewN, World.cell?_drewN, World.frozen?_drewN] at hc hf); have z0 : w.heap.size < w1.heap.size := (by have := hb.size; (try simp at this); omega); have z1 : w.heap.size + 1 < w1.heap.size := (by have := hb.size; (try simp at this); omega); have z2 : w.heap.size + 1 + 1 < w1.heap.size := (by have := hb.size; (try simp at this); omega); have z3 : w.heap.size + 2 < w1.heap.size := (by omega))
      | (go_at_call 175; refine (whole_any _).mono ?_; rintro e w1 ⟨rfl, hb⟩; obtain ⟨hc, hf⟩ := bcell hb; (try simp only [World.heap_drewN, World.cell?_drewN, World.frozen?_drewN] at hc hf); have z0 : w.heap.size < w1.heap.size := (by have := hb.size; (try simp at this); omega); have z1 : w.heap.size + 1 < w1.heap.size := (by have := hb.size; (try simp at this); omega); have z2 : w.heap.size + 1 + 1 < w1.heap.size := (by have := hb.size; (try simp at this); omega); have z3 : w.heap.size + 2 < w1.heap.size := (by omega)))
    exact bodyPost_ret (v := .agg #[.complex .f64 wholeS.1 wholeS.2.1, .float .f64 wholeS.2.2]) (by simp [results, Tryz.results118, go_sem, *]) rfl ⟨rfl, by repeat (first | exact Below.refl _ _ | refine below_drewN ?_ _ | refine Below.alloc ?_ (by first | omega | (simp; omega) | simp) _ | refine Below.setCell ?_ (by first | omega | (simp; omega) | simp) _ | refine Below.trans ?_ (Below.mono (by assumption) (by first | omega | (simp; omega) | simp)) | apply Below.drew)⟩
  · clear h
    go_enter Tryz.func118, Tryz.ntmps118
    go_wp2_with (first
      | (go_at_call 60; refine (iswhole_any _ _ _ _).mono ?_; rintro e w1 ⟨rfl, hb⟩; obtain ⟨hc, hf⟩ := bcell hb; (try simp only [World.heap_drewN, World.cell?_drewN, World.frozen?_drewN] at hc hf); have z0 : w.heap.size < w1.heap.size := (by have := hb.size; (try simp at this); omega); have z1 : w.heap.size + 1 < w1.heap.size := (by have := hb.size; (try simp at this); omega); have z2 : w.heap.size + 1 + 1 < w1.heap.size := (by have := hb.size; (try simp at this); omega); have z3 : w.heap.size + 2 < w1.heap.size := (by omega))
      | (go_at_call 175; refine (whole_any _).mono ?_; rintro e w1 ⟨rfl, hb⟩; obtain ⟨hc, hf⟩ := bcell hb; (try simp only [World.heap_drewN, World.cell?_drewN, World.frozen?_drewN] at hc hf); have z0 : w.heap.size < w1.heap.size := (by have := hb.size; (try simp at this); omega); have z1 : w.heap.size + 1 < w1.heap.size := (by have := hb.size; (try simp at this); omega); have z2 : w.heap.size + 1 + 1 < w1.heap.size := (by have := hb.size; (try simp at this); omega); have z3 : w.heap.size + 2 < w1.heap.size := (by omega)))
    exact bodyPost_ret (v := .agg #[.complex .f64 wholeS.1 wholeS.2.1, .float .f64 wholeS.2.2]) (by simp [results, Tryz.results118, go_sem, *]) rfl ⟨rfl, by repeat (first | exact Below.refl _ _ | refine below_drewN ?_ _ | refine Below.alloc ?_ (by first | omega | (simp; omega) | simp) _ | refine Below.setCell ?_ (by first | omega | (simp; omega) | simp) _ | refine Below.trans ?_ (Below.mono (by assumption) (by first | omega | (simp; omega) | simp)) | apply Below.drew)⟩
theorem bsub_any (a b r c d q : Nat) (w : World) :
    Calls Tryz.prog 118 #[.agg #[.complex .f64 a b, .float .f64 r], .agg #[.complex .f64 c d, .float .f64 q]] w (RB (subS (a, b, r) (c, d, q)) w) := by
  unfold subS
  cases h1 : isWholeS (a, b, r)
  · cases h2 : isWholeS (c, d, q)
    · exact bsub_not a b r c d q h1 h2 w
    · exact bsub_whole a b r c d q (by rw [h1, h2]; rfl) w
  · exact bsub_whole a b r c d q (by rw [h1]; rfl) w
theorem badd_not (a b r c d q : Nat) (h1 : isWholeS (a, b, r) = false) (h2 : isWholeS (c, d, q) = false) (w : World) :
    Calls Tryz.prog 219 #[.agg #[.complex .f64 a b, .float .f64 r], .agg #[.complex .f64 c d, .float .f64 q]] w
      (RB (toldS (fop .add a c) (fop .add b d) (plusS (plusS r q) (lostBothS a b c d))) w) := by
  go_enter Tryz.func219, Tryz.ntmps219
  go_wp2_with (go_at_call 60; refine (iswhole_any _ _ _ _).mono ?_; rintro e w1 ⟨rfl, hb⟩; obtain ⟨hc, hf⟩ := bcell hb; (try simp only [World.heap_drewN, World.cell?_drewN, World.frozen?_drewN] at hc hf); have z0 : w.heap.size < w1.heap.size := (by have := hb.size; (try simp at this); omega); have z1 : w.heap.size + 1 < w1.heap.size := (by have := hb.size; (try simp at this); omega); have z2 : w.heap.size + 1 + 1 < w1.heap.size := (by have := hb.size; (try simp at this); omega); have z3 : w.heap.size + 2 < w1.heap.size := (by omega))
  go_region_held3 (fun x => x.cell? ⟨w.heap.size, 0, none⟩ = some (.complex .f64 a b) ∧ x.cell? ⟨w.heap.size, 1, none⟩ = some (.float .f64 r) ∧ x.cell? ⟨w.heap.size + 1, 0, none⟩ = some (.complex .f64 c d) ∧ x.cell? ⟨w.heap.size + 1, 1, none⟩ = some (.float .f64 q)) (((try dsimp only); refine ⟨?_, ?_, ?_, ?_⟩ <;> first | (simp [go_sem, World.cell?_alloc_past, *]; done) | (rw [hc _ _ (by first | assumption | (simp; assumption) | omega | (simp; omega))]; first | exact (‹_ ∧ _ ∧ _ ∧ _›).1 | exact (‹_ ∧ _ ∧ _ ∧ _›).2.1 | exact (‹_ ∧ _ ∧ _ ∧ _›).2.2.1 | exact (‹_ ∧ _ ∧ _ ∧ _›).2.2.2)))
    (first
      | (go_at_call 38; refine (cadd_any _ _ _ _ _).mono ?_; rintro e w' ⟨s, t, n, rfl, rfl⟩)
      | (go_at_call 177; refine (plus_any _ _ _).mono ?_; rintro e w' ⟨s, n, rfl, rfl⟩)
      | (go_at_call 181; refine (lostBoth_any _ _ _ _ _).mono ?_; rintro e w' ⟨s, n, rfl, rfl⟩)
      | (go_at_call 174; refine (told_any _ _ _ _).mono ?_; rintro e w1 ⟨rfl, hb⟩; obtain ⟨hc, hf⟩ := bcell hb; (try simp only [World.heap_drewN, World.cell?_drewN, World.frozen?_drewN] at hc hf); have z0 : w.heap.size < w1.heap.size := (by have := hb.size; (try simp at this); omega); have z1 : w.heap.size + 1 < w1.heap.size := (by have := hb.size; (try simp at this); omega); have z2 : w.heap.size + 1 + 1 < w1.heap.size := (by have := hb.size; (try simp at this); omega); have z3 : w.heap.size + 2 < w1.heap.size := (by omega)))
  go_wp2
  exact bodyPost_ret (v := .agg #[.complex .f64 (toldS (fop .add a c) (fop .add b d) (plusS (plusS r q) (lostBothS a b c d))).1 (toldS (fop .add a c) (fop .add b d) (plusS (plusS r q) (lostBothS a b c d))).2.1, .float .f64 (toldS (fop .add a c) (fop .add b d) (plusS (plusS r q) (lostBothS a b c d))).2.2])
    (by simp [results, Tryz.results219, go_sem, *]) rfl ⟨rfl, by repeat (first | exact Below.refl _ _ | refine below_drewN ?_ _ | refine Below.alloc ?_ (by first | omega | (simp; omega) | simp) _ | refine Below.setCell ?_ (by first | omega | (simp; omega) | simp) _ | refine Below.trans ?_ (Below.mono (by assumption) (by first | omega | (simp; omega) | simp)) | apply Below.drew)⟩
theorem badd_whole (a b r c d q : Nat) (h : (isWholeS (a, b, r) || isWholeS (c, d, q)) = true) (w : World) :
    Calls Tryz.prog 219 #[.agg #[.complex .f64 a b, .float .f64 r], .agg #[.complex .f64 c d, .float .f64 q]] w (RB wholeS w) := by
  cases h1 : isWholeS (a, b, r)
  · have h2 : isWholeS (c, d, q) = true := by simpa [h1] using h
    clear h
    go_enter Tryz.func219, Tryz.ntmps219
    go_wp2_with (first
      | (go_at_call 60; refine (iswhole_any _ _ _ _).mono ?_; rintro e w1 ⟨rfl, hb⟩; obtain ⟨hc, hf⟩ := bcell hb; (try simp only [World.heap_drewN, World.cell?_drewN, World.frozen?_drewN] at hc hf); have z0 : w.heap.size < w1.heap.size := (by have := hb.size; (try simp at this); omega); have z1 : w.heap.size + 1 < w1.heap.size := (by have := hb.size; (try simp at this); omega); have z2 : w.heap.size + 1 + 1 < w1.heap.size := (by have := hb.size; (try simp at this); omega); have z3 : w.heap.size + 2 < w1.heap.size := (by omega))
      | (go_at_call 175; refine (whole_any _).mono ?_; rintro e w1 ⟨rfl, hb⟩; obtain ⟨hc, hf⟩ := bcell hb; (try simp only [World.heap_drewN, World.cell?_drewN, World.frozen?_drewN] at hc hf); have z0 : w.heap.size < w1.heap.size := (by have := hb.size; (try simp at this); omega); have z1 : w.heap.size + 1 < w1.heap.size := (by have := hb.size; (try simp at this); omega); have z2 : w.heap.size + 1 + 1 < w1.heap.size := (by have := hb.size; (try simp at this); omega); have z3 : w.heap.size + 2 < w1.heap.size := (by omega)))
    exact bodyPost_ret (v := .agg #[.complex .f64 wholeS.1 wholeS.2.1, .float .f64 wholeS.2.2]) (by simp [results, Tryz.results219, go_sem, *]) rfl ⟨rfl, by repeat (first | exact Below.refl _ _ | refine below_drewN ?_ _ | refine Below.alloc ?_ (by first | omega | (simp; omega) | simp) _ | refine Below.setCell ?_ (by first | omega | (simp; omega) | simp) _ | refine Below.trans ?_ (Below.mono (by assumption) (by first | omega | (simp; omega) | simp)) | apply Below.drew)⟩
  · clear h
    go_enter Tryz.func219, Tryz.ntmps219
    go_wp2_with (first
      | (go_at_call 60; refine (iswhole_any _ _ _ _).mono ?_; rintro e w1 ⟨rfl, hb⟩; obtain ⟨hc, hf⟩ := bcell hb; (try simp only [World.heap_drewN, World.cell?_drewN, World.frozen?_drewN] at hc hf); have z0 : w.heap.size < w1.heap.size := (by have := hb.size; (try simp at this); omega); have z1 : w.heap.size + 1 < w1.heap.size := (by have := hb.size; (try simp at this); omega); have z2 : w.heap.size + 1 + 1 < w1.heap.size := (by have := hb.size; (try simp at this); omega); have z3 : w.heap.size + 2 < w1.heap.size := (by omega))
      | (go_at_call 175; refine (whole_any _).mono ?_; rintro e w1 ⟨rfl, hb⟩; obtain ⟨hc, hf⟩ := bcell hb; (try simp only [World.heap_drewN, World.cell?_drewN, World.frozen?_drewN] at hc hf); have z0 : w.heap.size < w1.heap.size := (by have := hb.size; (try simp at this); omega); have z1 : w.heap.size + 1 < w1.heap.size := (by have := hb.size; (try simp at this); omega); have z2 : w.heap.size + 1 + 1 < w1.heap.size := (by have := hb.size; (try simp at this); omega); have z3 : w.heap.size + 2 < w1.heap.size := (by omega)))
    exact bodyPost_ret (v := .agg #[.complex .f64 wholeS.1 wholeS.2.1, .float .f64 wholeS.2.2]) (by simp [results, Tryz.results219, go_sem, *]) rfl ⟨rfl, by repeat (first | exact Below.refl _ _ | refine below_drewN ?_ _ | refine Below.alloc ?_ (by first | omega | (simp; omega) | simp) _ | refine Below.setCell ?_ (by first | omega | (simp; omega) | simp) _ | refine Below.trans ?_ (Below.mono (by assumption) (by first | omega | (simp; omega) | simp)) | apply Below.drew)⟩
theorem badd_any (a b r c d q : Nat) (w : World) :
    Calls Tryz.prog 219 #[.agg #[.complex .f64 a b, .float .f64 r], .agg #[.complex .f64 c d, .float .f64 q]] w (RB (addS (a, b, r) (c, d, q)) w) := by
  unfold addS
  cases h1 : isWholeS (a, b, r)
  · cases h2 : isWholeS (c, d, q)
    · exact badd_not a b r c d q h1 h2 w
    · exact badd_whole a b r c d q (by rw [h1, h2]; rfl) w
  · exact badd_whole a b r c d q (by rw [h1]; rfl) w
theorem bmul_not (a b r c d q : Nat) (h1 : isWholeS (a, b, r) = false) (h2 : isWholeS (c, d, q) = false) (w : World) :
    Calls Tryz.prog 114 #[.agg #[.complex .f64 a b, .float .f64 r], .agg #[.complex .f64 c d, .float .f64 q]] w
      (RB (toldS (mulRe a b c d) (mulIm a b c d) (plusS (plusS (timesS (hiS a b) q) (timesS (hiS c d) r)) (plusS (timesS r q) (spoiltS a b c d)))) w) := by
  go_enter Tryz.func114, Tryz.ntmps114
  go_wp2_with (go_at_call 60; refine (iswhole_any _ _ _ _).mono ?_; rintro e w1 ⟨rfl, hb⟩; obtain ⟨hc, hf⟩ := bcell hb; (try simp only [World.heap_drewN, World.cell?_drewN, World.frozen?_drewN] at hc hf); have z0 : w.heap.size < w1.heap.size := (by have := hb.size; (try simp at this); omega); have z1 : w.heap.size + 1 < w1.heap.size := (by have := hb.size; (try simp at this); omega); have z2 : w.heap.size + 1 + 1 < w1.heap.size := (by have := hb.size; (try simp at this); omega); have z3 : w.heap.size + 2 < w1.heap.size := (by omega))
  go_region_held3 (fun x => x.cell? ⟨w.heap.size, 0, none⟩ = some (.complex .f64 a b) ∧ x.cell? ⟨w.heap.size, 1, none⟩ = some (.float .f64 r) ∧ x.cell? ⟨w.heap.size + 1, 0, none⟩ = some (.complex .f64 c d) ∧ x.cell? ⟨w.heap.size + 1, 1, none⟩ = some (.float .f64 q)) (((try dsimp only); refine ⟨?_, ?_, ?_, ?_⟩ <;> first | (simp [go_sem, World.cell?_alloc_past, *]; done) | (rw [hc _ _ (by first | assumption | (simp; assumption) | omega | (simp; omega))]; first | exact (‹_ ∧ _ ∧ _ ∧ _›).1 | exact (‹_ ∧ _ ∧ _ ∧ _›).2.1 | exact (‹_ ∧ _ ∧ _ ∧ _›).2.2.1 | exact (‹_ ∧ _ ∧ _ ∧ _›).2.2.2)))
    (first
      | (go_at_call 106; refine (hi_any _ _ _).mono ?_; rintro e w' ⟨s, n, rfl, rfl⟩)
      | (go_at_call 178; refine (times_any _ _ _).mono ?_; rintro e w' ⟨s, n, rfl, rfl⟩)
      | (go_at_call 177; refine (plus_any _ _ _).mono ?_; rintro e w' ⟨s, n, rfl, rfl⟩))
  go_wp2_with fail
  go_region_held3 (fun x => x.cell? ⟨w.heap.size, 0, none⟩ = some (.complex .f64 a b) ∧ x.cell? ⟨w.heap.size, 1, none⟩ = some (.float .f64 r) ∧ x.cell? ⟨w.heap.size + 1, 0, none⟩ = some (.complex .f64 c d) ∧ x.cell? ⟨w.heap.size + 1, 1, none⟩ = some (.float .f64 q)) (((try dsimp only); refine ⟨?_, ?_, ?_, ?_⟩ <;> first | (simp [go_sem, World.cell?_alloc_past, *]; done) | (rw [hc _ _ (by first | assumption | (simp; assumption) | omega | (simp; omega))]; first | exact (‹_ ∧ _ ∧ _ ∧ _›).1 | exact (‹_ ∧ _ ∧ _ ∧ _›).2.1 | exact (‹_ ∧ _ ∧ _ ∧ _›).2.2.1 | exact (‹_ ∧ _ ∧ _ ∧ _›).2.2.2)))
    (first
      | (go_at_call 45; refine (cmul_any _ _ _ _ _).mono ?_; rintro e w' ⟨s, t, n, rfl, rfl⟩)
      | (go_at_call 178; refine (times_any _ _ _).mono ?_; rintro e w' ⟨s, n, rfl, rfl⟩)
      | (go_at_call 177; refine (plus_any _ _ _).mono ?_; rintro e w' ⟨s, n, rfl, rfl⟩)
      | (go_at_call 179; refine (spoilt_any _ _ _ _ _).mono ?_; rintro e w' ⟨s, n, rfl, rfl⟩)
      | (go_at_call 174; refine (told_any _ _ _ _).mono ?_; rintro e w1 ⟨rfl, hb⟩; obtain ⟨hc, hf⟩ := bcell hb; (try simp only [World.heap_drewN, World.cell?_drewN, World.frozen?_drewN] at hc hf); have z0 : w.heap.size < w1.heap.size := (by have := hb.size; (try simp at this); omega); have z1 : w.heap.size + 1 < w1.heap.size := (by have := hb.size; (try simp at this); omega); have z2 : w.heap.size + 1 + 1 < w1.heap.size := (by have := hb.size; (try simp at this); omega); have z3 : w.heap.size + 2 < w1.heap.size := (by omega)))
  go_wp2
  exact bodyPost_ret (v := .agg #[.complex .f64 (toldS (mulRe a b c d) (mulIm a b c d) (plusS (plusS (timesS (hiS a b) q) (timesS (hiS c d) r)) (plusS (timesS r q) (spoiltS a b c d)))).1 (toldS (mulRe a b c d) (mulIm a b c d) (plusS (plusS (timesS (hiS a b) q) (timesS (hiS c d) r)) (plusS (timesS r q) (spoiltS a b c d)))).2.1, .float .f64 (toldS (mulRe a b c d) (mulIm a b c d) (plusS (plusS (timesS (hiS a b) q) (timesS (hiS c d) r)) (plusS (timesS r q) (spoiltS a b c d)))).2.2])
    (by simp [results, Tryz.results114, go_sem, *]) rfl ⟨rfl, by repeat (first | exact Below.refl _ _ | refine below_drewN ?_ _ | refine Below.alloc ?_ (by first | omega | (simp; omega) | simp) _ | refine Below.setCell ?_ (by first | omega | (simp; omega) | simp) _ | refine Below.trans ?_ (Below.mono (by assumption) (by first | omega | (simp; omega) | simp)) | apply Below.drew)⟩
theorem bmul_whole (a b r c d q : Nat) (h : (isWholeS (a, b, r) || isWholeS (c, d, q)) = true) (w : World) :
    Calls Tryz.prog 114 #[.agg #[.complex .f64 a b, .float .f64 r], .agg #[.complex .f64 c d, .float .f64 q]] w (RB wholeS w) := by
  cases h1 : isWholeS (a, b, r)
  · have h2 : isWholeS (c, d, q) = true := by simpa [h1] using h
    clear h
    go_enter Tryz.func114, Tryz.ntmps114
    go_wp2_with (first
      | (go_at_call 60; refine (iswhole_any _ _ _ _).mono ?_; rintro e w1 ⟨rfl, hb⟩; obtain ⟨hc, hf⟩ := bcell hb; (try simp only [World.heap_drewN, World.cell?_drewN, World.frozen?_drewN] at hc hf); have z0 : w.heap.size < w1.heap.size := (by have := hb.size; (try simp at this); omega); have z1 : w.heap.size + 1 < w1.heap.size := (by have := hb.size; (try simp at this); omega); have z2 : w.heap.size + 1 + 1 < w1.heap.size := (by have := hb.size; (try simp at this); omega); have z3 : w.heap.size + 2 < w1.heap.size := (by omega))
      | (go_at_call 175; refine (whole_any _).mono ?_; rintro e w1 ⟨rfl, hb⟩; obtain ⟨hc, hf⟩ := bcell hb; (try simp only [World.heap_drewN, World.cell?_drewN, World.frozen?_drewN] at hc hf); have z0 : w.heap.size < w1.heap.size := (by have := hb.size; (try simp at this); omega); have z1 : w.heap.size + 1 < w1.heap.size := (by have := hb.size; (try simp at this); omega); have z2 : w.heap.size + 1 + 1 < w1.heap.size := (by have := hb.size; (try simp at this); omega); have z3 : w.heap.size + 2 < w1.heap.size := (by omega)))
    exact bodyPost_ret (v := .agg #[.complex .f64 wholeS.1 wholeS.2.1, .float .f64 wholeS.2.2]) (by simp [results, Tryz.results114, go_sem, *]) rfl ⟨rfl, by repeat (first | exact Below.refl _ _ | refine below_drewN ?_ _ | refine Below.alloc ?_ (by first | omega | (simp; omega) | simp) _ | refine Below.setCell ?_ (by first | omega | (simp; omega) | simp) _ | refine Below.trans ?_ (Below.mono (by assumption) (by first | omega | (simp; omega) | simp)) | apply Below.drew)⟩
  · clear h
    go_enter Tryz.func114, Tryz.ntmps114
    go_wp2_with (first
      | (go_at_call 60; refine (iswhole_any _ _ _ _).mono ?_; rintro e w1 ⟨rfl, hb⟩; obtain ⟨hc, hf⟩ := bcell hb; (try simp only [World.heap_drewN, World.cell?_drewN, World.frozen?_drewN] at hc hf); have z0 : w.heap.size < w1.heap.size := (by have := hb.size; (try simp at this); omega); have z1 : w.heap.size + 1 < w1.heap.size := (by have := hb.size; (try simp at this); omega); have z2 : w.heap.size + 1 + 1 < w1.heap.size := (by have := hb.size; (try simp at this); omega); have z3 : w.heap.size + 2 < w1.heap.size := (by omega))
      | (go_at_call 175; refine (whole_any _).mono ?_; rintro e w1 ⟨rfl, hb⟩; obtain ⟨hc, hf⟩ := bcell hb; (try simp only [World.heap_drewN, World.cell?_drewN, World.frozen?_drewN] at hc hf); have z0 : w.heap.size < w1.heap.size := (by have := hb.size; (try simp at this); omega); have z1 : w.heap.size + 1 < w1.heap.size := (by have := hb.size; (try simp at this); omega); have z2 : w.heap.size + 1 + 1 < w1.heap.size := (by have := hb.size; (try simp at this); omega); have z3 : w.heap.size + 2 < w1.heap.size := (by omega)))
    exact bodyPost_ret (v := .agg #[.complex .f64 wholeS.1 wholeS.2.1, .float .f64 wholeS.2.2]) (by simp [results, Tryz.results114, go_sem, *]) rfl ⟨rfl, by repeat (first | exact Below.refl _ _ | refine below_drewN ?_ _ | refine Below.alloc ?_ (by first | omega | (simp; omega) | simp) _ | refine Below.setCell ?_ (by first | omega | (simp; omega) | simp) _ | refine Below.trans ?_ (Below.mono (by assumption) (by first | omega | (simp; omega) | simp)) | apply Below.drew)⟩
theorem bmul_any (a b r c d q : Nat) (w : World) :
    Calls Tryz.prog 114 #[.agg #[.complex .f64 a b, .float .f64 r], .agg #[.complex .f64 c d, .float .f64 q]] w (RB (mulS (a, b, r) (c, d, q)) w) := by
  unfold mulS
  cases h1 : isWholeS (a, b, r)
  · cases h2 : isWholeS (c, d, q)
    · exact bmul_not a b r c d q h1 h2 w
    · exact bmul_whole a b r c d q (by rw [h1, h2]; rfl) w
  · exact bmul_whole a b r c d q (by rw [h1]; rfl) w
end Go.Proofs.YtbgjcpnbdgljbaaGreatDoor
