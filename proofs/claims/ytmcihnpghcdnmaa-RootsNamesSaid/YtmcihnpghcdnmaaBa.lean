/- The contracts of package ball's functions on balls, at this translation. -/
import Derived.Test.YtmcihnpghcdnmaaBn
import Derived.Below
import Derived.RowKit3
import Derived.WalkSmall
import Derived.ScopeJumps
import Derived.WalkMore
import Derived.Deep.RegionHeld3
import Derived.BigQuiet
import Derived.Deep.QuietTactic
namespace Go.Proofs.Ytmcihnpghcdnmaa
open Go.RowKit Go.Fil
attribute [local irreducible] fop fsqrt fup fabs fneg pick

theorem bcell {W w1 : World} (hb : Below W.heap.size W w1) : (∀ b o, b < W.heap.size → w1.cell? ⟨b, o, none⟩ = W.cell? ⟨b, o, none⟩) ∧ (∀ b o, b < W.heap.size → w1.frozen? ⟨b, o, none⟩ = W.frozen? ⟨b, o, none⟩) :=
  ⟨fun b o h => hb.cell (p := ⟨b, o, none⟩) h, fun b o h => hb.frozen (p := ⟨b, o, none⟩) h⟩
/-- A ball, new memory; a yes or no, new memory. -/
def RB (B : Bl) (w : World) (e : Ending) (w' : World) : Prop := e = .returned (.agg #[.complex .f64 B.1 B.2.1, .float .f64 B.2.2]) ∧ Below w.heap.size w w'
def RY (y : Bool) (w : World) (e : Ending) (w' : World) : Prop := e = .returned (.bool y) ∧ Below w.heap.size w w'

theorem whole_any (w : World) : Calls Try.prog 41 #[] w (RB wholeS w) := by
  go_enter Try.func41, Try.ntmps41
  go_wp2_with (go_at_call 28; refine (inf1_any _).mono ?_; rintro e w' ⟨rfl, rfl⟩)
  exact bodyPost_ret (v := .agg #[.complex .f64 0 0, .float .f64 9218868437227405312]) (by simp [results, Try.results41, go_sem]) rfl ⟨rfl, by repeat (first | exact Below.refl _ _ | refine below_drewN ?_ _ | refine Below.alloc ?_ (by first | omega | (simp; omega) | simp) _ | refine Below.setCell ?_ (by first | omega | (simp; omega) | simp) _ | refine Below.trans ?_ (Below.mono (by assumption) (by first | omega | (simp; omega) | simp)) | apply Below.drew)⟩
theorem may_any (a b r : Nat) (w : World) : Calls Try.prog 36 #[.agg #[.complex .f64 a b, .float .f64 r]] w (RY (mayS (a, b, r)) w) := by
  cases h1 : pinfB r
  · have e1 : mayS (a, b, r) = (cfin a b && (finB r && !signB r)) := by unfold mayS; simp [h1]
    rw [e1]
    clear e1
    cases h2 : cfin a b <;> cases h3 : finB r <;> cases h4 : signB r
    all_goals
      go_enter Try.func36, Try.ntmps36
      go_wp2_with (first
        | (go_at_call 11; refine (isinf1_any _ _).mono ?_; rintro e w' ⟨rfl, rfl⟩)
        | (go_at_call 61; refine (bfinite_any _ _ _).mono ?_; rintro e w' ⟨rfl, rfl⟩)
        | (go_at_call 46; refine (finite_any _ _).mono ?_; rintro e w' ⟨n, rfl, rfl⟩)
        | (go_at_call 62; refine (signbit_any _ _).mono ?_; rintro e w' ⟨rfl, rfl⟩))
      go_ret
      exact ⟨rfl, by repeat (first | exact Below.refl _ _ | refine below_drewN ?_ _ | refine Below.alloc ?_ (by first | omega | (simp; omega) | simp) _ | refine Below.setCell ?_ (by first | omega | (simp; omega) | simp) _ | refine Below.trans ?_ (Below.mono (by assumption) (by first | omega | (simp; omega) | simp)) | apply Below.drew)⟩
  · have e1 : mayS (a, b, r) = (likeB a 0 && likeB b 0) := by unfold mayS; simp [h1]
    rw [e1]
    clear e1
    go_enter Try.func36, Try.ntmps36
    go_wp2_with (first
      | (go_at_call 11; refine (isinf1_any _ _).mono ?_; rintro e w' ⟨rfl, rfl⟩)
      | (go_at_call 60; refine (csame_any _ _ _ _ _).mono ?_; rintro e w' ⟨rfl, rfl⟩))
    go_ret
    exact ⟨rfl, by repeat (first | exact Below.refl _ _ | refine below_drewN ?_ _ | refine Below.alloc ?_ (by first | omega | (simp; omega) | simp) _ | refine Below.setCell ?_ (by first | omega | (simp; omega) | simp) _ | refine Below.trans ?_ (Below.mono (by assumption) (by first | omega | (simp; omega) | simp)) | apply Below.drew)⟩
theorem iswhole_any (a b r : Nat) (w : World) : Calls Try.prog 40 #[.agg #[.complex .f64 a b, .float .f64 r]] w (RY (isWholeS (a, b, r)) w) := by
  unfold isWholeS
  cases h1 : mayS (a, b, r)
  · go_enter Try.func40, Try.ntmps40
    go_wp2_with (go_at_call 36; refine (may_any _ _ _ _).mono ?_; rintro e w' ⟨rfl, hb⟩)
    go_ret
    exact ⟨rfl, (show Below w.heap.size w _ by repeat (first | exact Below.refl _ _ | refine below_drewN ?_ _ | refine Below.alloc ?_ (by first | omega | (simp; omega) | simp) _ | refine Below.setCell ?_ (by first | omega | (simp; omega) | simp) _ | refine Below.trans ?_ (Below.mono (by assumption) (by first | omega | (simp; omega) | simp)) | apply Below.drew)).trans (hb.mono (by simp))⟩
  · go_enter Try.func40, Try.ntmps40
    go_wp2_with (first
      | (go_at_call 36; refine (may_any _ _ _ _).mono ?_; rintro e w' ⟨rfl, hb⟩; obtain ⟨hc, hf⟩ := bcell hb)
      | (go_at_call 11; refine (isinf1_any _ _).mono ?_; rintro e w' ⟨rfl, rfl⟩))
    go_ret
    exact ⟨rfl, (show Below w.heap.size w _ by repeat (first | exact Below.refl _ _ | refine below_drewN ?_ _ | refine Below.alloc ?_ (by first | omega | (simp; omega) | simp) _ | refine Below.setCell ?_ (by first | omega | (simp; omega) | simp) _ | refine Below.trans ?_ (Below.mono (by assumption) (by first | omega | (simp; omega) | simp)) | apply Below.drew)).trans (hb.mono (by simp))⟩
/-- A scope in which one label is jumped to, once, from ahead of it. -/
theorem wp_scope_once {P : Program} {a : Act} {w : World} {Q : Exit → Act → World → Prop} {c rest : Code} (l : Nat) (hf : findLabel c l = some rest)
    (first : c.wp P (Exit.jump l (fun a' w' => rest.wp P (Exit.jump l (fun _ _ => False) Q) a' w') Q) a w) : (Code.scope c).wp P Q a w :=
  wp_scope_jumps l (fun a' w' => rest.wp P (Exit.jump l (fun _ _ => False) Q) a' w') (fun _ _ => 0) hf first fun _ _ h =>
    Code.wp_mono (fun e _ _ q => by cases e <;> first | exact q | exact ⟨q.1, q.2.elim⟩) h
theorem told_fin (a b r : Nat) (h1 : cfin a b = true) (h2 : finB r = true) (w : World) : Calls Try.prog 39 #[.complex .f64 a b, .float .f64 r] w (RB (a, b, r) w) := by
  go_enter Try.func39, Try.ntmps39
  go_wp2
  go_step3
  go_wp2_with (first
    | (go_at_call 61; refine (bfinite_any _ _ _).mono ?_; rintro e w' ⟨rfl, rfl⟩)
    | (go_at_call 46; refine (finite_any _ _).mono ?_; rintro e w' ⟨n, rfl, rfl⟩))
  simp only [Exit.noGoto]
  exact bodyPost_ret (v := .agg #[.complex .f64 a b, .float .f64 r]) (by simp [results, Try.results39, go_sem]) rfl ⟨rfl, by repeat (first | exact Below.refl _ _ | refine below_drewN ?_ _ | refine Below.alloc ?_ (by first | omega | (simp; omega) | simp) _ | refine Below.setCell ?_ (by first | omega | (simp; omega) | simp) _ | refine Below.trans ?_ (Below.mono (by assumption) (by first | omega | (simp; omega) | simp)) | apply Below.drew)⟩
theorem told_not (a b r : Nat) (h : (cfin a b && finB r) = false) (w : World) : Calls Try.prog 39 #[.complex .f64 a b, .float .f64 r] w (RB wholeS w) := by
  cases h1 : cfin a b
  · clear h
    go_enter Try.func39, Try.ntmps39
    go_wp2
    refine wp_scope_once 0 rfl ?_
    go_wp2_with (first
      | (go_at_call 61; refine (bfinite_any _ _ _).mono ?_; rintro e w' ⟨rfl, rfl⟩)
      | (go_at_call 46; refine (finite_any _ _).mono ?_; rintro e w' ⟨n, rfl, rfl⟩))
    go_step3
    refine ⟨rfl, ?_⟩
    go_wp2_with (go_at_call 41; refine (whole_any _).mono ?_; rintro e w' ⟨rfl, hb⟩; obtain ⟨hc, hf⟩ := bcell hb)
    simp only [Exit.jump]
    exact bodyPost_ret (v := .agg #[.complex .f64 wholeS.1 wholeS.2.1, .float .f64 wholeS.2.2]) (by simp [results, Try.results39, go_sem, hc]) rfl ⟨rfl, by repeat (first | exact Below.refl _ _ | refine below_drewN ?_ _ | refine Below.alloc ?_ (by first | omega | (simp; omega) | simp) _ | refine Below.setCell ?_ (by first | omega | (simp; omega) | simp) _ | refine Below.trans ?_ (Below.mono (by assumption) (by first | omega | (simp; omega) | simp)) | apply Below.drew)⟩
  · rw [h1] at h
    have h2 : finB r = false := by simpa using h
    clear h
    go_enter Try.func39, Try.ntmps39
    go_wp2
    refine wp_scope_once 0 rfl ?_
    go_wp2_with (first
      | (go_at_call 61; refine (bfinite_any _ _ _).mono ?_; rintro e w' ⟨rfl, rfl⟩)
      | (go_at_call 46; refine (finite_any _ _).mono ?_; rintro e w' ⟨n, rfl, rfl⟩))
    go_step3
    refine ⟨rfl, ?_⟩
    go_wp2_with (go_at_call 41; refine (whole_any _).mono ?_; rintro e w' ⟨rfl, hb⟩; obtain ⟨hc, hf⟩ := bcell hb)
    simp only [Exit.jump]
    exact bodyPost_ret (v := .agg #[.complex .f64 wholeS.1 wholeS.2.1, .float .f64 wholeS.2.2]) (by simp [results, Try.results39, go_sem, hc]) rfl ⟨rfl, by repeat (first | exact Below.refl _ _ | refine below_drewN ?_ _ | refine Below.alloc ?_ (by first | omega | (simp; omega) | simp) _ | refine Below.setCell ?_ (by first | omega | (simp; omega) | simp) _ | refine Below.trans ?_ (Below.mono (by assumption) (by first | omega | (simp; omega) | simp)) | apply Below.drew)⟩
theorem told_any (a b r : Nat) (w : World) : Calls Try.prog 39 #[.complex .f64 a b, .float .f64 r] w (RB (toldS a b r) w) := by
  unfold toldS
  split
  · rename_i h
    simp only [Bool.and_eq_true] at h
    exact told_fin a b r h.1 h.2 w
  · rename_i h
    exact told_not a b r (by simpa using h) w
theorem point_any (a b : Nat) (w : World) : Calls Try.prog 19 #[.complex .f64 a b] w (RB (pointS a b) w) := by
  unfold pointS
  go_enter Try.func19, Try.ntmps19
  go_wp2_with (go_at_call 39; refine (told_any _ _ _ _).mono ?_; rintro e w' ⟨rfl, hb⟩; obtain ⟨hc, hf⟩ := bcell hb)
  exact bodyPost_ret (v := .agg #[.complex .f64 (toldS a b 0).1 (toldS a b 0).2.1, .float .f64 (toldS a b 0).2.2]) (by simp [results, Try.results19, go_sem, hc]) rfl ⟨rfl, by repeat (first | exact Below.refl _ _ | refine below_drewN ?_ _ | refine Below.alloc ?_ (by first | omega | (simp; omega) | simp) _ | refine Below.setCell ?_ (by first | omega | (simp; omega) | simp) _ | refine Below.trans ?_ (Below.mono (by assumption) (by first | omega | (simp; omega) | simp)) | apply Below.drew)⟩
end Go.Proofs.Ytmcihnpghcdnmaa
