/- The contracts of package ball's functions on balls whose statements draw their order, at this translation. -/
import Derived.Test.YtmcihnpghcdnmaaBa
namespace Go.Proofs.Ytmcihnpghcdnmaa
open Go.RowKit Go.Fil
attribute [local irreducible] fop fsqrt fup fabs fneg pick

theorem bneg_not (a b r : Nat) (h : isWholeS (a, b, r) = false) (w : World) : Calls Try.prog 20 #[.agg #[.complex .f64 a b, .float .f64 r]] w (RB (fneg a, fneg b, r) w) := by
  have hn := not_whole_nan h
  have n1 : ∀ s, pick (fneg a) s = fneg a := pick_of (by rw [isNaN_fneg]; exact hn.1)
  have n2 : ∀ s, pick (fneg b) s = fneg b := pick_of (by rw [isNaN_fneg]; exact hn.2.1)
  clear hn
  go_enter Try.func20, Try.ntmps20
  go_wp2_with (go_at_call 40; refine (iswhole_any _ _ _ _).mono ?_; rintro e w1 ⟨rfl, hb⟩; obtain ⟨hc, hf⟩ := bcell hb; (try simp only [World.heap_drewN, World.cell?_drewN, World.frozen?_drewN] at hc hf); have z0 : w.heap.size < w1.heap.size := (by have := hb.size; (try simp at this); omega); have z1 : w.heap.size + 1 < w1.heap.size := (by have := hb.size; (try simp at this); omega))
  go_region_held3 (fun x => x.cell? ⟨w.heap.size, 0, none⟩ = some (.complex .f64 a b) ∧ x.cell? ⟨w.heap.size, 1, none⟩ = some (.float .f64 r)) (simp [go_sem, *])
    (first
      | (go_at_call 42; refine (cneg_any _ _ _).mono ?_; rintro e w' ⟨s, t, rfl, rfl⟩; simp only [n1, n2]))
  go_wp2
  exact bodyPost_ret (v := .agg #[.complex .f64 (fneg a) (fneg b), .float .f64 r]) (by simp [results, Try.results20, go_sem, hc]) rfl ⟨rfl, by repeat (first | exact Below.refl _ _ | refine below_drewN ?_ _ | refine Below.alloc ?_ (by first | omega | (simp; omega) | simp) _ | refine Below.setCell ?_ (by first | omega | (simp; omega) | simp) _ | refine Below.trans ?_ (Below.mono (by assumption) (by first | omega | (simp; omega) | simp)) | apply Below.drew)⟩
theorem bneg_whole (a b r : Nat) (h : isWholeS (a, b, r) = true) (w : World) : Calls Try.prog 20 #[.agg #[.complex .f64 a b, .float .f64 r]] w (RB wholeS w) := by
  go_enter Try.func20, Try.ntmps20
  go_wp2_with (first
    | (go_at_call 40; refine (iswhole_any _ _ _ _).mono ?_; rintro e w1 ⟨rfl, hb⟩; obtain ⟨hc, hf⟩ := bcell hb; (try simp only [World.heap_drewN, World.cell?_drewN, World.frozen?_drewN] at hc hf); have z0 : w.heap.size < w1.heap.size := (by have := hb.size; (try simp at this); omega); have z1 : w.heap.size + 1 < w1.heap.size := (by have := hb.size; (try simp at this); omega))
    | (go_at_call 41; refine (whole_any _).mono ?_; rintro e w1 ⟨rfl, hb⟩; obtain ⟨hc, hf⟩ := bcell hb; (try simp only [World.heap_drewN, World.cell?_drewN, World.frozen?_drewN] at hc hf); have z0 : w.heap.size < w1.heap.size := (by have := hb.size; (try simp at this); omega); have z1 : w.heap.size + 1 < w1.heap.size := (by have := hb.size; (try simp at this); omega)))
  exact bodyPost_ret (v := .agg #[.complex .f64 wholeS.1 wholeS.2.1, .float .f64 wholeS.2.2]) (by simp [results, Try.results20, go_sem, *]) rfl ⟨rfl, by repeat (first | exact Below.refl _ _ | refine below_drewN ?_ _ | refine Below.alloc ?_ (by first | omega | (simp; omega) | simp) _ | refine Below.setCell ?_ (by first | omega | (simp; omega) | simp) _ | refine Below.trans ?_ (Below.mono (by assumption) (by first | omega | (simp; omega) | simp)) | apply Below.drew)⟩
theorem bneg_any (a b r : Nat) (w : World) : Calls Try.prog 20 #[.agg #[.complex .f64 a b, .float .f64 r]] w (RB (negS (a, b, r)) w) := by
  unfold negS
  cases h : isWholeS (a, b, r)
  · exact bneg_not a b r h w
  · exact bneg_whole a b r h w
theorem bhi_not (a b r : Nat) (h : isWholeS (a, b, r) = false) (w : World) : Calls Try.prog 22 #[.agg #[.complex .f64 a b, .float .f64 r]] w fun e w' => ∃ s, e = .returned (.float .f64 (pick (plusS (hiS a b) r) s)) ∧ Below w.heap.size w w' := by
  go_enter Try.func22, Try.ntmps22
  go_wp2_with (go_at_call 40; refine (iswhole_any _ _ _ _).mono ?_; rintro e w1 ⟨rfl, hb⟩; obtain ⟨hc, hf⟩ := bcell hb; (try simp only [World.heap_drewN, World.cell?_drewN, World.frozen?_drewN] at hc hf); have z0 : w.heap.size < w1.heap.size := (by have := hb.size; try simp at this; omega))
  go_region_held3 (fun x => x.cell? ⟨w.heap.size, 0, none⟩ = some (.complex .f64 a b) ∧ x.cell? ⟨w.heap.size, 1, none⟩ = some (.float .f64 r)) (simp [go_sem, *])
    (first
      | (go_at_call 10; refine (hi_any _ _ _).mono ?_; rintro e w' ⟨s, n, rfl, rfl⟩)
      | (go_at_call 43; refine (plus_any _ _ _).mono ?_; rintro e w' ⟨s, n, rfl, rfl⟩))
  go_wp2
  go_ret
  exact ⟨_, rfl, by repeat (first | exact Below.refl _ _ | refine below_drewN ?_ _ | refine Below.alloc ?_ (by first | omega | (simp; omega) | simp) _ | refine Below.setCell ?_ (by first | omega | (simp; omega) | simp) _ | refine Below.trans ?_ (Below.mono (by assumption) (by first | omega | (simp; omega) | simp)) | apply Below.drew)⟩
theorem bhi_whole (a b r : Nat) (h : isWholeS (a, b, r) = true) (w : World) : Calls Try.prog 22 #[.agg #[.complex .f64 a b, .float .f64 r]] w fun e w' => e = .returned (.float .f64 9218868437227405312) ∧ Below w.heap.size w w' := by
  go_enter Try.func22, Try.ntmps22
  go_wp2_with (first
    | (go_at_call 40; refine (iswhole_any _ _ _ _).mono ?_; rintro e w1 ⟨rfl, hb⟩; obtain ⟨hc, hf⟩ := bcell hb; (try simp only [World.heap_drewN, World.cell?_drewN, World.frozen?_drewN] at hc hf); have z0 : w.heap.size < w1.heap.size := (by have := hb.size; try simp at this; omega))
    | (go_at_call 28; refine (inf1_any _).mono ?_; rintro e w' ⟨rfl, rfl⟩))
  go_ret
  exact ⟨rfl, by repeat (first | exact Below.refl _ _ | refine below_drewN ?_ _ | refine Below.alloc ?_ (by first | omega | (simp; omega) | simp) _ | refine Below.setCell ?_ (by first | omega | (simp; omega) | simp) _ | refine Below.trans ?_ (Below.mono (by assumption) (by first | omega | (simp; omega) | simp)) | apply Below.drew)⟩
/-- A float, new memory. -/
def RFB (X : Nat) (w : World) (e : Ending) (w' : World) : Prop := ∃ s, e = .returned (.float .f64 (pick X s)) ∧ Below w.heap.size w w'
theorem bhi_any (a b r : Nat) (w : World) : Calls Try.prog 22 #[.agg #[.complex .f64 a b, .float .f64 r]] w (RFB (bhiS (a, b, r)) w) := by
  unfold bhiS
  cases h : isWholeS (a, b, r)
  · exact bhi_not a b r h w
  · exact (bhi_whole a b r h w).mono fun e w' ⟨he, hw⟩ => ⟨0, by rw [if_pos rfl, pick_of (by decide)]; exact he, hw⟩
theorem bsub_not (a b r c d q : Nat) (h1 : isWholeS (a, b, r) = false) (h2 : isWholeS (c, d, q) = false) (w : World) :
    Calls Try.prog 25 #[.agg #[.complex .f64 a b, .float .f64 r], .agg #[.complex .f64 c d, .float .f64 q]] w
      (RB (toldS (fop .sub a c) (fop .sub b d) (plusS (plusS r q) (lostBothS a b (fneg c) (fneg d)))) w) := by
  go_enter Try.func25, Try.ntmps25
  go_wp2_with (go_at_call 40; refine (iswhole_any _ _ _ _).mono ?_; rintro e w1 ⟨rfl, hb⟩; obtain ⟨hc, hf⟩ := bcell hb; (try simp only [World.heap_drewN, World.cell?_drewN, World.frozen?_drewN] at hc hf); have z0 : w.heap.size < w1.heap.size := (by have := hb.size; (try simp at this); omega); have z1 : w.heap.size + 1 < w1.heap.size := (by have := hb.size; (try simp at this); omega); have z2 : w.heap.size + 1 + 1 < w1.heap.size := (by have := hb.size; (try simp at this); omega); have z3 : w.heap.size + 2 < w1.heap.size := (by omega))
  go_region_held3 (fun x => x.cell? ⟨w.heap.size, 0, none⟩ = some (.complex .f64 a b) ∧ x.cell? ⟨w.heap.size, 1, none⟩ = some (.float .f64 r) ∧ x.cell? ⟨w.heap.size + 1, 0, none⟩ = some (.complex .f64 c d) ∧ x.cell? ⟨w.heap.size + 1, 1, none⟩ = some (.float .f64 q)) (((try dsimp only); refine ⟨?_, ?_, ?_, ?_⟩ <;> first | (simp [go_sem, World.cell?_alloc_past, *]; done) | (rw [hc _ _ (by first | assumption | (simp; assumption) | omega | (simp; omega))]; first | exact (‹_ ∧ _ ∧ _ ∧ _›).1 | exact (‹_ ∧ _ ∧ _ ∧ _›).2.1 | exact (‹_ ∧ _ ∧ _ ∧ _›).2.2.1 | exact (‹_ ∧ _ ∧ _ ∧ _›).2.2.2)))
    (first
      | (go_at_call 42; refine (cneg_any _ _ _).mono ?_; rintro e w' ⟨s, t, rfl, rfl⟩)
      | (go_at_call 17; refine (csub_any _ _ _ _ _).mono ?_; rintro e w' ⟨s, t, n, rfl, rfl⟩)
      | (go_at_call 43; refine (plus_any _ _ _).mono ?_; rintro e w' ⟨s, n, rfl, rfl⟩)
      | (go_at_call 47; refine (lostBoth_any _ _ _ _ _).mono ?_; rintro e w' ⟨s, n, rfl, rfl⟩)
      | (go_at_call 39; refine (told_any _ _ _ _).mono ?_; rintro e w1 ⟨rfl, hb⟩; obtain ⟨hc, hf⟩ := bcell hb; (try simp only [World.heap_drewN, World.cell?_drewN, World.frozen?_drewN] at hc hf); have z0 : w.heap.size < w1.heap.size := (by have := hb.size; (try simp at this); omega); have z1 : w.heap.size + 1 < w1.heap.size := (by have := hb.size; (try simp at this); omega); have z2 : w.heap.size + 1 + 1 < w1.heap.size := (by have := hb.size; (try simp at this); omega); have z3 : w.heap.size + 2 < w1.heap.size := (by omega)))
  go_wp2
  exact bodyPost_ret (v := .agg #[.complex .f64 (toldS (fop .sub a c) (fop .sub b d) (plusS (plusS r q) (lostBothS a b (fneg c) (fneg d)))).1 (toldS (fop .sub a c) (fop .sub b d) (plusS (plusS r q) (lostBothS a b (fneg c) (fneg d)))).2.1, .float .f64 (toldS (fop .sub a c) (fop .sub b d) (plusS (plusS r q) (lostBothS a b (fneg c) (fneg d)))).2.2])
    (by simp [results, Try.results25, go_sem, *]) rfl ⟨rfl, by repeat (first | exact Below.refl _ _ | refine below_drewN ?_ _ | refine Below.alloc ?_ (by first | omega | (simp; omega) | simp) _ | refine Below.setCell ?_ (by first | omega | (simp; omega) | simp) _ | refine Below.trans ?_ (Below.mono (by assumption) (by first | omega | (simp; omega) | simp)) | apply Below.drew)⟩
theorem bsub_whole (a b r c d q : Nat) (h : (isWholeS (a, b, r) || isWholeS (c, d, q)) = true) (w : World) :
    Calls Try.prog 25 #[.agg #[.complex .f64 a b, .float .f64 r], .agg #[.complex .f64 c d, .float .f64 q]] w (RB wholeS w) := by
  cases h1 : isWholeS (a, b, r)
  · have h2 : isWholeS (c, d, q) = true := by simpa [h1] using h
    clear h
    go_enter Try.func25, Try.ntmps25
    go_wp2_with (first
      | (go_at_call 40; refine (iswhole_any _ _ _ _).mono ?_; rintro e w1 ⟨rfl, hb⟩; obtain ⟨hc, hf⟩ := bcell hb; (try simp only [World.heap_drewN, World.cell?_drewN, World.frozen?_drewN] at hc hf); have z0 : w.heap.size < w1.heap.size := (by have := hb.size; (try simp at this); omega); have z1 : w.heap.size + 1 < w1.heap.size := (by have := hb.size; (try simp at this); omega); have z2 : w.heap.size + 1 + 1 < w1.heap.size := (by have := hb.size; (try simp at this); omega); have z3 : w.heap.size + 2 < w1.heap.size := (by omega))
      | (go_at_call 41; refine (whole_any _).mono ?_; rintro e w1 ⟨rfl, hb⟩; obtain ⟨hc, hf⟩ := bcell hb; (try simp only [World.heap_drewN, World.cell?_drewN, World.frozen?_drewN] at hc hf); have z0 : w.heap.size < w1.heap.size := (by have := hb.size; (try simp at this); omega); have z1 : w.heap.size + 1 < w1.heap.size := (by have := hb.size; (try simp at this); omega); have z2 : w.heap.size + 1 + 1 < w1.heap.size := (by have := hb.size; (try simp at this); omega); have z3 : w.heap.size + 2 < w1.heap.size := (by omega)))
    exact bodyPost_ret (v := .agg #[.complex .f64 wholeS.1 wholeS.2.1, .float .f64 wholeS.2.2]) (by simp [results, Try.results25, go_sem, *]) rfl ⟨rfl, by repeat (first | exact Below.refl _ _ | refine below_drewN ?_ _ | refine Below.alloc ?_ (by first | omega | (simp; omega) | simp) _ | refine Below.setCell ?_ (by first | omega | (simp; omega) | simp) _ | refine Below.trans ?_ (Below.mono (by assumption) (by first | omega | (simp; omega) | simp)) | apply Below.drew)⟩
  · clear h
    go_enter Try.func25, Try.ntmps25
    go_wp2_with (first
      | (go_at_call 40; refine (iswhole_any _ _ _ _).mono ?_; rintro e w1 ⟨rfl, hb⟩; obtain ⟨hc, hf⟩ := bcell hb; (try simp only [World.heap_drewN, World.cell?_drewN, World.frozen?_drewN] at hc hf); have z0 : w.heap.size < w1.heap.size := (by have := hb.size; (try simp at this); omega); have z1 : w.heap.size + 1 < w1.heap.size := (by have := hb.size; (try simp at this); omega); have z2 : w.heap.size + 1 + 1 < w1.heap.size := (by have := hb.size; (try simp at this); omega); have z3 : w.heap.size + 2 < w1.heap.size := (by omega))
      | (go_at_call 41; refine (whole_any _).mono ?_; rintro e w1 ⟨rfl, hb⟩; obtain ⟨hc, hf⟩ := bcell hb; (try simp only [World.heap_drewN, World.cell?_drewN, World.frozen?_drewN] at hc hf); have z0 : w.heap.size < w1.heap.size := (by have := hb.size; (try simp at this); omega); have z1 : w.heap.size + 1 < w1.heap.size := (by have := hb.size; (try simp at this); omega); have z2 : w.heap.size + 1 + 1 < w1.heap.size := (by have := hb.size; (try simp at this); omega); have z3 : w.heap.size + 2 < w1.heap.size := (by omega)))
    exact bodyPost_ret (v := .agg #[.complex .f64 wholeS.1 wholeS.2.1, .float .f64 wholeS.2.2]) (by simp [results, Try.results25, go_sem, *]) rfl ⟨rfl, by repeat (first | exact Below.refl _ _ | refine below_drewN ?_ _ | refine Below.alloc ?_ (by first | omega | (simp; omega) | simp) _ | refine Below.setCell ?_ (by first | omega | (simp; omega) | simp) _ | refine Below.trans ?_ (Below.mono (by assumption) (by first | omega | (simp; omega) | simp)) | apply Below.drew)⟩
theorem bsub_any (a b r c d q : Nat) (w : World) :
    Calls Try.prog 25 #[.agg #[.complex .f64 a b, .float .f64 r], .agg #[.complex .f64 c d, .float .f64 q]] w (RB (subS (a, b, r) (c, d, q)) w) := by
  unfold subS
  cases h1 : isWholeS (a, b, r)
  · cases h2 : isWholeS (c, d, q)
    · exact bsub_not a b r c d q h1 h2 w
    · exact bsub_whole a b r c d q (by rw [h1, h2]; rfl) w
  · exact bsub_whole a b r c d q (by rw [h1]; rfl) w
theorem badd_not (a b r c d q : Nat) (h1 : isWholeS (a, b, r) = false) (h2 : isWholeS (c, d, q) = false) (w : World) :
    Calls Try.prog 66 #[.agg #[.complex .f64 a b, .float .f64 r], .agg #[.complex .f64 c d, .float .f64 q]] w
      (RB (toldS (fop .add a c) (fop .add b d) (plusS (plusS r q) (lostBothS a b c d))) w) := by
  go_enter Try.func66, Try.ntmps66
  go_wp2_with (go_at_call 40; refine (iswhole_any _ _ _ _).mono ?_; rintro e w1 ⟨rfl, hb⟩; obtain ⟨hc, hf⟩ := bcell hb; (try simp only [World.heap_drewN, World.cell?_drewN, World.frozen?_drewN] at hc hf); have z0 : w.heap.size < w1.heap.size := (by have := hb.size; (try simp at this); omega); have z1 : w.heap.size + 1 < w1.heap.size := (by have := hb.size; (try simp at this); omega); have z2 : w.heap.size + 1 + 1 < w1.heap.size := (by have := hb.size; (try simp at this); omega); have z3 : w.heap.size + 2 < w1.heap.size := (by omega))
  go_region_held3 (fun x => x.cell? ⟨w.heap.size, 0, none⟩ = some (.complex .f64 a b) ∧ x.cell? ⟨w.heap.size, 1, none⟩ = some (.float .f64 r) ∧ x.cell? ⟨w.heap.size + 1, 0, none⟩ = some (.complex .f64 c d) ∧ x.cell? ⟨w.heap.size + 1, 1, none⟩ = some (.float .f64 q)) (((try dsimp only); refine ⟨?_, ?_, ?_, ?_⟩ <;> first | (simp [go_sem, World.cell?_alloc_past, *]; done) | (rw [hc _ _ (by first | assumption | (simp; assumption) | omega | (simp; omega))]; first | exact (‹_ ∧ _ ∧ _ ∧ _›).1 | exact (‹_ ∧ _ ∧ _ ∧ _›).2.1 | exact (‹_ ∧ _ ∧ _ ∧ _›).2.2.1 | exact (‹_ ∧ _ ∧ _ ∧ _›).2.2.2)))
    (first
      | (go_at_call 58; refine (cadd_any _ _ _ _ _).mono ?_; rintro e w' ⟨s, t, n, rfl, rfl⟩)
      | (go_at_call 43; refine (plus_any _ _ _).mono ?_; rintro e w' ⟨s, n, rfl, rfl⟩)
      | (go_at_call 47; refine (lostBoth_any _ _ _ _ _).mono ?_; rintro e w' ⟨s, n, rfl, rfl⟩)
      | (go_at_call 39; refine (told_any _ _ _ _).mono ?_; rintro e w1 ⟨rfl, hb⟩; obtain ⟨hc, hf⟩ := bcell hb; (try simp only [World.heap_drewN, World.cell?_drewN, World.frozen?_drewN] at hc hf); have z0 : w.heap.size < w1.heap.size := (by have := hb.size; (try simp at this); omega); have z1 : w.heap.size + 1 < w1.heap.size := (by have := hb.size; (try simp at this); omega); have z2 : w.heap.size + 1 + 1 < w1.heap.size := (by have := hb.size; (try simp at this); omega); have z3 : w.heap.size + 2 < w1.heap.size := (by omega)))
  go_wp2
  exact bodyPost_ret (v := .agg #[.complex .f64 (toldS (fop .add a c) (fop .add b d) (plusS (plusS r q) (lostBothS a b c d))).1 (toldS (fop .add a c) (fop .add b d) (plusS (plusS r q) (lostBothS a b c d))).2.1, .float .f64 (toldS (fop .add a c) (fop .add b d) (plusS (plusS r q) (lostBothS a b c d))).2.2])
    (by simp [results, Try.results66, go_sem, *]) rfl ⟨rfl, by repeat (first | exact Below.refl _ _ | refine below_drewN ?_ _ | refine Below.alloc ?_ (by first | omega | (simp; omega) | simp) _ | refine Below.setCell ?_ (by first | omega | (simp; omega) | simp) _ | refine Below.trans ?_ (Below.mono (by assumption) (by first | omega | (simp; omega) | simp)) | apply Below.drew)⟩
theorem badd_whole (a b r c d q : Nat) (h : (isWholeS (a, b, r) || isWholeS (c, d, q)) = true) (w : World) :
    Calls Try.prog 66 #[.agg #[.complex .f64 a b, .float .f64 r], .agg #[.complex .f64 c d, .float .f64 q]] w (RB wholeS w) := by
  cases h1 : isWholeS (a, b, r)
  · have h2 : isWholeS (c, d, q) = true := by simpa [h1] using h
    clear h
    go_enter Try.func66, Try.ntmps66
    go_wp2_with (first
      | (go_at_call 40; refine (iswhole_any _ _ _ _).mono ?_; rintro e w1 ⟨rfl, hb⟩; obtain ⟨hc, hf⟩ := bcell hb; (try simp only [World.heap_drewN, World.cell?_drewN, World.frozen?_drewN] at hc hf); have z0 : w.heap.size < w1.heap.size := (by have := hb.size; (try simp at this); omega); have z1 : w.heap.size + 1 < w1.heap.size := (by have := hb.size; (try simp at this); omega); have z2 : w.heap.size + 1 + 1 < w1.heap.size := (by have := hb.size; (try simp at this); omega); have z3 : w.heap.size + 2 < w1.heap.size := (by omega))
      | (go_at_call 41; refine (whole_any _).mono ?_; rintro e w1 ⟨rfl, hb⟩; obtain ⟨hc, hf⟩ := bcell hb; (try simp only [World.heap_drewN, World.cell?_drewN, World.frozen?_drewN] at hc hf); have z0 : w.heap.size < w1.heap.size := (by have := hb.size; (try simp at this); omega); have z1 : w.heap.size + 1 < w1.heap.size := (by have := hb.size; (try simp at this); omega); have z2 : w.heap.size + 1 + 1 < w1.heap.size := (by have := hb.size; (try simp at this); omega); have z3 : w.heap.size + 2 < w1.heap.size := (by omega)))
    exact bodyPost_ret (v := .agg #[.complex .f64 wholeS.1 wholeS.2.1, .float .f64 wholeS.2.2]) (by simp [results, Try.results66, go_sem, *]) rfl ⟨rfl, by repeat (first | exact Below.refl _ _ | refine below_drewN ?_ _ | refine Below.alloc ?_ (by first | omega | (simp; omega) | simp) _ | refine Below.setCell ?_ (by first | omega | (simp; omega) | simp) _ | refine Below.trans ?_ (Below.mono (by assumption) (by first | omega | (simp; omega) | simp)) | apply Below.drew)⟩
  · clear h
    go_enter Try.func66, Try.ntmps66
    go_wp2_with (first
      | (go_at_call 40; refine (iswhole_any _ _ _ _).mono ?_; rintro e w1 ⟨rfl, hb⟩; obtain ⟨hc, hf⟩ := bcell hb; (try simp only [World.heap_drewN, World.cell?_drewN, World.frozen?_drewN] at hc hf); have z0 : w.heap.size < w1.heap.size := (by have := hb.size; (try simp at this); omega); have z1 : w.heap.size + 1 < w1.heap.size := (by have := hb.size; (try simp at this); omega); have z2 : w.heap.size + 1 + 1 < w1.heap.size := (by have := hb.size; (try simp at this); omega); have z3 : w.heap.size + 2 < w1.heap.size := (by omega))
      | (go_at_call 41; refine (whole_any _).mono ?_; rintro e w1 ⟨rfl, hb⟩; obtain ⟨hc, hf⟩ := bcell hb; (try simp only [World.heap_drewN, World.cell?_drewN, World.frozen?_drewN] at hc hf); have z0 : w.heap.size < w1.heap.size := (by have := hb.size; (try simp at this); omega); have z1 : w.heap.size + 1 < w1.heap.size := (by have := hb.size; (try simp at this); omega); have z2 : w.heap.size + 1 + 1 < w1.heap.size := (by have := hb.size; (try simp at this); omega); have z3 : w.heap.size + 2 < w1.heap.size := (by omega)))
    exact bodyPost_ret (v := .agg #[.complex .f64 wholeS.1 wholeS.2.1, .float .f64 wholeS.2.2]) (by simp [results, Try.results66, go_sem, *]) rfl ⟨rfl, by repeat (first | exact Below.refl _ _ | refine below_drewN ?_ _ | refine Below.alloc ?_ (by first | omega | (simp; omega) | simp) _ | refine Below.setCell ?_ (by first | omega | (simp; omega) | simp) _ | refine Below.trans ?_ (Below.mono (by assumption) (by first | omega | (simp; omega) | simp)) | apply Below.drew)⟩
theorem badd_any (a b r c d q : Nat) (w : World) :
    Calls Try.prog 66 #[.agg #[.complex .f64 a b, .float .f64 r], .agg #[.complex .f64 c d, .float .f64 q]] w (RB (addS (a, b, r) (c, d, q)) w) := by
  unfold addS
  cases h1 : isWholeS (a, b, r)
  · cases h2 : isWholeS (c, d, q)
    · exact badd_not a b r c d q h1 h2 w
    · exact badd_whole a b r c d q (by rw [h1, h2]; rfl) w
  · exact badd_whole a b r c d q (by rw [h1]; rfl) w
theorem bmul_not (a b r c d q : Nat) (h1 : isWholeS (a, b, r) = false) (h2 : isWholeS (c, d, q) = false) (w : World) :
    Calls Try.prog 21 #[.agg #[.complex .f64 a b, .float .f64 r], .agg #[.complex .f64 c d, .float .f64 q]] w
      (RB (toldS (mulRe a b c d) (mulIm a b c d) (plusS (plusS (timesS (hiS a b) q) (timesS (hiS c d) r)) (plusS (timesS r q) (spoiltS a b c d)))) w) := by
  go_enter Try.func21, Try.ntmps21
  go_wp2_with (go_at_call 40; refine (iswhole_any _ _ _ _).mono ?_; rintro e w1 ⟨rfl, hb⟩; obtain ⟨hc, hf⟩ := bcell hb; (try simp only [World.heap_drewN, World.cell?_drewN, World.frozen?_drewN] at hc hf); have z0 : w.heap.size < w1.heap.size := (by have := hb.size; (try simp at this); omega); have z1 : w.heap.size + 1 < w1.heap.size := (by have := hb.size; (try simp at this); omega); have z2 : w.heap.size + 1 + 1 < w1.heap.size := (by have := hb.size; (try simp at this); omega); have z3 : w.heap.size + 2 < w1.heap.size := (by omega))
  go_region_held3 (fun x => x.cell? ⟨w.heap.size, 0, none⟩ = some (.complex .f64 a b) ∧ x.cell? ⟨w.heap.size, 1, none⟩ = some (.float .f64 r) ∧ x.cell? ⟨w.heap.size + 1, 0, none⟩ = some (.complex .f64 c d) ∧ x.cell? ⟨w.heap.size + 1, 1, none⟩ = some (.float .f64 q)) (((try dsimp only); refine ⟨?_, ?_, ?_, ?_⟩ <;> first | (simp [go_sem, World.cell?_alloc_past, *]; done) | (rw [hc _ _ (by first | assumption | (simp; assumption) | omega | (simp; omega))]; first | exact (‹_ ∧ _ ∧ _ ∧ _›).1 | exact (‹_ ∧ _ ∧ _ ∧ _›).2.1 | exact (‹_ ∧ _ ∧ _ ∧ _›).2.2.1 | exact (‹_ ∧ _ ∧ _ ∧ _›).2.2.2)))
    (first
      | (go_at_call 10; refine (hi_any _ _ _).mono ?_; rintro e w' ⟨s, n, rfl, rfl⟩)
      | (go_at_call 44; refine (times_any _ _ _).mono ?_; rintro e w' ⟨s, n, rfl, rfl⟩)
      | (go_at_call 43; refine (plus_any _ _ _).mono ?_; rintro e w' ⟨s, n, rfl, rfl⟩))
  go_wp2_with fail
  go_region_held3 (fun x => x.cell? ⟨w.heap.size, 0, none⟩ = some (.complex .f64 a b) ∧ x.cell? ⟨w.heap.size, 1, none⟩ = some (.float .f64 r) ∧ x.cell? ⟨w.heap.size + 1, 0, none⟩ = some (.complex .f64 c d) ∧ x.cell? ⟨w.heap.size + 1, 1, none⟩ = some (.float .f64 q)) (((try dsimp only); refine ⟨?_, ?_, ?_, ?_⟩ <;> first | (simp [go_sem, World.cell?_alloc_past, *]; done) | (rw [hc _ _ (by first | assumption | (simp; assumption) | omega | (simp; omega))]; first | exact (‹_ ∧ _ ∧ _ ∧ _›).1 | exact (‹_ ∧ _ ∧ _ ∧ _›).2.1 | exact (‹_ ∧ _ ∧ _ ∧ _›).2.2.1 | exact (‹_ ∧ _ ∧ _ ∧ _›).2.2.2)))
    (first
      | (go_at_call 12; refine (cmul_any _ _ _ _ _).mono ?_; rintro e w' ⟨s, t, n, rfl, rfl⟩)
      | (go_at_call 44; refine (times_any _ _ _).mono ?_; rintro e w' ⟨s, n, rfl, rfl⟩)
      | (go_at_call 43; refine (plus_any _ _ _).mono ?_; rintro e w' ⟨s, n, rfl, rfl⟩)
      | (go_at_call 45; refine (spoilt_any _ _ _ _ _).mono ?_; rintro e w' ⟨s, n, rfl, rfl⟩)
      | (go_at_call 39; refine (told_any _ _ _ _).mono ?_; rintro e w1 ⟨rfl, hb⟩; obtain ⟨hc, hf⟩ := bcell hb; (try simp only [World.heap_drewN, World.cell?_drewN, World.frozen?_drewN] at hc hf); have z0 : w.heap.size < w1.heap.size := (by have := hb.size; (try simp at this); omega); have z1 : w.heap.size + 1 < w1.heap.size := (by have := hb.size; (try simp at this); omega); have z2 : w.heap.size + 1 + 1 < w1.heap.size := (by have := hb.size; (try simp at this); omega); have z3 : w.heap.size + 2 < w1.heap.size := (by omega)))
  go_wp2
  exact bodyPost_ret (v := .agg #[.complex .f64 (toldS (mulRe a b c d) (mulIm a b c d) (plusS (plusS (timesS (hiS a b) q) (timesS (hiS c d) r)) (plusS (timesS r q) (spoiltS a b c d)))).1 (toldS (mulRe a b c d) (mulIm a b c d) (plusS (plusS (timesS (hiS a b) q) (timesS (hiS c d) r)) (plusS (timesS r q) (spoiltS a b c d)))).2.1, .float .f64 (toldS (mulRe a b c d) (mulIm a b c d) (plusS (plusS (timesS (hiS a b) q) (timesS (hiS c d) r)) (plusS (timesS r q) (spoiltS a b c d)))).2.2])
    (by simp [results, Try.results21, go_sem, *]) rfl ⟨rfl, by repeat (first | exact Below.refl _ _ | refine below_drewN ?_ _ | refine Below.alloc ?_ (by first | omega | (simp; omega) | simp) _ | refine Below.setCell ?_ (by first | omega | (simp; omega) | simp) _ | refine Below.trans ?_ (Below.mono (by assumption) (by first | omega | (simp; omega) | simp)) | apply Below.drew)⟩
theorem bmul_whole (a b r c d q : Nat) (h : (isWholeS (a, b, r) || isWholeS (c, d, q)) = true) (w : World) :
    Calls Try.prog 21 #[.agg #[.complex .f64 a b, .float .f64 r], .agg #[.complex .f64 c d, .float .f64 q]] w (RB wholeS w) := by
  cases h1 : isWholeS (a, b, r)
  · have h2 : isWholeS (c, d, q) = true := by simpa [h1] using h
    clear h
    go_enter Try.func21, Try.ntmps21
    go_wp2_with (first
      | (go_at_call 40; refine (iswhole_any _ _ _ _).mono ?_; rintro e w1 ⟨rfl, hb⟩; obtain ⟨hc, hf⟩ := bcell hb; (try simp only [World.heap_drewN, World.cell?_drewN, World.frozen?_drewN] at hc hf); have z0 : w.heap.size < w1.heap.size := (by have := hb.size; (try simp at this); omega); have z1 : w.heap.size + 1 < w1.heap.size := (by have := hb.size; (try simp at this); omega); have z2 : w.heap.size + 1 + 1 < w1.heap.size := (by have := hb.size; (try simp at this); omega); have z3 : w.heap.size + 2 < w1.heap.size := (by omega))
      | (go_at_call 41; refine (whole_any _).mono ?_; rintro e w1 ⟨rfl, hb⟩; obtain ⟨hc, hf⟩ := bcell hb; (try simp only [World.heap_drewN, World.cell?_drewN, World.frozen?_drewN] at hc hf); have z0 : w.heap.size < w1.heap.size := (by have := hb.size; (try simp at this); omega); have z1 : w.heap.size + 1 < w1.heap.size := (by have := hb.size; (try simp at this); omega); have z2 : w.heap.size + 1 + 1 < w1.heap.size := (by have := hb.size; (try simp at this); omega); have z3 : w.heap.size + 2 < w1.heap.size := (by omega)))
    exact bodyPost_ret (v := .agg #[.complex .f64 wholeS.1 wholeS.2.1, .float .f64 wholeS.2.2]) (by simp [results, Try.results21, go_sem, *]) rfl ⟨rfl, by repeat (first | exact Below.refl _ _ | refine below_drewN ?_ _ | refine Below.alloc ?_ (by first | omega | (simp; omega) | simp) _ | refine Below.setCell ?_ (by first | omega | (simp; omega) | simp) _ | refine Below.trans ?_ (Below.mono (by assumption) (by first | omega | (simp; omega) | simp)) | apply Below.drew)⟩
  · clear h
    go_enter Try.func21, Try.ntmps21
    go_wp2_with (first
      | (go_at_call 40; refine (iswhole_any _ _ _ _).mono ?_; rintro e w1 ⟨rfl, hb⟩; obtain ⟨hc, hf⟩ := bcell hb; (try simp only [World.heap_drewN, World.cell?_drewN, World.frozen?_drewN] at hc hf); have z0 : w.heap.size < w1.heap.size := (by have := hb.size; (try simp at this); omega); have z1 : w.heap.size + 1 < w1.heap.size := (by have := hb.size; (try simp at this); omega); have z2 : w.heap.size + 1 + 1 < w1.heap.size := (by have := hb.size; (try simp at this); omega); have z3 : w.heap.size + 2 < w1.heap.size := (by omega))
      | (go_at_call 41; refine (whole_any _).mono ?_; rintro e w1 ⟨rfl, hb⟩; obtain ⟨hc, hf⟩ := bcell hb; (try simp only [World.heap_drewN, World.cell?_drewN, World.frozen?_drewN] at hc hf); have z0 : w.heap.size < w1.heap.size := (by have := hb.size; (try simp at this); omega); have z1 : w.heap.size + 1 < w1.heap.size := (by have := hb.size; (try simp at this); omega); have z2 : w.heap.size + 1 + 1 < w1.heap.size := (by have := hb.size; (try simp at this); omega); have z3 : w.heap.size + 2 < w1.heap.size := (by omega)))
    exact bodyPost_ret (v := .agg #[.complex .f64 wholeS.1 wholeS.2.1, .float .f64 wholeS.2.2]) (by simp [results, Try.results21, go_sem, *]) rfl ⟨rfl, by repeat (first | exact Below.refl _ _ | refine below_drewN ?_ _ | refine Below.alloc ?_ (by first | omega | (simp; omega) | simp) _ | refine Below.setCell ?_ (by first | omega | (simp; omega) | simp) _ | refine Below.trans ?_ (Below.mono (by assumption) (by first | omega | (simp; omega) | simp)) | apply Below.drew)⟩
theorem bmul_any (a b r c d q : Nat) (w : World) :
    Calls Try.prog 21 #[.agg #[.complex .f64 a b, .float .f64 r], .agg #[.complex .f64 c d, .float .f64 q]] w (RB (mulS (a, b, r) (c, d, q)) w) := by
  unfold mulS
  cases h1 : isWholeS (a, b, r)
  · cases h2 : isWholeS (c, d, q)
    · exact bmul_not a b r c d q h1 h2 w
    · exact bmul_whole a b r c d q (by rw [h1, h2]; rfl) w
  · exact bmul_whole a b r c d q (by rw [h1]; rfl) w
end Go.Proofs.Ytmcihnpghcdnmaa
