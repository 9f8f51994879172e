/- The contract of roots.Certify, at this translation. -/
import Derived.Test.YtmcihnpghcdnmaaNw
namespace Go.Proofs.Ytmcihnpghcdnmaa
open Go.RowKit Go.Fil
attribute [local irreducible] fop fsqrt fup fabs fneg pick fmax

def certR : Nat → Nat → Nat
  | r, 0 => r
  | r, k + 1 => fop .mul (certR r k) 4616189618054758400
def certMove (ps : List Cc) (x y : Nat) (q : Cc) : Bl := negS (mulS (pointS q.1 q.2) (onFrom (pointS x y) (pointsS ps) 0))
def certR0 (M : Bl) (x y : Nat) : Nat := fmax (fmax (fop .mul (bhiS M) 4611686018427387904) (fop .mul (hiS x y) 4382002437431492608)) 103582791429521408
def certAt (ps : List Cc) (M : Bl) (q : Cc) (x y r : Nat) : Bool :=
  mayS (x, y, r) && (contractsS M (subS (pointS fone 0) (mulS (pointS q.1 q.2) (onFrom (x, y, r) (slopesS ps) 0))) r).2
/-- What Certify answers when the derivative may be turned round. -/
def RCf (ps : List Cc) (M : Bl) (q : Cc) (x y r0 : Nat) (w : World) (e : Ending) (w' : World) : Prop :=
  ((∃ k, k < 12 ∧ (∀ j, j < k → certAt ps M q x y (certR r0 j) = false) ∧ certAt ps M q x y (certR r0 k) = true ∧
      e = .returned (.tuple #[.agg #[.complex .f64 x y, .float .f64 (certR r0 k)], .bool true, .int .i64 0])) ∨
   ((∀ j, j < 12 → certAt ps M q x y (certR r0 j) = false) ∧ e = .returned (.tuple #[.agg #[.complex .f64 0 0, .float .f64 0], .bool false, .int .i64 0]))) ∧ Below w.heap.size w w'
theorem mayS_pick (a b r s : Nat) : mayS (a, b, pick r s) = mayS (a, b, r) := by
  cases h : isNaN r
  · rw [pick_of h]
  · have e : ∀ t, isNaN t = true → mayS (a, b, t) = false := by
      intro t ht
      have hf : finB t = false := by
        cases hf : finB t
        · rfl
        · rw [finB_nan hf] at ht; cases ht
      have hp : pinfB t = false := by unfold pinfB; rw [order_nan_l _ ht]; rfl
      unfold mayS; simp [hf, hp]
    rw [e r h, e _ (by rw [isNaN_pick]; exact h)]
theorem mayS_notNaN {a b r : Nat} (h : mayS (a, b, r) = true) : isNaN r = false := by
  cases hr : isNaN r
  · rfl
  · have hf : finB r = false := by
      cases hf : finB r
      · rfl
      · rw [finB_nan hf] at hr; cases hr
    have hp : pinfB r = false := by unfold pinfB; rw [order_nan_l _ hr]; rfl
    unfold mayS at h; simp [hf, hp] at h
theorem mayS_point {x y : Nat} (h : cfin x y = true) : mayS (pointS x y) = true := by
  have h0 : finB 0 = true := by decide +kernel
  have h1 : signB 0 = false := by decide +kernel
  have h2 : pinfB 0 = false := by decide +kernel
  have e : pointS x y = (x, y, 0) := by unfold pointS toldS; rw [h, h0]; rfl
  rw [e]; unfold mayS; simp [h, h0, h1, h2]
theorem SlopeOn_bad (A : Option Addr) (n cap : Nat) (ps : List Cc) (hn : ps.length = n) (hm : n ≤ 9223372036854775807) (a b r : Nat) (w : World) (hs : Seq w w.heap.size A (ps.map cv)) (hc : checkS ps = true) (hmay : mayS (a, b, r) = false) :
    Calls Try.prog 23 #[.slice A n cap, .agg #[.complex .f64 a b, .float .f64 r]] w
      fun e w' => e = .returned (.tuple #[.agg #[.complex .f64 0 0, .float .f64 0], .int .i64 2]) ∧ Below w.heap.size w w' := by
  have HS := Lib.hid hs
  have HN := Lib.hid hn
  clear hs hn
  go_enter Try.func23, Try.ntmps23
  go_wp2_with fail
  refine Calls.mono (all_one (w.heap.size + 1 + 1) A n cap ps HN.out hm w.heap.size _ ?hs ?hg) ?k
  case hs => exact HS.out.below (B' := w.heap.size) (by repeat (first | exact Below.refl _ _ | refine below_drewN ?_ _ | refine Below.alloc ?_ (by first | omega | (simp; omega) | simp) _ | refine Below.setCell ?_ (by first | omega | (simp; omega) | simp) _ | refine Below.trans ?_ (Below.mono (by assumption) (by first | omega | (simp; omega) | simp)) | apply Below.drew)) (Nat.le_refl _)
  case hg => rw [World.cell?_alloc_at _ _ _ _ (by simp)]; rfl
  rintro e w' ⟨rfl, rfl⟩
  rw [hc]
  clear hc
  go_wp2_with (go_at_call 36; refine (may_any _ _ _ _).mono ?_; rintro e w1 ⟨rfl, hb⟩; rw [hmay]; obtain ⟨hc, hf⟩ := bcell hb; (try simp only [World.heap_drewN, World.cell?_drewN, World.frozen?_drewN] at hc hf); have z0 : w.heap.size < w1.heap.size := (by have := hb.size; (try simp at this); omega); have z1 : w.heap.size + 1 < w1.heap.size := (by have := hb.size; (try simp at this); omega))
  exact bodyPost_ret (v := .tuple #[.agg #[.complex .f64 0 0, .float .f64 0], .int .i64 2])
    (by simp [results, Try.results23, go_sem, *]) rfl ⟨rfl, by repeat (first | exact Below.refl _ _ | refine below_drewN ?_ _ | refine Below.alloc ?_ (by first | omega | (simp; omega) | simp) _ | refine Below.setCell ?_ (by first | omega | (simp; omega) | simp) _ | refine Below.trans ?_ (Below.mono (by assumption) (by first | omega | (simp; omega) | simp)) | apply Below.drew)⟩
theorem BCell.drewN {w : World} {G : Nat} {X : Bl} (h : BCell w G X) (n : Nat) : BCell (w.drewN n) G X := ⟨h.c0, h.c1, h.f0, h.f1⟩
theorem BCell.alloc {w : World} {G : Nat} {X : Bl} (h : BCell w G X) (hG : G < w.heap.size) (o : Obj) : BCell (w.alloc o) G X :=
  h.below (B := w.heap.size) ((Below.refl _ _).alloc (Nat.le_refl _) o) hG
attribute [local irreducible] pointS mulS negS addS subS bhiS hiS contractsS onFrom
section
variable (A : Option Addr) (n cap : Nat) (ps : List Cc) (hn : ps.length = n) (hm : n ≤ 9223372036854775807) (hp : 0 < n) (x y : Nat) (w : World) (hs : Seq w w.heap.size A (ps.map cv)) (hc : checkS ps = true)
include hn hm hp hs hc
set_option maxHeartbeats 6400000 in
theorem certify_ok (h1 : n ≠ 1) (hz : cfin x y = true) {v1 v2 : Nat} (hv : atFrom (x, y) (steepS ps) 0 = (v1, v2)) (hv1 : cfin v1 v2 = true) (hv0 : (FloatKind.f64.format.order v1 0 == some .eq && FloatKind.f64.format.order v2 0 == some .eq) = false) {q1 q2 : Nat} (hq1 : quoRe 4607182418800017408 0 v1 v2 = q1) (hq2 : quoIm 4607182418800017408 0 v1 v2 = q2) (hy : cfin q1 q2 = true)
    {Y H M0 M : Bl} (hY : pointS q1 q2 = Y) (hH : onFrom ((pointS x y).1, (pointS x y).2.1, (pointS x y).2.2) (pointsS ps) 0 = H) (hM0 : mulS (Y.1, Y.2.1, Y.2.2) (H.1, H.2.1, H.2.2) = M0) (hM : negS (M0.1, M0.2.1, M0.2.2) = M) :
    Calls Try.prog 8 #[.slice A n cap, .complex .f64 x y] w (RCf ps M (q1, q2) x y (certR0 M x y) w) := by
  have hp' : (0 : Int) < (n : Int) := by omega
  have h1' : ((n : Int) == 1) = false := by rw [beq_eq_false_iff_ne]; omega
  have hy1 := pick_of (cfin_nan hy).1
  have hy2 := pick_of (cfin_nan hy).2
  have HS := Lib.hid hs
  have HN := Lib.hid hn
  clear hs hn
  go_enter Try.func8, Try.ntmps8
  go_wp2
  refine wp_scope_once 0 rfl ?_
  go_wp2_with (first
    | (go_at_call 9; refine (may_ok A n cap ps HN.out hm hp w.heap.size _ (HS.out.alloc (Nat.le_refl _) _) hc).mono ?_; rintro e w' ⟨rfl, rfl⟩)
    | (go_at_call 13; refine (rfinite_any _ _ _).mono ?_; rintro e w' ⟨j, rfl, rfl⟩)
    | (go_at_call 15; refine (SlopeAt_ok A n cap ps HN.out hm _ _ _ ((HS.out.below (B' := w.heap.size) (by repeat (first | exact Below.refl _ _ | refine below_drewN ?_ _ | refine Below.alloc ?_ (by first | omega | (simp; omega) | simp) _ | refine Below.setCell ?_ (by first | omega | (simp; omega) | simp) _ | refine Below.trans ?_ (Below.mono (by assumption) (by first | omega | (simp; omega) | simp)) | apply Below.drew)) (Nat.le_refl _)).more (by first | omega | (simp; omega) | simp)) hc hv).mono ?_; rintro e w1 ⟨s, t, rfl, hb⟩; obtain ⟨hc', hf'⟩ := bcell hb; (try simp only [World.heap_drewN, World.cell?_drewN, World.frozen?_drewN] at hc' hf'); have hsz := hb.size; (try simp at hsz); have g1 : w.heap.size < w1.heap.size := (by omega))
    | (go_at_call 16; refine (cquo_any _ _ _ _ _).mono ?_; rintro e w' ⟨s, t, j, rfl, rfl⟩; simp only [quoRe_pick3, quoRe_pick4, quoIm_pick3, quoIm_pick4, hq1, hq2, hy1, hy2])
    | (go_at_call 19; have _q := w3.heap.size; refine (point_any _ _ _).mono ?_; rintro e w4 ⟨rfl, hb⟩; rw [hY]; obtain ⟨hc', hf'⟩ := bcell hb; (try simp only [World.heap_drewN, World.cell?_drewN, World.frozen?_drewN] at hc' hf'); have hsz := hb.size; (try simp at hsz); have g4 : w.heap.size < w4.heap.size := (by omega); have z9 : w3.heap.size < w4.heap.size := (by omega))
    | (go_at_call 19; refine (point_any _ _ _).mono ?_; rintro e w2 ⟨rfl, hb⟩; obtain ⟨hc', hf'⟩ := bcell hb; (try simp only [World.heap_drewN, World.cell?_drewN, World.frozen?_drewN] at hc' hf'); have hsz := hb.size; (try simp at hsz); have g2 : w.heap.size < w2.heap.size := (by omega))
    | (go_at_call 21; refine (bmul_any _ _ _ _ _ _ _).mono ?_; rintro e w5 ⟨rfl, hb⟩; rw [hM0]; obtain ⟨hc', hf'⟩ := bcell hb; (try simp only [World.heap_drewN, World.cell?_drewN, World.frozen?_drewN] at hc' hf'); have hsz := hb.size; (try simp at hsz); have g5 : w.heap.size < w5.heap.size := (by omega); have z9 : w3.heap.size < w5.heap.size := (by omega); have z11 : w4.heap.size < w5.heap.size := (by omega))
    | (go_at_call 20; refine (bneg_any _ _ _ _).mono ?_; rintro e w6 ⟨rfl, hb⟩; rw [hM]; obtain ⟨hc', hf'⟩ := bcell hb; (try simp only [World.heap_drewN, World.cell?_drewN, World.frozen?_drewN] at hc' hf'); have hsz := hb.size; (try simp at hsz); have g6 : w.heap.size < w6.heap.size := (by omega); have z9 : w3.heap.size < w6.heap.size := (by omega); have z11 : w4.heap.size < w6.heap.size := (by omega))
    | (go_at_call 22; refine (bhi_any _ _ _ _).mono ?_; rintro e w7 ⟨s, rfl, hb⟩; obtain ⟨hc', hf'⟩ := bcell hb; (try simp only [World.heap_drewN, World.cell?_drewN, World.frozen?_drewN] at hc' hf'); have hsz := hb.size; (try simp at hsz); have g7 : w.heap.size < w7.heap.size := (by omega); have z9 : w3.heap.size < w7.heap.size := (by omega); have z11 : w4.heap.size < w7.heap.size := (by omega); have z12 : w6.heap.size < w7.heap.size := (by omega))
    | (go_at_call 10; refine (hi_any _ _ _).mono ?_; rintro e w' ⟨s, i, rfl, rfl⟩)
    | (go_at_call 18; refine (On_ok A n cap ps HN.out hm (pointS x y).1 (pointS x y).2.1 (pointS x y).2.2 _ ((HS.out.below (B' := w.heap.size) (by repeat (first | exact Below.refl _ _ | refine below_drewN ?_ _ | refine Below.alloc ?_ (by first | omega | (simp; omega) | simp) _ | refine Below.setCell ?_ (by first | omega | (simp; omega) | simp) _ | refine Below.trans ?_ (Below.mono (by assumption) (by first | omega | (simp; omega) | simp)) | apply Below.drew)) (Nat.le_refl _)).more (by first | omega | (simp; omega) | simp)) hc (mayS_point hz)).mono ?_; rintro e w3 ⟨rfl, hb⟩; rw [hH]; obtain ⟨hc', hf'⟩ := bcell hb; (try simp only [World.heap_drewN, World.cell?_drewN, World.frozen?_drewN] at hc' hf'); have hsz := hb.size; (try simp at hsz); have g3 : w.heap.size < w3.heap.size := (by omega)))
  have F4 : BCell w7 w.heap.size (0, 0, 0) := ⟨by simp [go_sem, *], by simp [go_sem, *], by simp [go_sem, *], by simp [go_sem, *]⟩
  have F11 : BCell w7 w4.heap.size Y := ⟨by simp [go_sem, *], by simp [go_sem, *], by simp [go_sem, *], by simp [go_sem, *]⟩
  have F12 : BCell w7 w6.heap.size M := ⟨by simp [go_sem, *], by simp [go_sem, *], by simp [go_sem, *], by simp [go_sem, *]⟩
  have HW : Below w.heap.size w w7 := by repeat (first | exact Below.refl _ _ | refine below_drewN ?_ _ | refine Below.alloc ?_ (by first | omega | (simp; omega) | simp) _ | refine Below.setCell ?_ (by first | omega | (simp; omega) | simp) _ | refine Below.trans ?_ (Below.mono (by assumption) (by first | omega | (simp; omega) | simp)) | apply Below.drew)
  have hR0 : fmax (fmax (fop .mul (bhiS (M.1, M.2.1, M.2.2)) 4611686018427387904) (fop .mul (hiS x y) 4382002437431492608)) 103582791429521408 = certR0 M x y := rfl
  rw [hR0]
  clear hR0
  generalize hr0 : certR0 M x y = r0
  have hS7 := (HS.out.below HW (Nat.le_refl _))
  have HF4 := Lib.hid F4
  have HF11 := Lib.hid F11
  have HF12 := Lib.hid F12
  have HWW := Lib.hid HW
  have HS7 := Lib.hid hS7
  have z46 : w4.heap.size < w7.heap.size := by omega
  clear F4 F11 F12 HW hS7
  go_loopw [13, 14] (fun r i wr => ∃ (k t : Nat) (B : Bl), k ≤ 12 ∧ r = .float .f64 (pick (certR r0 k) t) ∧ i = .int .i64 k ∧ (∀ j, j < k → certAt ps M (q1, q2) x y (certR r0 j) = false) ∧
      BCell wr w.heap.size B ∧ BCell wr w4.heap.size Y ∧ BCell wr w6.heap.size M ∧ Seq wr w.heap.size A (ps.map cv) ∧ Below w.heap.size w wr ∧ w7.heap.size ≤ wr.heap.size) (fun _ i _ => 12 - (intOf i).toNat)
  case atStart => exact ⟨0, _, (0, 0, 0), by decide, rfl, rfl, fun j hj => absurd hj (by omega), HF4.out.drewN _, HF11.out.drewN _, HF12.out.drewN _, HS7.out.drewN _, by have := HWW.out; repeat (first | exact Below.refl _ _ | refine below_drewN ?_ _ | refine Below.alloc ?_ (by first | omega | (simp; omega) | simp) _ | refine Below.setCell ?_ (by first | omega | (simp; omega) | simp) _ | refine Below.trans ?_ (Below.mono (by assumption) (by first | omega | (simp; omega) | simp)) | apply Below.drew), by simp⟩
  case round =>
    obtain ⟨k, t, B, hk, rfl, rfl, hall, f4, f11, f12, hsr, hbr, hsz7⟩ := hrel
    have HA := Lib.hid hall
    have HSR := Lib.hid hsr
    have HBR := Lib.hid hbr
    clear hall hsr hbr
    by_cases hlt : k < 12
    · have hne : ((k : Int) == 12) = false := by rw [beq_eq_false_iff_ne]; omega
      obtain ⟨a0, a1, a2, a3⟩ := f4
      obtain ⟨b0, b1, b2, b3⟩ := f11
      obtain ⟨c0, c1, c2, c3⟩ := f12
      have n4 : ¬ w4.heap.size = w.heap.size := by omega
      have n4' : ¬ w.heap.size = w4.heap.size := by omega
      have n6 : ¬ w6.heap.size = w.heap.size := by omega
      have n6' : ¬ w.heap.size = w6.heap.size := by omega
      have q4 : w.heap.size < wr.heap.size := by omega
      have q11 : w4.heap.size < wr.heap.size := by omega
      have q12 : w6.heap.size < wr.heap.size := by omega
      cases hmay : mayS (x, y, certR r0 k)
      · have hmay' : mayS (x, y, pick (certR r0 k) t) = false := by rw [mayS_pick]; exact hmay
        have hno : certAt ps M (q1, q2) x y (certR r0 k) = false := by unfold certAt; rw [hmay]; rfl
        go_wp2_with fail
        refine (SlopeOn_bad A n cap ps HN.out hm x y _ _ ((HSR.out.below (B' := w.heap.size) (by repeat (first | exact Below.refl _ _ | refine below_drewN ?_ _ | refine Below.alloc ?_ (by first | omega | (simp; omega) | simp) _ | refine Below.setCell ?_ (by first | omega | (simp; omega) | simp) _ | refine Below.trans ?_ (Below.mono (by assumption) (by first | omega | (simp; omega) | simp)) | apply Below.drew)) (Nat.le_refl _)).more (by simp; omega)) hc hmay').mono ?_
        rintro e w8 ⟨rfl, hb⟩
        obtain ⟨hc', hf'⟩ := bcell hb
        have hsz := hb.size
        simp at hsz
        have F4 : BCell w8 w.heap.size (x, y, pick (certR r0 k) t) := ⟨by simp [go_sem, *], by simp [go_sem, *], by simp [go_sem, *], by simp [go_sem, *]⟩
        have F11 : BCell w8 w4.heap.size Y := ⟨by simp [go_sem, *], by simp [go_sem, *], by simp [go_sem, *], by simp [go_sem, *]⟩
        have F12 : BCell w8 w6.heap.size M := ⟨by simp [go_sem, *], by simp [go_sem, *], by simp [go_sem, *], by simp [go_sem, *]⟩
        have S8 := HSR.out.below (show Below w.heap.size wr w8 by repeat (first | exact Below.refl _ _ | refine below_drewN ?_ _ | refine Below.alloc ?_ (by first | omega | (simp; omega) | simp) _ | refine Below.setCell ?_ (by first | omega | (simp; omega) | simp) _ | refine Below.trans ?_ (Below.mono (by assumption) (by first | omega | (simp; omega) | simp)) | apply Below.drew)) (Nat.le_refl _)
        have HB8 : Below w.heap.size w w8 := by have := HBR.out; repeat (first | exact Below.refl _ _ | refine below_drewN ?_ _ | refine Below.alloc ?_ (by first | omega | (simp; omega) | simp) _ | refine Below.setCell ?_ (by first | omega | (simp; omega) | simp) _ | refine Below.trans ?_ (Below.mono (by assumption) (by first | omega | (simp; omega) | simp)) | apply Below.drew)
        have hall' : ∀ j, j < k + 1 → certAt ps M (q1, q2) x y (certR r0 j) = false := by
          intro j hj
          rcases Nat.lt_or_ge j k with h | h
          · exact HA.out j h
          · rw [show j = k by omega]; exact hno
        have G4 := Lib.hid F4
        have G11 := Lib.hid F11
        have G12 := Lib.hid F12
        have GB := Lib.hid HB8
        have GS := Lib.hid S8
        have GA := Lib.hid hall'
        clear F4 F11 F12 HB8 S8 hall' a0 a1 a2 a3 b0 b1 b2 b3 c0 c1 c2 c3 hc' hf' hb
        have l4 : w.heap.size < w8.heap.size := by omega
        have l11 : w4.heap.size < w8.heap.size := by omega
        have l12 : w6.heap.size < w8.heap.size := by omega
        go_wp2
        go_roundw
        case rel =>
          exact ⟨k + 1, _, (x, y, pick (certR r0 k) t), by omega, rfl, by go_num, GA.out, G4.out.below (B := w8.heap.size) (by repeat (first | exact Below.refl _ _ | refine below_drewN ?_ _ | refine Below.alloc ?_ (by first | omega | (simp; omega) | simp) _ | refine Below.setCell ?_ (by first | omega | (simp; omega) | simp) _ | refine Below.trans ?_ (Below.mono (by assumption) (by first | omega | (simp; omega) | simp)) | apply Below.drew)) l4, G11.out.below (B := w8.heap.size) (by repeat (first | exact Below.refl _ _ | refine below_drewN ?_ _ | refine Below.alloc ?_ (by first | omega | (simp; omega) | simp) _ | refine Below.setCell ?_ (by first | omega | (simp; omega) | simp) _ | refine Below.trans ?_ (Below.mono (by assumption) (by first | omega | (simp; omega) | simp)) | apply Below.drew)) l11, G12.out.below (B := w8.heap.size) (by repeat (first | exact Below.refl _ _ | refine below_drewN ?_ _ | refine Below.alloc ?_ (by first | omega | (simp; omega) | simp) _ | refine Below.setCell ?_ (by first | omega | (simp; omega) | simp) _ | refine Below.trans ?_ (Below.mono (by assumption) (by first | omega | (simp; omega) | simp)) | apply Below.drew)) l12,
            GS.out.below (B' := w8.heap.size) (by repeat (first | exact Below.refl _ _ | refine below_drewN ?_ _ | refine Below.alloc ?_ (by first | omega | (simp; omega) | simp) _ | refine Below.setCell ?_ (by first | omega | (simp; omega) | simp) _ | refine Below.trans ?_ (Below.mono (by assumption) (by first | omega | (simp; omega) | simp)) | apply Below.drew)) (Nat.le_of_lt l4), by have := GB.out; repeat (first | exact Below.refl _ _ | refine below_drewN ?_ _ | refine Below.alloc ?_ (by first | omega | (simp; omega) | simp) _ | refine Below.setCell ?_ (by first | omega | (simp; omega) | simp) _ | refine Below.trans ?_ (Below.mono (by assumption) (by first | omega | (simp; omega) | simp)) | apply Below.drew), by simp; omega⟩
        case measure => simp [intOf]; omega
      · have hpk := pick_of (mayS_notNaN hmay)
        obtain ⟨D, hD⟩ : ∃ D, onFrom (x, y, certR r0 k) (slopesS ps) 0 = D := ⟨_, rfl⟩
        obtain ⟨P1, hP1⟩ : ∃ P1, pointS 4607182418800017408 0 = P1 := ⟨_, rfl⟩
        obtain ⟨W1, hW1⟩ : ∃ W1, mulS (Y.1, Y.2.1, Y.2.2) (D.1, D.2.1, D.2.2) = W1 := ⟨_, rfl⟩
        obtain ⟨Z1, hZ1⟩ : ∃ Z1, subS (P1.1, P1.2.1, P1.2.2) (W1.1, W1.2.1, W1.2.2) = Z1 := ⟨_, rfl⟩
        obtain ⟨ok, hok⟩ : ∃ ok, (contractsS (M.1, M.2.1, M.2.2) (Z1.1, Z1.2.1, Z1.2.2) (certR r0 k)).2 = ok := ⟨_, rfl⟩
        have hcert : certAt ps M (q1, q2) x y (certR r0 k) = ok := by
          unfold certAt fone
          rw [hmay, hY, hD, hP1, show mulS Y D = W1 from hW1, show subS P1 W1 = Z1 from hZ1, show contractsS M Z1 (certR r0 k) = contractsS (M.1, M.2.1, M.2.2) (Z1.1, Z1.2.1, Z1.2.2) (certR r0 k) from rfl, hok]
          rfl
        have HCERT := Lib.hid hcert
        clear hcert
        rw [hpk]
        go_wp2_with fail
        refine (SlopeOn_ok A n cap ps HN.out hm x y (certR r0 k) _ ((HSR.out.below (B' := w.heap.size) (by repeat (first | exact Below.refl _ _ | refine below_drewN ?_ _ | refine Below.alloc ?_ (by first | omega | (simp; omega) | simp) _ | refine Below.setCell ?_ (by first | omega | (simp; omega) | simp) _ | refine Below.trans ?_ (Below.mono (by assumption) (by first | omega | (simp; omega) | simp)) | apply Below.drew)) (Nat.le_refl _)).more (by simp; omega)) hc hmay).mono ?_
        rintro e w8 ⟨rfl, hb⟩
        rw [hD]
        obtain ⟨hc', hf'⟩ := bcell hb
        have hsz := hb.size
        simp at hsz
        have F4 : BCell w8 w.heap.size (x, y, certR r0 k) := ⟨by simp [go_sem, *], by simp [go_sem, *], by simp [go_sem, *], by simp [go_sem, *]⟩
        have F11 : BCell w8 w4.heap.size Y := ⟨by simp [go_sem, *], by simp [go_sem, *], by simp [go_sem, *], by simp [go_sem, *]⟩
        have F12 : BCell w8 w6.heap.size M := ⟨by simp [go_sem, *], by simp [go_sem, *], by simp [go_sem, *], by simp [go_sem, *]⟩
        have S8 := HSR.out.below (show Below w.heap.size wr w8 by repeat (first | exact Below.refl _ _ | refine below_drewN ?_ _ | refine Below.alloc ?_ (by first | omega | (simp; omega) | simp) _ | refine Below.setCell ?_ (by first | omega | (simp; omega) | simp) _ | refine Below.trans ?_ (Below.mono (by assumption) (by first | omega | (simp; omega) | simp)) | apply Below.drew)) (Nat.le_refl _)
        have HB8 : Below w.heap.size w w8 := by have := HBR.out; repeat (first | exact Below.refl _ _ | refine below_drewN ?_ _ | refine Below.alloc ?_ (by first | omega | (simp; omega) | simp) _ | refine Below.setCell ?_ (by first | omega | (simp; omega) | simp) _ | refine Below.trans ?_ (Below.mono (by assumption) (by first | omega | (simp; omega) | simp)) | apply Below.drew)
        have G4 := Lib.hid F4
        have G11 := Lib.hid F11
        have G12 := Lib.hid F12
        have GB := Lib.hid HB8
        have GS := Lib.hid S8
        clear F4 F11 F12 HB8 S8 a0 a1 a2 a3 b0 b1 b2 b3 c0 c1 c2 c3 hc' hf' hb
        have l4 : w.heap.size < w8.heap.size := by omega
        have l11 : w4.heap.size < w8.heap.size := by omega
        have l12 : w6.heap.size < w8.heap.size := by omega
        obtain ⟨b0, b1, b2, b3⟩ := G11.out
        obtain ⟨c0, c1, c2, c3⟩ := G12.out
        go_wp2_with fail
        go_region_held3 (fun v => v.cell? ⟨w4.heap.size, 0, none⟩ = some (.complex .f64 Y.1 Y.2.1) ∧ v.cell? ⟨w4.heap.size, 1, none⟩ = some (.float .f64 Y.2.2) ∧ v.cell? ⟨w6.heap.size, 0, none⟩ = some (.complex .f64 M.1 M.2.1) ∧ v.cell? ⟨w6.heap.size, 1, none⟩ = some (.float .f64 M.2.2) ∧ v.cell? ⟨w8.heap.size, 0, none⟩ = some (.complex .f64 D.1 D.2.1) ∧ v.cell? ⟨w8.heap.size, 1, none⟩ = some (.float .f64 D.2.2)) (((try dsimp only); refine ⟨?_, ?_, ?_, ?_, ?_, ?_⟩ <;> first | (simp [go_sem, World.cell?_alloc_past, *]; done) | (rw [hc _ _ (by first | assumption | (simp; assumption) | omega | (simp; omega))]; first | exact (‹_ ∧ _ ∧ _ ∧ _ ∧ _ ∧ _›).1 | exact (‹_ ∧ _ ∧ _ ∧ _ ∧ _ ∧ _›).2.1 | exact (‹_ ∧ _ ∧ _ ∧ _ ∧ _ ∧ _›).2.2.1 | exact (‹_ ∧ _ ∧ _ ∧ _ ∧ _ ∧ _›).2.2.2.1 | exact (‹_ ∧ _ ∧ _ ∧ _ ∧ _ ∧ _›).2.2.2.2.1 | exact (‹_ ∧ _ ∧ _ ∧ _ ∧ _ ∧ _›).2.2.2.2.2)))
          (first
            | (go_at_call 19; refine (point_any _ _ _).mono ?_; rintro e w9 ⟨rfl, hb⟩; rw [hP1]; obtain ⟨hc, hf⟩ := bcell hb; (try simp only [World.heap_drewN, World.cell?_drewN, World.frozen?_drewN] at hc hf); have hsz := hb.size; (try simp at hsz); have y4 : w4.heap.size < w9.heap.size := (by omega); have y6 : w6.heap.size < w9.heap.size := (by omega); have y8 : w8.heap.size < w9.heap.size := (by omega))
            | (go_at_call 21; refine (bmul_any _ _ _ _ _ _ _).mono ?_; rintro e w9 ⟨rfl, hb⟩; rw [hW1]; obtain ⟨hc, hf⟩ := bcell hb; (try simp only [World.heap_drewN, World.cell?_drewN, World.frozen?_drewN] at hc hf); have hsz := hb.size; (try simp at hsz); have y4 : w4.heap.size < w9.heap.size := (by omega); have y6 : w6.heap.size < w9.heap.size := (by omega); have y8 : w8.heap.size < w9.heap.size := (by omega))
            | (go_at_call 25; refine (bsub_any _ _ _ _ _ _ _).mono ?_; rintro e w9 ⟨rfl, hb⟩; rw [hZ1]; obtain ⟨hc, hf⟩ := bcell hb; (try simp only [World.heap_drewN, World.cell?_drewN, World.frozen?_drewN] at hc hf); have hsz := hb.size; (try simp at hsz); have y4 : w4.heap.size < w9.heap.size := (by omega); have y6 : w6.heap.size < w9.heap.size := (by omega); have y8 : w8.heap.size < w9.heap.size := (by omega))
            | (go_at_call 24; refine (contracts_any _ _ _ _ _ _ _ _).mono ?_; rintro e w9 ⟨q, rfl, hb⟩; rw [hok]; obtain ⟨hc, hf⟩ := bcell hb; (try simp only [World.heap_drewN, World.cell?_drewN, World.frozen?_drewN] at hc hf); have hsz := hb.size; (try simp at hsz); have y4 : w4.heap.size < w9.heap.size := (by omega); have y6 : w6.heap.size < w9.heap.size := (by omega); have y8 : w8.heap.size < w9.heap.size := (by omega)))
        have hfin : Below w8.heap.size w8 w9 := by repeat (first | exact Below.refl _ _ | refine below_drewN ?_ _ | refine Below.alloc ?_ (by first | omega | (simp; omega) | simp) _ | refine Below.setCell ?_ (by first | omega | (simp; omega) | simp) _ | refine Below.trans ?_ (Below.mono (by assumption) (by first | omega | (simp; omega) | simp)) | apply Below.drew)
        have HFIN := Lib.hid hfin
        have hs9 : w8.heap.size < w9.heap.size := by omega
        have F4 := G4.out.below hfin l4
        clear b0 b1 b2 b3 c0 c1 c2 c3 hc hf hb hfin
        cases ok
        · have hall' : ∀ j, j < k + 1 → certAt ps M (q1, q2) x y (certR r0 j) = false := by
            intro j hj
            rcases Nat.lt_or_ge j k with h | h
            · exact HA.out j h
            · rw [show j = k by omega]; exact HCERT.out
          have GA := Lib.hid hall'
          have G44 := Lib.hid F4
          clear F4 hall'
          go_wp2
          go_roundw
          case rel =>
            have := HFIN.out
            have l4' : w.heap.size < w9.heap.size := by omega
            have l11' : w4.heap.size < w9.heap.size := by omega
            have l12' : w6.heap.size < w9.heap.size := by omega
            exact ⟨k + 1, _, (x, y, certR r0 k), by omega, rfl, by go_num, GA.out, G44.out.drewN _, (G11.out.below HFIN.out l11).drewN _, (G12.out.below HFIN.out l12).drewN _,
              (GS.out.below HFIN.out (Nat.le_of_lt l4)).drewN _, by have := GB.out.trans (HFIN.out.mono (Nat.le_of_lt l4)); repeat (first | exact Below.refl _ _ | refine below_drewN ?_ _ | refine Below.alloc ?_ (by first | omega | (simp; omega) | simp) _ | refine Below.setCell ?_ (by first | omega | (simp; omega) | simp) _ | refine Below.trans ?_ (Below.mono (by assumption) (by first | omega | (simp; omega) | simp)) | apply Below.drew), by simp; omega⟩
          case measure => simp [intOf]; omega
        · obtain ⟨a0, a1, a2, a3⟩ := F4
          go_wp2
          exact bodyPost_ret (v := .tuple #[.agg #[.complex .f64 x y, .float .f64 (certR r0 k)], .bool true, .int .i64 0]) (by simp [results, Try.results8, go_sem, *]) rfl ⟨.inl ⟨k, hlt, HA.out, HCERT.out, rfl⟩, by
            have := GB.out.trans (HFIN.out.mono (Nat.le_of_lt l4)); repeat (first | exact Below.refl _ _ | refine below_drewN ?_ _ | refine Below.alloc ?_ (by first | omega | (simp; omega) | simp) _ | refine Below.setCell ?_ (by first | omega | (simp; omega) | simp) _ | refine Below.trans ?_ (Below.mono (by assumption) (by first | omega | (simp; omega) | simp)) | apply Below.drew)⟩
    · obtain rfl : k = 12 := by omega
      obtain ⟨a0, a1, a2, a3⟩ := f4
      go_wp2
      go_step3
      refine ⟨rfl, ?_⟩
      go_wp2
      simp only [Exit.jump]
      have := HBR.out
      exact bodyPost_ret (v := .tuple #[.agg #[.complex .f64 0 0, .float .f64 0], .bool false, .int .i64 0]) (by simp [results, Try.results8, go_sem, *]) rfl ⟨.inr ⟨HA.out, rfl⟩, by repeat (first | exact Below.refl _ _ | refine below_drewN ?_ _ | refine Below.alloc ?_ (by first | omega | (simp; omega) | simp) _ | refine Below.setCell ?_ (by first | omega | (simp; omega) | simp) _ | refine Below.trans ?_ (Below.mono (by assumption) (by first | omega | (simp; omega) | simp)) | apply Below.drew)⟩
end
end Go.Proofs.Ytmcihnpghcdnmaa
