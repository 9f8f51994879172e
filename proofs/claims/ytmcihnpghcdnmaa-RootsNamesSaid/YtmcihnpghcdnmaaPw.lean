/- The contracts of poly.walk over balls, of poly.on and poly.On, at this translation. -/
import Derived.Test.YtmcihnpghcdnmaaPb
import Derived.StillTailTactics
namespace Go.Proofs.Ytmcihnpghcdnmaa
open Go.RowKit Go.Fil
attribute [local irreducible] fop fsqrt fup fabs fneg pick

/-- A ball's two cells at place k of a row of balls. -/
theorem Seq.bat {w : World} {B : Nat} {A : Option Addr} {l : List Bl} (h : Seq w B A (bcells l)) {k : Nat} (hk : k < l.length) :
    ∃ b o, A = some ⟨b, o, none⟩ ∧ b < B ∧ w.cell? ⟨b, o + k * 2, none⟩ = some (.complex .f64 (nthB l k).1 (nthB l k).2.1) ∧ w.cell? ⟨b, o + k * 2 + 1, none⟩ = some (.float .f64 (nthB l k).2.2) := by
  obtain ⟨h0, h1⟩ := bcells_at hk
  rcases h with h | ⟨b, o, hA, hb, hc⟩
  · rw [h] at h0; simp at h0
  · exact ⟨b, o, hA, hb, hc _ _ h0, hc _ _ h1⟩
theorem Seq.bcell {w : World} {B b o : Nat} {l : List Bl} (h : Seq w B (some ⟨b, o, none⟩) (bcells l)) {k : Nat} (hk : k < l.length) :
    b < B ∧ w.cell? ⟨b, o + k * 2, none⟩ = some (.complex .f64 (nthB l k).1 (nthB l k).2.1) ∧ w.cell? ⟨b, o + k * 2 + 1, none⟩ = some (.float .f64 (nthB l k).2.2) := by
  obtain ⟨b', o', hA, hb, hc⟩ := h.bat hk
  injection hA with hA
  injection hA with h1 h2
  subst h1; subst h2
  exact ⟨hb, hc⟩
/-- A ball's two cells in a variable of the call's own. -/
structure BCell (w : World) (G : Nat) (X : Bl) : Prop where
  c0 : w.cell? ⟨G, 0, none⟩ = some (.complex .f64 X.1 X.2.1)
  c1 : w.cell? ⟨G, 1, none⟩ = some (.float .f64 X.2.2)
  f0 : w.frozen? ⟨G, 0, none⟩ = false
  f1 : w.frozen? ⟨G, 1, none⟩ = false
theorem BCell.below {w w' : World} {G B : Nat} {X : Bl} (h : BCell w G X) (hb : Below B w w') (hG : G < B) : BCell w' G X :=
  ⟨(hb.cell (p := ⟨G, 0, none⟩) hG).trans h.c0, (hb.cell (p := ⟨G, 1, none⟩) hG).trans h.c1, (hb.frozen (p := ⟨G, 0, none⟩) hG).trans h.f0, (hb.frozen (p := ⟨G, 1, none⟩) hG).trans h.f1⟩
theorem BCell.new (w : World) (t : TypeId) (X : Bl) : BCell (w.alloc (.cells #[.complex .f64 X.1 X.2.1, .float .f64 X.2.2] t)) w.heap.size X :=
  ⟨by rw [World.cell?_alloc_at _ _ _ _ rfl]; rfl, by rw [World.cell?_alloc_at _ _ _ _ rfl]; rfl, World.frozen?_alloc_at _ _ _ _ rfl, World.frozen?_alloc_at _ _ _ _ rfl⟩
theorem BCell.set {w : World} {G : Nat} {X : Bl} (h : BCell w G X) (Y : Bl) : BCell ((w.setCell ⟨G, 0, none⟩ (.complex .f64 Y.1 Y.2.1)).setCell ⟨G, 1, none⟩ (.float .f64 Y.2.2)) G Y := by
  obtain ⟨h0, h1, h2, h3⟩ := h
  exact ⟨by simp [go_sem, *], by simp [go_sem, *], by simp [go_sem, *], by simp [go_sem, *]⟩
set_option maxHeartbeats 800000 in
/-- poly.walk over balls, with poly.on's closures. -/
theorem walkB_some (A : Option Addr) (n cap : Nat) (l : List Bl) (hn : l.length = n + 1) (hle : n + 1 ≤ 17) (g x y z a0 b0 r0 : Nat) (w : World) (hs : Seq w w.heap.size A (bcells l))
    (hg : g < w.heap.size) (hg0 : w.cell? ⟨g, 0, none⟩ = some (.complex .f64 x y)) (hg1 : w.cell? ⟨g, 1, none⟩ = some (.float .f64 z)) :
    Calls Try.prog 63 #[.slice A (n + 1) cap, .agg #[.complex .f64 a0 b0, .float .f64 r0], .func (.func 64) #[] #[], .func (.func 65) #[] #[.pointer (some ⟨g, 0, none⟩)]] w
      (RB (onFrom (x, y, z) l 0) w) := by
  obtain ⟨b, o, rfl, hb, hc0, hc1⟩ := hs.bat (k := n) (by omega)
  have HN := Lib.hid hn
  have HS := Lib.hid hs
  have HL := Lib.hid (onFrom_last (z := (x, y, z)) hn)
  have HG0 := Lib.hid hg0
  have HG1 := Lib.hid hg1
  have hb1 : b < w.heap.size + 1 := by omega
  have hnb0 : ¬ w.heap.size = b := by omega
  have hnb1 : ¬ w.heap.size + 1 = b := by omega
  have hd0 : ((w.alloc (.cells #[.complex .f64 a0 b0, .float .f64 r0] 34)).alloc (.cells #[.complex .f64 0 0, .float .f64 0] 34)).cell? ⟨b, o + n * 2, none⟩ = some (.complex .f64 (nthB l n).1 (nthB l n).2.1) := by
    rw [World.cell?_alloc_past _ _ _ (by simp; omega), World.cell?_alloc_past _ _ _ hb]; exact hc0
  have hd1 : ((w.alloc (.cells #[.complex .f64 a0 b0, .float .f64 r0] 34)).alloc (.cells #[.complex .f64 0 0, .float .f64 0] 34)).cell? ⟨b, o + n * 2 + 1, none⟩ = some (.float .f64 (nthB l n).2.2) := by
    rw [World.cell?_alloc_past _ _ _ (by simp; omega), World.cell?_alloc_past _ _ _ hb]; exact hc1
  clear hn hs hc0 hc1 hg0 hg1
  go_enter Try.func63, Try.ntmps63
  go_wp2_with (go_at_call 64; refine (on1_any _ _ _ _).mono ?_; rintro e w1 ⟨rfl, hb⟩; obtain ⟨hc, hf⟩ := bcell hb; (try simp only [World.heap_drewN, World.cell?_drewN, World.frozen?_drewN] at hc hf); have z0 : w.heap.size < w1.heap.size := (by have := hb.size; (try simp at this); omega); have z1 : w.heap.size + 1 < w1.heap.size := (by have := hb.size; (try simp at this); omega))
  have hR : BCell w1 (w.heap.size + 1) (0, 0, 0) := BCell.below (X := (0, 0, 0)) (by simpa using BCell.new (w.alloc (.cells #[.complex .f64 a0 b0, .float .f64 r0] 34)) 34 (0, 0, 0)) hb (by simp)
  have hww : Below w.heap.size w w1 := by repeat (first | exact Below.refl _ _ | refine below_drewN ?_ _ | refine Below.alloc ?_ (by first | omega | (simp; omega) | simp) _ | refine Below.setCell ?_ (by first | omega | (simp; omega) | simp) _ | refine Below.trans ?_ (Below.mono (by assumption) (by first | omega | (simp; omega) | simp)) | apply Below.drew)
  have hZ : w1.cell? ⟨g, 0, none⟩ = some (.complex .f64 x y) ∧ w1.cell? ⟨g, 1, none⟩ = some (.float .f64 z) := ⟨(hww.cell (p := ⟨g, 0, none⟩) hg).trans HG0.out, (hww.cell (p := ⟨g, 1, none⟩) hg).trans HG1.out⟩
  have hS1 := HS.out.below hww (Nat.le_refl _)
  have HR := Lib.hid hR
  have HZ := Lib.hid hZ
  have HS1 := Lib.hid hS1
  have HW := Lib.hid hww
  have HB : Hid (BCell (w1.alloc (.cells #[.complex .f64 (nthB l n).1 (nthB l n).2.1, .float .f64 (nthB l n).2.2] 34)) w1.heap.size (onFrom (x, y, z) l n)) := by rw [HL.out]; exact BCell.new _ _ _
  have e0 : ((n : Int) + 1 - 2) = (n : Int) - 1 := by omega
  rw [e0]
  clear e0 hR hZ hS1 hww hc hf hd0 hd1 hb HG0 HG1 HS
  go_loopw [10] (fun i wr => ∃ k : Nat, k ≤ n ∧ i = .int .i64 ((k : Int) - 1) ∧ BCell wr w1.heap.size (onFrom (x, y, z) l k) ∧ Below w1.heap.size w1 wr ∧ w1.heap.size < wr.heap.size) (fun i _ => (intOf i + 1).toNat)
  case atStart => exact ⟨n, Nat.le_refl _, rfl, HB.out, (Below.refl _ _).alloc (Nat.le_refl _) _, by simp⟩
  case round =>
    obtain ⟨k, hk, rfl, hX, hnx, hlt⟩ := hrel
    have hRr := HR.out.below hnx z1
    cases k with
    | zero =>
      obtain ⟨x0, x1, x2, x3⟩ := hX
      obtain ⟨r0, r1, r2, r3⟩ := hRr
      go_wp2
      exact bodyPost_ret (v := .agg #[.complex .f64 (onFrom (x, y, z) l 0).1 (onFrom (x, y, z) l 0).2.1, .float .f64 (onFrom (x, y, z) l 0).2.2])
        (by simp [results, Try.results63, go_sem, *]) rfl ⟨rfl, (HW.out.trans (hnx.mono HW.out.size)).setCell (by simp) _ |>.setCell (by simp) _⟩
    | succ k =>
      obtain ⟨_, hl0, hl1⟩ := (HS1.out.below hnx (by omega)).bcell (k := k) (by have := HN.out; omega)
      have hz0 := (hnx.cell (p := ⟨g, 0, none⟩) (by show g < _; omega)).trans HZ.out.1
      have hz1 := (hnx.cell (p := ⟨g, 1, none⟩) (by show g < _; omega)).trans HZ.out.2
      have e1 : (((k + 1 : Nat) : Int) - 1) = (k : Int) := by omega
      rw [e1]
      clear e1 hRr
      have HT := Lib.hid (onFrom_step (z := (x, y, z)) (l := l) (k := k) (by have := HN.out; omega))
      obtain ⟨x0, x1, x2, x3⟩ := hX
      have hgw : g < wr.heap.size := by omega
      have i0 : (0 : Int) ≤ (k : Int) := by omega
      have i1 : (k : Int) < (n : Int) + 1 := by omega
      have i2 : k < n + 1 := by omega
      go_wp2_with fail
      go_still_tail 6, (by kernel_rfl)
      change wpList _ _ _ _ _ (wr.drewN 1)
      go_wp2_with fail
      refine (on2_any _ _ _ _ _ _ x y z g (wr.drewN 1) (by simpa using hgw) hz0 hz1).mono ?_
      rintro e w2 ⟨rfl, hb2⟩
      obtain ⟨y0, y1, y2, y3⟩ := BCell.below (w := wr.drewN 1) (X := onFrom (x, y, z) l (k + 1)) ⟨x0, x1, x2, x3⟩ hb2 (by simpa using hlt)
      go_wp2
      go_roundw
      case rel => exact ⟨k, by omega, rfl, by rw [HT.out]; exact BCell.set (X := onFrom (x, y, z) l (k + 1)) ⟨y0, y1, y2, y3⟩ _, (((below_drewN hnx 1).trans (hb2.mono (Nat.le_of_lt hlt))).setCell (Nat.le_refl _) _).setCell (Nat.le_refl _) _, by have := hb2.size; simp at this ⊢; omega⟩
      case measure => simp [intOf]
theorem walkB_none (A : Option Addr) (cap : Nat) (f1 f2 : Value) (a b r : Nat) (w : World) :
    Calls Try.prog 63 #[.slice A 0 cap, .agg #[.complex .f64 a b, .float .f64 r], f1, f2] w (RB (a, b, r) w) := by
  go_enter Try.func63, Try.ntmps63
  go_wp2
  exact bodyPost_ret (v := .agg #[.complex .f64 a b, .float .f64 r]) (by simp [results, Try.results63, go_sem]) rfl ⟨rfl, by repeat (first | exact Below.refl _ _ | refine below_drewN ?_ _ | refine Below.alloc ?_ (by first | omega | (simp; omega) | simp) _ | refine Below.setCell ?_ (by first | omega | (simp; omega) | simp) _ | refine Below.trans ?_ (Below.mono (by assumption) (by first | omega | (simp; omega) | simp)) | apply Below.drew)⟩
/-- poly.on. -/
theorem on_some (A : Option Addr) (n cap : Nat) (l : List Bl) (hn : l.length = n + 1) (hle : n + 1 ≤ 17) (x y z : Nat) (w : World) (hs : Seq w w.heap.size A (bcells l)) :
    Calls Try.prog 37 #[.slice A (n + 1) cap, .agg #[.complex .f64 x y, .float .f64 z]] w (RB (onFrom (x, y, z) l 0) w) := by
  have hmf : ∀ (fn : Fn) (first cap : Array Value) (w : World), (Instr.makeFunc fn first cap).run Try.prog w = .ok (.func fn first cap) w := fun _ _ _ _ => rfl
  have HS := Lib.hid hs
  have HN := Lib.hid hn
  clear hs hn
  go_enter Try.func37, Try.ntmps37
  go_wp2_with (go_at_call 19; refine (point_any _ _ _).mono ?_; rintro e w1 ⟨rfl, hb⟩; obtain ⟨hc, hf⟩ := bcell hb; (try simp only [World.heap_drewN, World.cell?_drewN, World.frozen?_drewN] at hc hf); have z0 : w.heap.size < w1.heap.size := (by have := hb.size; (try simp at this); omega); have z1 : w.heap.size + 1 < w1.heap.size := (by have := hb.size; (try simp at this); omega))
  have hww : Below w.heap.size w w1 := by repeat (first | exact Below.refl _ _ | refine below_drewN ?_ _ | refine Below.alloc ?_ (by first | omega | (simp; omega) | simp) _ | refine Below.setCell ?_ (by first | omega | (simp; omega) | simp) _ | refine Below.trans ?_ (Below.mono (by assumption) (by first | omega | (simp; omega) | simp)) | apply Below.drew)
  refine (walkB_some A n cap l HN.out hle w.heap.size x y z _ _ _ w1 ((HS.out.below hww (Nat.le_refl _)).more (by omega)) z0 (by simp [hc, go_sem]) (by simp [hc, go_sem])).mono ?_
  rintro e w2 ⟨rfl, hb2⟩
  have hR : BCell w1 (w.heap.size + 1) (0, 0, 0) := BCell.below (X := (0, 0, 0)) (by simpa using BCell.new (w.alloc (.cells #[.complex .f64 x y, .float .f64 z] 34)) 34 (0, 0, 0)) hb (by simp)
  obtain ⟨y0, y1, y2, y3⟩ := hR.below hb2 z1
  clear hR hc hf
  go_wp2
  exact bodyPost_ret (v := .agg #[.complex .f64 (onFrom (x, y, z) l 0).1 (onFrom (x, y, z) l 0).2.1, .float .f64 (onFrom (x, y, z) l 0).2.2]) (by simp [results, Try.results37, go_sem, *]) rfl ⟨rfl, by repeat (first | exact Below.refl _ _ | refine below_drewN ?_ _ | refine Below.alloc ?_ (by first | omega | (simp; omega) | simp) _ | refine Below.setCell ?_ (by first | omega | (simp; omega) | simp) _ | refine Below.trans ?_ (Below.mono (by assumption) (by first | omega | (simp; omega) | simp)) | apply Below.drew)⟩
theorem on_none (A : Option Addr) (cap : Nat) (x y z : Nat) (w : World) :
    Calls Try.prog 37 #[.slice A 0 cap, .agg #[.complex .f64 x y, .float .f64 z]] w (RB (pointS 0 0) w) := by
  have hmf : ∀ (fn : Fn) (first cap : Array Value) (w : World), (Instr.makeFunc fn first cap).run Try.prog w = .ok (.func fn first cap) w := fun _ _ _ _ => rfl
  go_enter Try.func37, Try.ntmps37
  go_wp2_with (go_at_call 19; refine (point_any _ _ _).mono ?_; rintro e w1 ⟨rfl, hb⟩; obtain ⟨hc, hf⟩ := bcell hb; (try simp only [World.heap_drewN, World.cell?_drewN, World.frozen?_drewN] at hc hf); have z0 : w.heap.size < w1.heap.size := (by have := hb.size; (try simp at this); omega); have z1 : w.heap.size + 1 < w1.heap.size := (by have := hb.size; (try simp at this); omega))
  have hR : BCell w1 (w.heap.size + 1) (0, 0, 0) := BCell.below (X := (0, 0, 0)) (by simpa using BCell.new (w.alloc (.cells #[.complex .f64 x y, .float .f64 z] 34)) 34 (0, 0, 0)) hb (by simp)
  refine (walkB_none A cap _ _ _ _ _ w1).mono ?_
  rintro e w2 ⟨rfl, hb2⟩
  obtain ⟨y0, y1, y2, y3⟩ := hR.below hb2 z1
  clear hR hc hf
  go_wp2
  exact bodyPost_ret (v := .agg #[.complex .f64 (pointS 0 0).1 (pointS 0 0).2.1, .float .f64 (pointS 0 0).2.2]) (by simp [results, Try.results37, go_sem, *]) rfl ⟨rfl, by repeat (first | exact Below.refl _ _ | refine below_drewN ?_ _ | refine Below.alloc ?_ (by first | omega | (simp; omega) | simp) _ | refine Below.setCell ?_ (by first | omega | (simp; omega) | simp) _ | refine Below.trans ?_ (Below.mono (by assumption) (by first | omega | (simp; omega) | simp)) | apply Below.drew)⟩
theorem on_any (A : Option Addr) (n cap : Nat) (l : List Bl) (hn : l.length = n) (hle : n ≤ 17) (x y z : Nat) (w : World) (hs : Seq w w.heap.size A (bcells l)) :
    Calls Try.prog 37 #[.slice A n cap, .agg #[.complex .f64 x y, .float .f64 z]] w (RB (onFrom (x, y, z) l 0) w) := by
  cases n with
  | zero =>
    have h0 : l = [] := List.eq_nil_of_length_eq_zero hn
    subst h0
    exact on_none A cap x y z w
  | succ n => exact on_some A n cap l hn hle x y z w hs
end Go.Proofs.Ytmcihnpghcdnmaa
