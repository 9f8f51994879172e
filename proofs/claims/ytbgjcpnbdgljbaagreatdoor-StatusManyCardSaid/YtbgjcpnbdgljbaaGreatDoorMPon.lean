/- The contracts of poly.walk over balls, of poly.on and poly.On, at this translation. -/
import Derived.Test.YtbgjcpnbdgljbaaGreatDoorMPol
import Derived.StillTailTactics
namespace Go.Proofs.YtbgjcpnbdgljbaaGreatDoor
open Go.RowKit Go.Fil
attribute [local irreducible] fop fsqrt fup fabs fneg pick

/-- A ball's two cells at place k of a row of balls. -/
theorem Seq.bat {w : World} {B : Nat} {A : Option Addr} {l : List Bl} (h : Seq w B A (bcells l)) {k : Nat} (hk : k < l.length) :
    ∃ b o, A = some ⟨b, o, none⟩ ∧ b < B ∧ w.cell? ⟨b, o + k * 2, none⟩ = some (.complex .f64 (nthB l k).1 (nthB l k).2.1) ∧ w.cell? ⟨b, o + k * 2 + 1, none⟩ = some (.float .f64 (nthB l k).2.2) := by
  obtain ⟨h0, h1⟩ := bcells_at hk
  rcases h with h | ⟨b, o, hA, hb, hc⟩
  · rw [h] at h0; simp at h0
  · exact ⟨b, o, hA, hb, hc _ _ h0, hc _ _ h1⟩
theorem Seq.bcell {w : World} {B b o : Nat} {l : List Bl} (h : Seq w B (some ⟨b, o, none⟩) (bcells l)) {k : Nat} (hk : k < l.length) :
    b < B ∧ w.cell? ⟨b, o + k * 2, none⟩ = some (.complex .f64 (nthB l k).1 (nthB l k).2.1) ∧ w.cell? ⟨b, o + k * 2 + 1, none⟩ = some (.float .f64 (nthB l k).2.2) := by
  obtain ⟨b', o', hA, hb, hc⟩ := h.bat hk
  injection hA with hA
  injection hA with h1 h2
  subst h1; subst h2
  exact ⟨hb, hc⟩
/-- A ball's two cells in a variable of the call's own. -/
structure BCell (w : World) (G : Nat) (X : Bl) : Prop where
  c0 : w.cell? ⟨G, 0, none⟩ = some (.complex .f64 X.1 X.2.1)
  c1 : w.cell? ⟨G, 1, none⟩ = some (.float .f64 X.2.2)
  f0 : w.frozen? ⟨G, 0, none⟩ = false
  f1 : w.frozen? ⟨G, 1, none⟩ = false
theorem BCell.below {w w' : World} {G B : Nat} {X : Bl} (h : BCell w G X) (hb : Below B w w') (hG : G < B) : BCell w' G X :=
  ⟨(hb.cell (p := ⟨G, 0, none⟩) hG).trans h.c0, (hb.cell (p := ⟨G, 1, none⟩) hG).trans h.c1, (hb.frozen (p := ⟨G, 0, none⟩) hG).trans h.f0, (hb.frozen (p := ⟨G, 1, none⟩) hG).trans h.f1⟩
theorem BCell.new (w : World) (t : TypeId) (X : Bl) : BCell (w.alloc (.cells #[.complex .f64 X.1 X.2.1, .float .f64 X.2.2] t)) w.heap.size X :=
  ⟨by rw [World.cell?_alloc_at _ _ _ _ rfl]; rfl, by rw [World.cell?_alloc_at _ _ _ _ rfl]; rfl, World.frozen?_alloc_at _ _ _ _ rfl, World.frozen?_alloc_at _ _ _ _ rfl⟩
theorem BCell.set {w : World} {G : Nat} {X : Bl} (h : BCell w G X) (Y : Bl) : BCell ((w.setCell ⟨G, 0, none⟩ (.complex .f64 Y.1 Y.2.1)).setCell ⟨G, 1, none⟩ (.float .f64 Y.2.2)) G Y := by
  obtain ⟨h0, h1, h2, h3⟩ := h
  exact ⟨by simp [go_sem, *], by simp [go_sem, *], by simp [go_sem, *], by simp [go_sem, *]⟩
set_option maxRecDepth 100000 in
set_option maxHeartbeats 1600000 in
/-- poly.walk over balls, with poly.on's closures. -/
theorem walkB_some (A : Option Addr) (n cap : Nat) (l : List Bl) (hn : l.length = n + 1) (hle : n + 1 ≤ 17) (g x y z a0 b0 r0 : Nat) (w : World) (hs : Seq w w.heap.size A (bcells l))
    (hg : g < w.heap.size) (hg0 : w.cell? ⟨g, 0, none⟩ = some (.complex .f64 x y)) (hg1 : w.cell? ⟨g, 1, none⟩ = some (.float .f64 z)) :
    Calls Tryz.prog 216 #[.slice A (n + 1) cap, .agg #[.complex .f64 a0 b0, .float .f64 r0], .func (.func 217) #[] #[], .func (.func 218) #[] #[.pointer (some ⟨g, 0, none⟩)]] w
      (RB (onFrom (x, y, z) l 0) w) := by
  obtain ⟨b, o, rfl, hb, hc0, hc1⟩ := hs.bat (k := n) (by omega)
  have HN := Lib.hid hn
  have HS := Lib.hid hs
  have HL := Lib.hid (onFrom_last (z := (x, y, z)) hn)
  have HG0 := Lib.hid hg0
  have HG1 := Lib.hid hg1
  have hb1 : b < w.heap.size + 1 := by omega
  have hnb0 : ¬ w.heap.size = b := by omega
  have hnb1 : ¬ w.heap.size + 1 = b := by omega
  have hd0 : ((w.alloc (.cells #[.complex .f64 a0 b0, .float .f64 r0] 57)).alloc (.cells #[.complex .f64 0 0, .float .f64 0] 57)).cell? ⟨b, o + n * 2, none⟩ = some (.complex .f64 (nthB l n).1 (nthB l n).2.1) := by
    rw [World.cell?_alloc_past _ _ _ (by simp; omega), World.cell?_alloc_past _ _ _ hb]; exact hc0
  have hd1 : ((w.alloc (.cells #[.complex .f64 a0 b0, .float .f64 r0] 57)).alloc (.cells #[.complex .f64 0 0, .float .f64 0] 57)).cell? ⟨b, o + n * 2 + 1, none⟩ = some (.float .f64 (nthB l n).2.2) := by
    rw [World.cell?_alloc_past _ _ _ (by simp; omega), World.cell?_alloc_past _ _ _ hb]; exact hc1
  clear hn hs hc0 hc1 hg0 hg1
  go_enter Tryz.func216, Tryz.ntmps216
  go_wp2_with (go_at_call 217; refine (on1_any _ _ _ _).mono ?_; rintro e w1 ⟨rfl, hb⟩; obtain ⟨hc, hf⟩ := bcell hb; (try simp only [World.heap_drewN, World.cell?_drewN, World.frozen?_drewN] at hc hf); have z0 : w.heap.size < w1.heap.size := (by have := hb.size; (try simp at this); omega); have z1 : w.heap.size + 1 < w1.heap.size := (by have := hb.size; (try simp at this); omega))
  have hR : BCell w1 (w.heap.size + 1) (0, 0, 0) := BCell.below (X := (0, 0, 0)) (by simpa using BCell.new (w.alloc (.cells #[.complex .f64 a0 b0, .float .f64 r0] 57)) 57 (0, 0, 0)) hb (by simp)
  have hww : Below w.heap.size w w1 := by repeat (first | exact Below.refl _ _ | refine below_drewN ?_ _ | refine Below.alloc ?_ (by first | omega | (simp; omega) | simp) _ | refine Below.setCell ?_ (by first | omega | (simp; omega) | simp) _ | refine Below.trans ?_ (Below.mono (by assumption) (by first | omega | (simp; omega) | simp)) | apply Below.drew)
  have hZ : w1.cell? ⟨g, 0, none⟩ = some (.complex .f64 x y) ∧ w1.cell? ⟨g, 1, none⟩ = some (.float .f64 z) := ⟨(hww.cell (p := ⟨g, 0, none⟩) hg).trans HG0.out, (hww.cell (p := ⟨g, 1, none⟩) hg).trans HG1.out⟩
  have hS1 := HS.out.below hww (Nat.le_refl _)
  have HR := Lib.hid hR
  have HZ := Lib.hid hZ
  have HS1 := Lib.hid hS1
  have HW := Lib.hid hww
  have HB : Hid (BCell (w1.alloc (.cells #[.complex .f64 (nthB l n).1 (nthB l n).2.1, .float .f64 (nthB l n).2.2] 57)) w1.heap.size (onFrom (x, y, z) l n)) := by rw [HL.out]; exact BCell.new _ _ _
  have e0 : ((n : Int) + 1 - 2) = (n : Int) - 1 := by omega
  rw [e0]
  clear e0 hR hZ hS1 hww hc hf hd0 hd1 hb HG0 HG1 HS
  go_loopw [10] (fun i wr => ∃ k : Nat, k ≤ n ∧ i = .int .i64 ((k : Int) - 1) ∧ BCell wr w1.heap.size (onFrom (x, y, z) l k) ∧ Below w1.heap.size w1 wr ∧ w1.heap.size < wr.heap.size) (fun i _ => (intOf i + 1).toNat)
  case atStart => exact ⟨n, Nat.le_refl _, rfl, HB.out, (Below.refl _ _).alloc (Nat.le_refl _) _, by simp⟩
  case round =>
    obtain ⟨k, hk, rfl, hX, hnx, hlt⟩ := hrel
    have hRr := HR.out.below hnx z1
    cases k with
    | zero =>
      obtain ⟨x0, x1, x2, x3⟩ := hX
      obtain ⟨r0, r1, r2, r3⟩ := hRr
      go_wp2
      exact bodyPost_ret (v := .agg #[.complex .f64 (onFrom (x, y, z) l 0).1 (onFrom (x, y, z) l 0).2.1, .float .f64 (onFrom (x, y, z) l 0).2.2])
        (by simp [results, Tryz.results216, go_sem, *]) rfl ⟨rfl, (HW.out.trans (hnx.mono HW.out.size)).setCell (by simp) _ |>.setCell (by simp) _⟩
    | succ k =>
      obtain ⟨_, hl0, hl1⟩ := (HS1.out.below hnx (by omega)).bcell (k := k) (by have := HN.out; omega)
      have hz0 := (hnx.cell (p := ⟨g, 0, none⟩) (by show g < _; omega)).trans HZ.out.1
      have hz1 := (hnx.cell (p := ⟨g, 1, none⟩) (by show g < _; omega)).trans HZ.out.2
      have e1 : (((k + 1 : Nat) : Int) - 1) = (k : Int) := by omega
      rw [e1]
      clear e1 hRr
      have HT := Lib.hid (onFrom_step (z := (x, y, z)) (l := l) (k := k) (by have := HN.out; omega))
      obtain ⟨x0, x1, x2, x3⟩ := hX
      have hgw : g < wr.heap.size := by omega
      have i0 : (0 : Int) ≤ (k : Int) := by omega
      have i1 : (k : Int) < (n : Int) + 1 := by omega
      have i2 : k < n + 1 := by omega
      go_wp2_with fail
      go_still_tail 6, (by kernel_rfl)
      change wpList _ _ _ _ _ (wr.drewN 1)
      go_wp2_with fail
      refine (on2_any _ _ _ _ _ _ x y z g (wr.drewN 1) (by simpa using hgw) hz0 hz1).mono ?_
      rintro e w2 ⟨rfl, hb2⟩
      obtain ⟨y0, y1, y2, y3⟩ := BCell.below (w := wr.drewN 1) (X := onFrom (x, y, z) l (k + 1)) ⟨x0, x1, x2, x3⟩ hb2 (by simpa using hlt)
      go_wp2
      go_roundw
      case rel => exact ⟨k, by omega, rfl, by rw [HT.out]; exact BCell.set (X := onFrom (x, y, z) l (k + 1)) ⟨y0, y1, y2, y3⟩ _, (((below_drewN hnx 1).trans (hb2.mono (Nat.le_of_lt hlt))).setCell (Nat.le_refl _) _).setCell (Nat.le_refl _) _, by have := hb2.size; simp at this ⊢; omega⟩
      case measure => simp [intOf]
theorem walkB_none (A : Option Addr) (cap : Nat) (f1 f2 : Value) (a b r : Nat) (w : World) :
    Calls Tryz.prog 216 #[.slice A 0 cap, .agg #[.complex .f64 a b, .float .f64 r], f1, f2] w (RB (a, b, r) w) := by
  go_enter Tryz.func216, Tryz.ntmps216
  go_wp2
  exact bodyPost_ret (v := .agg #[.complex .f64 a b, .float .f64 r]) (by simp [results, Tryz.results216, go_sem]) rfl ⟨rfl, by repeat (first | exact Below.refl _ _ | refine below_drewN ?_ _ | refine Below.alloc ?_ (by first | omega | (simp; omega) | simp) _ | refine Below.setCell ?_ (by first | omega | (simp; omega) | simp) _ | refine Below.trans ?_ (Below.mono (by assumption) (by first | omega | (simp; omega) | simp)) | apply Below.drew)⟩
/-- poly.on. -/
theorem on_some (A : Option Addr) (n cap : Nat) (l : List Bl) (hn : l.length = n + 1) (hle : n + 1 ≤ 17) (x y z : Nat) (w : World) (hs : Seq w w.heap.size A (bcells l)) :
    Calls Tryz.prog 172 #[.slice A (n + 1) cap, .agg #[.complex .f64 x y, .float .f64 z]] w (RB (onFrom (x, y, z) l 0) w) := by
  have hmf : ∀ (fn : Fn) (first cap : Array Value) (w : World), (Instr.makeFunc fn first cap).run Tryz.prog w = .ok (.func fn first cap) w := fun _ _ _ _ => rfl
  have HS := Lib.hid hs
  have HN := Lib.hid hn
  clear hs hn
  go_enter Tryz.func172, Tryz.ntmps172
  go_wp2_with (go_at_call 112; refine (point_any _ _ _).mono ?_; rintro e w1 ⟨rfl, hb⟩; obtain ⟨hc, hf⟩ := bcell hb; (try simp only [World.heap_drewN, World.cell?_drewN, World.frozen?_drewN] at hc hf); have z0 : w.heap.size < w1.heap.size := (by have := hb.size; (try simp at this); omega); have z1 : w.heap.size + 1 < w1.heap.size := (by have := hb.size; (try simp at this); omega))
  have hww : Below w.heap.size w w1 := by repeat (first | exact Below.refl _ _ | refine below_drewN ?_ _ | refine Below.alloc ?_ (by first | omega | (simp; omega) | simp) _ | refine Below.setCell ?_ (by first | omega | (simp; omega) | simp) _ | refine Below.trans ?_ (Below.mono (by assumption) (by first | omega | (simp; omega) | simp)) | apply Below.drew)
  refine (walkB_some A n cap l HN.out hle w.heap.size x y z _ _ _ w1 ((HS.out.below hww (Nat.le_refl _)).more (by omega)) z0 (by simp [hc, go_sem]) (by simp [hc, go_sem])).mono ?_
  rintro e w2 ⟨rfl, hb2⟩
  have hR : BCell w1 (w.heap.size + 1) (0, 0, 0) := BCell.below (X := (0, 0, 0)) (by simpa using BCell.new (w.alloc (.cells #[.complex .f64 x y, .float .f64 z] 57)) 57 (0, 0, 0)) hb (by simp)
  obtain ⟨y0, y1, y2, y3⟩ := hR.below hb2 z1
  clear hR hc hf
  go_wp2
  exact bodyPost_ret (v := .agg #[.complex .f64 (onFrom (x, y, z) l 0).1 (onFrom (x, y, z) l 0).2.1, .float .f64 (onFrom (x, y, z) l 0).2.2]) (by simp [results, Tryz.results172, go_sem, *]) rfl ⟨rfl, by repeat (first | exact Below.refl _ _ | refine below_drewN ?_ _ | refine Below.alloc ?_ (by first | omega | (simp; omega) | simp) _ | refine Below.setCell ?_ (by first | omega | (simp; omega) | simp) _ | refine Below.trans ?_ (Below.mono (by assumption) (by first | omega | (simp; omega) | simp)) | apply Below.drew)⟩
theorem on_none (A : Option Addr) (cap : Nat) (x y z : Nat) (w : World) :
    Calls Tryz.prog 172 #[.slice A 0 cap, .agg #[.complex .f64 x y, .float .f64 z]] w (RB (pointS 0 0) w) := by
  have hmf : ∀ (fn : Fn) (first cap : Array Value) (w : World), (Instr.makeFunc fn first cap).run Tryz.prog w = .ok (.func fn first cap) w := fun _ _ _ _ => rfl
  go_enter Tryz.func172, Tryz.ntmps172
  go_wp2_with (go_at_call 112; refine (point_any _ _ _).mono ?_; rintro e w1 ⟨rfl, hb⟩; obtain ⟨hc, hf⟩ := bcell hb; (try simp only [World.heap_drewN, World.cell?_drewN, World.frozen?_drewN] at hc hf); have z0 : w.heap.size < w1.heap.size := (by have := hb.size; (try simp at this); omega); have z1 : w.heap.size + 1 < w1.heap.size := (by have := hb.size; (try simp at this); omega))
  have hR : BCell w1 (w.heap.size + 1) (0, 0, 0) := BCell.below (X := (0, 0, 0)) (by simpa using BCell.new (w.alloc (.cells #[.complex .f64 x y, .float .f64 z] 57)) 57 (0, 0, 0)) hb (by simp)
  refine (walkB_none A cap _ _ _ _ _ w1).mono ?_
  rintro e w2 ⟨rfl, hb2⟩
  obtain ⟨y0, y1, y2, y3⟩ := hR.below hb2 z1
  clear hR hc hf
  go_wp2
  exact bodyPost_ret (v := .agg #[.complex .f64 (pointS 0 0).1 (pointS 0 0).2.1, .float .f64 (pointS 0 0).2.2]) (by simp [results, Tryz.results172, go_sem, *]) rfl ⟨rfl, by repeat (first | exact Below.refl _ _ | refine below_drewN ?_ _ | refine Below.alloc ?_ (by first | omega | (simp; omega) | simp) _ | refine Below.setCell ?_ (by first | omega | (simp; omega) | simp) _ | refine Below.trans ?_ (Below.mono (by assumption) (by first | omega | (simp; omega) | simp)) | apply Below.drew)⟩
theorem on_any (A : Option Addr) (n cap : Nat) (l : List Bl) (hn : l.length = n) (hle : n ≤ 17) (x y z : Nat) (w : World) (hs : Seq w w.heap.size A (bcells l)) :
    Calls Tryz.prog 172 #[.slice A n cap, .agg #[.complex .f64 x y, .float .f64 z]] w (RB (onFrom (x, y, z) l 0) w) := by
  cases n with
  | zero =>
    have h0 : l = [] := List.eq_nil_of_length_eq_zero hn
    subst h0
    exact on_none A cap x y z w
  | succ n => exact on_some A n cap l hn hle x y z w hs
end Go.Proofs.YtbgjcpnbdgljbaaGreatDoor

/- The contracts of poly.On, poly.SlopeOn and ball.Contracts, at this translation. -/
namespace Go.Proofs.YtbgjcpnbdgljbaaGreatDoor
open Go.RowKit Go.Fil
attribute [local irreducible] fop fsqrt fup fabs fneg pick

theorem seq_of_own2 {w : World} {base e n : Nat} {v : Value} {xs : List Value} (h : w.ownsRow base e 2 v n xs) : ∃ A c, v = .slice A n c ∧ Seq w w.heap.size A xs := by
  rcases n with _ | n
  · have hx : xs = [] := List.eq_nil_of_length_eq_zero (by simpa using h.1)
    rcases h.2 with ⟨rfl, _⟩ | ⟨g, cap, cur, rfl, _⟩
    · exact ⟨none, 0, rfl, .inl hx⟩
    · exact ⟨_, cap, rfl, .inl hx⟩
  · obtain ⟨g, cap, hv, _, hlt⟩ := World.ownsRow.form h (by omega)
    subst hv
    refine ⟨_, cap, rfl, .inr ⟨g, 0, rfl, hlt, fun k u hu => ?_⟩⟩
    have := h.cells (g := g) rfl k u hu
    rw [Addr.add_lit] at this
    exact this
theorem pointsS_length (ps : List Cc) : (pointsS ps).length = ps.length := by simp [pointsS, pointsTo]
/-- What On and SlopeOn answer. -/
def RBE (ok : Bool) (X : Bl) (w : World) (e : Ending) (w' : World) : Prop :=
  e = .returned (.tuple #[.agg #[.complex .f64 (if ok then X.1 else 0) (if ok then X.2.1 else 0), .float .f64 (if ok then X.2.2 else 0)], .int .i64 (errS ok)]) ∧ Below w.heap.size w w'
theorem On_ok (A : Option Addr) (n cap : Nat) (ps : List Cc) (hn : ps.length = n) (hm : n ≤ 9223372036854775807) (a b r : Nat) (w : World) (hs : Seq w w.heap.size A (ps.map cv)) (hc : checkS ps = true) (hmay : mayS (a, b, r) = true) :
    Calls Tryz.prog 111 #[.slice A n cap, .agg #[.complex .f64 a b, .float .f64 r]] w
      fun e w' => e = .returned (.tuple #[.agg #[.complex .f64 (onFrom (a, b, r) (pointsS ps) 0).1 (onFrom (a, b, r) (pointsS ps) 0).2.1, .float .f64 (onFrom (a, b, r) (pointsS ps) 0).2.2], .int .i64 0]) ∧ Below w.heap.size w w' := by
  have hn17 : n ≤ 17 := by unfold checkS at hc; simp at hc; omega
  have HS := Lib.hid hs
  have HN := Lib.hid hn
  clear hs hn
  go_enter Tryz.func111, Tryz.ntmps111
  go_wp2_with fail
  refine Calls.mono (all_one (w.heap.size + 1 + 1) A n cap ps HN.out hm w.heap.size _ ?hs ?hg) ?k
  case hs => exact HS.out.below (B' := w.heap.size) (by repeat (first | exact Below.refl _ _ | refine below_drewN ?_ _ | refine Below.alloc ?_ (by first | omega | (simp; omega) | simp) _ | refine Below.setCell ?_ (by first | omega | (simp; omega) | simp) _ | refine Below.trans ?_ (Below.mono (by assumption) (by first | omega | (simp; omega) | simp)) | apply Below.drew)) (Nat.le_refl _)
  case hg => rw [World.cell?_alloc_at _ _ _ _ (by simp)]; rfl
  rintro e w' ⟨rfl, rfl⟩
  rw [hc]
  clear hc
  go_wp2_with (go_at_call 120; refine (may_any _ _ _ _).mono ?_; rintro e w1 ⟨rfl, hb⟩; rw [hmay]; obtain ⟨hc, hf⟩ := bcell hb; (try simp only [World.heap_drewN, World.cell?_drewN, World.frozen?_drewN] at hc hf); have z0 : w.heap.size < w1.heap.size := (by have := hb.size; (try simp at this); omega); have z1 : w.heap.size + 1 < w1.heap.size := (by have := hb.size; (try simp at this); omega))
  have hww : Below w.heap.size w w1 := by repeat (first | exact Below.refl _ _ | refine below_drewN ?_ _ | refine Below.alloc ?_ (by first | omega | (simp; omega) | simp) _ | refine Below.setCell ?_ (by first | omega | (simp; omega) | simp) _ | refine Below.trans ?_ (Below.mono (by assumption) (by first | omega | (simp; omega) | simp)) | apply Below.drew)
  have hS1 := (HS.out.below hww (Nat.le_refl _)).more (Nat.le_of_lt z0)
  have HS1 := Lib.hid hS1
  have HL : Hid ((pointsS ps).length = n) := by rw [pointsS_length]; exact HN.out
  clear hS1
  go_region_held3 (fun x => x.cell? ⟨w.heap.size, 0, none⟩ = some (.complex .f64 a b) ∧ x.cell? ⟨w.heap.size, 1, none⟩ = some (.float .f64 r)) (((try dsimp only); refine ⟨?_, ?_⟩ <;> first | (simp [go_sem, World.cell?_alloc_past, *]; done) | (rw [hc _ _ (by first | assumption | (simp; assumption) | omega | (simp; omega))]; first | exact (‹_ ∧ _›).1 | exact (‹_ ∧ _›).2)))
    (first
      | (go_at_call 173; refine (points_any A n cap ps HN.out hn17 (w1.drewN 1) HS1.out).mono ?_; rintro e w2 ⟨v, rfl, hown, hb⟩; obtain ⟨A1, c1, rfl, hs1⟩ := seq_of_own2 hown; have HS2 := Lib.hid hs1; clear hown hs1; obtain ⟨hc, hf⟩ := bcell hb; simp only [World.heap_drewN, World.cell?_drewN, World.frozen?_drewN] at hc hf; have y0 : w.heap.size < w2.heap.size := (by have := hb.size; simp at this; omega); have y1 : w.heap.size + 1 < w2.heap.size := (by have := hb.size; simp at this; omega))
      | (go_at_call 172; refine (on_any _ n _ (pointsS ps) HL.out hn17 _ _ _ _ (Hid.out (by assumption))).mono ?_; rintro e w3 ⟨rfl, hb⟩; obtain ⟨hc, hf⟩ := bcell hb; have y0 : w.heap.size < w3.heap.size := (by have := hb.size; omega); have y1 : w.heap.size + 1 < w3.heap.size := (by have := hb.size; omega)))
  go_wp2
  exact bodyPost_ret (v := .tuple #[.agg #[.complex .f64 (onFrom (a, b, r) (pointsS ps) 0).1 (onFrom (a, b, r) (pointsS ps) 0).2.1, .float .f64 (onFrom (a, b, r) (pointsS ps) 0).2.2], .int .i64 0])
    (by simp [results, Tryz.results111, go_sem, *]) rfl ⟨rfl, by repeat (first | exact Below.refl _ _ | refine below_drewN ?_ _ | refine Below.alloc ?_ (by first | omega | (simp; omega) | simp) _ | refine Below.setCell ?_ (by first | omega | (simp; omega) | simp) _ | refine Below.trans ?_ (Below.mono (by assumption) (by first | omega | (simp; omega) | simp)) | apply Below.drew)⟩
set_option maxRecDepth 100000 in
set_option maxHeartbeats 1600000 in
theorem SlopeOn_ok (A : Option Addr) (n cap : Nat) (ps : List Cc) (hn : ps.length = n) (hm : n ≤ 9223372036854775807) (a b r : Nat) (w : World) (hs : Seq w w.heap.size A (ps.map cv)) (hc : checkS ps = true) (hmay : mayS (a, b, r) = true) :
    Calls Tryz.prog 116 #[.slice A n cap, .agg #[.complex .f64 a b, .float .f64 r]] w
      fun e w' => e = .returned (.tuple #[.agg #[.complex .f64 (onFrom (a, b, r) (slopesS ps) 0).1 (onFrom (a, b, r) (slopesS ps) 0).2.1, .float .f64 (onFrom (a, b, r) (slopesS ps) 0).2.2], .int .i64 0]) ∧ Below w.heap.size w w' := by
  have hn17 : n ≤ 17 := by unfold checkS at hc; simp at hc; omega
  obtain ⟨i0, hi, hz0, hz1, hz2⟩ := info_parts Tryz.infoB
  have HS := Lib.hid hs
  have HN := Lib.hid hn
  clear hs hn
  go_enter Tryz.func116, Tryz.ntmps116
  go_wp2_with fail
  refine Calls.mono (all_one (w.heap.size + 1 + 1) A n cap ps HN.out hm w.heap.size _ ?hs ?hg) ?k
  case hs => exact HS.out.below (B' := w.heap.size) (by repeat (first | exact Below.refl _ _ | refine below_drewN ?_ _ | refine Below.alloc ?_ (by first | omega | (simp; omega) | simp) _ | refine Below.setCell ?_ (by first | omega | (simp; omega) | simp) _ | refine Below.trans ?_ (Below.mono (by assumption) (by first | omega | (simp; omega) | simp)) | apply Below.drew)) (Nat.le_refl _)
  case hg => rw [World.cell?_alloc_at _ _ _ _ (by simp)]; rfl
  rintro e w' ⟨rfl, rfl⟩
  rw [hc]
  clear hc
  go_wp2_with (go_at_call 120; refine (may_any _ _ _ _).mono ?_; rintro e w1 ⟨rfl, hb⟩; rw [hmay]; obtain ⟨hc, hf⟩ := bcell hb; (try simp only [World.heap_drewN, World.cell?_drewN, World.frozen?_drewN] at hc hf); have z0 : w.heap.size < w1.heap.size := (by have := hb.size; (try simp at this); omega); have z1 : w.heap.size + 1 < w1.heap.size := (by have := hb.size; (try simp at this); omega))
  have hww : Below w.heap.size w w1 := by repeat (first | exact Below.refl _ _ | refine below_drewN ?_ _ | refine Below.alloc ?_ (by first | omega | (simp; omega) | simp) _ | refine Below.setCell ?_ (by first | omega | (simp; omega) | simp) _ | refine Below.trans ?_ (Below.mono (by assumption) (by first | omega | (simp; omega) | simp)) | apply Below.drew)
  have hS1 := (HS.out.below hww (Nat.le_refl _)).more (Nat.le_of_lt z0)
  have HS1 := Lib.hid hS1
  have hR : BCell w1 (w.heap.size + 1) (0, 0, 0) := BCell.below (X := (0, 0, 0)) ⟨by simp [go_sem], by simp [go_sem], by simp [go_sem], by simp [go_sem]⟩ hb (by simp)
  have hX : BCell w1 w.heap.size (a, b, r) := BCell.below (X := (a, b, r)) ⟨by simp [go_sem], by simp [go_sem], by simp [go_sem], by simp [go_sem]⟩ hb (by simp; omega)
  have HR := Lib.hid hR
  have HX := Lib.hid hX
  have HW := Lib.hid hww
  clear hS1 hR hX hww hc hf hb HS
  go_outline
  go_loopw [6, 7] (fun u i wr => ∃ (k : Nat) (v : Value), v = u ∧ 1 ≤ k ∧ (k ≤ n ∨ k = 1) ∧ i = .int .i64 k ∧ wr.ownsRow w1.heap.size 57 2 v (k - 1) (bcells (slopesTo ps k)) ∧ Below w1.heap.size w1 wr) (fun _ i _ => n - (intOf i).toNat)
  case atStart => exact ⟨1, _, rfl, Nat.le_refl _, .inr rfl, rfl, World.ownsRow_nil _ _ _ _, Below.refl _ _⟩
  case round =>
    obtain ⟨k, v, hv, hk1, hk, rfl, hown, hnx⟩ := hrel
    subst hv
    by_cases hlt : k < n
    · obtain ⟨bb, o, rfl, hbb, hcl⟩ := (HS1.out.below hnx (Nat.le_refl _)).cat (k := k) (by have := HN.out; omega)
      have i0' : (0 : Int) ≤ (k : Int) := by omega
      have i1 : (k : Int) < (n : Int) := by omega
      have hsz0 := hnx.size
      have hbw : bb < wr.heap.size := by omega
      go_wp2_with fail
      have hne : ¬ some bb = v.ownBlock := by
        intro h
        have := (hown.lt bb h.symm).1
        have := z0; have := z1; omega
      go_region_held3 (fun x => x.cell? ⟨bb, o + k, none⟩ = some (.complex .f64 (nth ps k).1 (nth ps k).2))
        (first
          | (simp [go_sem, World.cell?_alloc_past, *]; done)
          | (rw [hc _ _ (by first | assumption | (simp; assumption) | omega | (simp; omega))]; assumption)
          | (rw [World.cell?_alloc_past _ _ _ (by assumption)]; assumption)
          | (rw [hgrow.cell_far _ (by simp; omega) hne]; simp [go_sem, *]; done))
        (first
          | (go_at_call 112; refine (point_any _ _ _).mono ?_; rintro e w2 ⟨rfl, hb⟩; obtain ⟨hc, hf⟩ := bcell hb; (try simp only [World.heap_drewN, World.cell?_drewN, World.frozen?_drewN] at hc hf); have hsz := hb.size; (try simp at hsz); have hbw : bb < w2.heap.size := (by omega))
          | (go_at_call 114; refine (bmul_any _ _ _ _ _ _ _).mono ?_; rintro e w2 ⟨rfl, hb⟩; obtain ⟨hc, hf⟩ := bcell hb; (try simp only [World.heap_drewN, World.cell?_drewN, World.frozen?_drewN] at hc hf); have hsz := hb.size; (try simp at hsz); have hbw : bb < w2.heap.size := (by omega))
          | (refine step_append_lies _ (by rfl) _ _ _ (by rfl) w1.heap.size 57 i0 (.agg #[.complex .f64 0 0, .float .f64 0]) 2 24 Tryz.underlying108 hi hz0 hz1 hz2 rfl (by decide) v (k - 1) (bcells (slopesTo ps k)) (by rfl) (own_below hown (by repeat (first | exact Below.refl _ _ | refine below_drewN ?_ _ | refine Below.alloc ?_ (by first | omega | (simp; omega) | simp) _ | refine Below.setCell ?_ (by first | omega | (simp; omega) | simp) _ | refine Below.trans ?_ (Below.mono (by assumption) (by first | omega | (simp; omega) | simp)) | apply Below.drew))) ⟨_, 0, none⟩ 1 1 [.complex .f64 (slopeB ps k).1 (slopeB ps k).2.1, .float .f64 (slopeB ps k).2.2] (by rfl) (by rfl) (ball_new _ _ _) (by intro u hu; simp at hu; rcases hu with rfl | rfl <;> rfl) (by decide) (by unfold maxLen; omega) (by omega) (by have := hnx.size; simp; omega) _ rfl ?_; intro gg cap' w4 hown1 hgrow hat hlt4))
      have hnx' : Below w1.heap.size w1 w4 := (hnx.trans (show Below w1.heap.size wr _ from by repeat (first | exact Below.refl _ _ | refine below_drewN ?_ _ | refine Below.alloc ?_ (by first | omega | (simp; omega) | simp) _ | refine Below.setCell ?_ (by first | omega | (simp; omega) | simp) _ | refine Below.trans ?_ (Below.mono (by assumption) (by first | omega | (simp; omega) | simp)) | apply Below.drew))).grown hgrow (by have := hnx.size; simp; omega) (fun q hq => (hown.lt q hq).1)
      have hown2 : w4.ownsRow w1.heap.size 57 2 (.slice (some ⟨gg, 0, none⟩) k cap') (k + 1 - 1) (bcells (slopesTo ps (k + 1))) := by
        have ek : k - 1 + 1 = k := by omega
        rw [ek] at hown1
        rw [slopesTo_next ps hk1, bcells_append, show k + 1 - 1 = k by omega]
        exact hown1
      go_wp2
      go_roundw
      case rel => exact ⟨k + 1, _, rfl, by omega, by omega, by go_num, hown2, hnx'⟩
      case measure => simp [intOf]; omega
    · have e : slopesTo ps k = slopesS ps := by
        unfold slopesS
        have := HN.out
        rcases hk with h | h
        · rw [show k = ps.length by omega]
        · unfold slopesTo; rw [show k - 1 = 0 by omega, show ps.length - 1 = 0 by omega]
      rw [e] at hown
      have hkn : k - 1 = n - 1 := by omega
      rw [hkn] at hown
      clear e hkn
      have HL : Hid ((slopesS ps).length = n - 1) := Lib.hid (by unfold slopesS; rw [slopesTo_length]; have := HN.out; omega)
      obtain ⟨A1, c1, rfl, hs1⟩ := seq_of_own2 hown
      obtain ⟨x0, x1, x2, x3⟩ := HX.out.below hnx z0
      obtain ⟨r0, r1, r2, r3⟩ := HR.out.below hnx z1
      have hsz0 := hnx.size
      have HS2 := Lib.hid hs1
      have HNX := Lib.hid hnx
      clear hs1 hown hnx
      have q0 : w.heap.size < wr.heap.size := by omega
      have q1 : w.heap.size + 1 < wr.heap.size := by omega
      go_wp2_with (go_at_call 172; refine (on_any _ (n - 1) _ (slopesS ps) HL.out (by omega) _ _ _ _ HS2.out).mono ?_; rintro e w3 ⟨rfl, hb⟩; obtain ⟨hc, hf⟩ := bcell hb; have hsz := hb.size)
      exact bodyPost_ret (v := .tuple #[.agg #[.complex .f64 (onFrom (a, b, r) (slopesS ps) 0).1 (onFrom (a, b, r) (slopesS ps) 0).2.1, .float .f64 (onFrom (a, b, r) (slopesS ps) 0).2.2], .int .i64 0])
        (by simp [results, Tryz.results116, go_sem, *]) rfl ⟨rfl, by
          refine Below.setCell ?_ (by simp) _
          refine Below.setCell ?_ (by simp) _
          exact (HW.out.trans (HNX.out.mono (by omega))).trans (hb.mono (by omega))⟩
end Go.Proofs.YtbgjcpnbdgljbaaGreatDoor
