/- The contract of roots.Newton, at this translation. -/
import Derived.Test.YtmcihnpghcdnmaaCt
namespace Go.Proofs.Ytmcihnpghcdnmaa
open Go.RowKit Go.Fil
attribute [local irreducible] fop fsqrt fup fabs fneg pick fmax

def stepQ (u v : Cc) : Cc := (quoRe u.1 u.2 v.1 v.2, quoIm u.1 u.2 v.1 v.2)
def nextC (x y : Nat) (q : Cc) : Cc := (fop .sub x q.1, fop .sub y q.2)
def newtonQ (ps : List Cc) (x y : Nat) : Cc := stepQ (atFrom (x, y) ps 0) (atFrom (x, y) (steepS ps) 0)
def newtonZ (ps : List Cc) (x y : Nat) : Cc := nextC x y (newtonQ ps x y)
def newtonOk (ps : List Cc) (x y : Nat) : Bool := cfin x y && (cfin (newtonQ ps x y).1 (newtonQ ps x y).2 && cfin (newtonZ ps x y).1 (newtonZ ps x y).2)
def RNw (ok : Bool) (X Y : Nat) (w : World) (e : Ending) (w' : World) : Prop :=
  e = .returned (.tuple #[.complex .f64 (if ok then X else 0) (if ok then Y else 0), .bool ok]) ∧ Below w.heap.size w w'
section
variable (A : Option Addr) (n cap : Nat) (ps : List Cc) (hn : ps.length = n) (hm : n ≤ 9223372036854775807) (x y : Nat) (w : World) (hs : Seq w w.heap.size A (ps.map cv)) (hc : checkS ps = true)
include hn hm hs hc
theorem At_ok {u1 u2 : Nat} (hu : atFrom (x, y) ps 0 = (u1, u2)) : Calls Try.prog 14 #[.slice A n cap, .complex .f64 x y] w fun e w' =>
    ∃ s t, e = .returned (.tuple #[.complex .f64 (pick u1 s) (pick u2 t), .int .i64 0]) ∧ Below w.heap.size w w' := by
  refine (At_any A n cap ps hn hm x y w hs).mono ?_
  rintro e w' ⟨h, hb⟩
  rw [hc, if_pos rfl, hu] at h
  obtain ⟨s, t, h⟩ := h
  exact ⟨s, t, h, hb⟩
theorem SlopeAt_ok {u1 u2 : Nat} (hu : atFrom (x, y) (steepS ps) 0 = (u1, u2)) : Calls Try.prog 15 #[.slice A n cap, .complex .f64 x y] w fun e w' =>
    ∃ s t, e = .returned (.tuple #[.complex .f64 (pick u1 s) (pick u2 t), .int .i64 0]) ∧ Below w.heap.size w w' := by
  refine (SlopeAt_any A n cap ps hn hm x y w hs).mono ?_
  rintro e w' ⟨h, hb⟩
  rw [hc, if_pos rfl, hu] at h
  obtain ⟨s, t, h⟩ := h
  exact ⟨s, t, h, hb⟩
end
section
variable (A : Option Addr) (n cap : Nat) (ps : List Cc) (hn : ps.length = n) (hm : n ≤ 9223372036854775807) (hp : 0 < n) (x y : Nat) (w : World) (hs : Seq w w.heap.size A (ps.map cv)) (hc : checkS ps = true)
include hn hm hp hs hc
theorem newton_1 (hz : cfin x y = false) : Calls Try.prog 7 #[.slice A n cap, .complex .f64 x y] w (RNw false 0 0 w) := by
  have hp' : (0 : Int) < (n : Int) := by omega
  go_enter Try.func7, Try.ntmps7
  go_wp2_with (first
    | (go_at_call 9; refine (may_ok A n cap ps hn hm hp w.heap.size _ hs hc).mono ?_; rintro e w' ⟨rfl, rfl⟩)
    | (go_at_call 13; refine (rfinite_not _ _ hz _).mono ?_; rintro e w' ⟨n, rfl, rfl⟩))
  go_ret2
  exact ⟨rfl, by repeat (first | exact Below.refl _ _ | refine below_drewN ?_ _ | refine Below.alloc ?_ (by first | omega | (simp; omega) | simp) _ | refine Below.setCell ?_ (by first | omega | (simp; omega) | simp) _ | refine Below.trans ?_ (Below.mono (by assumption) (by first | omega | (simp; omega) | simp)) | apply Below.drew)⟩
theorem newton_q (hz : cfin x y = true) {u1 u2 v1 v2 : Nat} (hu : atFrom (x, y) ps 0 = (u1, u2)) (hv : atFrom (x, y) (steepS ps) 0 = (v1, v2)) (h1 : cfin (quoRe u1 u2 v1 v2) (quoIm u1 u2 v1 v2) = false) :
    Calls Try.prog 7 #[.slice A n cap, .complex .f64 x y] w (RNw false 0 0 w) := by
  have hp' : (0 : Int) < (n : Int) := by omega
  have HS := Lib.hid hs
  have HN := Lib.hid hn
  clear hs hn
  unfold RNw
  go_enter Try.func7, Try.ntmps7
  go_wp2_with (first | (go_at_call 9; refine (may_ok A n cap ps HN.out hm hp w.heap.size _ HS.out hc).mono ?_; rintro e w' ⟨rfl, rfl⟩) | (go_at_call 13; refine (rfinite_any _ _ _).mono ?_; rintro e w' ⟨j, rfl, rfl⟩) | (go_at_call 14; refine (At_ok A n cap ps HN.out hm _ _ _ (HS.out.drewN _) hc hu).mono ?_; rintro e w1 ⟨s, t, rfl, hb⟩; have hs1 := Lib.hid (((HS.out.drewN _).below hb (Nat.le_refl _)).more hb.size); have qw1 : w.heap.size ≤ w1.heap.size := hb.size) | (go_at_call 15; refine (SlopeAt_ok A n cap ps HN.out hm _ _ _ hs1.out hc hv).mono ?_; rintro e w2 ⟨s2, t2, rfl, hb2⟩) | (go_at_call 16; refine (cquo_any _ _ _ _ _).mono ?_; rintro e w' ⟨s, t, j, rfl, rfl⟩) | (go_at_call 17; refine (csub_any _ _ _ _ _).mono ?_; rintro e w' ⟨s, t, j, rfl, rfl⟩))
  go_ret2
  exact ⟨rfl, by repeat (first | exact Below.refl _ _ | refine below_drewN ?_ _ | refine Below.alloc ?_ (by first | omega | (simp; omega) | simp) _ | refine Below.setCell ?_ (by first | omega | (simp; omega) | simp) _ | refine Below.trans ?_ (Below.mono (by assumption) (by first | omega | (simp; omega) | simp)) | apply Below.drew)⟩
theorem newton_z (hz : cfin x y = true) {u1 u2 v1 v2 : Nat} (hu : atFrom (x, y) ps 0 = (u1, u2)) (hv : atFrom (x, y) (steepS ps) 0 = (v1, v2)) (h1 : cfin (quoRe u1 u2 v1 v2) (quoIm u1 u2 v1 v2) = true)
    (h2 : cfin (fop .sub x (quoRe u1 u2 v1 v2)) (fop .sub y (quoIm u1 u2 v1 v2)) = false) :
    Calls Try.prog 7 #[.slice A n cap, .complex .f64 x y] w (RNw false 0 0 w) := by
  have hp' : (0 : Int) < (n : Int) := by omega
  have HS := Lib.hid hs
  have HN := Lib.hid hn
  clear hs hn
  unfold RNw
  go_enter Try.func7, Try.ntmps7
  go_wp2_with (first | (go_at_call 9; refine (may_ok A n cap ps HN.out hm hp w.heap.size _ HS.out hc).mono ?_; rintro e w' ⟨rfl, rfl⟩) | (go_at_call 13; refine (rfinite_any _ _ _).mono ?_; rintro e w' ⟨j, rfl, rfl⟩) | (go_at_call 14; refine (At_ok A n cap ps HN.out hm _ _ _ (HS.out.drewN _) hc hu).mono ?_; rintro e w1 ⟨s, t, rfl, hb⟩; have hs1 := Lib.hid (((HS.out.drewN _).below hb (Nat.le_refl _)).more hb.size); have qw1 : w.heap.size ≤ w1.heap.size := hb.size) | (go_at_call 15; refine (SlopeAt_ok A n cap ps HN.out hm _ _ _ hs1.out hc hv).mono ?_; rintro e w2 ⟨s2, t2, rfl, hb2⟩) | (go_at_call 16; refine (cquo_any _ _ _ _ _).mono ?_; rintro e w' ⟨s, t, j, rfl, rfl⟩) | (go_at_call 17; refine (csub_any _ _ _ _ _).mono ?_; rintro e w' ⟨s, t, j, rfl, rfl⟩))
  go_ret2
  exact ⟨rfl, by repeat (first | exact Below.refl _ _ | refine below_drewN ?_ _ | refine Below.alloc ?_ (by first | omega | (simp; omega) | simp) _ | refine Below.setCell ?_ (by first | omega | (simp; omega) | simp) _ | refine Below.trans ?_ (Below.mono (by assumption) (by first | omega | (simp; omega) | simp)) | apply Below.drew)⟩
theorem newton_ok (hz : cfin x y = true) {u1 u2 v1 v2 : Nat} (hu : atFrom (x, y) ps 0 = (u1, u2)) (hv : atFrom (x, y) (steepS ps) 0 = (v1, v2)) (h1 : cfin (quoRe u1 u2 v1 v2) (quoIm u1 u2 v1 v2) = true)
    (h2 : cfin (fop .sub x (quoRe u1 u2 v1 v2)) (fop .sub y (quoIm u1 u2 v1 v2)) = true) :
    Calls Try.prog 7 #[.slice A n cap, .complex .f64 x y] w (RNw true (fop .sub x (quoRe u1 u2 v1 v2)) (fop .sub y (quoIm u1 u2 v1 v2)) w) := by
  have hp' : (0 : Int) < (n : Int) := by omega
  have HS := Lib.hid hs
  have HN := Lib.hid hn
  have hq1 := pick_of (cfin_nan h2).1
  have hq2 := pick_of (cfin_nan h2).2
  clear hs hn
  unfold RNw
  go_enter Try.func7, Try.ntmps7
  go_wp2_with (first | (go_at_call 9; refine (may_ok A n cap ps HN.out hm hp w.heap.size _ HS.out hc).mono ?_; rintro e w' ⟨rfl, rfl⟩) | (go_at_call 13; refine (rfinite_any _ _ _).mono ?_; rintro e w' ⟨j, rfl, rfl⟩) | (go_at_call 14; refine (At_ok A n cap ps HN.out hm _ _ _ (HS.out.drewN _) hc hu).mono ?_; rintro e w1 ⟨s, t, rfl, hb⟩; have hs1 := Lib.hid (((HS.out.drewN _).below hb (Nat.le_refl _)).more hb.size); have qw1 : w.heap.size ≤ w1.heap.size := hb.size) | (go_at_call 15; refine (SlopeAt_ok A n cap ps HN.out hm _ _ _ hs1.out hc hv).mono ?_; rintro e w2 ⟨s2, t2, rfl, hb2⟩) | (go_at_call 16; refine (cquo_any _ _ _ _ _).mono ?_; rintro e w' ⟨s, t, j, rfl, rfl⟩) | (go_at_call 17; refine (csub_any _ _ _ _ _).mono ?_; rintro e w' ⟨s, t, j, rfl, rfl⟩))
  go_ret2
  exact ⟨rfl, by repeat (first | exact Below.refl _ _ | refine below_drewN ?_ _ | refine Below.alloc ?_ (by first | omega | (simp; omega) | simp) _ | refine Below.setCell ?_ (by first | omega | (simp; omega) | simp) _ | refine Below.trans ?_ (Below.mono (by assumption) (by first | omega | (simp; omega) | simp)) | apply Below.drew)⟩
theorem newton_any : Calls Try.prog 7 #[.slice A n cap, .complex .f64 x y] w (RNw (newtonOk ps x y) (newtonZ ps x y).1 (newtonZ ps x y).2 w) := by
  have h0 : ∀ X Y e w', RNw false 0 0 w e w' → RNw false X Y w e w' := fun X Y e w' h => h
  unfold newtonOk newtonZ newtonQ stepQ nextC
  cases hz : cfin x y
  · exact (newton_1 A n cap ps hn hm hp x y w hs hc hz).mono (h0 _ _)
  · cases h1 : cfin (quoRe (atFrom (x, y) ps 0).1 (atFrom (x, y) ps 0).2 (atFrom (x, y) (steepS ps) 0).1 (atFrom (x, y) (steepS ps) 0).2) (quoIm (atFrom (x, y) ps 0).1 (atFrom (x, y) ps 0).2 (atFrom (x, y) (steepS ps) 0).1 (atFrom (x, y) (steepS ps) 0).2)
    · exact (newton_q A n cap ps hn hm hp x y w hs hc hz rfl rfl h1).mono (h0 _ _)
    · cases h2 : cfin (fop .sub x (quoRe (atFrom (x, y) ps 0).1 (atFrom (x, y) ps 0).2 (atFrom (x, y) (steepS ps) 0).1 (atFrom (x, y) (steepS ps) 0).2)) (fop .sub y (quoIm (atFrom (x, y) ps 0).1 (atFrom (x, y) ps 0).2 (atFrom (x, y) (steepS ps) 0).1 (atFrom (x, y) (steepS ps) 0).2))
      · exact (newton_z A n cap ps hn hm hp x y w hs hc hz rfl rfl h1 h2).mono (h0 _ _)
      · exact newton_ok A n cap ps hn hm hp x y w hs hc hz rfl rfl h1 h2
end
end Go.Proofs.Ytmcihnpghcdnmaa
