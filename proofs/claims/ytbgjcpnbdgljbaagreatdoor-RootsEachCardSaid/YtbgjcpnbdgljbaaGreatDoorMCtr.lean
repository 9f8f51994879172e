/- The contracts of ball.Contracts, roots.may, roots.finite, filigreelaw16.square, at this translation. -/
import Derived.Test.YtbgjcpnbdgljbaaGreatDoorMPon
import Derived.Test.YtbgjcpnbdgljbaaGreatDoorMMax
namespace Go.Proofs.YtbgjcpnbdgljbaaGreatDoor
open Go.RowKit Go.Fil
attribute [local irreducible] fop fsqrt fup fabs fneg pick fmax

/-- What Contracts answers (its number is not asked for). -/
def RK (ok : Bool) (w : World) (e : Ending) (w' : World) : Prop := ∃ q, e = .returned (.tuple #[.float .f64 q, .bool ok]) ∧ Below w.heap.size w w'
section
variable (a b r c d q x : Nat) (w : World)
theorem contracts_1 (h1 : finB x = false) :
    Calls Tryz.prog 117 #[.agg #[.complex .f64 a b, .float .f64 r], .agg #[.complex .f64 c d, .float .f64 q], .float .f64 x] w (RK false w) := by
  go_enter Tryz.func117, Tryz.ntmps117; go_wp2_with (first | (go_at_call 115; refine (bhi_any _ _ _ _).mono ?_; rintro e w1 ⟨s, rfl, hb⟩; obtain ⟨hc, hf⟩ := bcell hb; (try simp only [World.heap_drewN, World.cell?_drewN, World.frozen?_drewN] at hc hf); have hsz := hb.size; (try simp at hsz); have z0 : w.heap.size < w1.heap.size := (by omega); have z1 : w.heap.size + 1 < w1.heap.size := (by omega)) | (go_at_call 180; refine (finite_any _ _).mono ?_; rintro e w' ⟨n, rfl, rfl⟩) | (go_at_call 178; refine (times_any _ _ _).mono ?_; rintro e w' ⟨s, n, rfl, rfl⟩) | (go_at_call 177; refine (plus_any _ _ _).mono ?_; rintro e w' ⟨s, n, rfl, rfl⟩)); go_ret2; exact ⟨_, rfl, by repeat (first | exact Below.refl _ _ | refine below_drewN ?_ _ | refine Below.alloc ?_ (by first | omega | (simp; omega) | simp) _ | refine Below.setCell ?_ (by first | omega | (simp; omega) | simp) _ | refine Below.trans ?_ (Below.mono (by assumption) (by first | omega | (simp; omega) | simp)) | apply Below.drew)⟩
theorem contracts_2 (h1 : finB x = true) (h2 : (FloatKind.f64.format.order x 0 == some .lt || FloatKind.f64.format.order x 0 == some .eq) = true) :
    Calls Tryz.prog 117 #[.agg #[.complex .f64 a b, .float .f64 r], .agg #[.complex .f64 c d, .float .f64 q], .float .f64 x] w (RK false w) := by
  go_enter Tryz.func117, Tryz.ntmps117; go_wp2_with (first | (go_at_call 115; refine (bhi_any _ _ _ _).mono ?_; rintro e w1 ⟨s, rfl, hb⟩; obtain ⟨hc, hf⟩ := bcell hb; (try simp only [World.heap_drewN, World.cell?_drewN, World.frozen?_drewN] at hc hf); have hsz := hb.size; (try simp at hsz); have z0 : w.heap.size < w1.heap.size := (by omega); have z1 : w.heap.size + 1 < w1.heap.size := (by omega)) | (go_at_call 180; refine (finite_any _ _).mono ?_; rintro e w' ⟨n, rfl, rfl⟩) | (go_at_call 178; refine (times_any _ _ _).mono ?_; rintro e w' ⟨s, n, rfl, rfl⟩) | (go_at_call 177; refine (plus_any _ _ _).mono ?_; rintro e w' ⟨s, n, rfl, rfl⟩)); go_ret2; exact ⟨_, rfl, by repeat (first | exact Below.refl _ _ | refine below_drewN ?_ _ | refine Below.alloc ?_ (by first | omega | (simp; omega) | simp) _ | refine Below.setCell ?_ (by first | omega | (simp; omega) | simp) _ | refine Below.trans ?_ (Below.mono (by assumption) (by first | omega | (simp; omega) | simp)) | apply Below.drew)⟩
theorem contracts_3 (h1 : finB x = true) (h2 : (FloatKind.f64.format.order x 0 == some .lt || FloatKind.f64.format.order x 0 == some .eq) = false) (h3 : (FloatKind.f64.format.order (bhiS (c, d, q)) 4607182418800017408 == some .lt) = false) :
    Calls Tryz.prog 117 #[.agg #[.complex .f64 a b, .float .f64 r], .agg #[.complex .f64 c d, .float .f64 q], .float .f64 x] w (RK false w) := by
  go_enter Tryz.func117, Tryz.ntmps117; go_wp2_with (first | (go_at_call 115; refine (bhi_any _ _ _ _).mono ?_; rintro e w1 ⟨s, rfl, hb⟩; obtain ⟨hc, hf⟩ := bcell hb; (try simp only [World.heap_drewN, World.cell?_drewN, World.frozen?_drewN] at hc hf); have hsz := hb.size; (try simp at hsz); have z0 : w.heap.size < w1.heap.size := (by omega); have z1 : w.heap.size + 1 < w1.heap.size := (by omega)) | (go_at_call 180; refine (finite_any _ _).mono ?_; rintro e w' ⟨n, rfl, rfl⟩) | (go_at_call 178; refine (times_any _ _ _).mono ?_; rintro e w' ⟨s, n, rfl, rfl⟩) | (go_at_call 177; refine (plus_any _ _ _).mono ?_; rintro e w' ⟨s, n, rfl, rfl⟩)); go_ret2; exact ⟨_, rfl, by repeat (first | exact Below.refl _ _ | refine below_drewN ?_ _ | refine Below.alloc ?_ (by first | omega | (simp; omega) | simp) _ | refine Below.setCell ?_ (by first | omega | (simp; omega) | simp) _ | refine Below.trans ?_ (Below.mono (by assumption) (by first | omega | (simp; omega) | simp)) | apply Below.drew)⟩
theorem contracts_4 (h1 : finB x = true) (h2 : (FloatKind.f64.format.order x 0 == some .lt || FloatKind.f64.format.order x 0 == some .eq) = false) (h3 : (FloatKind.f64.format.order (bhiS (c, d, q)) 4607182418800017408 == some .lt) = true) (h4 : (FloatKind.f64.format.order (plusS (bhiS (a, b, r)) (timesS (bhiS (c, d, q)) x)) x == some .gt) = true) :
    Calls Tryz.prog 117 #[.agg #[.complex .f64 a b, .float .f64 r], .agg #[.complex .f64 c d, .float .f64 q], .float .f64 x] w (RK false w) := by
  go_enter Tryz.func117, Tryz.ntmps117; go_wp2_with (first | (go_at_call 115; refine (bhi_any _ _ _ _).mono ?_; rintro e w1 ⟨s, rfl, hb⟩; obtain ⟨hc, hf⟩ := bcell hb; (try simp only [World.heap_drewN, World.cell?_drewN, World.frozen?_drewN] at hc hf); have hsz := hb.size; (try simp at hsz); have z0 : w.heap.size < w1.heap.size := (by omega); have z1 : w.heap.size + 1 < w1.heap.size := (by omega)) | (go_at_call 180; refine (finite_any _ _).mono ?_; rintro e w' ⟨n, rfl, rfl⟩) | (go_at_call 178; refine (times_any _ _ _).mono ?_; rintro e w' ⟨s, n, rfl, rfl⟩) | (go_at_call 177; refine (plus_any _ _ _).mono ?_; rintro e w' ⟨s, n, rfl, rfl⟩)); go_ret2; exact ⟨_, rfl, by repeat (first | exact Below.refl _ _ | refine below_drewN ?_ _ | refine Below.alloc ?_ (by first | omega | (simp; omega) | simp) _ | refine Below.setCell ?_ (by first | omega | (simp; omega) | simp) _ | refine Below.trans ?_ (Below.mono (by assumption) (by first | omega | (simp; omega) | simp)) | apply Below.drew)⟩
theorem contracts_5 (h1 : finB x = true) (h2 : (FloatKind.f64.format.order x 0 == some .lt || FloatKind.f64.format.order x 0 == some .eq) = false) (h3 : (FloatKind.f64.format.order (bhiS (c, d, q)) 4607182418800017408 == some .lt) = true) (h4 : (FloatKind.f64.format.order (plusS (bhiS (a, b, r)) (timesS (bhiS (c, d, q)) x)) x == some .gt) = false) :
    Calls Tryz.prog 117 #[.agg #[.complex .f64 a b, .float .f64 r], .agg #[.complex .f64 c d, .float .f64 q], .float .f64 x] w (RK true w) := by
  go_enter Tryz.func117, Tryz.ntmps117; go_wp2_with (first | (go_at_call 115; refine (bhi_any _ _ _ _).mono ?_; rintro e w1 ⟨s, rfl, hb⟩; obtain ⟨hc, hf⟩ := bcell hb; (try simp only [World.heap_drewN, World.cell?_drewN, World.frozen?_drewN] at hc hf); have hsz := hb.size; (try simp at hsz); have z0 : w.heap.size < w1.heap.size := (by omega); have z1 : w.heap.size + 1 < w1.heap.size := (by omega)) | (go_at_call 180; refine (finite_any _ _).mono ?_; rintro e w' ⟨n, rfl, rfl⟩) | (go_at_call 178; refine (times_any _ _ _).mono ?_; rintro e w' ⟨s, n, rfl, rfl⟩) | (go_at_call 177; refine (plus_any _ _ _).mono ?_; rintro e w' ⟨s, n, rfl, rfl⟩)); go_ret2; exact ⟨_, rfl, by repeat (first | exact Below.refl _ _ | refine below_drewN ?_ _ | refine Below.alloc ?_ (by first | omega | (simp; omega) | simp) _ | refine Below.setCell ?_ (by first | omega | (simp; omega) | simp) _ | refine Below.trans ?_ (Below.mono (by assumption) (by first | omega | (simp; omega) | simp)) | apply Below.drew)⟩
theorem contracts_any :
    Calls Tryz.prog 117 #[.agg #[.complex .f64 a b, .float .f64 r], .agg #[.complex .f64 c d, .float .f64 q], .float .f64 x] w (RK (contractsS (a, b, r) (c, d, q) x).2 w) := by
  unfold contractsS fle flt fgt fone
  cases h1 : finB x
  · exact contracts_1 a b r c d q x w h1
  · cases h2 : (FloatKind.f64.format.order x 0 == some .lt || FloatKind.f64.format.order x 0 == some .eq)
    · cases h3 : (FloatKind.f64.format.order (bhiS (c, d, q)) 4607182418800017408 == some .lt)
      · exact contracts_3 a b r c d q x w h1 h2 h3
      · cases h4 : (FloatKind.f64.format.order (plusS (bhiS (a, b, r)) (timesS (bhiS (c, d, q)) x)) x == some .gt)
        · exact contracts_5 a b r c d q x w h1 h2 h3 h4
        · exact contracts_4 a b r c d q x w h1 h2 h3 h4
    · exact contracts_2 a b r c d q x w h1 h2
end
theorem may_ok (A : Option Addr) (n cap : Nat) (ps : List Cc) (hn : ps.length = n) (hm : n ≤ 9223372036854775807) (hp : 0 < n) (B : Nat) (w : World) (hs : Seq w B A (ps.map cv)) (hc : checkS ps = true) :
    Calls Tryz.prog 105 #[.slice A n cap] w fun e w' => e = .returned (.bool true) ∧ w = w' := by
  go_enter Tryz.func105, Tryz.ntmps105
  have hp' : (0 : Int) < (n : Int) := by omega
  go_wp2_with (go_at_call 82; refine (check_any A n cap ps hn hm B _ hs).mono ?_; rintro e w' ⟨rfl, rfl⟩; rw [hc])
  go_ret
  exact ⟨rfl, rfl⟩
theorem may_nil (cap : Nat) (A : Option Addr) (w : World) :
    Calls Tryz.prog 105 #[.slice A 0 cap] w fun e w' => e = .returned (.bool false) ∧ w = w' := by
  go_enter Tryz.func105, Tryz.ntmps105
  go_wp2_with (go_at_call 82; refine (check_nil A cap _).mono ?_; rintro e w' ⟨rfl, rfl⟩)
  go_ret
  exact ⟨rfl, rfl⟩
theorem rfinite_fin (a b : Nat) (h : cfin a b = true) (w : World) : Calls Tryz.prog 107 #[.complex .f64 a b] w fun e w' => ∃ n, e = .returned (.bool true) ∧ w.drewN n = w' := by
  have hf := cfin_fin h
  have e1 := order_eq_self (sub_notNaN hf.1 hf.1)
  have e2 := order_eq_self (sub_notNaN hf.2 hf.2)
  go_enter Tryz.func107, Tryz.ntmps107
  go_wp2_with (go_at_call 100; refine (kind_fin h _).mono ?_; rintro e w' ⟨rfl, rfl⟩)
  go_ret
  exact ⟨_, rfl, rfl⟩
theorem rfinite_not (a b : Nat) (h : cfin a b = false) (w : World) : Calls Tryz.prog 107 #[.complex .f64 a b] w fun e w' => ∃ n, e = .returned (.bool false) ∧ w.drewN n = w' := by
  cases e1 : (FloatKind.f64.format.order (fop .sub a a) (fop .sub a a) == some .eq && FloatKind.f64.format.order (fop .sub b b) (fop .sub b b) == some .eq)
  · go_enter Tryz.func107, Tryz.ntmps107
    go_wp2
    go_ret
    exact ⟨_, rfl, rfl⟩
  · go_enter Tryz.func107, Tryz.ntmps107
    go_wp2_with (go_at_call 100; refine (kind_not h _).mono ?_; rintro e w' ⟨k, hk, rfl, rfl⟩)
    go_ret
    exact ⟨_, rfl, rfl⟩
theorem rfinite_any (a b : Nat) (w : World) : Calls Tryz.prog 107 #[.complex .f64 a b] w fun e w' => ∃ n, e = .returned (.bool (cfin a b)) ∧ w.drewN n = w' := by
  cases h : cfin a b
  · exact rfinite_not a b h w
  · exact rfinite_fin a b h w
end Go.Proofs.YtbgjcpnbdgljbaaGreatDoor

/- The contract of roots.Newton, at this translation. -/
namespace Go.Proofs.YtbgjcpnbdgljbaaGreatDoor
open Go.RowKit Go.Fil
attribute [local irreducible] fop fsqrt fup fabs fneg pick fmax

def stepQ (u v : Cc) : Cc := (quoRe u.1 u.2 v.1 v.2, quoIm u.1 u.2 v.1 v.2)
def nextC (x y : Nat) (q : Cc) : Cc := (fop .sub x q.1, fop .sub y q.2)
def newtonQ (ps : List Cc) (x y : Nat) : Cc := stepQ (atFrom (x, y) ps 0) (atFrom (x, y) (steepS ps) 0)
def newtonZ (ps : List Cc) (x y : Nat) : Cc := nextC x y (newtonQ ps x y)
def newtonOk (ps : List Cc) (x y : Nat) : Bool := cfin x y && (cfin (newtonQ ps x y).1 (newtonQ ps x y).2 && cfin (newtonZ ps x y).1 (newtonZ ps x y).2)
def RNw (ok : Bool) (X Y : Nat) (w : World) (e : Ending) (w' : World) : Prop :=
  e = .returned (.tuple #[.complex .f64 (if ok then X else 0) (if ok then Y else 0), .bool ok]) ∧ Below w.heap.size w w'
section
variable (A : Option Addr) (n cap : Nat) (ps : List Cc) (hn : ps.length = n) (hm : n ≤ 9223372036854775807) (x y : Nat) (w : World) (hs : Seq w w.heap.size A (ps.map cv)) (hc : checkS ps = true)
include hn hm hs hc
theorem At_ok {u1 u2 : Nat} (hu : atFrom (x, y) ps 0 = (u1, u2)) : Calls Tryz.prog 33 #[.slice A n cap, .complex .f64 x y] w fun e w' =>
    ∃ s t, e = .returned (.tuple #[.complex .f64 (pick u1 s) (pick u2 t), .int .i64 0]) ∧ Below w.heap.size w w' := by
  refine (At_any A n cap ps hn hm x y w hs).mono ?_
  rintro e w' ⟨h, hb⟩
  rw [hc, if_pos rfl, hu] at h
  obtain ⟨s, t, h⟩ := h
  exact ⟨s, t, h, hb⟩
theorem SlopeAt_ok {u1 u2 : Nat} (hu : atFrom (x, y) (steepS ps) 0 = (u1, u2)) : Calls Tryz.prog 108 #[.slice A n cap, .complex .f64 x y] w fun e w' =>
    ∃ s t, e = .returned (.tuple #[.complex .f64 (pick u1 s) (pick u2 t), .int .i64 0]) ∧ Below w.heap.size w w' := by
  refine (SlopeAt_any A n cap ps hn hm x y w hs).mono ?_
  rintro e w' ⟨h, hb⟩
  rw [hc, if_pos rfl, hu] at h
  obtain ⟨s, t, h⟩ := h
  exact ⟨s, t, h, hb⟩
end
section
variable (A : Option Addr) (n cap : Nat) (ps : List Cc) (hn : ps.length = n) (hm : n ≤ 9223372036854775807) (hp : 0 < n) (x y : Nat) (w : World) (hs : Seq w w.heap.size A (ps.map cv)) (hc : checkS ps = true)
include hn hm hp hs hc
theorem newton_1 (hz : cfin x y = false) : Calls Tryz.prog 57 #[.slice A n cap, .complex .f64 x y] w (RNw false 0 0 w) := by
  have hp' : (0 : Int) < (n : Int) := by omega
  go_enter Tryz.func57, Tryz.ntmps57
  go_wp2_with (first
    | (go_at_call 105; refine (may_ok A n cap ps hn hm hp w.heap.size _ hs hc).mono ?_; rintro e w' ⟨rfl, rfl⟩)
    | (go_at_call 107; refine (rfinite_not _ _ hz _).mono ?_; rintro e w' ⟨n, rfl, rfl⟩))
  go_ret2
  exact ⟨rfl, by repeat (first | exact Below.refl _ _ | refine below_drewN ?_ _ | refine Below.alloc ?_ (by first | omega | (simp; omega) | simp) _ | refine Below.setCell ?_ (by first | omega | (simp; omega) | simp) _ | refine Below.trans ?_ (Below.mono (by assumption) (by first | omega | (simp; omega) | simp)) | apply Below.drew)⟩
theorem newton_q (hz : cfin x y = true) {u1 u2 v1 v2 : Nat} (hu : atFrom (x, y) ps 0 = (u1, u2)) (hv : atFrom (x, y) (steepS ps) 0 = (v1, v2)) (h1 : cfin (quoRe u1 u2 v1 v2) (quoIm u1 u2 v1 v2) = false) :
    Calls Tryz.prog 57 #[.slice A n cap, .complex .f64 x y] w (RNw false 0 0 w) := by
  have hp' : (0 : Int) < (n : Int) := by omega
  have HS := Lib.hid hs
  have HN := Lib.hid hn
  clear hs hn
  unfold RNw
  go_enter Tryz.func57, Tryz.ntmps57
  go_wp2_with (first | (go_at_call 105; refine (may_ok A n cap ps HN.out hm hp w.heap.size _ HS.out hc).mono ?_; rintro e w' ⟨rfl, rfl⟩) | (go_at_call 107; refine (rfinite_any _ _ _).mono ?_; rintro e w' ⟨j, rfl, rfl⟩) | (go_at_call 33; refine (At_ok A n cap ps HN.out hm _ _ _ (HS.out.drewN _) hc hu).mono ?_; rintro e w1 ⟨s, t, rfl, hb⟩; have hs1 := Lib.hid (((HS.out.drewN _).below hb (Nat.le_refl _)).more hb.size); have qw1 : w.heap.size ≤ w1.heap.size := hb.size) | (go_at_call 108; refine (SlopeAt_ok A n cap ps HN.out hm _ _ _ hs1.out hc hv).mono ?_; rintro e w2 ⟨s2, t2, rfl, hb2⟩) | (go_at_call 109; refine (cquo_any _ _ _ _ _).mono ?_; rintro e w' ⟨s, t, j, rfl, rfl⟩) | (go_at_call 110; refine (csub_any _ _ _ _ _).mono ?_; rintro e w' ⟨s, t, j, rfl, rfl⟩))
  go_ret2
  exact ⟨rfl, by repeat (first | exact Below.refl _ _ | refine below_drewN ?_ _ | refine Below.alloc ?_ (by first | omega | (simp; omega) | simp) _ | refine Below.setCell ?_ (by first | omega | (simp; omega) | simp) _ | refine Below.trans ?_ (Below.mono (by assumption) (by first | omega | (simp; omega) | simp)) | apply Below.drew)⟩
theorem newton_z (hz : cfin x y = true) {u1 u2 v1 v2 : Nat} (hu : atFrom (x, y) ps 0 = (u1, u2)) (hv : atFrom (x, y) (steepS ps) 0 = (v1, v2)) (h1 : cfin (quoRe u1 u2 v1 v2) (quoIm u1 u2 v1 v2) = true)
    (h2 : cfin (fop .sub x (quoRe u1 u2 v1 v2)) (fop .sub y (quoIm u1 u2 v1 v2)) = false) :
    Calls Tryz.prog 57 #[.slice A n cap, .complex .f64 x y] w (RNw false 0 0 w) := by
  have hp' : (0 : Int) < (n : Int) := by omega
  have HS := Lib.hid hs
  have HN := Lib.hid hn
  clear hs hn
  unfold RNw
  go_enter Tryz.func57, Tryz.ntmps57
  go_wp2_with (first | (go_at_call 105; refine (may_ok A n cap ps HN.out hm hp w.heap.size _ HS.out hc).mono ?_; rintro e w' ⟨rfl, rfl⟩) | (go_at_call 107; refine (rfinite_any _ _ _).mono ?_; rintro e w' ⟨j, rfl, rfl⟩) | (go_at_call 33; refine (At_ok A n cap ps HN.out hm _ _ _ (HS.out.drewN _) hc hu).mono ?_; rintro e w1 ⟨s, t, rfl, hb⟩; have hs1 := Lib.hid (((HS.out.drewN _).below hb (Nat.le_refl _)).more hb.size); have qw1 : w.heap.size ≤ w1.heap.size := hb.size) | (go_at_call 108; refine (SlopeAt_ok A n cap ps HN.out hm _ _ _ hs1.out hc hv).mono ?_; rintro e w2 ⟨s2, t2, rfl, hb2⟩) | (go_at_call 109; refine (cquo_any _ _ _ _ _).mono ?_; rintro e w' ⟨s, t, j, rfl, rfl⟩) | (go_at_call 110; refine (csub_any _ _ _ _ _).mono ?_; rintro e w' ⟨s, t, j, rfl, rfl⟩))
  go_ret2
  exact ⟨rfl, by repeat (first | exact Below.refl _ _ | refine below_drewN ?_ _ | refine Below.alloc ?_ (by first | omega | (simp; omega) | simp) _ | refine Below.setCell ?_ (by first | omega | (simp; omega) | simp) _ | refine Below.trans ?_ (Below.mono (by assumption) (by first | omega | (simp; omega) | simp)) | apply Below.drew)⟩
theorem newton_ok (hz : cfin x y = true) {u1 u2 v1 v2 : Nat} (hu : atFrom (x, y) ps 0 = (u1, u2)) (hv : atFrom (x, y) (steepS ps) 0 = (v1, v2)) (h1 : cfin (quoRe u1 u2 v1 v2) (quoIm u1 u2 v1 v2) = true)
    (h2 : cfin (fop .sub x (quoRe u1 u2 v1 v2)) (fop .sub y (quoIm u1 u2 v1 v2)) = true) :
    Calls Tryz.prog 57 #[.slice A n cap, .complex .f64 x y] w (RNw true (fop .sub x (quoRe u1 u2 v1 v2)) (fop .sub y (quoIm u1 u2 v1 v2)) w) := by
  have hp' : (0 : Int) < (n : Int) := by omega
  have HS := Lib.hid hs
  have HN := Lib.hid hn
  have hq1 := pick_of (cfin_nan h2).1
  have hq2 := pick_of (cfin_nan h2).2
  clear hs hn
  unfold RNw
  go_enter Tryz.func57, Tryz.ntmps57
  go_wp2_with (first | (go_at_call 105; refine (may_ok A n cap ps HN.out hm hp w.heap.size _ HS.out hc).mono ?_; rintro e w' ⟨rfl, rfl⟩) | (go_at_call 107; refine (rfinite_any _ _ _).mono ?_; rintro e w' ⟨j, rfl, rfl⟩) | (go_at_call 33; refine (At_ok A n cap ps HN.out hm _ _ _ (HS.out.drewN _) hc hu).mono ?_; rintro e w1 ⟨s, t, rfl, hb⟩; have hs1 := Lib.hid (((HS.out.drewN _).below hb (Nat.le_refl _)).more hb.size); have qw1 : w.heap.size ≤ w1.heap.size := hb.size) | (go_at_call 108; refine (SlopeAt_ok A n cap ps HN.out hm _ _ _ hs1.out hc hv).mono ?_; rintro e w2 ⟨s2, t2, rfl, hb2⟩) | (go_at_call 109; refine (cquo_any _ _ _ _ _).mono ?_; rintro e w' ⟨s, t, j, rfl, rfl⟩) | (go_at_call 110; refine (csub_any _ _ _ _ _).mono ?_; rintro e w' ⟨s, t, j, rfl, rfl⟩))
  go_ret2
  exact ⟨rfl, by repeat (first | exact Below.refl _ _ | refine below_drewN ?_ _ | refine Below.alloc ?_ (by first | omega | (simp; omega) | simp) _ | refine Below.setCell ?_ (by first | omega | (simp; omega) | simp) _ | refine Below.trans ?_ (Below.mono (by assumption) (by first | omega | (simp; omega) | simp)) | apply Below.drew)⟩
theorem newton_any : Calls Tryz.prog 57 #[.slice A n cap, .complex .f64 x y] w (RNw (newtonOk ps x y) (newtonZ ps x y).1 (newtonZ ps x y).2 w) := by
  have h0 : ∀ X Y e w', RNw false 0 0 w e w' → RNw false X Y w e w' := fun X Y e w' h => h
  unfold newtonOk newtonZ newtonQ stepQ nextC
  cases hz : cfin x y
  · exact (newton_1 A n cap ps hn hm hp x y w hs hc hz).mono (h0 _ _)
  · cases h1 : cfin (quoRe (atFrom (x, y) ps 0).1 (atFrom (x, y) ps 0).2 (atFrom (x, y) (steepS ps) 0).1 (atFrom (x, y) (steepS ps) 0).2) (quoIm (atFrom (x, y) ps 0).1 (atFrom (x, y) ps 0).2 (atFrom (x, y) (steepS ps) 0).1 (atFrom (x, y) (steepS ps) 0).2)
    · exact (newton_q A n cap ps hn hm hp x y w hs hc hz rfl rfl h1).mono (h0 _ _)
    · cases h2 : cfin (fop .sub x (quoRe (atFrom (x, y) ps 0).1 (atFrom (x, y) ps 0).2 (atFrom (x, y) (steepS ps) 0).1 (atFrom (x, y) (steepS ps) 0).2)) (fop .sub y (quoIm (atFrom (x, y) ps 0).1 (atFrom (x, y) ps 0).2 (atFrom (x, y) (steepS ps) 0).1 (atFrom (x, y) (steepS ps) 0).2))
      · exact (newton_z A n cap ps hn hm hp x y w hs hc hz rfl rfl h1 h2).mono (h0 _ _)
      · exact newton_ok A n cap ps hn hm hp x y w hs hc hz rfl rfl h1 h2
end
end Go.Proofs.YtbgjcpnbdgljbaaGreatDoor

/- The contract of roots.Start, at this translation. -/
namespace Go.Proofs.YtbgjcpnbdgljbaaGreatDoor
open Go.RowKit Go.Fil
attribute [local irreducible] fop fsqrt fup fabs fneg pick fmax

def startMax (ps : List Cc) : Nat → Nat
  | 0 => 0
  | k + 1 => fmax (startMax ps k) (hiS (nth ps k).1 (nth ps k).2)
def startR0 (ps : List Cc) (m : Nat) : Nat := fop .add fone (fop .quo (startMax ps m) (hiS (nth ps m).1 (nth ps m).2))
def startR (ps : List Cc) (m : Nat) : Nat := if infB (startR0 ps m) || isNaN (startR0 ps m) then fone else startR0 ps m
def RSt (R m : Nat) (w : World) (e : Ending) (w' : World) : Prop :=
  ∃ (v : Value) (zs : List Cc), e = .returned (.tuple #[v, .int .i64 0]) ∧ zs.length = m ∧ (0 < m → nth zs 0 = (R, 0)) ∧ w'.ownsRow w.heap.size 41 1 v m (zs.map cv) ∧ Below w.heap.size w w'
/-- The one cell of a new complex number. -/
theorem c_new (w : World) (a b : Nat) (t : TypeId) : ∀ j u, [Value.complex .f64 a b][j]? = some u → (w.alloc (.cells #[.complex .f64 a b] t)).cell? ((⟨w.heap.size, 0, none⟩ : Addr).add j) = some u := by
  intro j u hj
  match j, hj with
  | 0, hj =>
    simp at hj; subst hj; simp only [Addr.add, if_true]
    rw [World.cell?_alloc_at _ _ _ _ (by simp)]; rfl
theorem nth_append_first {zs : List Cc} {c : Cc} {R : Nat} (h0 : zs.length = 0 → c = (R, 0)) (h1 : 0 < zs.length → nth zs 0 = (R, 0)) : nth (zs ++ [c]) 0 = (R, 0) := by
  cases zs with
  | nil => exact h0 rfl
  | cons z zs => exact h1 (by simp)
section
variable (A : Option Addr) (m cap : Nat) (ps : List Cc) (hn : ps.length = m + 1) (hcap : m + 1 ≤ cap) (w : World) (hs : Seq w w.heap.size A (ps.map cv)) (hc : checkS ps = true)
include hn hcap hs hc
set_option maxRecDepth 100000 in
set_option maxHeartbeats 1600000 in
theorem start_inf (h1 : infB (fop .add 4607182418800017408 (fop .quo (startMax ps m) (hiS (nth ps m).1 (nth ps m).2))) = true) : Calls Tryz.prog 55 #[.slice A (m + 1) cap] w (RSt fone m w) := by
  have hm17 : m < 17 := by unfold checkS at hc; simp at hc; omega
  obtain ⟨i0, hi, hz0, hz1, hz2⟩ := info_parts Tryz.infoC
  have i1 : (0 : Int) ≤ (m : Int) := by omega
  have i2 : (m : Int) ≤ (cap : Int) := by omega
  have i3 : (m : Int) < (m : Int) + 1 := by omega
  obtain ⟨b, o, rfl, hb, hcl⟩ := hs.cat (k := m) (by omega)
  have HS := Lib.hid hs
  have HN := Lib.hid hn
  skip
  clear hs hn
  go_enter Tryz.func55, Tryz.ntmps55
  go_wp2_with (first
    | (go_at_call 105; refine (may_ok _ (m + 1) cap ps HN.out (by omega) (by omega) w.heap.size _ HS.out hc).mono ?_; rintro e w' ⟨rfl, rfl⟩))
  go_loopw [5, 21] (fun s i wr => ∃ k t j : Nat, k ≤ m ∧ s = .float .f64 (pick (startMax ps k) t) ∧ i = .int .i64 k ∧ wr = w.drewN j) (fun _ i _ => m - (intOf i).toNat)
  case atStart => exact ⟨0, 0, 0, Nat.zero_le _, by rw [show startMax ps 0 = 0 from rfl, pick_of (show isNaN 0 = false by decide)], rfl, rfl⟩
  case round =>
    obtain ⟨k, t, j, hk, rfl, rfl, rfl⟩ := hrel
    by_cases hlt : k < m
    · have hck := (HS.out.drewN j).cell (k := k) (by have := HN.out; omega)
      have HX : Hid (fmax (startMax ps k) (hiS (nth ps k).1 (nth ps k).2) = startMax ps (k + 1)) := Lib.hid rfl
      go_wp2_with (first
        | (go_at_call 106; refine (hi_any _ _ _).mono ?_; rintro e w' ⟨s, i, rfl, rfl⟩))
      go_roundw
      case rel => exact ⟨k + 1, _, _, by omega, by rw [← HX.out], by go_num, rfl⟩
      case measure => simp [intOf]; omega
    · obtain rfl : k = m := by omega
      go_wp2_with (first
        | (go_at_call 106; refine (hi_any _ _ _).mono ?_; rintro e w' ⟨s, i, rfl, rfl⟩)
        | (go_at_call 102; refine (isinf0_any _ _).mono ?_; rintro e w' ⟨rfl, rfl⟩))
      go_loopw [9, 10, 48] (fun u z i wr => ∃ (q : Nat) (v : Value) (zs : List Cc) (c : Cc), v = u ∧ q ≤ k ∧ zs.length = q ∧ z = .complex .f64 c.1 c.2 ∧ i = .int .i64 q ∧ (q = 0 → c = (4607182418800017408, 0)) ∧ (0 < q → nth zs 0 = (4607182418800017408, 0)) ∧ wr.ownsRow w.heap.size 41 1 v q (zs.map cv) ∧ Below w.heap.size w wr) (fun _ _ i _ => k - (intOf i).toNat)
      case atStart => exact ⟨0, _, [], (4607182418800017408, 0), rfl, Nat.zero_le _, rfl, rfl, rfl, fun _ => rfl, fun h => absurd h (by decide), World.ownsRow_nil _ _ _ _, by repeat (first | exact Below.refl _ _ | refine below_drewN ?_ _ | refine Below.alloc ?_ (by first | omega | (simp; omega) | simp) _ | refine Below.setCell ?_ (by first | omega | (simp; omega) | simp) _ | refine Below.trans ?_ (Below.mono (by assumption) (by first | omega | (simp; omega) | simp)) | apply Below.drew)⟩
      case round =>
        obtain ⟨q, v, zs, c, hv, hq, hz, rfl, rfl, hc0, hc1, hown, hnx⟩ := hrel
        subst hv
        have HC0 := Lib.hid hc0
        have HC1 := Lib.hid hc1
        have HZ := Lib.hid hz
        clear hc0 hc1 hz
        by_cases hlq : q < k
        · go_wp2_with (first
            | (at_builtin; refine wpList_append_own _ rfl _ _ 24 rfl w.heap.size 41 i0 (.complex .f64 0 0) 1 16 Tryz.underlying24 hi hz0 hz1 hz2 rfl (by decide) _ _ _ rfl (hown.alloc _) ⟨wr.heap.size, 0, none⟩ 1 1 [.complex .f64 c.1 c.2] rfl rfl ?c1 ?c2 ?c3 ?c4 ?c5 ?_))
          case c1 => exact c_new wr _ _ _
          case c2 => intro u hu; simp at hu; subst hu; rfl
          case c3 => unfold maxLen; omega
          case c4 => omega
          case c5 => have := hnx.size; simp; omega
          intro v' w1 hown' hgrow _
          have hnx' : Below w.heap.size w w1 := (show Below w.heap.size w _ from hnx.alloc hnx.size _).grown hgrow (by have := hnx.size; simp; omega) (fun q hq => (hown.lt q hq).1)
          have hown2 : w1.ownsRow w.heap.size 41 1 v' (q + 1) ((zs ++ [c]).map cv) := by
            rw [List.map_append]; exact hown'
          clear hown' hgrow hown
          go_wp2_with (first
            | (go_at_call 45; refine (cmul_any _ _ _ _ _).mono ?_; rintro e w' ⟨s, t, j, rfl, rfl⟩))
          go_roundw
          case rel => exact ⟨q + 1, _, zs ++ [c], (_, _), rfl, by omega, by have := HZ.out; simp; omega, rfl, by go_num, fun h => absurd h (by omega), fun _ => nth_append_first (by rw [HZ.out]; exact HC0.out) (by rw [HZ.out]; exact HC1.out), hown2, by repeat (first | exact Below.refl _ _ | refine below_drewN ?_ _ | refine Below.alloc ?_ (by first | omega | (simp; omega) | simp) _ | refine Below.setCell ?_ (by first | omega | (simp; omega) | simp) _ | refine Below.trans ?_ (Below.mono (by assumption) (by first | omega | (simp; omega) | simp)) | apply Below.drew)⟩
          case measure => simp [intOf]; omega
        · obtain rfl : q = k := by omega
          go_wp2
          go_ret2
          exact ⟨_, zs, rfl, HZ.out, HC1.out, hown, hnx⟩
set_option maxRecDepth 100000 in
set_option maxHeartbeats 1600000 in
theorem start_nan (h1 : infB (fop .add 4607182418800017408 (fop .quo (startMax ps m) (hiS (nth ps m).1 (nth ps m).2))) = false) (h2 : isNaN (fop .add 4607182418800017408 (fop .quo (startMax ps m) (hiS (nth ps m).1 (nth ps m).2))) = true) : Calls Tryz.prog 55 #[.slice A (m + 1) cap] w (RSt fone m w) := by
  have hm17 : m < 17 := by unfold checkS at hc; simp at hc; omega
  obtain ⟨i0, hi, hz0, hz1, hz2⟩ := info_parts Tryz.infoC
  have i1 : (0 : Int) ≤ (m : Int) := by omega
  have i2 : (m : Int) ≤ (cap : Int) := by omega
  have i3 : (m : Int) < (m : Int) + 1 := by omega
  obtain ⟨b, o, rfl, hb, hcl⟩ := hs.cat (k := m) (by omega)
  have HS := Lib.hid hs
  have HN := Lib.hid hn
  skip
  clear hs hn
  go_enter Tryz.func55, Tryz.ntmps55
  go_wp2_with (first
    | (go_at_call 105; refine (may_ok _ (m + 1) cap ps HN.out (by omega) (by omega) w.heap.size _ HS.out hc).mono ?_; rintro e w' ⟨rfl, rfl⟩))
  go_loopw [5, 21] (fun s i wr => ∃ k t j : Nat, k ≤ m ∧ s = .float .f64 (pick (startMax ps k) t) ∧ i = .int .i64 k ∧ wr = w.drewN j) (fun _ i _ => m - (intOf i).toNat)
  case atStart => exact ⟨0, 0, 0, Nat.zero_le _, by rw [show startMax ps 0 = 0 from rfl, pick_of (show isNaN 0 = false by decide)], rfl, rfl⟩
  case round =>
    obtain ⟨k, t, j, hk, rfl, rfl, rfl⟩ := hrel
    by_cases hlt : k < m
    · have hck := (HS.out.drewN j).cell (k := k) (by have := HN.out; omega)
      have HX : Hid (fmax (startMax ps k) (hiS (nth ps k).1 (nth ps k).2) = startMax ps (k + 1)) := Lib.hid rfl
      go_wp2_with (first
        | (go_at_call 106; refine (hi_any _ _ _).mono ?_; rintro e w' ⟨s, i, rfl, rfl⟩))
      go_roundw
      case rel => exact ⟨k + 1, _, _, by omega, by rw [← HX.out], by go_num, rfl⟩
      case measure => simp [intOf]; omega
    · obtain rfl : k = m := by omega
      go_wp2_with (first
        | (go_at_call 106; refine (hi_any _ _ _).mono ?_; rintro e w' ⟨s, i, rfl, rfl⟩)
        | (go_at_call 102; refine (isinf0_any _ _).mono ?_; rintro e w' ⟨rfl, rfl⟩))
      go_loopw [9, 10, 48] (fun u z i wr => ∃ (q : Nat) (v : Value) (zs : List Cc) (c : Cc), v = u ∧ q ≤ k ∧ zs.length = q ∧ z = .complex .f64 c.1 c.2 ∧ i = .int .i64 q ∧ (q = 0 → c = (4607182418800017408, 0)) ∧ (0 < q → nth zs 0 = (4607182418800017408, 0)) ∧ wr.ownsRow w.heap.size 41 1 v q (zs.map cv) ∧ Below w.heap.size w wr) (fun _ _ i _ => k - (intOf i).toNat)
      case atStart => exact ⟨0, _, [], (4607182418800017408, 0), rfl, Nat.zero_le _, rfl, rfl, rfl, fun _ => rfl, fun h => absurd h (by decide), World.ownsRow_nil _ _ _ _, by repeat (first | exact Below.refl _ _ | refine below_drewN ?_ _ | refine Below.alloc ?_ (by first | omega | (simp; omega) | simp) _ | refine Below.setCell ?_ (by first | omega | (simp; omega) | simp) _ | refine Below.trans ?_ (Below.mono (by assumption) (by first | omega | (simp; omega) | simp)) | apply Below.drew)⟩
      case round =>
        obtain ⟨q, v, zs, c, hv, hq, hz, rfl, rfl, hc0, hc1, hown, hnx⟩ := hrel
        subst hv
        have HC0 := Lib.hid hc0
        have HC1 := Lib.hid hc1
        have HZ := Lib.hid hz
        clear hc0 hc1 hz
        by_cases hlq : q < k
        · go_wp2_with (first
            | (at_builtin; refine wpList_append_own _ rfl _ _ 24 rfl w.heap.size 41 i0 (.complex .f64 0 0) 1 16 Tryz.underlying24 hi hz0 hz1 hz2 rfl (by decide) _ _ _ rfl (hown.alloc _) ⟨wr.heap.size, 0, none⟩ 1 1 [.complex .f64 c.1 c.2] rfl rfl ?c1 ?c2 ?c3 ?c4 ?c5 ?_))
          case c1 => exact c_new wr _ _ _
          case c2 => intro u hu; simp at hu; subst hu; rfl
          case c3 => unfold maxLen; omega
          case c4 => omega
          case c5 => have := hnx.size; simp; omega
          intro v' w1 hown' hgrow _
          have hnx' : Below w.heap.size w w1 := (show Below w.heap.size w _ from hnx.alloc hnx.size _).grown hgrow (by have := hnx.size; simp; omega) (fun q hq => (hown.lt q hq).1)
          have hown2 : w1.ownsRow w.heap.size 41 1 v' (q + 1) ((zs ++ [c]).map cv) := by
            rw [List.map_append]; exact hown'
          clear hown' hgrow hown
          go_wp2_with (first
            | (go_at_call 45; refine (cmul_any _ _ _ _ _).mono ?_; rintro e w' ⟨s, t, j, rfl, rfl⟩))
          go_roundw
          case rel => exact ⟨q + 1, _, zs ++ [c], (_, _), rfl, by omega, by have := HZ.out; simp; omega, rfl, by go_num, fun h => absurd h (by omega), fun _ => nth_append_first (by rw [HZ.out]; exact HC0.out) (by rw [HZ.out]; exact HC1.out), hown2, by repeat (first | exact Below.refl _ _ | refine below_drewN ?_ _ | refine Below.alloc ?_ (by first | omega | (simp; omega) | simp) _ | refine Below.setCell ?_ (by first | omega | (simp; omega) | simp) _ | refine Below.trans ?_ (Below.mono (by assumption) (by first | omega | (simp; omega) | simp)) | apply Below.drew)⟩
          case measure => simp [intOf]; omega
        · obtain rfl : q = k := by omega
          go_wp2
          go_ret2
          exact ⟨_, zs, rfl, HZ.out, HC1.out, hown, hnx⟩
set_option maxRecDepth 100000 in
set_option maxHeartbeats 1600000 in
theorem start_num (h1 : infB (fop .add 4607182418800017408 (fop .quo (startMax ps m) (hiS (nth ps m).1 (nth ps m).2))) = false) (h2 : isNaN (fop .add 4607182418800017408 (fop .quo (startMax ps m) (hiS (nth ps m).1 (nth ps m).2))) = false) : Calls Tryz.prog 55 #[.slice A (m + 1) cap] w (RSt (fop .add fone (fop .quo (startMax ps m) (hiS (nth ps m).1 (nth ps m).2))) m w) := by
  have hm17 : m < 17 := by unfold checkS at hc; simp at hc; omega
  obtain ⟨i0, hi, hz0, hz1, hz2⟩ := info_parts Tryz.infoC
  have i1 : (0 : Int) ≤ (m : Int) := by omega
  have i2 : (m : Int) ≤ (cap : Int) := by omega
  have i3 : (m : Int) < (m : Int) + 1 := by omega
  obtain ⟨b, o, rfl, hb, hcl⟩ := hs.cat (k := m) (by omega)
  have HS := Lib.hid hs
  have HN := Lib.hid hn
  have hpk := pick_of h2
  clear hs hn
  go_enter Tryz.func55, Tryz.ntmps55
  go_wp2_with (first
    | (go_at_call 105; refine (may_ok _ (m + 1) cap ps HN.out (by omega) (by omega) w.heap.size _ HS.out hc).mono ?_; rintro e w' ⟨rfl, rfl⟩))
  go_loopw [5, 21] (fun s i wr => ∃ k t j : Nat, k ≤ m ∧ s = .float .f64 (pick (startMax ps k) t) ∧ i = .int .i64 k ∧ wr = w.drewN j) (fun _ i _ => m - (intOf i).toNat)
  case atStart => exact ⟨0, 0, 0, Nat.zero_le _, by rw [show startMax ps 0 = 0 from rfl, pick_of (show isNaN 0 = false by decide)], rfl, rfl⟩
  case round =>
    obtain ⟨k, t, j, hk, rfl, rfl, rfl⟩ := hrel
    by_cases hlt : k < m
    · have hck := (HS.out.drewN j).cell (k := k) (by have := HN.out; omega)
      have HX : Hid (fmax (startMax ps k) (hiS (nth ps k).1 (nth ps k).2) = startMax ps (k + 1)) := Lib.hid rfl
      go_wp2_with (first
        | (go_at_call 106; refine (hi_any _ _ _).mono ?_; rintro e w' ⟨s, i, rfl, rfl⟩))
      go_roundw
      case rel => exact ⟨k + 1, _, _, by omega, by rw [← HX.out], by go_num, rfl⟩
      case measure => simp [intOf]; omega
    · obtain rfl : k = m := by omega
      go_wp2_with (first
        | (go_at_call 106; refine (hi_any _ _ _).mono ?_; rintro e w' ⟨s, i, rfl, rfl⟩)
        | (go_at_call 102; refine (isinf0_any _ _).mono ?_; rintro e w' ⟨rfl, rfl⟩))
      go_loopw [9, 10, 48] (fun u z i wr => ∃ (q : Nat) (v : Value) (zs : List Cc) (c : Cc), v = u ∧ q ≤ k ∧ zs.length = q ∧ z = .complex .f64 c.1 c.2 ∧ i = .int .i64 q ∧ (q = 0 → c = ((fop .add 4607182418800017408 (fop .quo (startMax ps k) (hiS (nth ps k).1 (nth ps k).2))), 0)) ∧ (0 < q → nth zs 0 = ((fop .add 4607182418800017408 (fop .quo (startMax ps k) (hiS (nth ps k).1 (nth ps k).2))), 0)) ∧ wr.ownsRow w.heap.size 41 1 v q (zs.map cv) ∧ Below w.heap.size w wr) (fun _ _ i _ => k - (intOf i).toNat)
      case atStart => exact ⟨0, _, [], ((fop .add 4607182418800017408 (fop .quo (startMax ps k) (hiS (nth ps k).1 (nth ps k).2))), 0), rfl, Nat.zero_le _, rfl, rfl, rfl, fun _ => rfl, fun h => absurd h (by decide), World.ownsRow_nil _ _ _ _, by repeat (first | exact Below.refl _ _ | refine below_drewN ?_ _ | refine Below.alloc ?_ (by first | omega | (simp; omega) | simp) _ | refine Below.setCell ?_ (by first | omega | (simp; omega) | simp) _ | refine Below.trans ?_ (Below.mono (by assumption) (by first | omega | (simp; omega) | simp)) | apply Below.drew)⟩
      case round =>
        obtain ⟨q, v, zs, c, hv, hq, hz, rfl, rfl, hc0, hc1, hown, hnx⟩ := hrel
        subst hv
        have HC0 := Lib.hid hc0
        have HC1 := Lib.hid hc1
        have HZ := Lib.hid hz
        clear hc0 hc1 hz
        by_cases hlq : q < k
        · go_wp2_with (first
            | (at_builtin; refine wpList_append_own _ rfl _ _ 24 rfl w.heap.size 41 i0 (.complex .f64 0 0) 1 16 Tryz.underlying24 hi hz0 hz1 hz2 rfl (by decide) _ _ _ rfl (hown.alloc _) ⟨wr.heap.size, 0, none⟩ 1 1 [.complex .f64 c.1 c.2] rfl rfl ?c1 ?c2 ?c3 ?c4 ?c5 ?_))
          case c1 => exact c_new wr _ _ _
          case c2 => intro u hu; simp at hu; subst hu; rfl
          case c3 => unfold maxLen; omega
          case c4 => omega
          case c5 => have := hnx.size; simp; omega
          intro v' w1 hown' hgrow _
          have hnx' : Below w.heap.size w w1 := (show Below w.heap.size w _ from hnx.alloc hnx.size _).grown hgrow (by have := hnx.size; simp; omega) (fun q hq => (hown.lt q hq).1)
          have hown2 : w1.ownsRow w.heap.size 41 1 v' (q + 1) ((zs ++ [c]).map cv) := by
            rw [List.map_append]; exact hown'
          clear hown' hgrow hown
          go_wp2_with (first
            | (go_at_call 45; refine (cmul_any _ _ _ _ _).mono ?_; rintro e w' ⟨s, t, j, rfl, rfl⟩))
          go_roundw
          case rel => exact ⟨q + 1, _, zs ++ [c], (_, _), rfl, by omega, by have := HZ.out; simp; omega, rfl, by go_num, fun h => absurd h (by omega), fun _ => nth_append_first (by rw [HZ.out]; exact HC0.out) (by rw [HZ.out]; exact HC1.out), hown2, by repeat (first | exact Below.refl _ _ | refine below_drewN ?_ _ | refine Below.alloc ?_ (by first | omega | (simp; omega) | simp) _ | refine Below.setCell ?_ (by first | omega | (simp; omega) | simp) _ | refine Below.trans ?_ (Below.mono (by assumption) (by first | omega | (simp; omega) | simp)) | apply Below.drew)⟩
          case measure => simp [intOf]; omega
        · obtain rfl : q = k := by omega
          go_wp2
          go_ret2
          exact ⟨_, zs, rfl, HZ.out, HC1.out, hown, hnx⟩
theorem start_any : Calls Tryz.prog 55 #[.slice A (m + 1) cap] w (RSt (startR ps m) m w) := by
  unfold startR startR0
  cases h1 : infB (fop .add fone (fop .quo (startMax ps m) (hiS (nth ps m).1 (nth ps m).2)))
  · cases h2 : isNaN (fop .add fone (fop .quo (startMax ps m) (hiS (nth ps m).1 (nth ps m).2)))
    · exact start_num A m cap ps hn hcap w hs hc h1 h2
    · exact start_nan A m cap ps hn hcap w hs hc h1 h2
  · exact start_inf A m cap ps hn hcap w hs hc h1
end
end Go.Proofs.YtbgjcpnbdgljbaaGreatDoor

/- The contract of roots.Certify, at this translation. -/
namespace Go.Proofs.YtbgjcpnbdgljbaaGreatDoor
open Go.RowKit Go.Fil
attribute [local irreducible] fop fsqrt fup fabs fneg pick fmax

def certR : Nat → Nat → Nat
  | r, 0 => r
  | r, k + 1 => fop .mul (certR r k) 4616189618054758400
def certMove (ps : List Cc) (x y : Nat) (q : Cc) : Bl := negS (mulS (pointS q.1 q.2) (onFrom (pointS x y) (pointsS ps) 0))
def certR0 (M : Bl) (x y : Nat) : Nat := fmax (fmax (fop .mul (bhiS M) 4611686018427387904) (fop .mul (hiS x y) 4382002437431492608)) 103582791429521408
def certAt (ps : List Cc) (M : Bl) (q : Cc) (x y r : Nat) : Bool :=
  mayS (x, y, r) && (contractsS M (subS (pointS fone 0) (mulS (pointS q.1 q.2) (onFrom (x, y, r) (slopesS ps) 0))) r).2
/-- What Certify answers when the derivative may be turned round. -/
def RCf (ps : List Cc) (M : Bl) (q : Cc) (x y r0 : Nat) (w : World) (e : Ending) (w' : World) : Prop :=
  ((∃ k, k < 12 ∧ (∀ j, j < k → certAt ps M q x y (certR r0 j) = false) ∧ certAt ps M q x y (certR r0 k) = true ∧
      e = .returned (.tuple #[.agg #[.complex .f64 x y, .float .f64 (certR r0 k)], .bool true, .int .i64 0])) ∨
   ((∀ j, j < 12 → certAt ps M q x y (certR r0 j) = false) ∧ e = .returned (.tuple #[.agg #[.complex .f64 0 0, .float .f64 0], .bool false, .int .i64 0]))) ∧ Below w.heap.size w w'
theorem mayS_pick (a b r s : Nat) : mayS (a, b, pick r s) = mayS (a, b, r) := by
  cases h : isNaN r
  · rw [pick_of h]
  · have e : ∀ t, isNaN t = true → mayS (a, b, t) = false := by
      intro t ht
      have hf : finB t = false := by
        cases hf : finB t
        · rfl
        · rw [finB_nan hf] at ht; cases ht
      have hp : pinfB t = false := by unfold pinfB; rw [order_nan_l _ ht]; rfl
      unfold mayS; simp [hf, hp]
    rw [e r h, e _ (by rw [isNaN_pick]; exact h)]
theorem mayS_notNaN {a b r : Nat} (h : mayS (a, b, r) = true) : isNaN r = false := by
  cases hr : isNaN r
  · rfl
  · have hf : finB r = false := by
      cases hf : finB r
      · rfl
      · rw [finB_nan hf] at hr; cases hr
    have hp : pinfB r = false := by unfold pinfB; rw [order_nan_l _ hr]; rfl
    unfold mayS at h; simp [hf, hp] at h
theorem mayS_point {x y : Nat} (h : cfin x y = true) : mayS (pointS x y) = true := by
  have h0 : finB 0 = true := by decide +kernel
  have h1 : signB 0 = false := by decide +kernel
  have h2 : pinfB 0 = false := by decide +kernel
  have e : pointS x y = (x, y, 0) := by unfold pointS toldS; rw [h, h0]; rfl
  rw [e]; unfold mayS; simp [h, h0, h1, h2]
theorem SlopeOn_bad (A : Option Addr) (n cap : Nat) (ps : List Cc) (hn : ps.length = n) (hm : n ≤ 9223372036854775807) (a b r : Nat) (w : World) (hs : Seq w w.heap.size A (ps.map cv)) (hc : checkS ps = true) (hmay : mayS (a, b, r) = false) :
    Calls Tryz.prog 116 #[.slice A n cap, .agg #[.complex .f64 a b, .float .f64 r]] w
      fun e w' => e = .returned (.tuple #[.agg #[.complex .f64 0 0, .float .f64 0], .int .i64 2]) ∧ Below w.heap.size w w' := by
  have HS := Lib.hid hs
  have HN := Lib.hid hn
  clear hs hn
  go_enter Tryz.func116, Tryz.ntmps116
  go_wp2_with fail
  refine Calls.mono (all_one (w.heap.size + 1 + 1) A n cap ps HN.out hm w.heap.size _ ?hs ?hg) ?k
  case hs => exact HS.out.below (B' := w.heap.size) (by repeat (first | exact Below.refl _ _ | refine below_drewN ?_ _ | refine Below.alloc ?_ (by first | omega | (simp; omega) | simp) _ | refine Below.setCell ?_ (by first | omega | (simp; omega) | simp) _ | refine Below.trans ?_ (Below.mono (by assumption) (by first | omega | (simp; omega) | simp)) | apply Below.drew)) (Nat.le_refl _)
  case hg => rw [World.cell?_alloc_at _ _ _ _ (by simp)]; rfl
  rintro e w' ⟨rfl, rfl⟩
  rw [hc]
  clear hc
  go_wp2_with (go_at_call 120; refine (may_any _ _ _ _).mono ?_; rintro e w1 ⟨rfl, hb⟩; rw [hmay]; obtain ⟨hc, hf⟩ := bcell hb; (try simp only [World.heap_drewN, World.cell?_drewN, World.frozen?_drewN] at hc hf); have z0 : w.heap.size < w1.heap.size := (by have := hb.size; (try simp at this); omega); have z1 : w.heap.size + 1 < w1.heap.size := (by have := hb.size; (try simp at this); omega))
  exact bodyPost_ret (v := .tuple #[.agg #[.complex .f64 0 0, .float .f64 0], .int .i64 2])
    (by simp [results, Tryz.results116, go_sem, *]) rfl ⟨rfl, by repeat (first | exact Below.refl _ _ | refine below_drewN ?_ _ | refine Below.alloc ?_ (by first | omega | (simp; omega) | simp) _ | refine Below.setCell ?_ (by first | omega | (simp; omega) | simp) _ | refine Below.trans ?_ (Below.mono (by assumption) (by first | omega | (simp; omega) | simp)) | apply Below.drew)⟩
theorem BCell.drewN {w : World} {G : Nat} {X : Bl} (h : BCell w G X) (n : Nat) : BCell (w.drewN n) G X := ⟨h.c0, h.c1, h.f0, h.f1⟩
theorem BCell.alloc {w : World} {G : Nat} {X : Bl} (h : BCell w G X) (hG : G < w.heap.size) (o : Obj) : BCell (w.alloc o) G X :=
  h.below (B := w.heap.size) ((Below.refl _ _).alloc (Nat.le_refl _) o) hG
attribute [local irreducible] pointS mulS negS addS subS bhiS hiS contractsS onFrom
section
variable (A : Option Addr) (n cap : Nat) (ps : List Cc) (hn : ps.length = n) (hm : n ≤ 9223372036854775807) (hp : 0 < n) (x y : Nat) (w : World) (hs : Seq w w.heap.size A (ps.map cv)) (hc : checkS ps = true)
include hn hm hp hs hc
set_option maxRecDepth 100000 in
set_option maxHeartbeats 6400000 in
theorem certify_ok (h1 : n ≠ 1) (hz : cfin x y = true) {v1 v2 : Nat} (hv : atFrom (x, y) (steepS ps) 0 = (v1, v2)) (hv1 : cfin v1 v2 = true) (hv0 : (FloatKind.f64.format.order v1 0 == some .eq && FloatKind.f64.format.order v2 0 == some .eq) = false) {q1 q2 : Nat} (hq1 : quoRe 4607182418800017408 0 v1 v2 = q1) (hq2 : quoIm 4607182418800017408 0 v1 v2 = q2) (hy : cfin q1 q2 = true)
    {Y H M0 M : Bl} (hY : pointS q1 q2 = Y) (hH : onFrom ((pointS x y).1, (pointS x y).2.1, (pointS x y).2.2) (pointsS ps) 0 = H) (hM0 : mulS (Y.1, Y.2.1, Y.2.2) (H.1, H.2.1, H.2.2) = M0) (hM : negS (M0.1, M0.2.1, M0.2.2) = M) :
    Calls Tryz.prog 58 #[.slice A n cap, .complex .f64 x y] w (RCf ps M (q1, q2) x y (certR0 M x y) w) := by
  have hp' : (0 : Int) < (n : Int) := by omega
  have h1' : ((n : Int) == 1) = false := by rw [beq_eq_false_iff_ne]; omega
  have hy1 := pick_of (cfin_nan hy).1
  have hy2 := pick_of (cfin_nan hy).2
  have HS := Lib.hid hs
  have HN := Lib.hid hn
  clear hs hn
  go_enter Tryz.func58, Tryz.ntmps58
  go_wp2
  refine wp_scope_once 0 rfl ?_
  go_wp2_with (first
    | (go_at_call 105; refine (may_ok A n cap ps HN.out hm hp w.heap.size _ (HS.out.alloc (Nat.le_refl _) _) hc).mono ?_; rintro e w' ⟨rfl, rfl⟩)
    | (go_at_call 107; refine (rfinite_any _ _ _).mono ?_; rintro e w' ⟨j, rfl, rfl⟩)
    | (go_at_call 108; refine (SlopeAt_ok A n cap ps HN.out hm _ _ _ ((HS.out.below (B' := w.heap.size) (by repeat (first | exact Below.refl _ _ | refine below_drewN ?_ _ | refine Below.alloc ?_ (by first | omega | (simp; omega) | simp) _ | refine Below.setCell ?_ (by first | omega | (simp; omega) | simp) _ | refine Below.trans ?_ (Below.mono (by assumption) (by first | omega | (simp; omega) | simp)) | apply Below.drew)) (Nat.le_refl _)).more (by first | omega | (simp; omega) | simp)) hc hv).mono ?_; rintro e w1 ⟨s, t, rfl, hb⟩; obtain ⟨hc', hf'⟩ := bcell hb; (try simp only [World.heap_drewN, World.cell?_drewN, World.frozen?_drewN] at hc' hf'); have hsz := hb.size; (try simp at hsz); have g1 : w.heap.size < w1.heap.size := (by omega))
    | (go_at_call 109; refine (cquo_any _ _ _ _ _).mono ?_; rintro e w' ⟨s, t, j, rfl, rfl⟩; simp only [quoRe_pick3, quoRe_pick4, quoIm_pick3, quoIm_pick4, hq1, hq2, hy1, hy2])
    | (go_at_call 112; have _q := w3.heap.size; refine (point_any _ _ _).mono ?_; rintro e w4 ⟨rfl, hb⟩; rw [hY]; obtain ⟨hc', hf'⟩ := bcell hb; (try simp only [World.heap_drewN, World.cell?_drewN, World.frozen?_drewN] at hc' hf'); have hsz := hb.size; (try simp at hsz); have g4 : w.heap.size < w4.heap.size := (by omega); have z9 : w3.heap.size < w4.heap.size := (by omega))
    | (go_at_call 112; refine (point_any _ _ _).mono ?_; rintro e w2 ⟨rfl, hb⟩; obtain ⟨hc', hf'⟩ := bcell hb; (try simp only [World.heap_drewN, World.cell?_drewN, World.frozen?_drewN] at hc' hf'); have hsz := hb.size; (try simp at hsz); have g2 : w.heap.size < w2.heap.size := (by omega))
    | (go_at_call 114; refine (bmul_any _ _ _ _ _ _ _).mono ?_; rintro e w5 ⟨rfl, hb⟩; rw [hM0]; obtain ⟨hc', hf'⟩ := bcell hb; (try simp only [World.heap_drewN, World.cell?_drewN, World.frozen?_drewN] at hc' hf'); have hsz := hb.size; (try simp at hsz); have g5 : w.heap.size < w5.heap.size := (by omega); have z9 : w3.heap.size < w5.heap.size := (by omega); have z11 : w4.heap.size < w5.heap.size := (by omega))
    | (go_at_call 113; refine (bneg_any _ _ _ _).mono ?_; rintro e w6 ⟨rfl, hb⟩; rw [hM]; obtain ⟨hc', hf'⟩ := bcell hb; (try simp only [World.heap_drewN, World.cell?_drewN, World.frozen?_drewN] at hc' hf'); have hsz := hb.size; (try simp at hsz); have g6 : w.heap.size < w6.heap.size := (by omega); have z9 : w3.heap.size < w6.heap.size := (by omega); have z11 : w4.heap.size < w6.heap.size := (by omega))
    | (go_at_call 115; refine (bhi_any _ _ _ _).mono ?_; rintro e w7 ⟨s, rfl, hb⟩; obtain ⟨hc', hf'⟩ := bcell hb; (try simp only [World.heap_drewN, World.cell?_drewN, World.frozen?_drewN] at hc' hf'); have hsz := hb.size; (try simp at hsz); have g7 : w.heap.size < w7.heap.size := (by omega); have z9 : w3.heap.size < w7.heap.size := (by omega); have z11 : w4.heap.size < w7.heap.size := (by omega); have z12 : w6.heap.size < w7.heap.size := (by omega))
    | (go_at_call 106; refine (hi_any _ _ _).mono ?_; rintro e w' ⟨s, i, rfl, rfl⟩)
    | (go_at_call 111; refine (On_ok A n cap ps HN.out hm (pointS x y).1 (pointS x y).2.1 (pointS x y).2.2 _ ((HS.out.below (B' := w.heap.size) (by repeat (first | exact Below.refl _ _ | refine below_drewN ?_ _ | refine Below.alloc ?_ (by first | omega | (simp; omega) | simp) _ | refine Below.setCell ?_ (by first | omega | (simp; omega) | simp) _ | refine Below.trans ?_ (Below.mono (by assumption) (by first | omega | (simp; omega) | simp)) | apply Below.drew)) (Nat.le_refl _)).more (by first | omega | (simp; omega) | simp)) hc (mayS_point hz)).mono ?_; rintro e w3 ⟨rfl, hb⟩; rw [hH]; obtain ⟨hc', hf'⟩ := bcell hb; (try simp only [World.heap_drewN, World.cell?_drewN, World.frozen?_drewN] at hc' hf'); have hsz := hb.size; (try simp at hsz); have g3 : w.heap.size < w3.heap.size := (by omega)))
  have F4 : BCell w7 w.heap.size (0, 0, 0) := ⟨by simp [go_sem, *], by simp [go_sem, *], by simp [go_sem, *], by simp [go_sem, *]⟩
  have F11 : BCell w7 w4.heap.size Y := ⟨by simp [go_sem, *], by simp [go_sem, *], by simp [go_sem, *], by simp [go_sem, *]⟩
  have F12 : BCell w7 w6.heap.size M := ⟨by simp [go_sem, *], by simp [go_sem, *], by simp [go_sem, *], by simp [go_sem, *]⟩
  have HW : Below w.heap.size w w7 := by repeat (first | exact Below.refl _ _ | refine below_drewN ?_ _ | refine Below.alloc ?_ (by first | omega | (simp; omega) | simp) _ | refine Below.setCell ?_ (by first | omega | (simp; omega) | simp) _ | refine Below.trans ?_ (Below.mono (by assumption) (by first | omega | (simp; omega) | simp)) | apply Below.drew)
  have hR0 : fmax (fmax (fop .mul (bhiS (M.1, M.2.1, M.2.2)) 4611686018427387904) (fop .mul (hiS x y) 4382002437431492608)) 103582791429521408 = certR0 M x y := rfl
  rw [hR0]
  clear hR0
  generalize hr0 : certR0 M x y = r0
  have hS7 := (HS.out.below HW (Nat.le_refl _))
  have HF4 := Lib.hid F4
  have HF11 := Lib.hid F11
  have HF12 := Lib.hid F12
  have HWW := Lib.hid HW
  have HS7 := Lib.hid hS7
  have z46 : w4.heap.size < w7.heap.size := by omega
  clear F4 F11 F12 HW hS7
  go_loopw [13, 14] (fun r i wr => ∃ (k t : Nat) (B : Bl), k ≤ 12 ∧ r = .float .f64 (pick (certR r0 k) t) ∧ i = .int .i64 k ∧ (∀ j, j < k → certAt ps M (q1, q2) x y (certR r0 j) = false) ∧
      BCell wr w.heap.size B ∧ BCell wr w4.heap.size Y ∧ BCell wr w6.heap.size M ∧ Seq wr w.heap.size A (ps.map cv) ∧ Below w.heap.size w wr ∧ w7.heap.size ≤ wr.heap.size) (fun _ i _ => 12 - (intOf i).toNat)
  case atStart => exact ⟨0, _, (0, 0, 0), by decide, rfl, rfl, fun j hj => absurd hj (by omega), HF4.out.drewN _, HF11.out.drewN _, HF12.out.drewN _, HS7.out.drewN _, by have := HWW.out; repeat (first | exact Below.refl _ _ | refine below_drewN ?_ _ | refine Below.alloc ?_ (by first | omega | (simp; omega) | simp) _ | refine Below.setCell ?_ (by first | omega | (simp; omega) | simp) _ | refine Below.trans ?_ (Below.mono (by assumption) (by first | omega | (simp; omega) | simp)) | apply Below.drew), by simp⟩
  case round =>
    obtain ⟨k, t, B, hk, rfl, rfl, hall, f4, f11, f12, hsr, hbr, hsz7⟩ := hrel
    have HA := Lib.hid hall
    have HSR := Lib.hid hsr
    have HBR := Lib.hid hbr
    clear hall hsr hbr
    by_cases hlt : k < 12
    · have hne : ((k : Int) == 12) = false := by rw [beq_eq_false_iff_ne]; omega
      obtain ⟨a0, a1, a2, a3⟩ := f4
      obtain ⟨b0, b1, b2, b3⟩ := f11
      obtain ⟨c0, c1, c2, c3⟩ := f12
      have n4 : ¬ w4.heap.size = w.heap.size := by omega
      have n4' : ¬ w.heap.size = w4.heap.size := by omega
      have n6 : ¬ w6.heap.size = w.heap.size := by omega
      have n6' : ¬ w.heap.size = w6.heap.size := by omega
      have q4 : w.heap.size < wr.heap.size := by omega
      have q11 : w4.heap.size < wr.heap.size := by omega
      have q12 : w6.heap.size < wr.heap.size := by omega
      cases hmay : mayS (x, y, certR r0 k)
      · have hmay' : mayS (x, y, pick (certR r0 k) t) = false := by rw [mayS_pick]; exact hmay
        have hno : certAt ps M (q1, q2) x y (certR r0 k) = false := by unfold certAt; rw [hmay]; rfl
        go_wp2_with fail
        refine (SlopeOn_bad A n cap ps HN.out hm x y _ _ ((HSR.out.below (B' := w.heap.size) (by repeat (first | exact Below.refl _ _ | refine below_drewN ?_ _ | refine Below.alloc ?_ (by first | omega | (simp; omega) | simp) _ | refine Below.setCell ?_ (by first | omega | (simp; omega) | simp) _ | refine Below.trans ?_ (Below.mono (by assumption) (by first | omega | (simp; omega) | simp)) | apply Below.drew)) (Nat.le_refl _)).more (by simp; omega)) hc hmay').mono ?_
        rintro e w8 ⟨rfl, hb⟩
        obtain ⟨hc', hf'⟩ := bcell hb
        have hsz := hb.size
        simp at hsz
        have F4 : BCell w8 w.heap.size (x, y, pick (certR r0 k) t) := ⟨by simp [go_sem, *], by simp [go_sem, *], by simp [go_sem, *], by simp [go_sem, *]⟩
        have F11 : BCell w8 w4.heap.size Y := ⟨by simp [go_sem, *], by simp [go_sem, *], by simp [go_sem, *], by simp [go_sem, *]⟩
        have F12 : BCell w8 w6.heap.size M := ⟨by simp [go_sem, *], by simp [go_sem, *], by simp [go_sem, *], by simp [go_sem, *]⟩
        have S8 := HSR.out.below (show Below w.heap.size wr w8 by repeat (first | exact Below.refl _ _ | refine below_drewN ?_ _ | refine Below.alloc ?_ (by first | omega | (simp; omega) | simp) _ | refine Below.setCell ?_ (by first | omega | (simp; omega) | simp) _ | refine Below.trans ?_ (Below.mono (by assumption) (by first | omega | (simp; omega) | simp)) | apply Below.drew)) (Nat.le_refl _)
        have HB8 : Below w.heap.size w w8 := by have := HBR.out; repeat (first | exact Below.refl _ _ | refine below_drewN ?_ _ | refine Below.alloc ?_ (by first | omega | (simp; omega) | simp) _ | refine Below.setCell ?_ (by first | omega | (simp; omega) | simp) _ | refine Below.trans ?_ (Below.mono (by assumption) (by first | omega | (simp; omega) | simp)) | apply Below.drew)
        have hall' : ∀ j, j < k + 1 → certAt ps M (q1, q2) x y (certR r0 j) = false := by
          intro j hj
          rcases Nat.lt_or_ge j k with h | h
          · exact HA.out j h
          · rw [show j = k by omega]; exact hno
        have G4 := Lib.hid F4
        have G11 := Lib.hid F11
        have G12 := Lib.hid F12
        have GB := Lib.hid HB8
        have GS := Lib.hid S8
        have GA := Lib.hid hall'
        clear F4 F11 F12 HB8 S8 hall' a0 a1 a2 a3 b0 b1 b2 b3 c0 c1 c2 c3 hc' hf' hb
        have l4 : w.heap.size < w8.heap.size := by omega
        have l11 : w4.heap.size < w8.heap.size := by omega
        have l12 : w6.heap.size < w8.heap.size := by omega
        go_wp2
        go_roundw
        case rel =>
          exact ⟨k + 1, _, (x, y, pick (certR r0 k) t), by omega, rfl, by go_num, GA.out, G4.out.below (B := w8.heap.size) (by repeat (first | exact Below.refl _ _ | refine below_drewN ?_ _ | refine Below.alloc ?_ (by first | omega | (simp; omega) | simp) _ | refine Below.setCell ?_ (by first | omega | (simp; omega) | simp) _ | refine Below.trans ?_ (Below.mono (by assumption) (by first | omega | (simp; omega) | simp)) | apply Below.drew)) l4, G11.out.below (B := w8.heap.size) (by repeat (first | exact Below.refl _ _ | refine below_drewN ?_ _ | refine Below.alloc ?_ (by first | omega | (simp; omega) | simp) _ | refine Below.setCell ?_ (by first | omega | (simp; omega) | simp) _ | refine Below.trans ?_ (Below.mono (by assumption) (by first | omega | (simp; omega) | simp)) | apply Below.drew)) l11, G12.out.below (B := w8.heap.size) (by repeat (first | exact Below.refl _ _ | refine below_drewN ?_ _ | refine Below.alloc ?_ (by first | omega | (simp; omega) | simp) _ | refine Below.setCell ?_ (by first | omega | (simp; omega) | simp) _ | refine Below.trans ?_ (Below.mono (by assumption) (by first | omega | (simp; omega) | simp)) | apply Below.drew)) l12,
            GS.out.below (B' := w8.heap.size) (by repeat (first | exact Below.refl _ _ | refine below_drewN ?_ _ | refine Below.alloc ?_ (by first | omega | (simp; omega) | simp) _ | refine Below.setCell ?_ (by first | omega | (simp; omega) | simp) _ | refine Below.trans ?_ (Below.mono (by assumption) (by first | omega | (simp; omega) | simp)) | apply Below.drew)) (Nat.le_of_lt l4), by have := GB.out; repeat (first | exact Below.refl _ _ | refine below_drewN ?_ _ | refine Below.alloc ?_ (by first | omega | (simp; omega) | simp) _ | refine Below.setCell ?_ (by first | omega | (simp; omega) | simp) _ | refine Below.trans ?_ (Below.mono (by assumption) (by first | omega | (simp; omega) | simp)) | apply Below.drew), by simp; omega⟩
        case measure => simp [intOf]; omega
      · have hpk := pick_of (mayS_notNaN hmay)
        obtain ⟨D, hD⟩ : ∃ D, onFrom (x, y, certR r0 k) (slopesS ps) 0 = D := ⟨_, rfl⟩
        obtain ⟨P1, hP1⟩ : ∃ P1, pointS 4607182418800017408 0 = P1 := ⟨_, rfl⟩
        obtain ⟨W1, hW1⟩ : ∃ W1, mulS (Y.1, Y.2.1, Y.2.2) (D.1, D.2.1, D.2.2) = W1 := ⟨_, rfl⟩
        obtain ⟨Z1, hZ1⟩ : ∃ Z1, subS (P1.1, P1.2.1, P1.2.2) (W1.1, W1.2.1, W1.2.2) = Z1 := ⟨_, rfl⟩
        obtain ⟨ok, hok⟩ : ∃ ok, (contractsS (M.1, M.2.1, M.2.2) (Z1.1, Z1.2.1, Z1.2.2) (certR r0 k)).2 = ok := ⟨_, rfl⟩
        have hcert : certAt ps M (q1, q2) x y (certR r0 k) = ok := by
          unfold certAt fone
          rw [hmay, hY, hD, hP1, show mulS Y D = W1 from hW1, show subS P1 W1 = Z1 from hZ1, show contractsS M Z1 (certR r0 k) = contractsS (M.1, M.2.1, M.2.2) (Z1.1, Z1.2.1, Z1.2.2) (certR r0 k) from rfl, hok]
          rfl
        have HCERT := Lib.hid hcert
        clear hcert
        rw [hpk]
        go_wp2_with fail
        refine (SlopeOn_ok A n cap ps HN.out hm x y (certR r0 k) _ ((HSR.out.below (B' := w.heap.size) (by repeat (first | exact Below.refl _ _ | refine below_drewN ?_ _ | refine Below.alloc ?_ (by first | omega | (simp; omega) | simp) _ | refine Below.setCell ?_ (by first | omega | (simp; omega) | simp) _ | refine Below.trans ?_ (Below.mono (by assumption) (by first | omega | (simp; omega) | simp)) | apply Below.drew)) (Nat.le_refl _)).more (by simp; omega)) hc hmay).mono ?_
        rintro e w8 ⟨rfl, hb⟩
        rw [hD]
        obtain ⟨hc', hf'⟩ := bcell hb
        have hsz := hb.size
        simp at hsz
        have F4 : BCell w8 w.heap.size (x, y, certR r0 k) := ⟨by simp [go_sem, *], by simp [go_sem, *], by simp [go_sem, *], by simp [go_sem, *]⟩
        have F11 : BCell w8 w4.heap.size Y := ⟨by simp [go_sem, *], by simp [go_sem, *], by simp [go_sem, *], by simp [go_sem, *]⟩
        have F12 : BCell w8 w6.heap.size M := ⟨by simp [go_sem, *], by simp [go_sem, *], by simp [go_sem, *], by simp [go_sem, *]⟩
        have S8 := HSR.out.below (show Below w.heap.size wr w8 by repeat (first | exact Below.refl _ _ | refine below_drewN ?_ _ | refine Below.alloc ?_ (by first | omega | (simp; omega) | simp) _ | refine Below.setCell ?_ (by first | omega | (simp; omega) | simp) _ | refine Below.trans ?_ (Below.mono (by assumption) (by first | omega | (simp; omega) | simp)) | apply Below.drew)) (Nat.le_refl _)
        have HB8 : Below w.heap.size w w8 := by have := HBR.out; repeat (first | exact Below.refl _ _ | refine below_drewN ?_ _ | refine Below.alloc ?_ (by first | omega | (simp; omega) | simp) _ | refine Below.setCell ?_ (by first | omega | (simp; omega) | simp) _ | refine Below.trans ?_ (Below.mono (by assumption) (by first | omega | (simp; omega) | simp)) | apply Below.drew)
        have G4 := Lib.hid F4
        have G11 := Lib.hid F11
        have G12 := Lib.hid F12
        have GB := Lib.hid HB8
        have GS := Lib.hid S8
        clear F4 F11 F12 HB8 S8 a0 a1 a2 a3 b0 b1 b2 b3 c0 c1 c2 c3 hc' hf' hb
        have l4 : w.heap.size < w8.heap.size := by omega
        have l11 : w4.heap.size < w8.heap.size := by omega
        have l12 : w6.heap.size < w8.heap.size := by omega
        obtain ⟨b0, b1, b2, b3⟩ := G11.out
        obtain ⟨c0, c1, c2, c3⟩ := G12.out
        go_wp2_with fail
        go_region_held3 (fun v => v.cell? ⟨w4.heap.size, 0, none⟩ = some (.complex .f64 Y.1 Y.2.1) ∧ v.cell? ⟨w4.heap.size, 1, none⟩ = some (.float .f64 Y.2.2) ∧ v.cell? ⟨w6.heap.size, 0, none⟩ = some (.complex .f64 M.1 M.2.1) ∧ v.cell? ⟨w6.heap.size, 1, none⟩ = some (.float .f64 M.2.2) ∧ v.cell? ⟨w8.heap.size, 0, none⟩ = some (.complex .f64 D.1 D.2.1) ∧ v.cell? ⟨w8.heap.size, 1, none⟩ = some (.float .f64 D.2.2)) (((try dsimp only); refine ⟨?_, ?_, ?_, ?_, ?_, ?_⟩ <;> first | (simp [go_sem, World.cell?_alloc_past, *]; done) | (rw [hc _ _ (by first | assumption | (simp; assumption) | omega | (simp; omega))]; first | exact (‹_ ∧ _ ∧ _ ∧ _ ∧ _ ∧ _›).1 | exact (‹_ ∧ _ ∧ _ ∧ _ ∧ _ ∧ _›).2.1 | exact (‹_ ∧ _ ∧ _ ∧ _ ∧ _ ∧ _›).2.2.1 | exact (‹_ ∧ _ ∧ _ ∧ _ ∧ _ ∧ _›).2.2.2.1 | exact (‹_ ∧ _ ∧ _ ∧ _ ∧ _ ∧ _›).2.2.2.2.1 | exact (‹_ ∧ _ ∧ _ ∧ _ ∧ _ ∧ _›).2.2.2.2.2)))
          (first
            | (go_at_call 112; refine (point_any _ _ _).mono ?_; rintro e w9 ⟨rfl, hb⟩; rw [hP1]; obtain ⟨hc, hf⟩ := bcell hb; (try simp only [World.heap_drewN, World.cell?_drewN, World.frozen?_drewN] at hc hf); have hsz := hb.size; (try simp at hsz); have y4 : w4.heap.size < w9.heap.size := (by omega); have y6 : w6.heap.size < w9.heap.size := (by omega); have y8 : w8.heap.size < w9.heap.size := (by omega))
            | (go_at_call 114; refine (bmul_any _ _ _ _ _ _ _).mono ?_; rintro e w9 ⟨rfl, hb⟩; rw [hW1]; obtain ⟨hc, hf⟩ := bcell hb; (try simp only [World.heap_drewN, World.cell?_drewN, World.frozen?_drewN] at hc hf); have hsz := hb.size; (try simp at hsz); have y4 : w4.heap.size < w9.heap.size := (by omega); have y6 : w6.heap.size < w9.heap.size := (by omega); have y8 : w8.heap.size < w9.heap.size := (by omega))
            | (go_at_call 118; refine (bsub_any _ _ _ _ _ _ _).mono ?_; rintro e w9 ⟨rfl, hb⟩; rw [hZ1]; obtain ⟨hc, hf⟩ := bcell hb; (try simp only [World.heap_drewN, World.cell?_drewN, World.frozen?_drewN] at hc hf); have hsz := hb.size; (try simp at hsz); have y4 : w4.heap.size < w9.heap.size := (by omega); have y6 : w6.heap.size < w9.heap.size := (by omega); have y8 : w8.heap.size < w9.heap.size := (by omega))
            | (go_at_call 117; refine (contracts_any _ _ _ _ _ _ _ _).mono ?_; rintro e w9 ⟨q, rfl, hb⟩; rw [hok]; obtain ⟨hc, hf⟩ := bcell hb; (try simp only [World.heap_drewN, World.cell?_drewN, World.frozen?_drewN] at hc hf); have hsz := hb.size; (try simp at hsz); have y4 : w4.heap.size < w9.heap.size := (by omega); have y6 : w6.heap.size < w9.heap.size := (by omega); have y8 : w8.heap.size < w9.heap.size := (by omega)))
        have hfin : Below w8.heap.size w8 w9 := by repeat (first | exact Below.refl _ _ | refine below_drewN ?_ _ | refine Below.alloc ?_ (by first | omega | (simp; omega) | simp) _ | refine Below.setCell ?_ (by first | omega | (simp; omega) | simp) _ | refine Below.trans ?_ (Below.mono (by assumption) (by first | omega | (simp; omega) | simp)) | apply Below.drew)
        have HFIN := Lib.hid hfin
        have hs9 : w8.heap.size < w9.heap.size := by omega
        have F4 := G4.out.below hfin l4
        clear b0 b1 b2 b3 c0 c1 c2 c3 hc hf hb hfin
        cases ok
        · have hall' : ∀ j, j < k + 1 → certAt ps M (q1, q2) x y (certR r0 j) = false := by
            intro j hj
            rcases Nat.lt_or_ge j k with h | h
            · exact HA.out j h
            · rw [show j = k by omega]; exact HCERT.out
          have GA := Lib.hid hall'
          have G44 := Lib.hid F4
          clear F4 hall'
          go_wp2
          go_roundw
          case rel =>
            have := HFIN.out
            have l4' : w.heap.size < w9.heap.size := by omega
            have l11' : w4.heap.size < w9.heap.size := by omega
            have l12' : w6.heap.size < w9.heap.size := by omega
            exact ⟨k + 1, _, (x, y, certR r0 k), by omega, rfl, by go_num, GA.out, G44.out.drewN _, (G11.out.below HFIN.out l11).drewN _, (G12.out.below HFIN.out l12).drewN _,
              (GS.out.below HFIN.out (Nat.le_of_lt l4)).drewN _, by have := GB.out.trans (HFIN.out.mono (Nat.le_of_lt l4)); repeat (first | exact Below.refl _ _ | refine below_drewN ?_ _ | refine Below.alloc ?_ (by first | omega | (simp; omega) | simp) _ | refine Below.setCell ?_ (by first | omega | (simp; omega) | simp) _ | refine Below.trans ?_ (Below.mono (by assumption) (by first | omega | (simp; omega) | simp)) | apply Below.drew), by simp; omega⟩
          case measure => simp [intOf]; omega
        · obtain ⟨a0, a1, a2, a3⟩ := F4
          go_wp2
          exact bodyPost_ret (v := .tuple #[.agg #[.complex .f64 x y, .float .f64 (certR r0 k)], .bool true, .int .i64 0]) (by simp [results, Tryz.results58, go_sem, *]) rfl ⟨.inl ⟨k, hlt, HA.out, HCERT.out, rfl⟩, by
            have := GB.out.trans (HFIN.out.mono (Nat.le_of_lt l4)); repeat (first | exact Below.refl _ _ | refine below_drewN ?_ _ | refine Below.alloc ?_ (by first | omega | (simp; omega) | simp) _ | refine Below.setCell ?_ (by first | omega | (simp; omega) | simp) _ | refine Below.trans ?_ (Below.mono (by assumption) (by first | omega | (simp; omega) | simp)) | apply Below.drew)⟩
    · obtain rfl : k = 12 := by omega
      obtain ⟨a0, a1, a2, a3⟩ := f4
      go_wp2
      go_step3
      refine ⟨rfl, ?_⟩
      go_wp2
      simp only [Exit.jump]
      have := HBR.out
      exact bodyPost_ret (v := .tuple #[.agg #[.complex .f64 0 0, .float .f64 0], .bool false, .int .i64 0]) (by simp [results, Tryz.results58, go_sem, *]) rfl ⟨.inr ⟨HA.out, rfl⟩, by repeat (first | exact Below.refl _ _ | refine below_drewN ?_ _ | refine Below.alloc ?_ (by first | omega | (simp; omega) | simp) _ | refine Below.setCell ?_ (by first | omega | (simp; omega) | simp) _ | refine Below.trans ?_ (Below.mono (by assumption) (by first | omega | (simp; omega) | simp)) | apply Below.drew)⟩
end
end Go.Proofs.YtbgjcpnbdgljbaaGreatDoor

/- The contracts of filigreelaw16.square and .lives, at this translation. -/
namespace Go.Proofs.YtbgjcpnbdgljbaaGreatDoor
open Go.RowKit Go.Fil

/-- z² - 1. -/
def sq : List Cc := [(13830554455654793216, 0), (0, 0), (4607182418800017408, 0)]
theorem sq_check : checkS sq = true := by decide +kernel
theorem sq_start : startR sq 2 = 4611686018427387904 := by decide +kernel
theorem sq_newton : newtonOk sq 4611686018427387904 0 = true ∧ newtonZ sq 4611686018427387904 0 = (4608308318706860032, 0) := by decide +kernel
theorem sq_slope : atFrom (4607182418800017408, 0) (steepS sq) 0 = (4611686018427387904, 0) := by decide +kernel
theorem sq_q1 : quoRe 4607182418800017408 0 4611686018427387904 0 = 4602678819172646912 := by decide +kernel
theorem sq_q2 : quoIm 4607182418800017408 0 4611686018427387904 0 = 0 := by decide +kernel
def sqM : Bl := (9223372036854775808, 9223372036854775808, 4377498837804122116)
def sqH : Bl := onFrom ((pointS 4607182418800017408 0).1, (pointS 4607182418800017408 0).2.1, (pointS 4607182418800017408 0).2.2) (pointsS sq) 0
def sqM0 : Bl := mulS ((pointS 4602678819172646912 0).1, (pointS 4602678819172646912 0).2.1, (pointS 4602678819172646912 0).2.2) (sqH.1, sqH.2.1, sqH.2.2)
theorem sq_M : negS (sqM0.1, sqM0.2.1, sqM0.2.2) = sqM := by decide +kernel
theorem sq_r0 : certR0 sqM 4607182418800017408 0 = 4382002437431492612 := by decide +kernel
theorem sq_cert : certAt sq sqM (4602678819172646912, 0) 4607182418800017408 0 4382002437431492612 = true := by decide +kernel

attribute [local irreducible] fop fsqrt fup fabs fneg pick fmax pointS mulS negS addS subS bhiS hiS contractsS onFrom
theorem square_any (w : World) : Calls Tryz.prog 56 #[] w fun e w' => ∃ A, e = .returned (.slice A 3 3) ∧ Seq w' w'.heap.size A (sq.map cv) ∧ Below w.heap.size w w' := by
  go_enter Tryz.func56, Tryz.ntmps56
  go_wp2
  go_ret
  refine ⟨_, rfl, .inr ⟨w.heap.size, 0, rfl, by simp, fun k u hu => ?_⟩, by repeat (first | exact Below.refl _ _ | refine below_drewN ?_ _ | refine Below.alloc ?_ (by first | omega | (simp; omega) | simp) _ | refine Below.setCell ?_ (by first | omega | (simp; omega) | simp) _ | refine Below.trans ?_ (Below.mono (by assumption) (by first | omega | (simp; omega) | simp)) | apply Below.drew)⟩
  rw [Nat.zero_add, World.cell?_alloc_at _ _ _ _ (by
    simp)]
  match k, hu with
  | 0, hu => exact hu
  | 1, hu => exact hu
  | 2, hu => exact hu
  | k + 3, hu => simp [sq] at hu
theorem certify_sq (A : Option Addr) (w : World) (hs : Seq w w.heap.size A (sq.map cv)) :
    Calls Tryz.prog 58 #[.slice A 3 3, .complex .f64 4607182418800017408 0] w fun e w' => e = .returned (.tuple #[.agg #[.complex .f64 4607182418800017408 0, .float .f64 4382002437431492612], .bool true, .int .i64 0]) ∧ Below w.heap.size w w' := by
  refine (certify_ok A 3 3 sq rfl (by decide) (by decide) 4607182418800017408 0 w hs sq_check (by decide) (by decide +kernel) sq_slope (by decide +kernel) (by decide +kernel) sq_q1 sq_q2 (by decide +kernel) rfl (H := sqH) rfl (M0 := sqM0) rfl sq_M).mono ?_
  rintro e w' ⟨h, hb⟩
  rw [sq_r0] at h
  rcases h with ⟨k, hk, hall, hcert, he⟩ | ⟨hall, he⟩
  · cases k with
    | zero => exact ⟨he, hb⟩
    | succ k => have := hall 0 (by omega); rw [show certR 4382002437431492612 0 = 4382002437431492612 from rfl, sq_cert] at this; cases this
  · have := hall 0 (by omega); rw [show certR 4382002437431492612 0 = 4382002437431492612 from rfl, sq_cert] at this; cases this
theorem newton_sq (A : Option Addr) (w : World) (hs : Seq w w.heap.size A (sq.map cv)) :
    Calls Tryz.prog 57 #[.slice A 3 3, .complex .f64 4611686018427387904 0] w fun e w' => e = .returned (.tuple #[.complex .f64 4608308318706860032 0, .bool true]) ∧ Below w.heap.size w w' := by
  refine (newton_any A 3 3 sq rfl (by decide) (by decide) 4611686018427387904 0 w hs sq_check).mono ?_
  rintro e w' ⟨h, hb⟩
  rw [sq_newton.1, sq_newton.2] at h
  exact ⟨h, hb⟩
theorem start_sq (A : Option Addr) (w : World) (hs : Seq w w.heap.size A (sq.map cv)) :
    Calls Tryz.prog 55 #[.slice A 3 3] w fun e w' => ∃ A' c, e = .returned (.tuple #[.slice A' 2 c, .int .i64 0]) ∧ (∃ b o, A' = some ⟨b, o, none⟩ ∧ b < w'.heap.size ∧ w'.cell? ⟨b, o, none⟩ = some (.complex .f64 4611686018427387904 0)) ∧ Below w.heap.size w w' := by
  refine (start_any A 2 3 sq rfl (by decide) w hs sq_check).mono ?_
  rintro e w' ⟨v, zs, rfl, hz, h0, hown, hb⟩
  obtain ⟨A', c, rfl, hsq⟩ := seq_of_own hown
  obtain ⟨b, o, rfl, hbl, hcl⟩ := hsq.cat (k := 0) (by omega)
  rw [h0 (by decide), sq_start] at hcl
  exact ⟨_, _, rfl, ⟨b, o, rfl, hbl, hcl⟩, hb⟩
set_option maxRecDepth 100000 in
set_option maxHeartbeats 1600000 in
theorem lives_any (w : World) : Calls Tryz.prog 24 #[] w fun e w' => e = .returned (.bool true) ∧ Below w.heap.size w w' := by
  have e1 : (FloatKind.f64.format.order 4611686018427387904 4611686018427387904 == some .eq) = true := by decide +kernel
  have e2 : (FloatKind.f64.format.order 0 0 == some .eq) = true := by decide +kernel
  have e3 : (FloatKind.f64.format.order 4608308318706860032 4608308318706860032 == some .eq) = true := by decide +kernel
  have e4 : (FloatKind.f64.format.order 4607182418800017408 4607182418800017408 == some .eq) = true := by decide +kernel
  have e5 : (FloatKind.f64.format.order 4382002437431492612 0 == some .gt) = true := by decide +kernel
  have e6 : (FloatKind.f64.format.order 4382002437431492612 4472406533629990549 == some .lt) = true := by decide +kernel
  go_enter Tryz.func24, Tryz.ntmps24
  go_wp2_with (first
    | (go_at_call 56; refine (square_any _).mono ?_; rintro e w1 ⟨A, rfl, hs, hb⟩; have hsz := hb.size; (first | (replace hcl := (Below.cell hb (p := ⟨b, o, none⟩) hlt).trans hcl; replace hlt := Nat.lt_of_lt_of_le hlt hb.size) | skip))
    | (go_at_call 55; refine (start_sq _ _ hs).mono ?_; rintro e w2 ⟨A2, c2, rfl, ⟨b, o, rfl, hlt, hcl⟩, hb⟩; have hsz := hb.size)
    | (go_at_call 57; refine (newton_sq _ _ hs).mono ?_; rintro e w3 ⟨rfl, hb⟩; have hsz := hb.size; (first | (replace hcl := (Below.cell hb (p := ⟨b, o, none⟩) hlt).trans hcl; replace hlt := Nat.lt_of_lt_of_le hlt hb.size) | skip))
    | (go_at_call 58; refine (certify_sq _ _ hs).mono ?_; rintro e w4 ⟨rfl, hb⟩; have hsz := hb.size; (first | (replace hcl := (Below.cell hb (p := ⟨b, o, none⟩) hlt).trans hcl; replace hlt := Nat.lt_of_lt_of_le hlt hb.size) | skip)))
  go_ret
  exact ⟨rfl, by repeat (first | exact Below.refl _ _ | refine below_drewN ?_ _ | refine Below.alloc ?_ (by first | omega | (simp; omega) | simp) _ | refine Below.setCell ?_ (by first | omega | (simp; omega) | simp) _ | refine Below.trans ?_ (Below.mono (by assumption) (by first | omega | (simp; omega) | simp)) | apply Below.drew)⟩
end Go.Proofs.YtbgjcpnbdgljbaaGreatDoor
