/- The contracts of ball.Contracts, roots.may, roots.finite, filigreelaw16.square, at this translation. -/
import Derived.Test.YtbgjcpnbdgljbaaGreatDoorMPon
import Derived.Test.YtbgjcpnbdgljbaaGreatDoorMMax
namespace Go.Proofs.YtbgjcpnbdgljbaaGreatDoor
open Go.RowKit Go.Fil
attribute [local irreducible] fop fsqrt fup fabs fneg pick fmax

/-- What Contracts answers (its number is not asked for). -/
def RK (ok : Bool) (w : World) (e : Ending) (w' : World) : Prop := ∃ q, e = .returned (.tuple #[.float .f64 q, .bool ok]) ∧ Below w.heap.size w w'
section
variable (a b r c d q x : Nat) (w : World)
theorem contracts_1 (h1 : finB x = false) :
    Calls Tryz.prog 117 #[.agg #[.complex .f64 a b, .float .f64 r], .agg #[.complex .f64 c d, .float .f64 q], .float .f64 x] w (RK false w) := by
  go_enter Tryz.func117, Tryz.ntmps117; go_wp2_with (first | (go_at_call 115; refine (bhi_any _ _ _ _).mono ?_; rintro e w1 ⟨s, rfl, hb⟩; obtain ⟨hc, hf⟩ := bcell hb; (try simp only [World.heap_drewN, World.cell?_drewN, World.frozen?_drewN] at hc hf); have hsz := hb.size; (try simp at hsz); have z0 : w.heap.size < w1.heap.size := (by omega); have z1 : w.heap.size + 1 < w1.heap.size := (by omega)) | (go_at_call 180; refine (finite_any _ _).mono ?_; rintro e w' ⟨n, rfl, rfl⟩) | (go_at_call 178; refine (times_any _ _ _).mono ?_; rintro e w' ⟨s, n, rfl, rfl⟩) | (go_at_call 177; refine (plus_any _ _ _).mono ?_; rintro e w' ⟨s, n, rfl, rfl⟩)); go_ret2; exact ⟨_, rfl, by repeat (first | exact Below.refl _ _ | refine below_drewN ?_ _ | refine Below.alloc ?_ (by first | omega | (simp; omega) | simp) _ | refine Below.setCell ?_ (by first | omega | (simp; omega) | simp) _ | refine Below.trans ?_ (Below.mono (by assumption) (by first | omega | (simp; omega) | simp)) | apply Below.drew)⟩
theorem contracts_2 (h1 : finB x = true) (h2 : (FloatKind.f64.format.order x 0 == some .lt || FloatKind.f64.format.order x 0 == some .eq) = true) :
    Calls Tryz.prog 117 #[.agg #[.complex .f64 a b, .float .f64 r], .agg #[.complex .f64 c d, .float .f64 q], .float .f64 x] w (RK false w) := by
  go_enter Tryz.func117, Tryz.ntmps117; go_wp2_with (first | (go_at_call 115; refine (bhi_any _ _ _ _).mono ?_; rintro e w1 ⟨s, rfl, hb⟩; obtain ⟨hc, hf⟩ := bcell hb; (try simp only [World.heap_drewN, World.cell?_drewN, World.frozen?_drewN] at hc hf); have hsz := hb.size; (try simp at hsz); have z0 : w.heap.size < w1.heap.size := (by omega); have z1 : w.heap.size + 1 < w1.heap.size := (by omega)) | (go_at_call 180; refine (finite_any _ _).mono ?_; rintro e w' ⟨n, rfl, rfl⟩) | (go_at_call 178; refine (times_any _ _ _).mono ?_; rintro e w' ⟨s, n, rfl, rfl⟩) | (go_at_call 177; refine (plus_any _ _ _).mono ?_; rintro e w' ⟨s, n, rfl, rfl⟩)); go_ret2; exact ⟨_, rfl, by repeat (first | exact Below.refl _ _ | refine below_drewN ?_ _ | refine Below.alloc ?_ (by first | omega | (simp; omega) | simp) _ | refine Below.setCell ?_ (by first | omega | (simp; omega) | simp) _ | refine Below.trans ?_ (Below.mono (by assumption) (by first | omega | (simp; omega) | simp)) | apply Below.drew)⟩
theorem contracts_3 (h1 : finB x = true) (h2 : (FloatKind.f64.format.order x 0 == some .lt || FloatKind.f64.format.order x 0 == some .eq) = false) (h3 : (FloatKind.f64.format.order (bhiS (c, d, q)) 4607182418800017408 == some .lt) = false) :
    Calls Tryz.prog 117 #[.agg #[.complex .f64 a b, .float .f64 r], .agg #[.complex .f64 c d, .float .f64 q], .float .f64 x] w (RK false w) := by
  go_enter Tryz.func117, Tryz.ntmps117; go_wp2_with (first | (go_at_call 115; refine (bhi_any _ _ _ _).mono ?_; rintro e w1 ⟨s, rfl, hb⟩; obtain ⟨hc, hf⟩ := bcell hb; (try simp only [World.heap_drewN, World.cell?_drewN, World.frozen?_drewN] at hc hf); have hsz := hb.size; (try simp at hsz); have z0 : w.heap.size < w1.heap.size := (by omega); have z1 : w.heap.size + 1 < w1.heap.size := (by omega)) | (go_at_call 180; refine (finite_any _ _).mono ?_; rintro e w' ⟨n, rfl, rfl⟩) | (go_at_call 178; refine (times_any _ _ _).mono ?_; rintro e w' ⟨s, n, rfl, rfl⟩) | (go_at_call 177; refine (plus_any _ _ _).mono ?_; rintro e w' ⟨s, n, rfl, rfl⟩)); go_ret2; exact ⟨_, rfl, by repeat (first | exact Below.refl _ _ | refine below_drewN ?_ _ | refine Below.alloc ?_ (by first | omega | (simp; omega) | simp) _ | refine Below.setCell ?_ (by first | omega | (simp; omega) | simp) _ | refine Below.trans ?_ (Below.mono (by assumption) (by first | omega | (simp; omega) | simp)) | apply Below.drew)⟩
theorem contracts_4 (h1 : finB x = true) (h2 : (FloatKind.f64.format.order x 0 == some .lt || FloatKind.f64.format.order x 0 == some .eq) = false) (h3 : (FloatKind.f64.format.order (bhiS (c, d, q)) 4607182418800017408 == some .lt) = true) (h4 : (FloatKind.f64.format.order (plusS (bhiS (a, b, r)) (timesS (bhiS (c, d, q)) x)) x == some .gt) = true) :
    Calls Tryz.prog 117 #[.agg #[.complex .f64 a b, .float .f64 r], .agg #[.complex .f64 c d, .float .f64 q], .float .f64 x] w (RK false w) := by
  go_enter Tryz.func117, Tryz.ntmps117; go_wp2_with (first | (go_at_call 115; refine (bhi_any _ _ _ _).mono ?_; rintro e w1 ⟨s, rfl, hb⟩; obtain ⟨hc, hf⟩ := bcell hb; (try simp only [World.heap_drewN, World.cell?_drewN, World.frozen?_drewN] at hc hf); have hsz := hb.size; (try simp at hsz); have z0 : w.heap.size < w1.heap.size := (by omega); have z1 : w.heap.size + 1 < w1.heap.size := (by omega)) | (go_at_call 180; refine (finite_any _ _).mono ?_; rintro e w' ⟨n, rfl, rfl⟩) | (go_at_call 178; refine (times_any _ _ _).mono ?_; rintro e w' ⟨s, n, rfl, rfl⟩) | (go_at_call 177; refine (plus_any _ _ _).mono ?_; rintro e w' ⟨s, n, rfl, rfl⟩)); go_ret2; exact ⟨_, rfl, by repeat (first | exact Below.refl _ _ | refine below_drewN ?_ _ | refine Below.alloc ?_ (by first | omega | (simp; omega) | simp) _ | refine Below.setCell ?_ (by first | omega | (simp; omega) | simp) _ | refine Below.trans ?_ (Below.mono (by assumption) (by first | omega | (simp; omega) | simp)) | apply Below.drew)⟩
theorem contracts_5 (h1 : finB x = true) (h2 : (FloatKind.f64.format.order x 0 == some .lt || FloatKind.f64.format.order x 0 == some .eq) = false) (h3 : (FloatKind.f64.format.order (bhiS (c, d, q)) 4607182418800017408 == some .lt) = true) (h4 : (FloatKind.f64.format.order (plusS (bhiS (a, b, r)) (timesS (bhiS (c, d, q)) x)) x == some .gt) = false) :
    Calls Tryz.prog 117 #[.agg #[.complex .f64 a b, .float .f64 r], .agg #[.complex .f64 c d, .float .f64 q], .float .f64 x] w (RK true w) := by
  go_enter Tryz.func117, Tryz.ntmps117; go_wp2_with (first | (go_at_call 115; refine (bhi_any _ _ _ _).mono ?_; rintro e w1 ⟨s, rfl, hb⟩; obtain ⟨hc, hf⟩ := bcell hb; (try simp only [World.heap_drewN, World.cell?_drewN, World.frozen?_drewN] at hc hf); have hsz := hb.size; (try simp at hsz); have z0 : w.heap.size < w1.heap.size := (by omega); have z1 : w.heap.size + 1 < w1.heap.size := (by omega)) | (go_at_call 180; refine (finite_any _ _).mono ?_; rintro e w' ⟨n, rfl, rfl⟩) | (go_at_call 178; refine (times_any _ _ _).mono ?_; rintro e w' ⟨s, n, rfl, rfl⟩) | (go_at_call 177; refine (plus_any _ _ _).mono ?_; rintro e w' ⟨s, n, rfl, rfl⟩)); go_ret2; exact ⟨_, rfl, by repeat (first | exact Below.refl _ _ | refine below_drewN ?_ _ | refine Below.alloc ?_ (by first | omega | (simp; omega) | simp) _ | refine Below.setCell ?_ (by first | omega | (simp; omega) | simp) _ | refine Below.trans ?_ (Below.mono (by assumption) (by first | omega | (simp; omega) | simp)) | apply Below.drew)⟩
theorem contracts_any :
    Calls Tryz.prog 117 #[.agg #[.complex .f64 a b, .float .f64 r], .agg #[.complex .f64 c d, .float .f64 q], .float .f64 x] w (RK (contractsS (a, b, r) (c, d, q) x).2 w) := by
  unfold contractsS fle flt fgt fone
  cases h1 : finB x
  · exact contracts_1 a b r c d q x w h1
  · cases h2 : (FloatKind.f64.format.order x 0 == some .lt || FloatKind.f64.format.order x 0 == some .eq)
    · cases h3 : (FloatKind.f64.format.order (bhiS (c, d, q)) 4607182418800017408 == some .lt)
      · exact contracts_3 a b r c d q x w h1 h2 h3
      · cases h4 : (FloatKind.f64.format.order (plusS (bhiS (a, b, r)) (timesS (bhiS (c, d, q)) x)) x == some .gt)
        · exact contracts_5 a b r c d q x w h1 h2 h3 h4
        · exact contracts_4 a b r c d q x w h1 h2 h3 h4
    · exact contracts_2 a b r c d q x w h1 h2
end
theorem may_ok (A : Option Addr) (n cap : Nat) (ps : List Cc) (hn : ps.length = n) (hm : n ≤ 9223372036854775807) (hp : 0 < n) (B : Nat) (w : World) (hs : Seq w B A (ps.map cv)) (hc : checkS ps = true) :
    Calls Tryz.prog 105 #[.slice A n cap] w fun e w' => e = .returned (.bool true) ∧ w = w' := by
  go_enter Tryz.func105, Tryz.ntmps105
  have hp' : (0 : Int) < (n : Int) := by omega
  go_wp2_with (go_at_call 82; refine (check_any A n cap ps hn hm B _ hs).mono ?_; rintro e w' ⟨rfl, rfl⟩; rw [hc])
  go_ret
  exact ⟨rfl, rfl⟩
theorem may_nil (cap : Nat) (A : Option Addr) (w : World) :
    Calls Tryz.prog 105 #[.slice A 0 cap] w fun e w' => e = .returned (.bool false) ∧ w = w' := by
  go_enter Tryz.func105, Tryz.ntmps105
  go_wp2_with (go_at_call 82; refine (check_nil A cap _).mono ?_; rintro e w' ⟨rfl, rfl⟩)
  go_ret
  exact ⟨rfl, rfl⟩
theorem rfinite_fin (a b : Nat) (h : cfin a b = true) (w : World) : Calls Tryz.prog 107 #[.complex .f64 a b] w fun e w' => ∃ n, e = .returned (.bool true) ∧ w.drewN n = w' := by
  have hf := cfin_fin h
  have e1 := order_eq_self (sub_notNaN hf.1 hf.1)
  have e2 := order_eq_self (sub_notNaN hf.2 hf.2)
  go_enter Tryz.func107, Tryz.ntmps107
  go_wp2_with (go_at_call 100; refine (kind_fin h _).mono ?_; rintro e w' ⟨rfl, rfl⟩)
  go_ret
  exact ⟨_, rfl, rfl⟩
theorem rfinite_not (a b : Nat) (h : cfin a b = false) (w : World) : Calls Tryz.prog 107 #[.complex .f64 a b] w fun e w' => ∃ n, e = .returned (.bool false) ∧ w.drewN n = w' := by
  cases e1 : (FloatKind.f64.format.order (fop .sub a a) (fop .sub a a) == some .eq && FloatKind.f64.format.order (fop .sub b b) (fop .sub b b) == some .eq)
  · go_enter Tryz.func107, Tryz.ntmps107
    go_wp2
    go_ret
    exact ⟨_, rfl, rfl⟩
  · go_enter Tryz.func107, Tryz.ntmps107
    go_wp2_with (go_at_call 100; refine (kind_not h _).mono ?_; rintro e w' ⟨k, hk, rfl, rfl⟩)
    go_ret
    exact ⟨_, rfl, rfl⟩
theorem rfinite_any (a b : Nat) (w : World) : Calls Tryz.prog 107 #[.complex .f64 a b] w fun e w' => ∃ n, e = .returned (.bool (cfin a b)) ∧ w.drewN n = w' := by
  cases h : cfin a b
  · exact rfinite_not a b h w
  · exact rfinite_fin a b h w
end Go.Proofs.YtbgjcpnbdgljbaaGreatDoor

/- The contract of roots.Newton, at this translation. -/
namespace Go.Proofs.YtbgjcpnbdgljbaaGreatDoor
open Go.RowKit Go.Fil
attribute [local irreducible] fop fsqrt fup fabs fneg pick fmax

def stepQ (u v : Cc) : Cc := (quoRe u.1 u.2 v.1 v.2, quoIm u.1 u.2 v.1 v.2)
def nextC (x y : Nat) (q : Cc) : Cc := (fop .sub x q.1, fop .sub y q.2)
def newtonQ (ps : List Cc) (x y : Nat) : Cc := stepQ (atFrom (x, y) ps 0) (atFrom (x, y) (steepS ps) 0)
def newtonZ (ps : List Cc) (x y : Nat) : Cc := nextC x y (newtonQ ps x y)
def newtonOk (ps : List Cc) (x y : Nat) : Bool := cfin x y && (cfin (newtonQ ps x y).1 (newtonQ ps x y).2 && cfin (newtonZ ps x y).1 (newtonZ ps x y).2)
def RNw (ok : Bool) (X Y : Nat) (w : World) (e : Ending) (w' : World) : Prop :=
  e = .returned (.tuple #[.complex .f64 (if ok then X else 0) (if ok then Y else 0), .bool ok]) ∧ Below w.heap.size w w'
section
variable (A : Option Addr) (n cap : Nat) (ps : List Cc) (hn : ps.length = n) (hm : n ≤ 9223372036854775807) (x y : Nat) (w : World) (hs : Seq w w.heap.size A (ps.map cv)) (hc : checkS ps = true)
include hn hm hs hc
theorem At_ok {u1 u2 : Nat} (hu : atFrom (x, y) ps 0 = (u1, u2)) : Calls Tryz.prog 33 #[.slice A n cap, .complex .f64 x y] w fun e w' =>
    ∃ s t, e = .returned (.tuple #[.complex .f64 (pick u1 s) (pick u2 t), .int .i64 0]) ∧ Below w.heap.size w w' := by
  refine (At_any A n cap ps hn hm x y w hs).mono ?_
  rintro e w' ⟨h, hb⟩
  rw [hc, if_pos rfl, hu] at h
  obtain ⟨s, t, h⟩ := h
  exact ⟨s, t, h, hb⟩
theorem SlopeAt_ok {u1 u2 : Nat} (hu : atFrom (x, y) (steepS ps) 0 = (u1, u2)) : Calls Tryz.prog 108 #[.slice A n cap, .complex .f64 x y] w fun e w' =>
    ∃ s t, e = .returned (.tuple #[.complex .f64 (pick u1 s) (pick u2 t), .int .i64 0]) ∧ Below w.heap.size w w' := by
  refine (SlopeAt_any A n cap ps hn hm x y w hs).mono ?_
  rintro e w' ⟨h, hb⟩
  rw [hc, if_pos rfl, hu] at h
  obtain ⟨s, t, h⟩ := h
  exact ⟨s, t, h, hb⟩
end
section
variable (A : Option Addr) (n cap : Nat) (ps : List Cc) (hn : ps.length = n) (hm : n ≤ 9223372036854775807) (hp : 0 < n) (x y : Nat) (w : World) (hs : Seq w w.heap.size A (ps.map cv)) (hc : checkS ps = true)
include hn hm hp hs hc
theorem newton_1 (hz : cfin x y = false) : Calls Tryz.prog 57 #[.slice A n cap, .complex .f64 x y] w (RNw false 0 0 w) := by
  have hp' : (0 : Int) < (n : Int) := by omega
  go_enter Tryz.func57, Tryz.ntmps57
  go_wp2_with (first
    | (go_at_call 105; refine (may_ok A n cap ps hn hm hp w.heap.size _ hs hc).mono ?_; rintro e w' ⟨rfl, rfl⟩)
    | (go_at_call 107; refine (rfinite_not _ _ hz _).mono ?_; rintro e w' ⟨n, rfl, rfl⟩))
  go_ret2
  exact ⟨rfl, by repeat (first | exact Below.refl _ _ | refine below_drewN ?_ _ | refine Below.alloc ?_ (by first | omega | (simp; omega) | simp) _ | refine Below.setCell ?_ (by first | omega | (simp; omega) | simp) _ | refine Below.trans ?_ (Below.mono (by assumption) (by first | omega | (simp; omega) | simp)) | apply Below.drew)⟩
theorem newton_q (hz : cfin x y = true) {u1 u2 v1 v2 : Nat} (hu : atFrom (x, y) ps 0 = (u1, u2)) (hv : atFrom (x, y) (steepS ps) 0 = (v1, v2)) (h1 : cfin (quoRe u1 u2 v1 v2) (quoIm u1 u2 v1 v2) = false) :
    Calls Tryz.prog 57 #[.slice A n cap, .complex .f64 x y] w (RNw false 0 0 w) := by
  have hp' : (0 : Int) < (n : Int) := by omega
  have HS := Lib.hid hs
  have HN := Lib.hid hn
  clear hs hn
  unfold RNw
  go_enter Tryz.func57, Tryz.ntmps57
  go_wp2_with (first | (go_at_call 105; refine (may_ok A n cap ps HN.out hm hp w.heap.size _ HS.out hc).mono ?_; rintro e w' ⟨rfl, rfl⟩) | (go_at_call 107; refine (rfinite_any _ _ _).mono ?_; rintro e w' ⟨j, rfl, rfl⟩) | (go_at_call 33; refine (At_ok A n cap ps HN.out hm _ _ _ (HS.out.drewN _) hc hu).mono ?_; rintro e w1 ⟨s, t, rfl, hb⟩; have hs1 := Lib.hid (((HS.out.drewN _).below hb (Nat.le_refl _)).more hb.size); have qw1 : w.heap.size ≤ w1.heap.size := hb.size) | (go_at_call 108; refine (SlopeAt_ok A n cap ps HN.out hm _ _ _ hs1.out hc hv).mono ?_; rintro e w2 ⟨s2, t2, rfl, hb2⟩) | (go_at_call 109; refine (cquo_any _ _ _ _ _).mono ?_; rintro e w' ⟨s, t, j, rfl, rfl⟩) | (go_at_call 110; refine (csub_any _ _ _ _ _).mono ?_; rintro e w' ⟨s, t, j, rfl, rfl⟩))
  go_ret2
  exact ⟨rfl, by repeat (first | exact Below.refl _ _ | refine below_drewN ?_ _ | refine Below.alloc ?_ (by first | omega | (simp; omega) | simp) _ | refine Below.setCell ?_ (by first | omega | (simp; omega) | simp) _ | refine Below.trans ?_ (Below.mono (by assumption) (by first | omega | (simp; omega) | simp)) | apply Below.drew)⟩
theorem newton_z (hz : cfin x y = true) {u1 u2 v1 v2 : Nat} (hu : atFrom (x, y) ps 0 = (u1, u2)) (hv : atFrom (x, y) (steepS ps) 0 = (v1, v2)) (h1 : cfin (quoRe u1 u2 v1 v2) (quoIm u1 u2 v1 v2) = true)
    (h2 : cfin (fop .sub x (quoRe u1 u2 v1 v2)) (fop .sub y (quoIm u1 u2 v1 v2)) = false) :
    Calls Tryz.prog 57 #[.slice A n cap, .complex .f64 x y] w (RNw false 0 0 w) := by
  have hp' : (0 : Int) < (n : Int) := by omega
  have HS := Lib.hid hs
  have HN := Lib.hid hn
  clear hs hn
  unfold RNw
  go_enter Tryz.func57, Tryz.ntmps57
  go_wp2_with (first | (go_at_call 105; refine (may_ok A n cap ps HN.out hm hp w.heap.size _ HS.out hc).mono ?_; rintro e w' ⟨rfl, rfl⟩) | (go_at_call 107; refine (rfinite_any _ _ _).mono ?_; rintro e w' ⟨j, rfl, rfl⟩) | (go_at_call 33; refine (At_ok A n cap ps HN.out hm _ _ _ (HS.out.drewN _) hc hu).mono ?_; rintro e w1 ⟨s, t, rfl, hb⟩; have hs1 := Lib.hid (((HS.out.drewN _).below hb (Nat.le_refl _)).more hb.size); have qw1 : w.heap.size ≤ w1.heap.size := hb.size) | (go_at_call 108; refine (SlopeAt_ok A n cap ps HN.out hm _ _ _ hs1.out hc hv).mono ?_; rintro e w2 ⟨s2, t2, rfl, hb2⟩) | (go_at_call 109; refine (cquo_any _ _ _ _ _).mono ?_; rintro e w' ⟨s, t, j, rfl, rfl⟩) | (go_at_call 110; refine (csub_any _ _ _ _ _).mono ?_; rintro e w' ⟨s, t, j, rfl, rfl⟩))
  go_ret2
  exact ⟨rfl, by repeat (first | exact Below.refl _ _ | refine below_drewN ?_ _ | refine Below.alloc ?_ (by first | omega | (simp; omega) | simp) _ | refine Below.setCell ?_ (by first | omega | (simp; omega) | simp) _ | refine Below.trans ?_ (Below.mono (by assumption) (by first | omega | (simp; omega) | simp)) | apply Below.drew)⟩
theorem newton_ok (hz : cfin x y = true) {u1 u2 v1 v2 : Nat} (hu : atFrom (x, y) ps 0 = (u1, u2)) (hv : atFrom (x, y) (steepS ps) 0 = (v1, v2)) (h1 : cfin (quoRe u1 u2 v1 v2) (quoIm u1 u2 v1 v2) = true)
    (h2 : cfin (fop .sub x (quoRe u1 u2 v1 v2)) (fop .sub y (quoIm u1 u2 v1 v2)) = true) :
    Calls Tryz.prog 57 #[.slice A n cap, .complex .f64 x y] w (RNw true (fop .sub x (quoRe u1 u2 v1 v2)) (fop .sub y (quoIm u1 u2 v1 v2)) w) := by
  have hp' : (0 : Int) < (n : Int) := by omega
  have HS := Lib.hid hs
  have HN := Lib.hid hn
  have hq1 := pick_of (cfin_nan h2).1
  have hq2 := pick_of (cfin_nan h2).2
  clear hs hn
  unfold RNw
  go_enter Tryz.func57, Tryz.ntmps57
  go_wp2_with (first | (go_at_call 105; refine (may_ok A n cap ps HN.out hm hp w.heap.size _ HS.out hc).mono ?_; rintro e w' ⟨rfl, rfl⟩) | (go_at_call 107; refine (rfinite_any _ _ _).mono ?_; rintro e w' ⟨j, rfl, rfl⟩) | (go_at_call 33; refine (At_ok A n cap ps HN.out hm _ _ _ (HS.out.drewN _) hc hu).mono ?_; rintro e w1 ⟨s, t, rfl, hb⟩; have hs1 := Lib.hid (((HS.out.drewN _).below hb (Nat.le_refl _)).more hb.size); have qw1 : w.heap.size ≤ w1.heap.size := hb.size) | (go_at_call 108; refine (SlopeAt_ok A n cap ps HN.out hm _ _ _ hs1.out hc hv).mono ?_; rintro e w2 ⟨s2, t2, rfl, hb2⟩) | (go_at_call 109; refine (cquo_any _ _ _ _ _).mono ?_; rintro e w' ⟨s, t, j, rfl, rfl⟩) | (go_at_call 110; refine (csub_any _ _ _ _ _).mono ?_; rintro e w' ⟨s, t, j, rfl, rfl⟩))
  go_ret2
  exact ⟨rfl, by repeat (first | exact Below.refl _ _ | refine below_drewN ?_ _ | refine Below.alloc ?_ (by first | omega | (simp; omega) | simp) _ | refine Below.setCell ?_ (by first | omega | (simp; omega) | simp) _ | refine Below.trans ?_ (Below.mono (by assumption) (by first | omega | (simp; omega) | simp)) | apply Below.drew)⟩
theorem newton_any : Calls Tryz.prog 57 #[.slice A n cap, .complex .f64 x y] w (RNw (newtonOk ps x y) (newtonZ ps x y).1 (newtonZ ps x y).2 w) := by
  have h0 : ∀ X Y e w', RNw false 0 0 w e w' → RNw false X Y w e w' := fun X Y e w' h => h
  unfold newtonOk newtonZ newtonQ stepQ nextC
  cases hz : cfin x y
  · exact (newton_1 A n cap ps hn hm hp x y w hs hc hz).mono (h0 _ _)
  · cases h1 : cfin (quoRe (atFrom (x, y) ps 0).1 (atFrom (x, y) ps 0).2 (atFrom (x, y) (steepS ps) 0).1 (atFrom (x, y) (steepS ps) 0).2) (quoIm (atFrom (x, y) ps 0).1 (atFrom (x, y) ps 0).2 (atFrom (x, y) (steepS ps) 0).1 (atFrom (x, y) (steepS ps) 0).2)
    · exact (newton_q A n cap ps hn hm hp x y w hs hc hz rfl rfl h1).mono (h0 _ _)
    · cases h2 : cfin (fop .sub x (quoRe (atFrom (x, y) ps 0).1 (atFrom (x, y) ps 0).2 (atFrom (x, y) (steepS ps) 0).1 (atFrom (x, y) (steepS ps) 0).2)) (fop .sub y (quoIm (atFrom (x, y) ps 0).1 (atFrom (x, y) ps 0).2 (atFrom (x, y) (steepS ps) 0).1 (atFrom (x, y) (steepS ps) 0).2))
      · exact (newton_z A n cap ps hn hm hp x y w hs hc hz rfl rfl h1 h2).mono (h0 _ _)
      · exact newton_ok A n cap ps hn hm hp x y w hs hc hz rfl rfl h1 h2
end
end Go.Proofs.YtbgjcpnbdgljbaaGreatDoor
