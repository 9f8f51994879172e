/- The contracts of ball.Contracts, roots.may, roots.finite, filigreelaw16.square, at this translation. -/
import Derived.Test.YtmcihnpghcdnmaaPv
import Derived.Test.YtmcihnpghcdnmaaMx
namespace Go.Proofs.Ytmcihnpghcdnmaa
open Go.RowKit Go.Fil
attribute [local irreducible] fop fsqrt fup fabs fneg pick fmax

/-- What Contracts answers (its number is not asked for). -/
def RK (ok : Bool) (w : World) (e : Ending) (w' : World) : Prop := ∃ q, e = .returned (.tuple #[.float .f64 q, .bool ok]) ∧ Below w.heap.size w w'
section
variable (a b r c d q x : Nat) (w : World)
theorem contracts_1 (h1 : finB x = false) :
    Calls Try.prog 24 #[.agg #[.complex .f64 a b, .float .f64 r], .agg #[.complex .f64 c d, .float .f64 q], .float .f64 x] w (RK false w) := by
  go_enter Try.func24, Try.ntmps24; go_wp2_with (first | (go_at_call 22; refine (bhi_any _ _ _ _).mono ?_; rintro e w1 ⟨s, rfl, hb⟩; obtain ⟨hc, hf⟩ := bcell hb; (try simp only [World.heap_drewN, World.cell?_drewN, World.frozen?_drewN] at hc hf); have hsz := hb.size; (try simp at hsz); have z0 : w.heap.size < w1.heap.size := (by omega); have z1 : w.heap.size + 1 < w1.heap.size := (by omega)) | (go_at_call 46; refine (finite_any _ _).mono ?_; rintro e w' ⟨n, rfl, rfl⟩) | (go_at_call 44; refine (times_any _ _ _).mono ?_; rintro e w' ⟨s, n, rfl, rfl⟩) | (go_at_call 43; refine (plus_any _ _ _).mono ?_; rintro e w' ⟨s, n, rfl, rfl⟩)); go_ret2; exact ⟨_, rfl, by repeat (first | exact Below.refl _ _ | refine below_drewN ?_ _ | refine Below.alloc ?_ (by first | omega | (simp; omega) | simp) _ | refine Below.setCell ?_ (by first | omega | (simp; omega) | simp) _ | refine Below.trans ?_ (Below.mono (by assumption) (by first | omega | (simp; omega) | simp)) | apply Below.drew)⟩
theorem contracts_2 (h1 : finB x = true) (h2 : (FloatKind.f64.format.order x 0 == some .lt || FloatKind.f64.format.order x 0 == some .eq) = true) :
    Calls Try.prog 24 #[.agg #[.complex .f64 a b, .float .f64 r], .agg #[.complex .f64 c d, .float .f64 q], .float .f64 x] w (RK false w) := by
  go_enter Try.func24, Try.ntmps24; go_wp2_with (first | (go_at_call 22; refine (bhi_any _ _ _ _).mono ?_; rintro e w1 ⟨s, rfl, hb⟩; obtain ⟨hc, hf⟩ := bcell hb; (try simp only [World.heap_drewN, World.cell?_drewN, World.frozen?_drewN] at hc hf); have hsz := hb.size; (try simp at hsz); have z0 : w.heap.size < w1.heap.size := (by omega); have z1 : w.heap.size + 1 < w1.heap.size := (by omega)) | (go_at_call 46; refine (finite_any _ _).mono ?_; rintro e w' ⟨n, rfl, rfl⟩) | (go_at_call 44; refine (times_any _ _ _).mono ?_; rintro e w' ⟨s, n, rfl, rfl⟩) | (go_at_call 43; refine (plus_any _ _ _).mono ?_; rintro e w' ⟨s, n, rfl, rfl⟩)); go_ret2; exact ⟨_, rfl, by repeat (first | exact Below.refl _ _ | refine below_drewN ?_ _ | refine Below.alloc ?_ (by first | omega | (simp; omega) | simp) _ | refine Below.setCell ?_ (by first | omega | (simp; omega) | simp) _ | refine Below.trans ?_ (Below.mono (by assumption) (by first | omega | (simp; omega) | simp)) | apply Below.drew)⟩
theorem contracts_3 (h1 : finB x = true) (h2 : (FloatKind.f64.format.order x 0 == some .lt || FloatKind.f64.format.order x 0 == some .eq) = false) (h3 : (FloatKind.f64.format.order (bhiS (c, d, q)) 4607182418800017408 == some .lt) = false) :
    Calls Try.prog 24 #[.agg #[.complex .f64 a b, .float .f64 r], .agg #[.complex .f64 c d, .float .f64 q], .float .f64 x] w (RK false w) := by
  go_enter Try.func24, Try.ntmps24; go_wp2_with (first | (go_at_call 22; refine (bhi_any _ _ _ _).mono ?_; rintro e w1 ⟨s, rfl, hb⟩; obtain ⟨hc, hf⟩ := bcell hb; (try simp only [World.heap_drewN, World.cell?_drewN, World.frozen?_drewN] at hc hf); have hsz := hb.size; (try simp at hsz); have z0 : w.heap.size < w1.heap.size := (by omega); have z1 : w.heap.size + 1 < w1.heap.size := (by omega)) | (go_at_call 46; refine (finite_any _ _).mono ?_; rintro e w' ⟨n, rfl, rfl⟩) | (go_at_call 44; refine (times_any _ _ _).mono ?_; rintro e w' ⟨s, n, rfl, rfl⟩) | (go_at_call 43; refine (plus_any _ _ _).mono ?_; rintro e w' ⟨s, n, rfl, rfl⟩)); go_ret2; exact ⟨_, rfl, by repeat (first | exact Below.refl _ _ | refine below_drewN ?_ _ | refine Below.alloc ?_ (by first | omega | (simp; omega) | simp) _ | refine Below.setCell ?_ (by first | omega | (simp; omega) | simp) _ | refine Below.trans ?_ (Below.mono (by assumption) (by first | omega | (simp; omega) | simp)) | apply Below.drew)⟩
theorem contracts_4 (h1 : finB x = true) (h2 : (FloatKind.f64.format.order x 0 == some .lt || FloatKind.f64.format.order x 0 == some .eq) = false) (h3 : (FloatKind.f64.format.order (bhiS (c, d, q)) 4607182418800017408 == some .lt) = true) (h4 : (FloatKind.f64.format.order (plusS (bhiS (a, b, r)) (timesS (bhiS (c, d, q)) x)) x == some .gt) = true) :
    Calls Try.prog 24 #[.agg #[.complex .f64 a b, .float .f64 r], .agg #[.complex .f64 c d, .float .f64 q], .float .f64 x] w (RK false w) := by
  go_enter Try.func24, Try.ntmps24; go_wp2_with (first | (go_at_call 22; refine (bhi_any _ _ _ _).mono ?_; rintro e w1 ⟨s, rfl, hb⟩; obtain ⟨hc, hf⟩ := bcell hb; (try simp only [World.heap_drewN, World.cell?_drewN, World.frozen?_drewN] at hc hf); have hsz := hb.size; (try simp at hsz); have z0 : w.heap.size < w1.heap.size := (by omega); have z1 : w.heap.size + 1 < w1.heap.size := (by omega)) | (go_at_call 46; refine (finite_any _ _).mono ?_; rintro e w' ⟨n, rfl, rfl⟩) | (go_at_call 44; refine (times_any _ _ _).mono ?_; rintro e w' ⟨s, n, rfl, rfl⟩) | (go_at_call 43; refine (plus_any _ _ _).mono ?_; rintro e w' ⟨s, n, rfl, rfl⟩)); go_ret2; exact ⟨_, rfl, by repeat (first | exact Below.refl _ _ | refine below_drewN ?_ _ | refine Below.alloc ?_ (by first | omega | (simp; omega) | simp) _ | refine Below.setCell ?_ (by first | omega | (simp; omega) | simp) _ | refine Below.trans ?_ (Below.mono (by assumption) (by first | omega | (simp; omega) | simp)) | apply Below.drew)⟩
theorem contracts_5 (h1 : finB x = true) (h2 : (FloatKind.f64.format.order x 0 == some .lt || FloatKind.f64.format.order x 0 == some .eq) = false) (h3 : (FloatKind.f64.format.order (bhiS (c, d, q)) 4607182418800017408 == some .lt) = true) (h4 : (FloatKind.f64.format.order (plusS (bhiS (a, b, r)) (timesS (bhiS (c, d, q)) x)) x == some .gt) = false) :
    Calls Try.prog 24 #[.agg #[.complex .f64 a b, .float .f64 r], .agg #[.complex .f64 c d, .float .f64 q], .float .f64 x] w (RK true w) := by
  go_enter Try.func24, Try.ntmps24; go_wp2_with (first | (go_at_call 22; refine (bhi_any _ _ _ _).mono ?_; rintro e w1 ⟨s, rfl, hb⟩; obtain ⟨hc, hf⟩ := bcell hb; (try simp only [World.heap_drewN, World.cell?_drewN, World.frozen?_drewN] at hc hf); have hsz := hb.size; (try simp at hsz); have z0 : w.heap.size < w1.heap.size := (by omega); have z1 : w.heap.size + 1 < w1.heap.size := (by omega)) | (go_at_call 46; refine (finite_any _ _).mono ?_; rintro e w' ⟨n, rfl, rfl⟩) | (go_at_call 44; refine (times_any _ _ _).mono ?_; rintro e w' ⟨s, n, rfl, rfl⟩) | (go_at_call 43; refine (plus_any _ _ _).mono ?_; rintro e w' ⟨s, n, rfl, rfl⟩)); go_ret2; exact ⟨_, rfl, by repeat (first | exact Below.refl _ _ | refine below_drewN ?_ _ | refine Below.alloc ?_ (by first | omega | (simp; omega) | simp) _ | refine Below.setCell ?_ (by first | omega | (simp; omega) | simp) _ | refine Below.trans ?_ (Below.mono (by assumption) (by first | omega | (simp; omega) | simp)) | apply Below.drew)⟩
theorem contracts_any :
    Calls Try.prog 24 #[.agg #[.complex .f64 a b, .float .f64 r], .agg #[.complex .f64 c d, .float .f64 q], .float .f64 x] w (RK (contractsS (a, b, r) (c, d, q) x).2 w) := by
  unfold contractsS fle flt fgt fone
  cases h1 : finB x
  · exact contracts_1 a b r c d q x w h1
  · cases h2 : (FloatKind.f64.format.order x 0 == some .lt || FloatKind.f64.format.order x 0 == some .eq)
    · cases h3 : (FloatKind.f64.format.order (bhiS (c, d, q)) 4607182418800017408 == some .lt)
      · exact contracts_3 a b r c d q x w h1 h2 h3
      · cases h4 : (FloatKind.f64.format.order (plusS (bhiS (a, b, r)) (timesS (bhiS (c, d, q)) x)) x == some .gt)
        · exact contracts_5 a b r c d q x w h1 h2 h3 h4
        · exact contracts_4 a b r c d q x w h1 h2 h3 h4
    · exact contracts_2 a b r c d q x w h1 h2
end
theorem may_ok (A : Option Addr) (n cap : Nat) (ps : List Cc) (hn : ps.length = n) (hm : n ≤ 9223372036854775807) (hp : 0 < n) (B : Nat) (w : World) (hs : Seq w B A (ps.map cv)) (hc : checkS ps = true) :
    Calls Try.prog 9 #[.slice A n cap] w fun e w' => e = .returned (.bool true) ∧ w = w' := by
  go_enter Try.func9, Try.ntmps9
  have hp' : (0 : Int) < (n : Int) := by omega
  go_wp2_with (go_at_call 26; refine (check_any A n cap ps hn hm B _ hs).mono ?_; rintro e w' ⟨rfl, rfl⟩; rw [hc])
  go_ret
  exact ⟨rfl, rfl⟩
theorem may_nil (cap : Nat) (A : Option Addr) (w : World) :
    Calls Try.prog 9 #[.slice A 0 cap] w fun e w' => e = .returned (.bool false) ∧ w = w' := by
  go_enter Try.func9, Try.ntmps9
  go_wp2_with (go_at_call 26; refine (check_nil A cap _).mono ?_; rintro e w' ⟨rfl, rfl⟩)
  go_ret
  exact ⟨rfl, rfl⟩
theorem rfinite_fin (a b : Nat) (h : cfin a b = true) (w : World) : Calls Try.prog 13 #[.complex .f64 a b] w fun e w' => ∃ n, e = .returned (.bool true) ∧ w.drewN n = w' := by
  have hf := cfin_fin h
  have e1 := order_eq_self (sub_notNaN hf.1 hf.1)
  have e2 := order_eq_self (sub_notNaN hf.2 hf.2)
  go_enter Try.func13, Try.ntmps13
  go_wp2_with (go_at_call 27; refine (kind_fin h _).mono ?_; rintro e w' ⟨rfl, rfl⟩)
  go_ret
  exact ⟨_, rfl, rfl⟩
theorem rfinite_not (a b : Nat) (h : cfin a b = false) (w : World) : Calls Try.prog 13 #[.complex .f64 a b] w fun e w' => ∃ n, e = .returned (.bool false) ∧ w.drewN n = w' := by
  cases e1 : (FloatKind.f64.format.order (fop .sub a a) (fop .sub a a) == some .eq && FloatKind.f64.format.order (fop .sub b b) (fop .sub b b) == some .eq)
  · go_enter Try.func13, Try.ntmps13
    go_wp2
    go_ret
    exact ⟨_, rfl, rfl⟩
  · go_enter Try.func13, Try.ntmps13
    go_wp2_with (go_at_call 27; refine (kind_not h _).mono ?_; rintro e w' ⟨k, hk, rfl, rfl⟩)
    go_ret
    exact ⟨_, rfl, rfl⟩
theorem rfinite_any (a b : Nat) (w : World) : Calls Try.prog 13 #[.complex .f64 a b] w fun e w' => ∃ n, e = .returned (.bool (cfin a b)) ∧ w.drewN n = w' := by
  cases h : cfin a b
  · exact rfinite_not a b h w
  · exact rfinite_fin a b h w
end Go.Proofs.Ytmcihnpghcdnmaa
