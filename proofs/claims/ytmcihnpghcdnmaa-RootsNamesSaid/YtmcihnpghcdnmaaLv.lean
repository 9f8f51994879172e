/- The contracts of filigreelaw16.square, .lives and .RootsNames, at this translation. -/
import Derived.Test.YtmcihnpghcdnmaaCe
import Derived.Test.YtmcihnpghcdnmaaSt
namespace Go.Proofs.Ytmcihnpghcdnmaa
open Go.RowKit Go.Fil

/-- z² - 1. -/
def sq : List Cc := [(13830554455654793216, 0), (0, 0), (4607182418800017408, 0)]
theorem sq_check : checkS sq = true := by decide +kernel
theorem sq_start : startR sq 2 = 4611686018427387904 := by decide +kernel
theorem sq_newton : newtonOk sq 4611686018427387904 0 = true ∧ newtonZ sq 4611686018427387904 0 = (4608308318706860032, 0) := by decide +kernel
theorem sq_slope : atFrom (4607182418800017408, 0) (steepS sq) 0 = (4611686018427387904, 0) := by decide +kernel
theorem sq_q1 : quoRe 4607182418800017408 0 4611686018427387904 0 = 4602678819172646912 := by decide +kernel
theorem sq_q2 : quoIm 4607182418800017408 0 4611686018427387904 0 = 0 := by decide +kernel
def sqM : Bl := (9223372036854775808, 9223372036854775808, 4377498837804122116)
def sqH : Bl := onFrom ((pointS 4607182418800017408 0).1, (pointS 4607182418800017408 0).2.1, (pointS 4607182418800017408 0).2.2) (pointsS sq) 0
def sqM0 : Bl := mulS ((pointS 4602678819172646912 0).1, (pointS 4602678819172646912 0).2.1, (pointS 4602678819172646912 0).2.2) (sqH.1, sqH.2.1, sqH.2.2)
theorem sq_M : negS (sqM0.1, sqM0.2.1, sqM0.2.2) = sqM := by decide +kernel
theorem sq_r0 : certR0 sqM 4607182418800017408 0 = 4382002437431492612 := by decide +kernel
theorem sq_cert : certAt sq sqM (4602678819172646912, 0) 4607182418800017408 0 4382002437431492612 = true := by decide +kernel

attribute [local irreducible] fop fsqrt fup fabs fneg pick fmax pointS mulS negS addS subS bhiS hiS contractsS onFrom
theorem square_any (w : World) : Calls Try.prog 6 #[] w fun e w' => ∃ A, e = .returned (.slice A 3 3) ∧ Seq w' w'.heap.size A (sq.map cv) ∧ Below w.heap.size w w' := by
  go_enter Try.func6, Try.ntmps6
  go_wp2
  go_ret
  refine ⟨_, rfl, .inr ⟨w.heap.size, 0, rfl, by simp, fun k u hu => ?_⟩, by repeat (first | exact Below.refl _ _ | refine below_drewN ?_ _ | refine Below.alloc ?_ (by first | omega | (simp; omega) | simp) _ | refine Below.setCell ?_ (by first | omega | (simp; omega) | simp) _ | refine Below.trans ?_ (Below.mono (by assumption) (by first | omega | (simp; omega) | simp)) | apply Below.drew)⟩
  rw [Nat.zero_add, World.cell?_alloc_at _ _ _ _ (by
    simp)]
  match k, hu with
  | 0, hu => exact hu
  | 1, hu => exact hu
  | 2, hu => exact hu
  | k + 3, hu => simp [sq] at hu
theorem certify_sq (A : Option Addr) (w : World) (hs : Seq w w.heap.size A (sq.map cv)) :
    Calls Try.prog 8 #[.slice A 3 3, .complex .f64 4607182418800017408 0] w fun e w' => e = .returned (.tuple #[.agg #[.complex .f64 4607182418800017408 0, .float .f64 4382002437431492612], .bool true, .int .i64 0]) ∧ Below w.heap.size w w' := by
  refine (certify_ok A 3 3 sq rfl (by decide) (by decide) 4607182418800017408 0 w hs sq_check (by decide) (by decide +kernel) sq_slope (by decide +kernel) (by decide +kernel) sq_q1 sq_q2 (by decide +kernel) rfl (H := sqH) rfl (M0 := sqM0) rfl sq_M).mono ?_
  rintro e w' ⟨h, hb⟩
  rw [sq_r0] at h
  rcases h with ⟨k, hk, hall, hcert, he⟩ | ⟨hall, he⟩
  · cases k with
    | zero => exact ⟨he, hb⟩
    | succ k => have := hall 0 (by omega); rw [show certR 4382002437431492612 0 = 4382002437431492612 from rfl, sq_cert] at this; cases this
  · have := hall 0 (by omega); rw [show certR 4382002437431492612 0 = 4382002437431492612 from rfl, sq_cert] at this; cases this
theorem newton_sq (A : Option Addr) (w : World) (hs : Seq w w.heap.size A (sq.map cv)) :
    Calls Try.prog 7 #[.slice A 3 3, .complex .f64 4611686018427387904 0] w fun e w' => e = .returned (.tuple #[.complex .f64 4608308318706860032 0, .bool true]) ∧ Below w.heap.size w w' := by
  refine (newton_any A 3 3 sq rfl (by decide) (by decide) 4611686018427387904 0 w hs sq_check).mono ?_
  rintro e w' ⟨h, hb⟩
  rw [sq_newton.1, sq_newton.2] at h
  exact ⟨h, hb⟩
theorem start_sq (A : Option Addr) (w : World) (hs : Seq w w.heap.size A (sq.map cv)) :
    Calls Try.prog 5 #[.slice A 3 3] w fun e w' => ∃ A' c, e = .returned (.tuple #[.slice A' 2 c, .int .i64 0]) ∧ (∃ b o, A' = some ⟨b, o, none⟩ ∧ b < w'.heap.size ∧ w'.cell? ⟨b, o, none⟩ = some (.complex .f64 4611686018427387904 0)) ∧ Below w.heap.size w w' := by
  refine (start_any A 2 3 sq rfl (by decide) w hs sq_check).mono ?_
  rintro e w' ⟨v, zs, rfl, hz, h0, hown, hb⟩
  obtain ⟨A', c, rfl, hsq⟩ := seq_of_own hown
  obtain ⟨b, o, rfl, hbl, hcl⟩ := hsq.cat (k := 0) (by omega)
  rw [h0 (by decide), sq_start] at hcl
  exact ⟨_, _, rfl, ⟨b, o, rfl, hbl, hcl⟩, hb⟩
set_option maxHeartbeats 1600000 in
theorem lives_any (w : World) : Calls Try.prog 4 #[] w fun e w' => e = .returned (.bool true) ∧ Below w.heap.size w w' := by
  have e1 : (FloatKind.f64.format.order 4611686018427387904 4611686018427387904 == some .eq) = true := by decide +kernel
  have e2 : (FloatKind.f64.format.order 0 0 == some .eq) = true := by decide +kernel
  have e3 : (FloatKind.f64.format.order 4608308318706860032 4608308318706860032 == some .eq) = true := by decide +kernel
  have e4 : (FloatKind.f64.format.order 4607182418800017408 4607182418800017408 == some .eq) = true := by decide +kernel
  have e5 : (FloatKind.f64.format.order 4382002437431492612 0 == some .gt) = true := by decide +kernel
  have e6 : (FloatKind.f64.format.order 4382002437431492612 4472406533629990549 == some .lt) = true := by decide +kernel
  go_enter Try.func4, Try.ntmps4
  go_wp2_with (first
    | (go_at_call 6; refine (square_any _).mono ?_; rintro e w1 ⟨A, rfl, hs, hb⟩; have hsz := hb.size; (first | (replace hcl := (Below.cell hb (p := ⟨b, o, none⟩) hlt).trans hcl; replace hlt := Nat.lt_of_lt_of_le hlt hb.size) | skip))
    | (go_at_call 5; refine (start_sq _ _ hs).mono ?_; rintro e w2 ⟨A2, c2, rfl, ⟨b, o, rfl, hlt, hcl⟩, hb⟩; have hsz := hb.size)
    | (go_at_call 7; refine (newton_sq _ _ hs).mono ?_; rintro e w3 ⟨rfl, hb⟩; have hsz := hb.size; (first | (replace hcl := (Below.cell hb (p := ⟨b, o, none⟩) hlt).trans hcl; replace hlt := Nat.lt_of_lt_of_le hlt hb.size) | skip))
    | (go_at_call 8; refine (certify_sq _ _ hs).mono ?_; rintro e w4 ⟨rfl, hb⟩; have hsz := hb.size; (first | (replace hcl := (Below.cell hb (p := ⟨b, o, none⟩) hlt).trans hcl; replace hlt := Nat.lt_of_lt_of_le hlt hb.size) | skip)))
  go_ret
  exact ⟨rfl, by repeat (first | exact Below.refl _ _ | refine below_drewN ?_ _ | refine Below.alloc ?_ (by first | omega | (simp; omega) | simp) _ | refine Below.setCell ?_ (by first | omega | (simp; omega) | simp) _ | refine Below.trans ?_ (Below.mono (by assumption) (by first | omega | (simp; omega) | simp)) | apply Below.drew)⟩
theorem rootsNames_any (w : World) : Calls Try.prog 3 #[] w fun e w' => e = .returned (.bool true) ∧ Below w.heap.size w w' := by
  go_enter Try.func3, Try.ntmps3
  go_wp2_with (go_at_call 4; refine (lives_any _).mono ?_; rintro e w1 ⟨rfl, hb⟩)
  go_ret
  exact ⟨rfl, hb⟩
end Go.Proofs.Ytmcihnpghcdnmaa
