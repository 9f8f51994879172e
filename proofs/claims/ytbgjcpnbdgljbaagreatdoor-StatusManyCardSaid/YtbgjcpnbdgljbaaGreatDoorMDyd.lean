/- The contracts of dyad.Of, Float. -/
import Derived.Test.YtbgjcpnbdgljbaaGreatDoorMRat
import Derived.IntWalk
namespace Go.Proofs.YtbgjcpnbdgljbaaGreatDoor
open Go.RowKit Go.Fil Go.Shelf

/-- A dyad's sign and bytes. -/
def dn (d : Dya) : Bool := decide (d.m < 0)
def ds (d : Dya) : ByteArray := natS d.m.natAbs
theorem dyV_eq (d : Dya) : dyV d = .agg #[.bool (dn d), .string (ds d), .int .i64 d.e] := rfl
/-- What a function that makes a dyad answers, spelled out. -/
def RDv (d : Dya) (w : World) (en : Ending) (w' : World) : Prop := en = .returned (.tuple #[.agg #[.bool (dn d), .string (ds d), .int .i64 d.e], .int .i64 0]) ∧ Below w.heap.size w w'
theorem madeV_any (g : Nat) (n e : Int) (hl : bl n.natAbs ≤ 1073741824) (he1 : -1073741824 ≤ e) (he2 : e ≤ 1073741824) (hf : fitD (mkD n e)) (w : World) (hz : IntAt w g n) (hT : Tab w) :
    Calls Tryz.prog 93 #[.pointer (some ⟨g, 0, none⟩), .int .i64 e] w (RDv (mkD n e) w) := made_any g n e hl he1 he2 hf w hz hT
theorem newint_any (n : Int) (h1 : -9223372036854775807 ≤ n) (h2 : n ≤ 9223372036854775807) (w : World) : Calls Tryz.prog 166 #[.int .i64 n] w (RN n w) := by
  by_cases h : n < 0
  · have := newint_neg n.natAbs (by omega) (by omega) w
    rwa [show -((n.natAbs : Nat) : Int) = n by omega] at this
  · have := newint_pos n.natAbs (by omega) w
    rwa [show ((n.natAbs : Nat) : Int) = n by omega] at this
set_option maxRecDepth 100000 in
set_option maxHeartbeats 3200000 in
theorem of_any (n e : Int) (h1 : -9223372036854775807 ≤ n) (h2 : n ≤ 9223372036854775807) (he1 : -1073741824 ≤ e) (he2 : e ≤ 1073741824) (hf : fitD (mkD n e)) (w : World) (hT : Tab w) :
    Calls Tryz.prog 104 #[.int .i64 n, .int .i64 e] w (RDv (mkD n e) w) := by
  have HN := Lib.hid (newint_any n h1 h2)
  have HL := Lib.hid (show bl n.natAbs ≤ 1073741824 from Nat.le_trans (bl_le_of_lt (k := 63) (by omega)) (by decide))
  have HF := Lib.hid hf
  have hb0 := alloc_below w (.cells #[.bool false, .string ⟨#[]⟩, .int .i64 0] 29)
  have HT := Lib.hid (Tab.below hT hb0)
  have HB0 := Lib.hid hb0
  clear hf hT hb0
  go_enter Tryz.func104, Tryz.ntmps104
  go_wp2_with fail
  refine (HN.out _).mono ?_
  rintro en w1 ⟨g, rfl, hi, hb, hg⟩
  have HI := Lib.hid hi
  have HB := Lib.hid hb
  have HT1 := Lib.hid (HT.out.below hb)
  clear hi hb hg
  go_wp2_with fail
  refine (madeV_any g n e HL.out he1 he2 HF.out _ HI.out HT1.out).mono ?_
  rintro en w2 ⟨rfl, hb2⟩
  have hb3 := HB.out.trans (hb2.mono HB.out.size)
  have hc := (bcell hb3).1
  have hfz := (bcell hb3).2
  have hsz := hb3.size
  simp only [heap_size_alloc'] at hc hfz hsz
  have hw2 : w.heap.size < w2.heap.size := by omega
  have HB3 := Lib.hid hb3
  clear hb2 hb3 hsz
  go_wp2
  have hbw : Below w.heap.size w w2 := HB0.out.trans (HB3.out.mono (by simp only [heap_size_alloc']; omega))
  exact bodyPost_ret (v := .tuple #[.agg #[.bool (dn (mkD n e)), .string (ds (mkD n e)), .int .i64 (mkD n e).e], .int .i64 0]) (by simp [results, Tryz.results104, go_sem, hc]) rfl ⟨rfl, by repeat (first | exact Below.refl _ _ | refine below_drewN ?_ _ | refine Below.alloc ?_ (by first | omega | (simp; omega) | simp) _ | refine Below.setCell ?_ (by first | omega | (simp; omega) | simp) _ | refine Below.trans ?_ (Below.mono (by assumption) (by first | omega | (simp; omega) | simp)) | apply Below.drew)⟩
/-! dyad.Float -/
theorem isnan_any (x : Nat) (w : World) : Calls Tryz.prog 101 #[.float .f64 x] w fun e w' => e = .returned (.bool (isNaN x)) ∧ w = w' := by
  go_enter Tryz.func101, Tryz.ntmps101
  go_wp2
  go_ret
  exact ⟨rfl, rfl⟩
theorem fl_and (x : Nat) (hx : x < 18446744073709551616) : bits .and .u64 (x : Int) 4503599627370495 = ((x % 4503599627370496 : Nat) : Int) := by
  have h := u64_and_nat x 4503599627370495 hx (by decide)
  rw [show ((4503599627370495 : Nat) : Int) = 4503599627370495 from rfl] at h
  rw [h, show (4503599627370495 : Nat) = 2 ^ 52 - 1 by decide, Nat.and_two_pow_sub_one_eq_mod]
theorem fl_exp (x : Nat) (hx : x < 18446744073709551616) : bits .and .u64 ((x : Int) / 4503599627370496) 2047 = ((x / 4503599627370496 % 2048 : Nat) : Int) := by
  have h := u64_and_nat (x / 4503599627370496) 2047 (by omega) (by decide)
  rw [show ((2047 : Nat) : Int) = 2047 from rfl, Int.natCast_ediv, show ((4503599627370496 : Nat) : Int) = 4503599627370496 from rfl] at h
  rw [h, show (2047 : Nat) = 2 ^ 11 - 1 by decide, Nat.and_two_pow_sub_one_eq_mod]
theorem fl_or (m : Nat) (hm : m < 4503599627370496) : bits .or .i64 (m : Int) 4503599627370496 = (m : Int) + 4503599627370496 := by
  have e := or_add (x := m) (m := 1) (r := 52) (by omega)
  show IntKind.i64.wrap ((BitVec.ofInt 64 (m : Int) ||| BitVec.ofInt 64 ((4503599627370496 : Nat) : Int)).toNat : Int) = _
  rw [BitVec.toNat_or, ofInt_u64 m (by omega), ofInt_u64 4503599627370496 (by decide)]
  rw [show (1 * 2 ^ 52 : Nat) = 4503599627370496 by decide] at e
  rw [e, IntWalk.i64_in _ (by omega)]
  omega
theorem fl_neg {x : Nat} (hx : x < 18446744073709551616) (hf : fin x = true) : flt x 0 = true → 9223372036854775808 ≤ x := by
  rw [flt_fv hf hx fin_zero (by decide), fv_zero]
  intro h
  have h := of_decide_eq_true h
  rcases Nat.lt_or_ge x 9223372036854775808 with h1 | h1
  · rw [fv_small h1] at h
    have := rv_nonneg x
    grind
  · exact h1
theorem fl_pos {x : Nat} (hx : x < 18446744073709551616) (hf : fin x = true) : flt x 0 = false → x < 9223372036854775808 ∨ x % 9223372036854775808 = 0 := by
  rw [flt_fv hf hx fin_zero (by decide), fv_zero]
  intro h
  have h := of_decide_eq_false h
  rcases Nat.lt_or_ge x 9223372036854775808 with h1 | h1
  · exact .inl h1
  · right
    rcases Nat.eq_zero_or_pos (x % 9223372036854775808) with h2 | h2
    · exact h2
    · exfalso
      have h3 := rv_pos h2
      apply h
      unfold fv
      rw [decide_eq_true h1]
      unfold neg1
      simp only [if_true]
      grind
/-- The float's whole number, as the program makes it. -/
theorem fl_made {x : Nat} (hx : x < 18446744073709551616) (hf : fin x = true) (n e : Int) (hn : n = if flt x 0 then -(flM x : Int) else (flM x : Int)) (he : e = flE x) : flD x = mkD n e := by
  unfold flD
  rw [← he]
  congr 1
  rw [hn]
  unfold sg
  cases h : flt x 0
  · rcases fl_pos hx hf h with h1 | h1
    · rw [decide_eq_false (by omega)]
    · have : flM x = 0 := by unfold flM; rw [if_pos (by omega)]; omega
      rw [this]; simp
  · rw [decide_eq_true (fl_neg hx hf h)]
theorem rdv_of {d d' : Dya} (h : d = d') {w w1 : World} (hb : Below w.heap.size w w1) {en : Ending} {w2 : World} (hr : RDv d' w1 en w2) : RDv d w en w2 := by
  subst h
  exact ⟨hr.1, hb.trans (hr.2.mono hb.size)⟩
set_option maxRecDepth 100000 in
set_option maxHeartbeats 3200000 in
theorem dfloat_any (x : Nat) (hx : x < 18446744073709551616) (hf : fin x = true) (w : World) (hT : Tab w) :
    Calls Tryz.prog 53 #[.float .f64 x] w (RDv (flD x) w) := by
  have h1 : isNaN x = false := not_nan_of_fin hf
  have h2 : infB x = false := infB_fin hf
  have h3 := run_f64bits
  have h4 := fl_and x hx
  have h5 := fl_exp x hx
  have HM := Lib.hid (fl_made hx hf)
  have HF := Lib.hid (fitD_fl x)
  have HX := Lib.hid hx
  have HO := Lib.hid (fl_or (x % 4503599627370496) (by omega))
  have HT := Lib.hid (Tab.below hT (alloc_below w (.cells #[.bool false, .string ⟨#[]⟩, .int .i64 0] 29)))
  have i0 : (0 : Int) ≤ ((x / 4503599627370496 % 2048 : Nat) : Int) := by omega
  have i1 : ((x / 4503599627370496 % 2048 : Nat) : Int) ≤ 2047 := by omega
  have i2 : (0 : Int) ≤ ((x % 4503599627370496 : Nat) : Int) := by omega
  have i3 : ((x % 4503599627370496 : Nat) : Int) ≤ 4503599627370495 := by omega
  have HME := Lib.hid (show x / 4503599627370496 % 2048 = 0 → flM x = x % 4503599627370496 ∧ flE x = 1 - 1075 from fun h => ⟨by unfold flM; rw [if_pos h], by unfold flE; rw [if_pos h]⟩)
  have HNE := Lib.hid (show x / 4503599627370496 % 2048 ≠ 0 → flM x = 4503599627370496 + x % 4503599627370496 ∧ flE x = ((x / 4503599627370496 % 2048 : Nat) : Int) - 1075 from fun h => ⟨by unfold flM; rw [if_neg h], by unfold flE; rw [if_neg h]⟩)
  clear hT hf hx
  generalize x / 4503599627370496 % 2048 = E at *
  generalize x % 4503599627370496 = M at *
  have HOF := Lib.hid (show ∀ n e, flD x = mkD n e → -9223372036854775807 ≤ n → n ≤ 9223372036854775807 → -1073741824 ≤ e → e ≤ 1073741824 → ∀ W, Tab W → Calls Tryz.prog 104 #[.int .i64 n, .int .i64 e] W (RDv (flD x) W) from
    fun n e h b1 b2 b3 b4 W t => by rw [h] at HF ⊢; exact of_any n e b1 b2 b3 b4 HF.out W t)
  cases hl : flt x 0
  all_goals
    by_cases h0 : E = 0
  · obtain ⟨m1, m2⟩ := HME.out h0
    have HG := Lib.hid (HM.out (M : Int) (-1074) (by rw [hl, m1]; rfl) (by rw [m2]; rfl))
    have HL := Lib.hid hl
    unfold flt at hl
    clear m1 m2
    (try subst h0)
    (try clear HME HNE)
    go_enter Tryz.func53, Tryz.ntmps53
    go_wp2_with (first
      | (go_at_call 101; refine (isnan_any _ _).mono ?_; rintro e w' ⟨rfl, rfl⟩)
      | (go_at_call 102; refine (isinf0_any _ _).mono ?_; rintro e w' ⟨rfl, rfl⟩)
      | (go_at_call 104; refine (HOF.out _ _ HG.out (by omega) (by omega) (by omega) (by omega) _ HT.out).mono ?_; rintro en w1 ⟨rfl, hb⟩; obtain ⟨hc, hf⟩ := bcell hb; (try simp only [World.heap_drewN, World.cell?_drewN, World.frozen?_drewN] at hc hf); have z0 : w.heap.size < w1.heap.size := (by have := hb.size; try simp at this; omega)))
    exact bodyPost_ret (v := .tuple #[.agg #[.bool (dn (flD x)), .string (ds (flD x)), .int .i64 (flD x).e], .int .i64 0]) (by simp [results, Tryz.results53, go_sem, hc]) rfl ⟨rfl, by repeat (first | exact Below.refl _ _ | refine below_drewN ?_ _ | refine Below.alloc ?_ (by first | omega | (simp; omega) | simp) _ | refine Below.setCell ?_ (by first | omega | (simp; omega) | simp) _ | refine Below.trans ?_ (Below.mono (by assumption) (by first | omega | (simp; omega) | simp)) | apply Below.drew)⟩
  · obtain ⟨m1, m2⟩ := HNE.out h0
    have HG := Lib.hid (HM.out ((M : Int) + 4503599627370496) ((E : Int) - 1075) (by rw [hl, m1]; simp; omega) (by rw [m2]))
    have HO1 := HO.out
    have i4 : ¬ (E : Int) = 0 := by omega
    have HL := Lib.hid hl
    unfold flt at hl
    clear m1 m2
    (try subst h0)
    (try clear HME HNE)
    go_enter Tryz.func53, Tryz.ntmps53
    go_wp2_with (first
      | (go_at_call 101; refine (isnan_any _ _).mono ?_; rintro e w' ⟨rfl, rfl⟩)
      | (go_at_call 102; refine (isinf0_any _ _).mono ?_; rintro e w' ⟨rfl, rfl⟩)
      | (go_at_call 104; refine (HOF.out _ _ HG.out (by omega) (by omega) (by omega) (by omega) _ HT.out).mono ?_; rintro en w1 ⟨rfl, hb⟩; obtain ⟨hc, hf⟩ := bcell hb; (try simp only [World.heap_drewN, World.cell?_drewN, World.frozen?_drewN] at hc hf); have z0 : w.heap.size < w1.heap.size := (by have := hb.size; try simp at this; omega)))
    exact bodyPost_ret (v := .tuple #[.agg #[.bool (dn (flD x)), .string (ds (flD x)), .int .i64 (flD x).e], .int .i64 0]) (by simp [results, Tryz.results53, go_sem, hc]) rfl ⟨rfl, by repeat (first | exact Below.refl _ _ | refine below_drewN ?_ _ | refine Below.alloc ?_ (by first | omega | (simp; omega) | simp) _ | refine Below.setCell ?_ (by first | omega | (simp; omega) | simp) _ | refine Below.trans ?_ (Below.mono (by assumption) (by first | omega | (simp; omega) | simp)) | apply Below.drew)⟩
  · obtain ⟨m1, m2⟩ := HME.out h0
    have HG := Lib.hid (HM.out (-(M : Int)) (-1074) (by rw [hl, m1]; rfl) (by rw [m2]; rfl))
    have HL := Lib.hid hl
    unfold flt at hl
    clear m1 m2
    (try subst h0)
    (try clear HME HNE)
    go_enter Tryz.func53, Tryz.ntmps53
    go_wp2_with (first
      | (go_at_call 101; refine (isnan_any _ _).mono ?_; rintro e w' ⟨rfl, rfl⟩)
      | (go_at_call 102; refine (isinf0_any _ _).mono ?_; rintro e w' ⟨rfl, rfl⟩)
      | (go_at_call 104; refine (HOF.out _ _ HG.out (by omega) (by omega) (by omega) (by omega) _ HT.out).mono ?_; rintro en w1 ⟨rfl, hb⟩; obtain ⟨hc, hf⟩ := bcell hb; (try simp only [World.heap_drewN, World.cell?_drewN, World.frozen?_drewN] at hc hf); have z0 : w.heap.size < w1.heap.size := (by have := hb.size; try simp at this; omega)))
    exact bodyPost_ret (v := .tuple #[.agg #[.bool (dn (flD x)), .string (ds (flD x)), .int .i64 (flD x).e], .int .i64 0]) (by simp [results, Tryz.results53, go_sem, hc]) rfl ⟨rfl, by repeat (first | exact Below.refl _ _ | refine below_drewN ?_ _ | refine Below.alloc ?_ (by first | omega | (simp; omega) | simp) _ | refine Below.setCell ?_ (by first | omega | (simp; omega) | simp) _ | refine Below.trans ?_ (Below.mono (by assumption) (by first | omega | (simp; omega) | simp)) | apply Below.drew)⟩
  · obtain ⟨m1, m2⟩ := HNE.out h0
    have HG := Lib.hid (HM.out (-((M : Int) + 4503599627370496)) ((E : Int) - 1075) (by rw [hl, m1]; simp; omega) (by rw [m2]))
    have HO1 := HO.out
    have i4 : ¬ (E : Int) = 0 := by omega
    have HL := Lib.hid hl
    unfold flt at hl
    clear m1 m2
    (try subst h0)
    (try clear HME HNE)
    go_enter Tryz.func53, Tryz.ntmps53
    go_wp2_with (first
      | (go_at_call 101; refine (isnan_any _ _).mono ?_; rintro e w' ⟨rfl, rfl⟩)
      | (go_at_call 102; refine (isinf0_any _ _).mono ?_; rintro e w' ⟨rfl, rfl⟩)
      | (go_at_call 104; refine (HOF.out _ _ HG.out (by omega) (by omega) (by omega) (by omega) _ HT.out).mono ?_; rintro en w1 ⟨rfl, hb⟩; obtain ⟨hc, hf⟩ := bcell hb; (try simp only [World.heap_drewN, World.cell?_drewN, World.frozen?_drewN] at hc hf); have z0 : w.heap.size < w1.heap.size := (by have := hb.size; try simp at this; omega)))
    exact bodyPost_ret (v := .tuple #[.agg #[.bool (dn (flD x)), .string (ds (flD x)), .int .i64 (flD x).e], .int .i64 0]) (by simp [results, Tryz.results53, go_sem, hc]) rfl ⟨rfl, by repeat (first | exact Below.refl _ _ | refine below_drewN ?_ _ | refine Below.alloc ?_ (by first | omega | (simp; omega) | simp) _ | refine Below.setCell ?_ (by first | omega | (simp; omega) | simp) _ | refine Below.trans ?_ (Below.mono (by assumption) (by first | omega | (simp; omega) | simp)) | apply Below.drew)⟩
end Go.Proofs.YtbgjcpnbdgljbaaGreatDoor

/- The contracts of dyad.Sign, dyad.all, dyad.Neg. -/
namespace Go.Proofs.YtbgjcpnbdgljbaaGreatDoor
open Go.RowKit Go.Fil Go.Shelf

theorem dcheckV (d : Dya) (h : okD d) (w : World) : Calls Tryz.prog 83 #[.agg #[.bool (dn d), .string (ds d), .int .i64 d.e]] w fun e w' => e = .returned (.int .i64 0) ∧ Below w.heap.size w w' := dcheck_any d h w
theorem okD_zero {d : Dya} (h : okD d) (h0 : d.m = 0) : d = ⟨0, 0⟩ := by
  rcases h with ⟨h1, h2⟩ | ⟨h1, _⟩
  · exact Dya.ext' h1 h2
  · rw [h0] at h1; simp at h1
theorem dyV_zero : dyV ⟨0, 0⟩ = .agg #[.bool false, .string ⟨#[]⟩, .int .i64 0] := by unfold dyV; simp [natS_zero]
set_option maxRecDepth 100000 in
set_option maxHeartbeats 1600000 in
theorem dsign_zero (w : World) :
    Calls Tryz.prog 90 #[dyV ⟨0, 0⟩] w fun e w' => e = .returned (.int .i64 0) ∧ Below w.heap.size w w' := by
  rw [dyV_zero]
  go_enter Tryz.func90, Tryz.ntmps90
  go_wp2
  go_ret
  exact ⟨rfl, by repeat (first | exact Below.refl _ _ | refine below_drewN ?_ _ | refine Below.alloc ?_ (by first | omega | (simp; omega) | simp) _ | refine Below.setCell ?_ (by first | omega | (simp; omega) | simp) _ | refine Below.trans ?_ (Below.mono (by assumption) (by first | omega | (simp; omega) | simp)) | apply Below.drew)⟩
set_option maxRecDepth 100000 in
set_option maxHeartbeats 1600000 in
theorem dsign_str (neg : Bool) (s : ByteArray) (x : Int) (h0 : 0 < s.size) (w : World) (HC : ∀ w : World, Calls Tryz.prog 83 #[.agg #[.bool neg, .string s, .int .i64 x]] w fun e w' => e = .returned (.int .i64 0) ∧ Below w.heap.size w w') :
    Calls Tryz.prog 90 #[.agg #[.bool neg, .string s, .int .i64 x]] w fun e w' => e = .returned (.int .i64 (if neg then -1 else 1)) ∧ Below w.heap.size w w' := by
  obtain ⟨s1, s2⟩ := str_ne h0
  have HCC := Lib.hid HC
  clear HC
  cases neg
  all_goals
    go_enter Tryz.func90, Tryz.ntmps90
    go_wp2_with (go_at_call 83; refine (HCC.out _).mono ?_; rintro e w1 ⟨rfl, hb⟩; obtain ⟨hc, hf⟩ := bcell hb; (try simp only [World.heap_drewN, World.cell?_drewN, World.frozen?_drewN] at hc hf); have z0 : w.heap.size < w1.heap.size := (by have := hb.size; try simp at this; omega))
    go_ret
    exact ⟨rfl, by repeat (first | exact Below.refl _ _ | refine below_drewN ?_ _ | refine Below.alloc ?_ (by first | omega | (simp; omega) | simp) _ | refine Below.setCell ?_ (by first | omega | (simp; omega) | simp) _ | refine Below.trans ?_ (Below.mono (by assumption) (by first | omega | (simp; omega) | simp)) | apply Below.drew)⟩
theorem dsign_any (d : Dya) (h : okD d) (w : World) :
    Calls Tryz.prog 90 #[dyV d] w fun e w' => e = .returned (.int .i64 d.m.sign) ∧ Below w.heap.size w w' := by
  by_cases h0 : d.m = 0
  · rw [okD_zero h h0]
    exact dsign_zero w
  · obtain ⟨k1, k2, k3, k4, k5, k6⟩ := ok_str h h0
    have := dsign_str (decide (d.m < 0)) _ d.e k1 w (fun w => dcheck_str _ _ _ k1 k2 k3 k4 k5 k6 w)
    refine this.mono ?_
    rintro e w' ⟨rfl, hb⟩
    refine ⟨?_, hb⟩
    rcases sign_vals d.m with ⟨h1, e1⟩ | ⟨h1, e1⟩ | ⟨h1, e1⟩ <;> rw [e1]
    · rw [decide_eq_true h1]; rfl
    · exact absurd h1 h0
    · rw [decide_eq_false (by omega)]; rfl
/-- Two dyads in a slice. -/
def Two (w : World) (g : Nat) (a b : Dya) : Prop := w.cell? ⟨g, 0, none⟩ = some (.bool (dn a)) ∧ w.cell? ⟨g, 1, none⟩ = some (.string (ds a)) ∧ w.cell? ⟨g, 2, none⟩ = some (.int .i64 a.e) ∧ w.cell? ⟨g, 3, none⟩ = some (.bool (dn b)) ∧ w.cell? ⟨g, 4, none⟩ = some (.string (ds b)) ∧ w.cell? ⟨g, 5, none⟩ = some (.int .i64 b.e)
set_option maxRecDepth 100000 in
set_option maxHeartbeats 1600000 in
theorem dall_any (a b : Dya) (ha : okD a) (hb : okD b) (g : Nat) (w : World) (hg : g < w.heap.size) (hT : Two w g a b) :
    Calls Tryz.prog 89 #[.slice (some ⟨g, 0, none⟩) 2 2] w fun e w' => e = .returned (.bool true) ∧ Below w.heap.size w w' := by
  obtain ⟨h0, h1, h2, h3, h4, h5⟩ := hT
  have HA := Lib.hid (dcheckV a ha)
  have HB := Lib.hid (dcheckV b hb)
  clear ha hb
  generalize dn a = na at *
  generalize ds a = sa at *
  generalize a.e = xa at *
  generalize dn b = nb at *
  generalize ds b = sb at *
  generalize b.e = xb at *
  go_enter Tryz.func89, Tryz.ntmps89
  go_wp2
  refine wp_loop_rounds 3 ?_
  rw [rounds_succ]
  go_wp2_with (go_at_call 83; refine (HA.out _).mono ?_; rintro e w1 ⟨rfl, hb1⟩; have hsz := hb1.size; (try simp at hsz); have hbw : Below w.heap.size w w1 := (by repeat (first | exact Below.refl _ _ | refine below_drewN ?_ _ | refine Below.alloc ?_ (by first | omega | (simp; omega) | simp) _ | refine Below.setCell ?_ (by first | omega | (simp; omega) | simp) _ | refine Below.trans ?_ (Below.mono (by assumption) (by first | omega | (simp; omega) | simp)) | apply Below.drew)); have k3 := (hbw.cell (p := ⟨g, 3, none⟩) hg).trans h3; have k4 := (hbw.cell (p := ⟨g, 4, none⟩) hg).trans h4; have k5 := (hbw.cell (p := ⟨g, 5, none⟩) hg).trans h5; have hg1 : g < w1.heap.size := (by omega))
  rw [rounds_succ]
  go_wp2_with (go_at_call 83; refine (HB.out _).mono ?_; rintro e w2 ⟨rfl, hb2⟩)
  rw [rounds_succ]
  go_wp2
  go_ret
  exact ⟨rfl, by repeat (first | exact Below.refl _ _ | refine below_drewN ?_ _ | refine Below.alloc ?_ (by first | omega | (simp; omega) | simp) _ | refine Below.setCell ?_ (by first | omega | (simp; omega) | simp) _ | refine Below.trans ?_ (Below.mono (by assumption) (by first | omega | (simp; omega) | simp)) | apply Below.drew)⟩
set_option maxRecDepth 100000 in
set_option maxHeartbeats 1600000 in
theorem dneg_gen (v : Array Value) (sg : Int) (neg : Bool) (s : ByteArray) (x : Int) (hv : v = #[.bool neg, .string s, .int .i64 x]) (w : World) (HS : ∀ w : World, Calls Tryz.prog 90 #[.agg v] w fun e w' => e = .returned (.int .i64 sg) ∧ Below w.heap.size w w') :
    Calls Tryz.prog 95 #[.agg v] w fun e w' => e = .returned (if sg = 0 then .agg #[.bool false, .string ⟨#[]⟩, .int .i64 0] else .agg #[.bool (!neg), .string s, .int .i64 x]) ∧ Below w.heap.size w w' := by
  subst hv
  have HSS := Lib.hid HS
  clear HS
  by_cases h0 : sg = 0
  · subst h0
    rw [if_pos rfl]
    go_enter Tryz.func95, Tryz.ntmps95
    go_wp2_with (go_at_call 90; refine (HSS.out _).mono ?_; rintro e w1 ⟨rfl, hb⟩; obtain ⟨hc, hf⟩ := bcell hb; (try simp only [World.heap_drewN, World.cell?_drewN, World.frozen?_drewN] at hc hf); have z0 : w.heap.size < w1.heap.size := (by have := hb.size; try simp at this; omega))
    exact bodyPost_ret (v := .agg #[.bool false, .string ⟨#[]⟩, .int .i64 0]) (by simp [results, Tryz.results95, go_sem, hc]) rfl ⟨rfl, by repeat (first | exact Below.refl _ _ | refine below_drewN ?_ _ | refine Below.alloc ?_ (by first | omega | (simp; omega) | simp) _ | refine Below.setCell ?_ (by first | omega | (simp; omega) | simp) _ | refine Below.trans ?_ (Below.mono (by assumption) (by first | omega | (simp; omega) | simp)) | apply Below.drew)⟩
  · rw [if_neg h0]
    have h1 : (sg == 0) = false := by simpa using h0
    go_enter Tryz.func95, Tryz.ntmps95
    go_wp2_with (go_at_call 90; refine (HSS.out _).mono ?_; rintro e w1 ⟨rfl, hb⟩; obtain ⟨hc, hf⟩ := bcell hb; (try simp only [World.heap_drewN, World.cell?_drewN, World.frozen?_drewN] at hc hf); have z0 : w.heap.size < w1.heap.size := (by have := hb.size; try simp at this; omega); have q0 : (w1.cell? ⟨w.heap.size, 0, none⟩).isSome = true := (by rw [hc _ _ (by simp; omega)]; simp [go_sem]))
    exact bodyPost_ret (v := .agg #[.bool (!neg), .string s, .int .i64 x]) (by simp [results, Tryz.results95, go_sem, hc]) rfl ⟨rfl, by repeat (first | exact Below.refl _ _ | refine below_drewN ?_ _ | refine Below.alloc ?_ (by first | omega | (simp; omega) | simp) _ | refine Below.setCell ?_ (by first | omega | (simp; omega) | simp) _ | refine Below.trans ?_ (Below.mono (by assumption) (by first | omega | (simp; omega) | simp)) | apply Below.drew)⟩
theorem dneg_any (d : Dya) (h : okD d) (w : World) :
    Calls Tryz.prog 95 #[dyV d] w fun e w' => e = .returned (dyV (negD d)) ∧ Below w.heap.size w w' := by
  refine (dneg_gen _ d.m.sign _ _ _ rfl w (fun w => dsign_any d h w)).mono ?_
  rintro e w' ⟨rfl, hb⟩
  refine ⟨?_, hb⟩
  by_cases h0 : d.m = 0
  · have hd := okD_zero h h0
    rw [if_pos (by rw [h0]; rfl), hd]
    exact congrArg _ dyV_zero.symm
  · rw [if_neg (fun h => h0 (Int.sign_eq_zero_iff_zero.1 h))]
    unfold dyV negD
    simp only [Int.natAbs_neg]
    have : (!decide (d.m < 0)) = decide (-d.m < 0) := by
      rw [Bool.eq_iff_iff]; simp; omega
    rw [this]
theorem dsignV (d : Dya) (h : okD d) (w : World) : Calls Tryz.prog 90 #[.agg #[.bool (dn d), .string (ds d), .int .i64 d.e]] w fun e w' => e = .returned (.int .i64 d.m.sign) ∧ Below w.heap.size w w' := dsign_any d h w
theorem dnegV (d : Dya) (h : okD d) (w : World) : Calls Tryz.prog 95 #[.agg #[.bool (dn d), .string (ds d), .int .i64 d.e]] w fun e w' => e = .returned (.agg #[.bool (dn (negD d)), .string (ds (negD d)), .int .i64 (negD d).e]) ∧ Below w.heap.size w w' := dneg_any d h w
theorem dwholeV (d : Dya) (h : okD d) (w : World) : Calls Tryz.prog 91 #[.agg #[.bool (dn d), .string (ds d), .int .i64 d.e]] w (RN d.m w) := dwhole_any d h w
end Go.Proofs.YtbgjcpnbdgljbaaGreatDoor

/- The contract of dyad.Add. -/
namespace Go.Proofs.YtbgjcpnbdgljbaaGreatDoor
open Go.RowKit Go.Fil Go.Shelf

theorem dya_zero {d : Dya} (h : okD d) (h0 : d.m = 0) : dn d = false ∧ ds d = ⟨#[]⟩ ∧ d.e = 0 := by
  rw [okD_zero h h0]
  exact ⟨rfl, by unfold ds; simp [natS_zero], rfl⟩
set_option maxRecDepth 100000 in
set_option maxHeartbeats 3200000 in
theorem dadd_left (a b : Dya) (ha : okD a) (hb : okD b) (h0 : a.m = 0) (w : World) :
    Calls Tryz.prog 43 #[.agg #[.bool (dn a), .string (ds a), .int .i64 a.e], .agg #[.bool (dn b), .string (ds b), .int .i64 b.e]] w (RDv b w) := by
  have HA := Lib.hid ha
  have HB := Lib.hid hb
  have HAL := Lib.hid (dall_any a b ha hb)
  have hsg : ∀ w : World, Calls Tryz.prog 90 #[.agg #[.bool (dn a), .string (ds a), .int .i64 a.e]] w fun e w' => e = .returned (.int .i64 0) ∧ Below w.heap.size w w' := by
    have := dsignV a ha
    rwa [h0] at this
  have HSG := Lib.hid hsg
  clear hsg ha hb h0
  unfold Two at HAL
  unfold RDv
  generalize dn a = na at *
  generalize ds a = sa at *
  generalize a.e = xa at *
  generalize dn b = nb at *
  generalize ds b = sb at *
  generalize b.e = xb at *
  go_enter Tryz.func43, Tryz.ntmps43
  go_wp2_with (first
    | (go_at_call 89; refine (HAL.out _ _ ?_ ?_).mono ?_; simp; simp [go_sem]; rintro e w1 ⟨rfl, hb⟩; obtain ⟨hc, hf⟩ := bcell hb; (try simp only [World.heap_drewN, World.cell?_drewN, World.frozen?_drewN] at hc hf); have z0 : w.heap.size < w1.heap.size := (by have := hb.size; (try simp at this); omega); have z1 : w.heap.size + 1 < w1.heap.size := (by have := hb.size; (try simp at this); omega); have z2 : w.heap.size + 1 + 1 < w1.heap.size := (by have := hb.size; (try simp at this); omega); have z3 : w.heap.size + 2 < w1.heap.size := (by omega))
    | (go_at_call 90; refine (HSG.out _).mono ?_; rintro e w2 ⟨rfl, hb2⟩; obtain ⟨hc', hf'⟩ := bcell hb2; have y0 : w.heap.size < w2.heap.size := Nat.lt_of_lt_of_le z0 hb2.size; have y2 : w.heap.size + 2 < w2.heap.size := Nat.lt_of_lt_of_le z3 hb2.size))
  exact bodyPost_ret (v := .tuple #[.agg #[.bool nb, .string sb, .int .i64 xb], .int .i64 0]) (by simp [results, Tryz.results43, go_sem, *]) rfl ⟨rfl, by repeat (first | exact Below.refl _ _ | refine below_drewN ?_ _ | refine Below.alloc ?_ (by first | omega | (simp; omega) | simp) _ | refine Below.setCell ?_ (by first | omega | (simp; omega) | simp) _ | refine Below.trans ?_ (Below.mono (by assumption) (by first | omega | (simp; omega) | simp)) | apply Below.drew)⟩
set_option maxRecDepth 100000 in
set_option maxHeartbeats 3200000 in
theorem dadd_right (a b : Dya) (ha : okD a) (hb : okD b) (h0 : a.m ≠ 0) (h1 : b.m = 0) (w : World) :
    Calls Tryz.prog 43 #[.agg #[.bool (dn a), .string (ds a), .int .i64 a.e], .agg #[.bool (dn b), .string (ds b), .int .i64 b.e]] w (RDv a w) := by
  have HAL := Lib.hid (dall_any a b ha hb)
  have HSG := Lib.hid (dsignV a ha)
  have hsa : (a.m.sign == 0) = false := by
    rw [beq_eq_false_iff_ne]
    exact fun h => h0 (Int.sign_eq_zero_iff_zero.1 h)
  have hsg : ∀ w : World, Calls Tryz.prog 90 #[.agg #[.bool (dn b), .string (ds b), .int .i64 b.e]] w fun e w' => e = .returned (.int .i64 0) ∧ Below w.heap.size w w' := by
    have := dsignV b hb
    rwa [h1] at this
  have HSH := Lib.hid hsg
  clear hsg ha hb h0 h1
  unfold Two at HAL
  unfold RDv
  generalize dn a = na at *
  generalize ds a = sa at *
  generalize a.e = xa at *
  generalize a.m.sign = sgn at *
  generalize dn b = nb at *
  generalize ds b = sb at *
  generalize b.e = xb at *
  go_enter Tryz.func43, Tryz.ntmps43
  go_wp2_with (first
    | (go_at_call 89; refine (HAL.out _ _ ?_ ?_).mono ?_; simp; simp [go_sem]; rintro e w1 ⟨rfl, hb⟩; obtain ⟨hc, hf⟩ := bcell hb; (try simp only [World.heap_drewN, World.cell?_drewN, World.frozen?_drewN] at hc hf); have z0 : w.heap.size < w1.heap.size := (by have := hb.size; (try simp at this); omega); have z1 : w.heap.size + 1 < w1.heap.size := (by have := hb.size; (try simp at this); omega); have z2 : w.heap.size + 1 + 1 < w1.heap.size := (by have := hb.size; (try simp at this); omega); have z3 : w.heap.size + 2 < w1.heap.size := (by omega))
    | (go_at_call 90; (with_reducible refine (HSG.out _).mono ?_); rintro e w2 ⟨rfl, hb2⟩; obtain ⟨hc', hf'⟩ := bcell hb2; have y0 : w.heap.size < w2.heap.size := Nat.lt_of_lt_of_le z0 hb2.size; have y1 : w.heap.size + 1 < w2.heap.size := Nat.lt_of_lt_of_le z1 hb2.size; have y2 : w.heap.size + 2 < w2.heap.size := Nat.lt_of_lt_of_le z3 hb2.size)
    | (go_at_call 90; (with_reducible refine (HSH.out _).mono ?_); rintro e w3 ⟨rfl, hb3⟩; obtain ⟨hc'', hf''⟩ := bcell hb3; have x0 : w.heap.size < w3.heap.size := Nat.lt_of_lt_of_le y0 hb3.size; have x2 : w.heap.size + 2 < w3.heap.size := Nat.lt_of_lt_of_le y2 hb3.size))
  exact bodyPost_ret (v := .tuple #[.agg #[.bool na, .string sa, .int .i64 xa], .int .i64 0]) (by simp [results, Tryz.results43, go_sem, *]) rfl ⟨rfl, by repeat (first | exact Below.refl _ _ | refine below_drewN ?_ _ | refine Below.alloc ?_ (by first | omega | (simp; omega) | simp) _ | refine Below.setCell ?_ (by first | omega | (simp; omega) | simp) _ | refine Below.trans ?_ (Below.mono (by assumption) (by first | omega | (simp; omega) | simp)) | apply Below.drew)⟩
/-- The base of a walk: all that came is Below. -/
theorem below_of {B : Nat} {w w1 w2 : World} (h : Below B w w1) (k : Below w1.heap.size w1 w2) (hB : B ≤ w1.heap.size) : Below B w w2 := h.trans (k.mono hB)
set_option maxRecDepth 100000 in
set_option maxHeartbeats 6400000 in
theorem dadd_ne (a b : Dya) (ha : okD a) (hb : okD b) (h0 : a.m ≠ 0) (h1 : b.m ≠ 0) (hd : max a.e b.e - min a.e b.e ≤ 131080) (hf : fitD (addD a b)) (w : World) (hT : Tab w) :
    Calls Tryz.prog 43 #[.agg #[.bool (dn a), .string (ds a), .int .i64 a.e], .agg #[.bool (dn b), .string (ds b), .int .i64 b.e]] w (RDv (addD a b) w) := by
  have HAL := Lib.hid (dall_any a b ha hb)
  have HSG := Lib.hid (dsignV a ha)
  have HSH := Lib.hid (dsignV b hb)
  have HWA := Lib.hid (dwholeV a ha)
  have HWB := Lib.hid (dwholeV b hb)
  have hfa := ha.fit
  have hfb := hb.fit
  unfold fitD at hfa hfb
  have hsa : (a.m.sign == 0) = false := by
    rw [beq_eq_false_iff_ne]
    exact fun h => h0 (Int.sign_eq_zero_iff_zero.1 h)
  have hsb : (b.m.sign == 0) = false := by
    rw [beq_eq_false_iff_ne]
    exact fun h => h1 (Int.sign_eq_zero_iff_zero.1 h)
  have had : addD a b = mkD (a.m * 2 ^ (a.e - min a.e b.e).toNat + b.m * 2 ^ (b.e - min a.e b.e).toNat) (min a.e b.e) := by
    unfold addD; rw [if_neg h0, if_neg h1]; rfl
  rw [had] at hf ⊢
  clear had h0 h1 ha hb
  unfold Two at HAL
  unfold RDv
  obtain ⟨lo, hlo⟩ : ∃ lo, min a.e b.e = lo := ⟨_, rfl⟩
  obtain ⟨hi, hhi⟩ : ∃ hi, max a.e b.e = hi := ⟨_, rfl⟩
  obtain ⟨ka, hka⟩ : ∃ k : Nat, a.e - lo = (k : Int) := ⟨(a.e - lo).toNat, by omega⟩
  obtain ⟨kb, hkb⟩ : ∃ k : Nat, b.e - lo = (k : Int) := ⟨(b.e - lo).toNat, by omega⟩
  rw [hlo] at hf ⊢
  rw [hka, hkb] at hf ⊢
  rw [Int.toNat_natCast, Int.toNat_natCast] at hf ⊢
  have b1 : -1048576 ≤ lo := by omega
  have b2 : lo ≤ 1048576 := by omega
  have b3 : -1048576 ≤ hi := by omega
  have b4 : hi ≤ 1048576 := by omega
  have b5 : ka ≤ 131080 := by omega
  have b6 : kb ≤ 131080 := by omega
  have b7 : ¬ hi - lo > 131080 := by omega
  have b8 := hfa.2.1
  have b9 := hfa.2.2
  have b10 := hfb.2.1
  have b11 := hfb.2.2
  have HLA := Lib.hid hfa.1
  have HLB := Lib.hid hfb.1
  have HF := Lib.hid hf
  have HT := Lib.hid hT
  clear hf hfa hfb hT hd
  generalize hdn : mkD (a.m * 2 ^ ka + b.m * 2 ^ kb) lo = D at *
  have HDN := Lib.hid hdn
  clear hdn
  generalize dn a = na at *
  generalize ds a = sa at *
  generalize a.e = xa at *
  generalize a.m = ma at *
  generalize ma.sign = sga at *
  generalize dn b = nb at *
  generalize ds b = sb at *
  generalize b.e = xb at *
  generalize b.m = mb at *
  generalize mb.sign = sgb at *
  go_enter Tryz.func43, Tryz.ntmps43
  go_wp2_with (first
    | (go_at_call 89; refine (HAL.out _ _ ?_ ?_).mono ?_; simp; simp [go_sem]; rintro e w1 ⟨rfl, hb⟩; obtain ⟨hc, hf⟩ := bcell hb; (try simp only [World.heap_drewN, World.cell?_drewN, World.frozen?_drewN] at hc hf); have z0 : w.heap.size < w1.heap.size := (by have := hb.size; (try simp at this); omega); have z1 : w.heap.size + 1 < w1.heap.size := (by have := hb.size; (try simp at this); omega); have z2 : w.heap.size + 1 + 1 < w1.heap.size := (by have := hb.size; (try simp at this); omega); have z3 : w.heap.size + 2 < w1.heap.size := (by omega))
    | (go_at_call 90; (with_reducible refine (HSG.out _).mono ?_); rintro e w2 ⟨rfl, hb2⟩; obtain ⟨hc', hf'⟩ := bcell hb2; have y0 : w.heap.size < w2.heap.size := Nat.lt_of_lt_of_le z0 hb2.size; have y1 : w.heap.size + 1 < w2.heap.size := Nat.lt_of_lt_of_le z1 hb2.size; have y2 : w.heap.size + 2 < w2.heap.size := Nat.lt_of_lt_of_le z3 hb2.size)
    | (go_at_call 90; (with_reducible refine (HSH.out _).mono ?_); rintro e w3 ⟨rfl, hb3⟩; obtain ⟨hc'', hf''⟩ := bcell hb3; have x0 : w.heap.size < w3.heap.size := Nat.lt_of_lt_of_le y0 hb3.size; have x1 : w.heap.size + 1 < w3.heap.size := Nat.lt_of_lt_of_le y1 hb3.size; have x2 : w.heap.size + 2 < w3.heap.size := Nat.lt_of_lt_of_le y2 hb3.size)
    | fail)
  refine (HWA.out _).mono ?_
  rintro en w4 ⟨g, rfl, hi4, hb4, hg4⟩
  have s4 := hb4.size
  have HB3 := Lib.hid (show Below w.heap.size w w3 by repeat (first | exact Below.refl _ _ | refine below_drewN ?_ _ | refine Below.alloc ?_ (by first | omega | (simp; omega) | simp) _ | refine Below.setCell ?_ (by first | omega | (simp; omega) | simp) _ | refine Below.trans ?_ (Below.mono (by assumption) (by first | omega | (simp; omega) | simp)) | apply Below.drew))
  have HT4 := Lib.hid (Tab.below HT.out (HB3.out.trans (hb4.mono HB3.out.size)))
  have HI := Lib.hid hi4
  have HB4 := Lib.hid hb4
  obtain ⟨hc4, hf4⟩ := bcell hb4
  clear hi4 hb4
  go_wp2_with fail
  refine (HWB.out _).mono ?_
  rintro en w5 ⟨g2, rfl, hi5, hb5, hg5⟩
  have HT5 := Lib.hid (Tab.below HT4.out hb5)
  have hgl := HI.out.lt
  have HIA := Lib.hid (HI.out.below hb5)
  have HIB := Lib.hid hi5
  have hb35 := below_of HB4.out hb5 s4
  have HB5 := Lib.hid hb35
  clear hc4 hf4
  obtain ⟨hc5, hf5⟩ := bcell hb35
  clear hi5 hb5 hb35
  have hne : g ≠ g2 := by omega
  have s5 := HB5.out.size
  go_wp2_with fail
  refine (ilsh_any g g ka ma (Nat.le_trans HLA.out (by decide)) (by omega) _ HIA.out.blk HIA.out).mono ?_
  rintro en w6 ⟨rfl, hi6, hg6⟩
  have hb36 := grow_mid HB5.out hg6 (by omega)
  have HT6 := Lib.hid (HT.out.below (HB3.out.trans (hb36.mono HB3.out.size)))
  have HIA6 := Lib.hid hi6
  have HIB6 := Lib.hid (HIB.out.grown HIA.out hg6 (fun h => hne h.symm))
  have HB6 := Lib.hid hb36
  clear hc5 hf5
  obtain ⟨hc6, hf6⟩ := bcell hb36
  have s6 := hb36.size
  clear hi6 hg6 hb36
  go_wp2_with fail
  refine (ilsh_any g2 g2 kb mb (Nat.le_trans HLB.out (by decide)) (by omega) _ HIB6.out.blk HIB6.out).mono ?_
  rintro en w7 ⟨rfl, hi7, hg7⟩
  have hb37 := grow_mid HB6.out hg7 (by omega)
  have HIB7 := Lib.hid hi7
  have HIA7 := Lib.hid (HIA6.out.grown HIB6.out hg7 hne)
  have HB7 := Lib.hid hb37
  clear hc6 hf6
  obtain ⟨hc7, hf7⟩ := bcell hb37
  have s7 := hb37.size
  clear hi7 hg7 hb37
  have HBA := Lib.hid (show bl (ma * 2 ^ ka).natAbs ≤ 1000000 by
    rw [Int.natAbs_mul, Int.natAbs_pow]
    have := bl_shl ma.natAbs ka
    have := HLA.out
    have e : (2 : Int).natAbs = 2 := rfl
    rw [e]; omega)
  have HBB := Lib.hid (show bl (mb * 2 ^ kb).natAbs ≤ 1000000 by
    rw [Int.natAbs_mul, Int.natAbs_pow]
    have := bl_shl mb.natAbs kb
    have := HLB.out
    have e : (2 : Int).natAbs = 2 := rfl
    rw [e]; omega)
  go_wp2_with fail
  refine (iadd_any g g g2 _ _ (Nat.le_trans HBA.out (by decide)) (Nat.le_trans HBB.out (by decide)) _ HIA7.out.blk HIA7.out HIB7.out).mono ?_
  rintro en w8 ⟨rfl, hi8, hg8⟩
  have hb38 := grow_mid HB7.out hg8 (by omega)
  have HI8 := Lib.hid hi8
  have HB8 := Lib.hid hb38
  have HT8 := Lib.hid (HT.out.below (HB3.out.trans (hb38.mono HB3.out.size)))
  clear hc7 hf7
  obtain ⟨hc8, hf8⟩ := bcell hb38
  have s8 := hb38.size
  clear hi8 hg8 hb38
  have HSM := Lib.hid (show bl (ma * 2 ^ ka + mb * 2 ^ kb).natAbs ≤ 1073741824 by
    have h1 := bl_mono (show (ma * 2 ^ ka + mb * 2 ^ kb).natAbs ≤ (ma * 2 ^ ka).natAbs + (mb * 2 ^ kb).natAbs by omega)
    have h2 := bl_add (ma * 2 ^ ka).natAbs (mb * 2 ^ kb).natAbs
    have := HBA.out
    have := HBB.out
    omega)
  go_wp2_with fail
  refine (madeV_any g _ lo HSM.out (by omega) (by omega) (by rw [HDN.out]; exact HF.out) _ HI8.out HT8.out).mono ?_
  rw [HDN.out]
  rintro en w9 ⟨rfl, hb9⟩
  have hb39 := below_of HB8.out hb9 s8
  clear hc8 hf8
  obtain ⟨hc9, hf9⟩ := bcell hb39
  have s9 := hb39.size
  have v2 : w.heap.size + 2 < w9.heap.size := by omega
  have HB9 := Lib.hid hb39
  clear hb9 hb39
  go_wp2
  have hbw : Below w.heap.size w w9 := HB3.out.trans (HB9.out.mono HB3.out.size)
  exact bodyPost_ret (v := .tuple #[.agg #[.bool (dn D), .string (ds D), .int .i64 D.e], .int .i64 0]) (by simp [results, Tryz.results43, go_sem, *]) rfl ⟨rfl, by repeat (first | exact Below.refl _ _ | refine below_drewN ?_ _ | refine Below.alloc ?_ (by first | omega | (simp; omega) | simp) _ | refine Below.setCell ?_ (by first | omega | (simp; omega) | simp) _ | refine Below.trans ?_ (Below.mono (by assumption) (by first | omega | (simp; omega) | simp)) | apply Below.drew)⟩
theorem dadd_any (a b : Dya) (ha : okD a) (hb : okD b) (hd : max a.e b.e - min a.e b.e ≤ 131080) (hf : fitD (addD a b)) (w : World) (hT : Tab w) :
    Calls Tryz.prog 43 #[.agg #[.bool (dn a), .string (ds a), .int .i64 a.e], .agg #[.bool (dn b), .string (ds b), .int .i64 b.e]] w (RDv (addD a b) w) := by
  by_cases h0 : a.m = 0
  · have : addD a b = b := by unfold addD; rw [if_pos h0]
    rw [this]
    exact dadd_left a b ha hb h0 w
  · by_cases h1 : b.m = 0
    · have : addD a b = a := by unfold addD; rw [if_neg h0, if_pos h1]
      rw [this]
      exact dadd_right a b ha hb h0 h1 w
    · exact dadd_ne a b ha hb h0 h1 hd hf w hT
end Go.Proofs.YtbgjcpnbdgljbaaGreatDoor
