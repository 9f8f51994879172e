/- filigreelaw09: all, near. -/
import Derived.Test.YtbgjcpnbdgljbaaGreatDoorMPmu
import Derived.Laws.FloatArith
namespace Go.Proofs.YtbgjcpnbdgljbaaGreatDoor
open Go.RowKit Go.Fil Go.Shelf
attribute [local irreducible] fop fsqrt fup fabs fneg pick mulRe mulIm

/-- Errors that are all OK. -/
def Oks (w : World) (g n : Nat) : Prop := ∀ k, k < n → w.cell? ⟨g, k, none⟩ = some (.int .i64 0)
theorem lawall_any (g n : Nat) (hn : n ≤ 1000) (w : World) (h : Oks w g n) :
    Calls Tryz.prog 14 #[.slice (some ⟨g, 0, none⟩) n n] w fun e w' => e = .returned (.bool true) ∧ w = w' := by
  have H := Lib.hid h
  clear h
  go_enter Tryz.func14, Tryz.ntmps14
  go_wp2
  go_loop [3] (fun i => ∃ k : Nat, k ≤ n ∧ i = .int .i64 k) (fun i => n - (intOf i).toNat)
  case atStart => exact ⟨0, by omega, rfl⟩
  case round =>
    obtain ⟨k, hk, rfl⟩ := hrel
    by_cases hlt : k < n
    · have hcl := H.out k hlt
      have e0 : (0 + k) = k := Nat.zero_add k
      go_wp2
      go_round
      case rel => exact ⟨k + 1, by omega, by go_num⟩
      case measure => simp [intOf]; omega
    · obtain rfl : k = n := by omega
      go_wp2
      go_ret
      exact ⟨rfl, rfl⟩
end Go.Proofs.YtbgjcpnbdgljbaaGreatDoor

/- filigreelaw09.awake. -/
namespace Go.Proofs.YtbgjcpnbdgljbaaGreatDoor
open Go.RowKit Go.Fil Go.Shelf

/-- z^2 + 3 z + 2, and a nought behind. -/
def aw4 : List Cc := [(4611686018427387904, 0), (4613937818241073152, 0), (4607182418800017408, 0), (0, 0)]
def aw3 : List Cc := [(4611686018427387904, 0), (4613937818241073152, 0), (4607182418800017408, 0)]
theorem aw_cut {m : Nat} (h : CutAt aw4 m) : m = 3 := by
  have h1 := h.le
  have h2 : m < 3 → False := fun hm => absurd (h.z 2 (by omega) (by decide)) (by decide +kernel)
  have h3 : aw4.length = 4 := rfl
  rcases h.last with h4 | h4
  · exact absurd (show m < 3 by omega) h2
  · rcases Nat.lt_or_ge m 4 with h5 | h5
    · rcases Nat.lt_or_ge m 3 with h6 | h6
      · exact absurd h6 h2
      · omega
    · have : m = 4 := by omega
      subst this
      exact absurd h4 (by decide +kernel)
theorem aw_at : atFrom (4611686018427387904, 0) aw3 0 = (4622945017495814144, 0) := by decide +kernel
theorem aw_fin : allfin aw4 = true := by decide +kernel
theorem aw_check : checkS aw3 = true := by decide +kernel
attribute [local irreducible] fop fsqrt fup fabs fneg pick mulRe mulIm
theorem awake_any (w : World) : Calls Tryz.prog 8 #[] w fun e w' => e = .returned (.bool true) ∧ Below w.heap.size w w' := by
  go_enter Tryz.func8, Tryz.ntmps8
  go_wp2_with fail
  refine Calls.mono (pOf_any (some ⟨w.heap.size, 0, none⟩) 4 4 aw4 rfl (by decide) (Nat.le_refl _) aw_fin _ ?hs) ?k
  case hs =>
    refine .inr ⟨w.heap.size, 0, rfl, by simp, fun k v hk => ?_⟩
    rw [Nat.zero_add, World.cell?_alloc_at _ _ _ _ (by simp)]
    match k, hk with
    | 0, hk => exact hk
    | 1, hk => exact hk
    | 2, hk => exact hk
    | 3, hk => exact hk
  rintro e w1 ⟨v, m, hc, rfl, hown, hb⟩
  obtain rfl := aw_cut hc
  obtain ⟨A1, c1, rfl, hs1⟩ := seq_of_own hown
  have hb1 : Below w.heap.size w w1 := (alloc_below w _).trans (hb.mono (by simp))
  have HS1 := Lib.hid (show Seq w1 w1.heap.size A1 (aw3.map cv) from hs1)
  have HB1 := Lib.hid hb1
  have HA := Lib.hid (At_any A1 3 c1 aw3 rfl (by decide) 4611686018427387904 0 w1 HS1.out)
  rw [aw_check, aw_at] at HA
  clear hs1 hown hb hb1 hc
  go_wp2_with fail
  refine HA.out.mono ?_
  intro e w2 hr
  obtain ⟨⟨s, t, rfl⟩, hb2⟩ := hr
  rw [pick_of (by decide), pick_of (by decide)]
  have hbw := HB1.out.trans (hb2.mono HB1.out.size)
  go_wp2
  go_ret
  exact ⟨congrArg (fun b => Ending.returned (.bool b)) (by decide +kernel), hbw⟩
end Go.Proofs.YtbgjcpnbdgljbaaGreatDoor

/- filigreelaw09.near. -/
namespace Go.Proofs.YtbgjcpnbdgljbaaGreatDoor
open Go.RowKit Go.Fil Go.Shelf
attribute [local irreducible] fop fsqrt fup fabs fneg pick mulRe mulIm floatOfInt

/-- The number that near makes. -/
def znear (x y : Int) : Zi := ⟨x.tmod 9, y.tmod 9⟩
theorem tmod9 (x : Int) : (x.tmod 9).natAbs ≤ 8 := by
  rw [Int.natAbs_tmod]
  have : x.natAbs % (9 : Int).natAbs < 9 := Nat.mod_lt _ (by decide)
  omega
theorem fc_near (x y : Int) : FC (floatOfInt .f64 (x.tmod 9), floatOfInt .f64 (y.tmod 9)) (znear x y) := ⟨FI.of (by have := tmod9 x; omega), FI.of (by have := tmod9 y; omega)⟩
theorem zn_near (x y : Int) : zn (znear x y) ≤ 16 := by
  have h1 := tmod9 x
  have h2 := tmod9 y
  unfold zn znear
  dsimp only
  omega
set_option maxRecDepth 100000 in
set_option maxHeartbeats 1600000 in
theorem near_any (x y : Int) (w : World) (hT : Tab w) :
    Calls Tryz.prog 10 #[.int .i64 x, .int .i64 y] w fun e w' => e = .returned (.agg #[.bool (dn (wd (znear x y).re)), .string (ds (wd (znear x y).re)), .int .i64 (wd (znear x y).re).e, .bool (dn (wd (znear x y).im)), .string (ds (wd (znear x y).im)), .int .i64 (wd (znear x y).im).e]) ∧ Below w.heap.size w w' := by
  have HC := Lib.hid (fun w hT => gz_complex (fc_near x y) w hT)
  have HT := Lib.hid hT
  clear hT
  unfold RZ RGv at HC
  dsimp only at HC
  generalize dn (wd (znear x y).re) = rna at *
  generalize ds (wd (znear x y).re) = rsa at *
  generalize (wd (znear x y).re).e = rxa at *
  generalize dn (wd (znear x y).im) = rnb at *
  generalize ds (wd (znear x y).im) = rsb at *
  generalize (wd (znear x y).im).e = rxb at *
  go_enter Tryz.func10, Tryz.ntmps10
  go_wp2_with fail
  refine (HC.out _ (HT.out.below (alloc_below _ _))).mono ?_
  rintro e w1 ⟨rfl, hb⟩
  have s1 := hb.size
  simp only [heap_size_alloc'] at s1
  have l0 : w.heap.size < w1.heap.size := by omega
  have ne1 : w.heap.size ≠ w1.heap.size := by omega
  have ne2 : w1.heap.size ≠ w.heap.size := by omega
  have r0 : w1.cell? ⟨w.heap.size, 0, none⟩ = some (.bool false) := (hb.cell (p := ⟨w.heap.size, 0, none⟩) (by simp)).trans (by simp [go_sem])
  have r1 : w1.cell? ⟨w.heap.size, 1, none⟩ = some (.string ⟨#[]⟩) := (hb.cell (p := ⟨w.heap.size, 1, none⟩) (by simp)).trans (by simp [go_sem])
  have r2 : w1.cell? ⟨w.heap.size, 2, none⟩ = some (.int .i64 0) := (hb.cell (p := ⟨w.heap.size, 2, none⟩) (by simp)).trans (by simp [go_sem])
  have r3 : w1.cell? ⟨w.heap.size, 3, none⟩ = some (.bool false) := (hb.cell (p := ⟨w.heap.size, 3, none⟩) (by simp)).trans (by simp [go_sem])
  have r4 : w1.cell? ⟨w.heap.size, 4, none⟩ = some (.string ⟨#[]⟩) := (hb.cell (p := ⟨w.heap.size, 4, none⟩) (by simp)).trans (by simp [go_sem])
  have r5 : w1.cell? ⟨w.heap.size, 5, none⟩ = some (.int .i64 0) := (hb.cell (p := ⟨w.heap.size, 5, none⟩) (by simp)).trans (by simp [go_sem])
  have rf : ∀ o, w1.frozen? ⟨w.heap.size, o, none⟩ = false := fun o => (hb.frozen (p := ⟨w.heap.size, o, none⟩) (by simp)).trans (by simp [go_sem])
  have hbw := (alloc_below w _).trans (hb.mono (by simp))
  clear hb
  go_wp2
  exact bodyPost_ret (v := .agg #[.bool rna, .string rsa, .int .i64 rxa, .bool rnb, .string rsb, .int .i64 rxb]) (by simp [results, Tryz.results10, go_sem, r0, r1, r2, r3, r4, r5, l0]) rfl ⟨rfl, ((((((hbw.setCell (by show w.heap.size ≤ w.heap.size; omega) _).setCell (by show w.heap.size ≤ w.heap.size; omega) _).setCell (by show w.heap.size ≤ w.heap.size; omega) _).setCell (by show w.heap.size ≤ w.heap.size; omega) _).setCell (by show w.heap.size ≤ w.heap.size; omega) _).setCell (by show w.heap.size ≤ w.heap.size; omega) _).alloc (by simp; omega) _⟩
end Go.Proofs.YtbgjcpnbdgljbaaGreatDoor

/- filigreelaw09.little. -/
namespace Go.Proofs.YtbgjcpnbdgljbaaGreatDoor
open Go.RowKit Go.Fil Go.Shelf
attribute [local irreducible] fop fsqrt fup fabs fneg pick mulRe mulIm floatOfInt

def iv (x : Int) : Value := .int .i64 x
def nthI (xs : List Int) (k : Nat) : Int := xs.getD k 0
/-- The first k coefficients of little. -/
def zlit (xs : List Int) (k : Nat) : List Zi := (List.range k).map fun j => znear (nthI xs (2 * j)) (nthI xs (2 * j + 1))
theorem zlit_length (xs : List Int) (k : Nat) : (zlit xs k).length = k := by simp [zlit]
theorem zlit_next (xs : List Int) (k : Nat) : zlit xs (k + 1) = zlit xs k ++ [znear (nthI xs (2 * k)) (nthI xs (2 * k + 1))] := by
  unfold zlit; rw [List.range_succ, List.map_append]; rfl
theorem Seq.iat {w : World} {B : Nat} {A : Option Addr} {xs : List Int} (h : Seq w B A (xs.map iv)) {k : Nat} (hk : k < xs.length) :
    ∃ b o, A = some ⟨b, o, none⟩ ∧ b < B ∧ ∀ j, j < xs.length → w.cell? ⟨b, o + j, none⟩ = some (.int .i64 (nthI xs j)) := by
  rcases h with h | ⟨b, o, hA, hb, hc⟩
  · have : xs = [] := by simpa using h
    subst this; simp at hk
  · refine ⟨b, o, hA, hb, fun j hj => hc j _ ?_⟩
    unfold nthI
    rw [List.getElem?_map, List.getElem?_eq_getElem hj, List.getD_eq_getElem?_getD, List.getElem?_eq_getElem hj]; rfl
set_option maxRecDepth 100000 in
set_option maxHeartbeats 3200000 in
theorem little_any (A : Option Addr) (n cap : Nat) (xs : List Int) (hn : xs.length = n) (w : World) (hs : Seq w w.heap.size A (xs.map iv)) :
    Calls Tryz.prog 9 #[.slice A n cap] w fun e w' => ∃ v rs m k, k ≤ 9 ∧ ZCut (zlit xs k) m ∧ FCs rs ((zlit xs k).take m) ∧ e = .returned v ∧ w'.ownsRow w.heap.size 41 1 v m (rs.map cv) ∧ Below w.heap.size w w' := by
  obtain ⟨i0, hi, hz0, hz1, hz2⟩ := info_parts Tryz.infoC
  have HS := Lib.hid hs
  have HN := Lib.hid hn
  clear hs hn
  go_enter Tryz.func9, Tryz.ntmps9
  go_wp2
  go_loopw [3, 4] (fun v i wr => ∃ (k q : Nat) (V : Value) (rs : List Cc), V = v ∧ k ≤ 9 ∧ q = 2 * k ∧ q ≤ n ∧ i = .int .i64 (q : Int) ∧ FCs rs (zlit xs k) ∧ wr.ownsRow w.heap.size 41 1 V k (rs.map cv) ∧ Below w.heap.size w wr) (fun _ i _ => n - (intOf i).toNat)
  case atStart => exact ⟨0, 0, _, [], rfl, Nat.zero_le _, rfl, Nat.zero_le _, rfl, FCs.nil, World.ownsRow_nil _ _ _ _, Below.refl _ _⟩
  case round =>
    obtain ⟨k, q, V, rs, hv, hk, hq, hkn, rfl, hrs, hown, hnx⟩ := hrel
    subst hv
    have HF := Lib.hid hrs
    have hl : rs.length = k := by rw [hrs.1, zlit_length]
    clear hrs
    obtain ⟨A3, c3, hv, hs3⟩ := seq_of_own hown
    subst hv
    have w1 : IntKind.i64.wrap ((q : Int) + 1) = (q : Int) + 1 := IntWalk.i64_in _ (by omega)
    have w2 : IntKind.i64.wrap ((q : Int) + 2) = (q : Int) + 2 := IntWalk.i64_in _ (by omega)
    by_cases hlt : (q : Int) + 1 < (n : Int)
    · by_cases h8 : (k : Int) ≤ 8
      · obtain ⟨b, o, rfl, hbb, hcl⟩ := (HS.out.below hnx (Nat.le_refl _)).iat (k := q) (by have := HN.out; omega)
        have d0 := hcl q (by have := HN.out; omega)
        have d1 := hcl (q + 1) (by have := HN.out; omega)
        have b1 : (0 : Int) ≤ (q : Int) := by omega
        have b2 : (q : Int) < (n : Int) := by omega
        have b3 : (0 : Int) ≤ (q : Int) + 1 := by omega
        have b4 : ((q : Int) + 1).toNat = q + 1 := by omega
        have hne1 : ¬ some b = (Value.slice A3 k c3).ownBlock := by
          intro h
          have := (hown.lt b h.symm).1
          omega
        have hsq := hnx.size
        have hlb : b < wr.heap.size := by omega
        have hfc := fc_near (nthI xs q) (nthI xs (q + 1))
        have HFC := Lib.hid hfc
        have HQ := Lib.hid hq
        clear hcl hfc hs3 hq
        go_wp2_with fail
        go_region_held3 (fun x => x.cell? ⟨b, o + q, none⟩ = some (.int .i64 (nthI xs q)) ∧ x.cell? ⟨b, o + (q + 1), none⟩ = some (.int .i64 (nthI xs (q + 1))))
          (refine ⟨?_, ?_⟩ <;> first
            | assumption
            | (simp [go_sem, World.cell?_alloc_past, *]; done)
            | (rw [World.cell?_alloc_past _ _ _ (by assumption)]; assumption)
            | (rw [hgrow.cell_far _ (by simp; omega) hne1]; simp [go_sem, *]; done))
          (first | (refine step_append_lies _ (by rfl) _ _ _ (by rfl) w.heap.size 41 i0 (.complex .f64 0 0) 1 16 Tryz.underlying25 hi hz0 hz1 hz2 rfl (by decide) (.slice A3 k c3) k (rs.map cv) (by rfl) (own_below hown (by repeat (first | exact Below.refl _ _ | refine below_drewN ?_ _ | refine Below.alloc ?_ (by first | omega | (simp; omega) | simp) _ | refine Below.setCell ?_ (by first | omega | (simp; omega) | simp) _ | refine Below.trans ?_ (Below.mono (by assumption) (by first | omega | (simp; omega) | simp)) | apply Below.drew))) ⟨_, 0, none⟩ 1 1 [.complex .f64 (floatOfInt .f64 ((nthI xs q).tmod 9)) (floatOfInt .f64 ((nthI xs (q + 1)).tmod 9))] (by rfl) (by rfl) (cell_one_new _ _ _) (by intro u hu; simp at hu; subst hu; rfl) (by decide) (by unfold maxLen; omega) (by omega) (by have := hnx.size; simp; omega) _ rfl ?_; intro gg cap' w4 hown1 hgrow hat hlt4))
        have hnx' : Below w.heap.size w w4 := (hnx.trans (show Below w.heap.size wr _ from by repeat (first | exact Below.refl _ _ | refine below_drewN ?_ _ | refine Below.alloc ?_ (by first | omega | (simp; omega) | simp) _ | refine Below.setCell ?_ (by first | omega | (simp; omega) | simp) _ | refine Below.trans ?_ (Below.mono (by assumption) (by first | omega | (simp; omega) | simp)) | apply Below.drew))).grown hgrow (by have := hnx.size; simp; omega) (fun q hq => (hown.lt q hq).1)
        have hown2 : w4.ownsRow w.heap.size 41 1 (.slice (some ⟨gg, 0, none⟩) (k + 1) cap') (k + 1) ((rs ++ [(floatOfInt .f64 ((nthI xs q).tmod 9), floatOfInt .f64 ((nthI xs (q + 1)).tmod 9))]).map cv) := by
          rw [List.map_append]
          exact hown1
        have hts2 := HF.out.snoc HFC.out
        have hq := HQ.out
        rw [show znear (nthI xs q) (nthI xs (q + 1)) = znear (nthI xs (2 * k)) (nthI xs (2 * k + 1)) by rw [hq], ← zlit_next] at hts2
        clear hown1 hgrow hat hown hnx
        go_wp2
        go_roundw
        case rel => exact ⟨k + 1, q + 2, _, _, rfl, by omega, by omega, by omega, by go_num, hts2, hown2, hnx'⟩
        case measure => simp [intOf]; omega
      · have h9 : ¬ (k : Int) ≤ 8 := h8
        have HC := Lib.hid (pOf_any A3 k c3 rs (by rw [HF.out.1, zlit_length]) (by omega) (own_cap hown) HF.out.fin wr hs3)
        have HR := Lib.hid (fun e w' h => RPz.of HF.out (w := wr) (en := e) (w' := w') h)
        have HB := Lib.hid hnx
        clear hown hs3 hnx
        go_wp2_with (go_at_call 32; refine HC.out.mono ?_)
        intro e w' hr
        obtain ⟨v, rs', m, hm', hf, rfl, hown, hb⟩ := HR.out e w' hr
        go_wp2
        go_ret
        exact ⟨v, rs', m, k, hk, hm', hf, rfl, own_base hown HB.out.size, HB.out.trans (hb.mono HB.out.size)⟩
    · skip
      have HC := Lib.hid (pOf_any A3 k c3 rs (by rw [HF.out.1, zlit_length]) (by omega) (own_cap hown) HF.out.fin wr hs3)
      have HR := Lib.hid (fun e w' h => RPz.of HF.out (w := wr) (en := e) (w' := w') h)
      have HB := Lib.hid hnx
      clear hown hs3 hnx
      go_wp2_with (go_at_call 32; refine HC.out.mono ?_)
      intro e w' hr
      obtain ⟨v, rs', m, hm', hf, rfl, hown, hb⟩ := HR.out e w' hr
      go_wp2
      go_ret
      exact ⟨v, rs', m, k, hk, hm', hf, rfl, own_base hown HB.out.size, HB.out.trans (hb.mono HB.out.size)⟩
end Go.Proofs.YtbgjcpnbdgljbaaGreatDoor

/- A float that is a whole number, turned into an integer. -/
namespace Go.Fil
open Go
theorem cut_zero_whole {p : Int} {a N : Nat} (h : (a : Rat) * p2 p = (N : Rat)) (neg : Bool) : Ieee.Toward.cut .zero neg (a <<< p.toNat) (-p).toNat = N := by
  rcases Int.le_total 0 p with hp | hp
  · obtain ⟨k, rfl⟩ := Int.eq_ofNat_of_zero_le hp
    rw [p2_nat] at h
    have h2 : a * 2 ^ k = N := by exact_mod_cast h
    have e1 : (-(k : Int)).toNat = 0 := by omega
    rw [e1, Int.toNat_natCast, Nat.shiftLeft_eq, h2]
    simp [Ieee.Toward.cut]
  · obtain ⟨k, hk⟩ := Int.eq_ofNat_of_zero_le (show 0 ≤ -p by omega)
    have hp2 : p = -(k : Int) := by omega
    subst hp2
    have h2 : a = N * 2 ^ k := by
      have h3 : (a : Rat) = (N : Rat) * p2 (k : Int) := by
        rw [← h, Rat.mul_assoc, p2_cancel, Rat.mul_one]
      rw [p2_nat] at h3
      exact_mod_cast h3
    have e1 : (- -(k : Int)).toNat = k := by omega
    have e2 : (-(k : Int)).toNat = 0 := by omega
    rw [e1, e2, Nat.shiftLeft_zero]
    unfold Ieee.Toward.cut
    simp only [Bool.toNat_false, Nat.add_zero]
    rcases Nat.eq_zero_or_pos N with hN | hN
    · subst hN
      rw [Nat.zero_mul] at h2
      subst h2
      exact Nat.zero_div _
    · have hlt : a < 2 ^ (a.log2 + 1) := Nat.lt_log2_self
      have hge : 2 ^ k ≤ a := by rw [h2]; exact Nat.le_mul_of_pos_left _ hN
      have hk2 : k < a.log2 + 1 := (Nat.pow_lt_pow_iff_right (by decide)).1 (Nat.lt_of_le_of_lt hge hlt)
      rw [Nat.min_eq_left (by omega), Nat.one_shiftLeft]
      conv => lhs; lhs; rw [h2]
      exact Nat.mul_div_cancel _ (Nat.two_pow_pos k)
theorem FI.toInt {x : Nat} {n : Int} (h : FI x n) (hn : n.natAbs < 9007199254740992) : floatToIntVal .f64 x .i64 = some n := by
  obtain ⟨s, m, p, hr, hv⟩ := read_FI h
  have hpos := p2_pos p
  have hm0 : (0 : Rat) ≤ (m : Rat) := by exact_mod_cast Nat.zero_le m
  have hmp : (0 : Rat) ≤ (m : Rat) * p2 p := Rat.mul_nonneg hm0 (Rat.le_of_lt hpos)
  have hN : (m : Rat) * p2 p = ((n.natAbs : Nat) : Rat) ∧ (if s then -(n.natAbs : Int) else (n.natAbs : Int)) = n := by
    cases s with
    | false =>
      have h1 : (m : Rat) * p2 p = (n : Rat) := by rw [← hv]; unfold neg1; grind
      have h2 : 0 ≤ n := by rw [h1] at hmp; exact_mod_cast hmp
      obtain ⟨k, rfl⟩ := Int.eq_ofNat_of_zero_le h2
      exact ⟨by rw [h1, Int.natAbs_natCast]; first | rfl | exact Rat.intCast_natCast k | norm_cast, by simp⟩
    | true =>
      have h1 : (m : Rat) * p2 p = ((-n : Int) : Rat) := by
        rw [Rat.intCast_neg, ← hv]; unfold neg1; grind
      have h2 : 0 ≤ -n := by rw [h1] at hmp; exact_mod_cast hmp
      obtain ⟨k, hk⟩ := Int.eq_ofNat_of_zero_le h2
      have h3 : n = -(k : Int) := by omega
      subst h3
      exact ⟨by rw [h1, hk, Int.natAbs_neg, Int.natAbs_natCast]; first | rfl | exact Rat.intCast_natCast k | norm_cast, by simp⟩
  have hc := cut_zero_whole hN.1 s
  have hd : FloatKind.f64.decode x = .number s m p := hr
  unfold floatToIntVal
  rw [hd]
  have ht : (Ieee.Datum.number s m p).toInt .zero = some n := by
    unfold Ieee.Datum.toInt Ieee.Datum.integral
    simp only [hc]
    unfold Ieee.signed
    simp only [Nat.shiftLeft_zero]
    rw [hN.2]
  rw [ht]
  have h1 : IntKind.i64.min ≤ n ∧ n ≤ IntKind.i64.max := by
    have e1 : IntKind.i64.min = -9223372036854775808 := by decide
    have e2 : IntKind.i64.max = 9223372036854775807 := by decide
    omega
  simp only [if_pos h1]
end Go.Fil
