/- The product of whole polynomials as its rows. -/
import Derived.Test.YtbgjcpnbdgljbaaGreatDoorMPcu
namespace Go.Fil
open Go
/-- The product's coefficient at k, from the first i places of p. -/
def zpart (p q : List Zi) (k : Nat) : Nat → Zi
  | 0 => z0
  | i + 1 => if k < i then zpart p q k i else zadd (zpart p q k i) (zmul (zpl p i) (zpl q (k - i)))
theorem zpart_cons (c : Zi) (p q : List Zi) (k i : Nat) : zpart (c :: p) q k (i + 1) = zadd (zmul c (zpl q k)) (zsh (fun j => zpart p q j i) k) := by
  induction i with
  | zero =>
    have e : zsh (fun j => zpart p q j 0) k = z0 := by cases k <;> rfl
    rw [e, zadd_zero, zpart, if_neg (Nat.not_lt_zero _), zpart, zero_zadd, zpl_cons_zero, Nat.sub_zero]
  | succ i ih =>
    rw [zpart, ih]
    cases k with
    | zero => rw [if_pos (by omega)]; rfl
    | succ k =>
      have e1 : zsh (fun j => zpart p q j i) (k + 1) = zpart p q k i := rfl
      have e2 : zsh (fun j => zpart p q j (i + 1)) (k + 1) = zpart p q k (i + 1) := rfl
      rw [e1, e2, zpart, zpl_cons_succ, show k + 1 - (i + 1) = k - i by omega]
      by_cases h : k < i
      · rw [if_pos (by omega), if_pos h]
      · rw [if_neg (by omega), if_neg h, zadd_assoc]
theorem zpart_all (p q : List Zi) (k : Nat) : zpart p q k p.length = zcv p q k := by
  induction p generalizing k with
  | nil => rfl
  | cons c p ih =>
    have e : (fun j => zpart p q j p.length) = zcv p q := funext ih
    rw [List.length_cons, zpart_cons, zcv_cons, e]
/-- Behind place k nothing more is added. -/
theorem zpart_stop (p q : List Zi) (k i j : Nat) (h : k < i) : zpart p q k (i + j) = zpart p q k i := by
  induction j with
  | zero => rfl
  | succ j ih => rw [← Nat.add_assoc, zpart, if_pos (by omega), ih]
theorem zpart_skip (p q : List Zi) (k i : Nat) (h : ¬ k < i) (hq : q.length ≤ k - i) : zpart p q k (i + 1) = zpart p q k i := by
  have e : zpl q (k - i) = z0 := by unfold zpl; rw [List.getD_eq_getElem?_getD, List.getElem?_eq_none hq]; rfl
  rw [zpart, if_neg h, e, zmul_zero, zadd_zero]
theorem zpart_next (p q : List Zi) (k i : Nat) (h : ¬ k < i) : zpart p q k (i + 1) = zadd (zpart p q k i) (zmul (zpl p i) (zpl q (k - i))) := by
  rw [zpart, if_neg h]
end Go.Fil
namespace Go.Proofs.YtbgjcpnbdgljbaaGreatDoor
open Go.RowKit Go.Fil Go.Shelf
theorem zsum_snoc (l : List Zi) (a : Zi) : zsum (l ++ [a]) = zadd (zsum l) a := by unfold zsum; rw [List.foldl_append]; rfl
/-- The product's coefficients. -/
def zprods (p q : List Zi) (k : Nat) : List Zi := (List.range k).map (zcv p q)
theorem zprods_length (p q : List Zi) (k : Nat) : (zprods p q k).length = k := by simp [zprods]
theorem zprods_next (p q : List Zi) (k : Nat) : zprods p q (k + 1) = zprods p q k ++ [zcv p q k] := by
  unfold zprods; rw [List.range_succ, List.map_append]; rfl
end Go.Proofs.YtbgjcpnbdgljbaaGreatDoor

/- poly.Mul at whole numbers. -/
namespace Go.Proofs.YtbgjcpnbdgljbaaGreatDoor
open Go.RowKit Go.Fil Go.Shelf
attribute [local irreducible] fop fsqrt fup fabs fneg pick mulRe mulIm

theorem wrap_small {n : Nat} (h : n ≤ 1000) : IntKind.i64.wrap ((n : Nat) : Int) = ((n : Nat) : Int) := by
  simp [IntKind.wrap, IntKind.signed, IntKind.bits] <;> omega
set_option maxRecDepth 100000 in
set_option maxHeartbeats 3200000 in
theorem pMul_some (A1 A2 : Option Addr) (n1 c1 n2 c2 : Nat) (ps qs : List Cc) (p q : List Zi) (hn1 : p.length = n1) (hn2 : q.length = n2) (h1 : 0 < n1) (h2 : 0 < n2) (h3 : n1 + n2 - 1 ≤ 17) (hp : FCs ps p) (hq : FCs qs q) (k1 : checkS ps = true) (k2 : checkS qs = true)
    (hzp : ∀ k, zn (zpl p k) ≤ 1000) (hzq : ∀ k, zn (zpl q k) ≤ 1000) (w : World) (hs1 : Seq w w.heap.size A1 (ps.map cv)) (hs2 : Seq w w.heap.size A2 (qs.map cv)) :
    Calls Tryz.prog 15 #[.slice A1 n1 c1, .slice A2 n2 c2] w (RPz (zprods p q (n1 + n2 - 1)) w) := by
  obtain ⟨i0, hi, hz0, hz1, hz2⟩ := info_parts Tryz.infoC
  have HS1 := Lib.hid hs1
  have HS2 := Lib.hid hs2
  have HP := Lib.hid hp
  have HQ := Lib.hid hq
  have HN1 := Lib.hid (hp.1.trans hn1)
  have HN2 := Lib.hid (hq.1.trans hn2)
  have HL1 := Lib.hid hn1
  have HL2 := Lib.hid hn2
  have HZP := Lib.hid hzp
  have HZQ := Lib.hid hzq
  have ne1 : ((n1 : Int) == 0) = false := by rw [beq_eq_false_iff_ne]; omega
  have ne2 : ((n2 : Int) == 0) = false := by rw [beq_eq_false_iff_ne]; omega
  clear hs1 hs2 hp hq hn1 hn2 hzp hzq
  go_enter Tryz.func15, Tryz.ntmps15
  go_wp2_with fail
  refine Calls.mono (all_two w.heap.size A1 A2 n1 c1 n2 c2 ps qs HN1.out HN2.out (by omega) (by omega) k1 k2 w.heap.size _ ?hs1 ?hs2 ?hg1 ?hg2) ?k
  case hs1 => exact HS1.out.below (B' := w.heap.size) (by repeat (first | exact Below.refl _ _ | refine below_drewN ?_ _ | refine Below.alloc ?_ (by first | omega | (simp; omega) | simp) _ | refine Below.setCell ?_ (by first | omega | (simp; omega) | simp) _ | refine Below.trans ?_ (Below.mono (by assumption) (by first | omega | (simp; omega) | simp)) | apply Below.drew)) (Nat.le_refl _)
  case hs2 => exact HS2.out.below (B' := w.heap.size) (by repeat (first | exact Below.refl _ _ | refine below_drewN ?_ _ | refine Below.alloc ?_ (by first | omega | (simp; omega) | simp) _ | refine Below.setCell ?_ (by first | omega | (simp; omega) | simp) _ | refine Below.trans ?_ (Below.mono (by assumption) (by first | omega | (simp; omega) | simp)) | apply Below.drew)) (Nat.le_refl _)
  case hg1 => rw [World.cell?_alloc_at _ _ _ _ (by simp)]; rfl
  case hg2 => rw [World.cell?_alloc_at _ _ _ _ (by simp)]; rfl
  rintro e w' ⟨rfl, rfl⟩
  clear k1 k2
  have w1 : ¬ (17 : Int) < (n1 : Int) + (n2 : Int) - 1 := by omega
  -- LOOPS
  have hNe : ((n1 : Int) + (n2 : Int) - 1) = ((n1 + n2 - 1 : Nat) : Int) := by omega
  go_wp2
  try simp only [hNe]
  generalize hN : n1 + n2 - 1 = N at *
  clear hNe w1
  go_loopw [7, 33] (fun v i wr => ∃ (k : Nat) (rs : List Cc), k ≤ N ∧ i = .int .i64 k ∧ FCs rs (zprods p q k) ∧ wr.ownsRow w.heap.size 41 1 v k (rs.map cv) ∧ Below w.heap.size w wr) (fun _ i _ => N - (intOf i).toNat)
  case atStart => exact ⟨0, [], Nat.zero_le _, rfl, FCs.nil, World.ownsRow_nil _ _ _ _, by repeat (first | exact Below.refl _ _ | refine below_drewN ?_ _ | refine Below.alloc ?_ (by first | omega | (simp; omega) | simp) _ | refine Below.setCell ?_ (by first | omega | (simp; omega) | simp) _ | refine Below.trans ?_ (Below.mono (by assumption) (by first | omega | (simp; omega) | simp)) | apply Below.drew)⟩
  case round =>
    rename World => w0
    obtain ⟨k, rs, hk, rfl, hrs, hown, hnx⟩ := hrel
    by_cases hlt : k < N
    · have HB := Lib.hid hnx
      have HF := Lib.hid hrs
      clear hrs hnx
      go_wp2
      go_step3
      go_wp2
      go_step3
      go_wp2
      go_loopw [9, 38] (fun v i wr => ∃ (i' : Nat) (ts : List Cc) (l2 : List Zi) (V : Value), V = v ∧ i' ≤ n1 ∧ i = .int .i64 i' ∧ FCs ts l2 ∧ l2.length ≤ i' ∧ zsum l2 = zpart p q k i' ∧ (∀ j, j < l2.length → zn (nthZ l2 j) ≤ 1000000) ∧ wr.ownsRow w0.heap.size 41 1 V l2.length (ts.map cv) ∧ Below w0.heap.size w0 wr) (fun _ i _ => n1 - (intOf i).toNat)
      case atStart => exact ⟨0, [], [], _, rfl, Nat.zero_le _, rfl, FCs.nil, Nat.le_refl _, rfl, fun j hj => absurd hj (Nat.not_lt_zero _), World.ownsRow_nil _ _ _ _, Below.refl _ _⟩
      case round =>
        obtain ⟨i, ts, l2, V, hv, hi1, rfl, hts, hl2, hzs, hb2, howq, hnq⟩ := hrel
        subst hv
        have hl17 : l2.length ≤ 17 := by omega
        by_cases hli : i < n1
        · by_cases hc1 : (n2 : Int) ≤ (k : Int) - (i : Int)
          · go_wp2
            go_roundw
            case rel => exact ⟨i + 1, ts, l2, _, rfl, by omega, by go_num, hts, by omega, by rw [hzs, zpart_skip _ _ _ _ (by omega) (by have := HL2.out; omega)], hb2, howq, hnq⟩
            case measure => simp [intOf]; omega
          · by_cases hc2 : (k : Int) < (i : Int)
            · skip
              have hsum : zsum l2 = zcv p q k := by rw [hzs, ← zpart_all, HL1.out, show n1 = i + (n1 - i) by omega, zpart_stop _ _ _ _ _ (by omega)]
              obtain ⟨A3, c3, rfl, hs3⟩ := seq_of_own howq
              have hz3 := hb2
              have HSUM := Lib.hid (csum_any A3 l2.length c3 ts l2 rfl (by omega) hts hz3 _ wr hs3)
              rw [hsum] at HSUM
              have hownq := own_below hown hnq
              have HBQ := Lib.hid (HB.out.trans (hnq.mono HB.out.size))
              clear hs3 hts howq hnq hb2 hown
              go_wp2_with (go_at_call 46; refine HSUM.out.mono ?_)
              rintro e w' ⟨c, j, rfl, hc, rfl⟩
              go_wp2_with (first
                | (at_builtin; refine wpList_append_own _ rfl _ _ 24 rfl w.heap.size 41 i0 (.complex .f64 0 0) 1 16 Tryz.underlying24 hi hz0 hz1 hz2 rfl (by decide) _ _ _ rfl ((own_drewN hownq j).alloc _) ⟨wr.heap.size, 0, none⟩ 1 1 [.complex .f64 c.1 c.2] rfl rfl ?c1 ?c2 ?c3 ?c4 ?c5 ?_))
              case c1 => exact cell_one_new (wr.drewN j) _ _
              case c2 => intro u hu; simp at hu; subst hu; rfl
              case c3 => unfold maxLen; omega
              case c4 => omega
              case c5 => have := HBQ.out.size; simp; omega
              intro v' w2 hown' hgrow _
              have hnx' : Below w.heap.size w w2 := ((below_drewN HBQ.out j).alloc (by have := HBQ.out.size; simp; omega) _).grown hgrow (by have := HBQ.out.size; simp; omega) (fun q hq => (hownq.lt q hq).1)
              have hown2 : w2.ownsRow w.heap.size 41 1 v' (k + 1) ((rs ++ [c]).map cv) := by
                rw [List.map_append]
                exact hown'
              have hrs2 : FCs (rs ++ [c]) (zprods p q (k + 1)) := by rw [zprods_next]; exact HF.out.snoc hc
              clear hown' hgrow hownq
              go_wp2
              simp only [Exit.noGoto]
              go_wp2
              go_roundw
              case rel => exact ⟨k + 1, _, by omega, by go_num, hrs2, hown2, hnx'⟩
              case measure => simp [intOf]; omega
            · obtain ⟨b, o, rfl, hbb, hcl1⟩ := ((HS1.out.below HB.out (Nat.le_refl _)).more HB.out.size |>.below hnq (Nat.le_refl _)).cat (k := i) (by have := HN1.out; omega)
              obtain ⟨b2, o2, rfl, hbb2, hcl2⟩ := ((HS2.out.below HB.out (Nat.le_refl _)).more HB.out.size |>.below hnq (Nat.le_refl _)).cat (k := k - i) (by have := HN2.out; omega)
              have HMUL := Lib.hid (fun w => cmul_z (HP.out.at i) (HQ.out.at (k - i)) (by have := HZP.out i; have := HZQ.out (k - i); have := Nat.mul_le_mul (HZP.out i) (HZQ.out (k - i)); omega) w)
              have hne1 : ¬ some b = V.ownBlock := by
                intro h
                have := (howq.lt b h.symm).1
                omega
              have hne2 : ¬ some b2 = V.ownBlock := by
                intro h
                have := (howq.lt b2 h.symm).1
                omega
              have hsq := hnq.size
              have hlb : b < wr.heap.size := by omega
              have hlb2 : b2 < wr.heap.size := by omega
              have HTS := Lib.hid hts
              have HB2 := Lib.hid hb2
              have HZS := Lib.hid hzs
              clear hts hb2 hzs hown
              have b1 : (0 : Int) ≤ (i : Int) := by omega
              have b2' : (i : Int) < (n1 : Int) := by omega
              have b5 : (0 : Int) ≤ (k : Int) - (i : Int) := by omega
              have b6 : (k : Int) - (i : Int) < (n2 : Int) := by omega
              have b7 : (((k : Int) - (i : Int)).toNat) = k - i := by omega
              have b8 : (i : Int) ≤ (k : Int) := by omega
              have b9 : IntKind.i64.wrap ((k : Int) - (i : Int)) = (k : Int) - (i : Int) := IntWalk.i64_in _ (by omega)
              go_wp2_with fail
              go_region_held3 (fun x => x.cell? ⟨b, o + i, none⟩ = some (.complex .f64 (nth ps i).1 (nth ps i).2) ∧ x.cell? ⟨b2, o2 + (k - i), none⟩ = some (.complex .f64 (nth qs (k - i)).1 (nth qs (k - i)).2))
                (refine ⟨?_, ?_⟩ <;> first
                  | assumption
                  | (simp [go_sem, World.cell?_alloc_past, *]; done)
                  | (rw [World.cell?_alloc_past _ _ _ (by assumption)]; assumption)
                  | (rw [hgrow.cell_far _ (by simp; omega) hne1]; simp [go_sem, *]; done)
                  | (rw [hgrow.cell_far _ (by simp; omega) hne2]; simp [go_sem, *]; done))
                (first
                  | (go_at_call 45; refine (HMUL.out _).mono ?_; rintro e w2 ⟨cm, jm, rfl, hcm, rfl⟩)
                  | (refine step_append_lies _ (by rfl) _ _ _ (by rfl) w0.heap.size 41 i0 (.complex .f64 0 0) 1 16 Tryz.underlying24 hi hz0 hz1 hz2 rfl (by decide) V l2.length (ts.map cv) (by rfl) (own_below howq (by repeat (first | exact Below.refl _ _ | refine below_drewN ?_ _ | refine Below.alloc ?_ (by first | omega | (simp; omega) | simp) _ | refine Below.setCell ?_ (by first | omega | (simp; omega) | simp) _ | refine Below.trans ?_ (Below.mono (by assumption) (by first | omega | (simp; omega) | simp)) | apply Below.drew))) ⟨_, 0, none⟩ 1 1 [.complex .f64 cm.1 cm.2] (by rfl) (by rfl) (cell_one_new _ _ _) (by intro u hu; simp at hu; subst hu; rfl) (by decide) (by unfold maxLen; omega) (by omega) (by have := hnq.size; simp; omega) _ rfl ?_; intro gg cap' w4 hown1 hgrow hat hlt4))
              have hnx' : Below w0.heap.size w0 w4 := (hnq.trans (show Below w0.heap.size wr _ from by repeat (first | exact Below.refl _ _ | refine below_drewN ?_ _ | refine Below.alloc ?_ (by first | omega | (simp; omega) | simp) _ | refine Below.setCell ?_ (by first | omega | (simp; omega) | simp) _ | refine Below.trans ?_ (Below.mono (by assumption) (by first | omega | (simp; omega) | simp)) | apply Below.drew))).grown hgrow (by have := hnq.size; simp; omega) (fun q hq => (howq.lt q hq).1)
              have hlen : (l2 ++ [zmul (zpl p i) (zpl q (k - i))]).length = l2.length + 1 := by simp
              have hown2 : w4.ownsRow w0.heap.size 41 1 (.slice (some ⟨gg, 0, none⟩) (l2.length + 1) cap') (l2 ++ [zmul (zpl p i) (zpl q (k - i))]).length ((ts ++ [cm]).map cv) := by
                rw [List.map_append, hlen]
                exact hown1
              have hts2 := HTS.out.snoc hcm
              have hzs2 : zsum (l2 ++ [zmul (zpl p i) (zpl q (k - i))]) = zpart p q k (i + 1) := by
                rw [zsum_snoc, HZS.out, zpart_next _ _ _ _ (by omega)]
              have hbb2' : ∀ j, j < (l2 ++ [zmul (zpl p i) (zpl q (k - i))]).length → zn (nthZ (l2 ++ [zmul (zpl p i) (zpl q (k - i))]) j) ≤ 1000000 := by
                intro j hj
                rw [hlen] at hj
                unfold nthZ
                rw [List.getD_eq_getElem?_getD]
                rcases Nat.lt_or_ge j l2.length with h | h
                · rw [List.getElem?_append_left h, ← List.getD_eq_getElem?_getD]
                  exact HB2.out j h
                · rw [List.getElem?_append_right h, show j - l2.length = 0 by omega]
                  have h1 := zn_mul (zpl p i) (zpl q (k - i))
                  have h2 := Nat.mul_le_mul (HZP.out i) (HZQ.out (k - i))
                  show zn (zmul (zpl p i) (zpl q (k - i))) ≤ 1000000
                  omega
              clear hown1 hgrow hat howq hnq
              go_wp2
              go_roundw
              case rel => exact ⟨i + 1, _, _, _, rfl, by omega, by go_num, hts2, by rw [hlen]; omega, hzs2, hbb2', hown2, hnx'⟩
              case measure => simp [intOf]; omega
        · obtain rfl : i = n1 := by omega
          have hsum : zsum l2 = zcv p q k := by rw [hzs, ← zpart_all, HL1.out]
          obtain ⟨A3, c3, rfl, hs3⟩ := seq_of_own howq
          have hz3 := hb2
          have HSUM := Lib.hid (csum_any A3 l2.length c3 ts l2 rfl (by omega) hts hz3 _ wr hs3)
          rw [hsum] at HSUM
          have hownq := own_below hown hnq
          have HBQ := Lib.hid (HB.out.trans (hnq.mono HB.out.size))
          clear hs3 hts howq hnq hb2 hown
          go_wp2_with (go_at_call 46; refine HSUM.out.mono ?_)
          rintro e w' ⟨c, j, rfl, hc, rfl⟩
          go_wp2_with (first
            | (at_builtin; refine wpList_append_own _ rfl _ _ 24 rfl w.heap.size 41 i0 (.complex .f64 0 0) 1 16 Tryz.underlying24 hi hz0 hz1 hz2 rfl (by decide) _ _ _ rfl ((own_drewN hownq j).alloc _) ⟨wr.heap.size, 0, none⟩ 1 1 [.complex .f64 c.1 c.2] rfl rfl ?c1 ?c2 ?c3 ?c4 ?c5 ?_))
          case c1 => exact cell_one_new (wr.drewN j) _ _
          case c2 => intro u hu; simp at hu; subst hu; rfl
          case c3 => unfold maxLen; omega
          case c4 => omega
          case c5 => have := HBQ.out.size; simp; omega
          intro v' w2 hown' hgrow _
          have hnx' : Below w.heap.size w w2 := ((below_drewN HBQ.out j).alloc (by have := HBQ.out.size; simp; omega) _).grown hgrow (by have := HBQ.out.size; simp; omega) (fun q hq => (hownq.lt q hq).1)
          have hown2 : w2.ownsRow w.heap.size 41 1 v' (k + 1) ((rs ++ [c]).map cv) := by
            rw [List.map_append]
            exact hown'
          have hrs2 : FCs (rs ++ [c]) (zprods p q (k + 1)) := by rw [zprods_next]; exact HF.out.snoc hc
          clear hown' hgrow hownq
          go_wp2
          simp only [Exit.noGoto]
          go_wp2
          go_roundw
          case rel => exact ⟨k + 1, _, by omega, by go_num, hrs2, hown2, hnx'⟩
          case measure => simp [intOf]; omega
    · obtain rfl : k = N := by omega
      obtain ⟨A3, c3, rfl, hs3⟩ := seq_of_own hown
      have hl : rs.length = k := by rw [hrs.1, zprods_length]
      have hcap : k ≤ c3 := own_cap hown
      have HC := Lib.hid (pcut_any A3 k c3 rs hl (by omega) hcap hrs.fin w0 hs3)
      have HR := Lib.hid (fun e w' h => RPz.of hrs (w := w0) (en := e) (w' := w') h)
      have HB := Lib.hid hnx
      clear hrs hown hs3 hnx
      go_wp2_with fail
      refine HC.out.mono ?_
      intro e w' hr
      obtain ⟨v, rs', m, hm, hf, rfl, hown, hb⟩ := HR.out e w' hr
      go_wp2
      have hbw : Below w.heap.size w w' := HB.out.trans (hb.mono HB.out.size)
      exact bodyPost_ret (v := .tuple #[v, .int .i64 0]) (by simp [results, Tryz.results15, go_sem]) rfl ⟨v, rs', m, hm, hf, rfl, own_base hown HB.out.size, hbw⟩
end Go.Proofs.YtbgjcpnbdgljbaaGreatDoor

/- poly.Mul where one is empty. -/
namespace Go.Proofs.YtbgjcpnbdgljbaaGreatDoor
open Go.RowKit Go.Fil Go.Shelf
attribute [local irreducible] fop fsqrt fup fabs fneg pick mulRe mulIm

set_option maxRecDepth 100000 in
theorem pMul_none (A1 A2 : Option Addr) (n1 c1 n2 c2 : Nat) (ps qs : List Cc) (hn1 : ps.length = n1) (hn2 : qs.length = n2) (h1 : n1 ≤ 17) (h2 : n2 ≤ 17) (h0 : n1 = 0 ∨ n2 = 0) (k1 : checkS ps = true) (k2 : checkS qs = true) (w : World) (hs1 : Seq w w.heap.size A1 (ps.map cv)) (hs2 : Seq w w.heap.size A2 (qs.map cv)) :
    Calls Tryz.prog 15 #[.slice A1 n1 c1, .slice A2 n2 c2] w (RPz [] w) := by
  have HS1 := Lib.hid hs1
  have HS2 := Lib.hid hs2
  have HN1 := Lib.hid hn1
  have HN2 := Lib.hid hn2
  clear hs1 hs2 hn1 hn2
  by_cases hz : n1 = 0
  · subst hz
    go_enter Tryz.func15, Tryz.ntmps15
    go_wp2_with fail
    refine Calls.mono (all_two w.heap.size A1 A2 0 c1 n2 c2 ps qs HN1.out HN2.out (by omega) (by omega) k1 k2 w.heap.size _ ?hs1 ?hs2 ?hg1 ?hg2) ?k
    case hs1 => exact HS1.out.below (B' := w.heap.size) (by repeat (first | exact Below.refl _ _ | refine below_drewN ?_ _ | refine Below.alloc ?_ (by first | omega | (simp; omega) | simp) _ | refine Below.setCell ?_ (by first | omega | (simp; omega) | simp) _ | refine Below.trans ?_ (Below.mono (by assumption) (by first | omega | (simp; omega) | simp)) | apply Below.drew)) (Nat.le_refl _)
    case hs2 => exact HS2.out.below (B' := w.heap.size) (by repeat (first | exact Below.refl _ _ | refine below_drewN ?_ _ | refine Below.alloc ?_ (by first | omega | (simp; omega) | simp) _ | refine Below.setCell ?_ (by first | omega | (simp; omega) | simp) _ | refine Below.trans ?_ (Below.mono (by assumption) (by first | omega | (simp; omega) | simp)) | apply Below.drew)) (Nat.le_refl _)
    case hg1 => rw [World.cell?_alloc_at _ _ _ _ (by simp)]; rfl
    case hg2 => rw [World.cell?_alloc_at _ _ _ _ (by simp)]; rfl
    rintro e w' ⟨rfl, rfl⟩
    go_wp2
    exact bodyPost_ret (v := .tuple #[.slice none 0 0, .int .i64 0]) (by simp [results, Tryz.results15, go_sem]) rfl ⟨_, [], 0, ⟨Nat.le_refl _, fun k _ => zpl_nil k, .inl rfl⟩, FCs.nil, rfl, World.ownsRow_nil _ _ _ _, by repeat (first | exact Below.refl _ _ | refine below_drewN ?_ _ | refine Below.alloc ?_ (by first | omega | (simp; omega) | simp) _ | refine Below.setCell ?_ (by first | omega | (simp; omega) | simp) _ | refine Below.trans ?_ (Below.mono (by assumption) (by first | omega | (simp; omega) | simp)) | apply Below.drew)⟩
  · have e1 : ((n1 : Int) == 0) = false := by rw [beq_eq_false_iff_ne]; omega
    obtain rfl : n2 = 0 := by omega
    clear hz h0
    go_enter Tryz.func15, Tryz.ntmps15
    go_wp2_with fail
    refine Calls.mono (all_two w.heap.size A1 A2 n1 c1 0 c2 ps qs HN1.out HN2.out (by omega) (by omega) k1 k2 w.heap.size _ ?js1 ?js2 ?jg1 ?jg2) ?jk
    case js1 => exact HS1.out.below (B' := w.heap.size) (by repeat (first | exact Below.refl _ _ | refine below_drewN ?_ _ | refine Below.alloc ?_ (by first | omega | (simp; omega) | simp) _ | refine Below.setCell ?_ (by first | omega | (simp; omega) | simp) _ | refine Below.trans ?_ (Below.mono (by assumption) (by first | omega | (simp; omega) | simp)) | apply Below.drew)) (Nat.le_refl _)
    case js2 => exact HS2.out.below (B' := w.heap.size) (by repeat (first | exact Below.refl _ _ | refine below_drewN ?_ _ | refine Below.alloc ?_ (by first | omega | (simp; omega) | simp) _ | refine Below.setCell ?_ (by first | omega | (simp; omega) | simp) _ | refine Below.trans ?_ (Below.mono (by assumption) (by first | omega | (simp; omega) | simp)) | apply Below.drew)) (Nat.le_refl _)
    case jg1 => rw [World.cell?_alloc_at _ _ _ _ (by simp)]; rfl
    case jg2 => rw [World.cell?_alloc_at _ _ _ _ (by simp)]; rfl
    rintro e w' ⟨rfl, rfl⟩
    go_wp2
    exact bodyPost_ret (v := .tuple #[.slice none 0 0, .int .i64 0]) (by simp [results, Tryz.results15, go_sem]) rfl ⟨_, [], 0, ⟨Nat.le_refl _, fun k _ => zpl_nil k, .inl rfl⟩, FCs.nil, rfl, World.ownsRow_nil _ _ _ _, by repeat (first | exact Below.refl _ _ | refine below_drewN ?_ _ | refine Below.alloc ?_ (by first | omega | (simp; omega) | simp) _ | refine Below.setCell ?_ (by first | omega | (simp; omega) | simp) _ | refine Below.trans ?_ (Below.mono (by assumption) (by first | omega | (simp; omega) | simp)) | apply Below.drew)⟩
end Go.Proofs.YtbgjcpnbdgljbaaGreatDoor
