/- filigreelaw09.PolyWhole returns true. -/
import Derived.Test.YtbgjcpnbdgljbaaGreatDoorMTgv
namespace Go.Proofs.YtbgjcpnbdgljbaaGreatDoor
open Go.RowKit Go.Fil Go.Shelf
attribute [local irreducible] fop fsqrt fup fabs fneg pick mulRe mulIm floatOfInt gv

theorem oks3 (w : World) (t : TypeId) : Oks (w.alloc (.cells #[.int .i64 0, .int .i64 0, .int .i64 0] t)) w.heap.size 3 := oks_new fun k hk => by
  match k, hk with
  | 0, _ => rfl
  | 1, _ => rfl
  | 2, _ => rfl
theorem oks5 (w : World) (t : TypeId) : Oks (w.alloc (.cells #[.int .i64 0, .int .i64 0, .int .i64 0, .int .i64 0, .int .i64 0] t)) w.heap.size 5 := oks_new fun k hk => by
  match k, hk with
  | 0, _ => rfl
  | 1, _ => rfl
  | 2, _ => rfl
  | 3, _ => rfl
  | 4, _ => rfl
theorem oks6 (w : World) (t : TypeId) : Oks (w.alloc (.cells #[.int .i64 0, .int .i64 0, .int .i64 0, .int .i64 0, .int .i64 0, .int .i64 0] t)) w.heap.size 6 := oks_new fun k hk => by
  match k, hk with
  | 0, _ => rfl
  | 1, _ => rfl
  | 2, _ => rfl
  | 3, _ => rfl
  | 4, _ => rfl
  | 5, _ => rfl
theorem all_env {B n : Nat} {w1 w : World} {l : List (Nat × Zi)} {a : Array Value} {t : TypeId} (hE : Env B w1 w l) (ho : Oks (w.alloc (.cells a t)) w.heap.size n) (hn : n ≤ 1000) :
    Calls Tryz.prog 14 #[.slice (some ⟨w.heap.size, 0, none⟩) n n] (w.alloc (.cells a t)) fun e w' => e = .returned (.bool true) ∧ Env B w1 w' l :=
  (lawall_any _ n hn _ ho).mono fun _ _ ⟨h1, h2⟩ => ⟨h1, h2 ▸ hE.below (alloc_below _ _)⟩
theorem zb_of {z : Zi} (h : zn z ≤ 1000000000000000000000000) : Zb 400 z := (Zb.of (k := 90) (by omega)).mono (by decide)
set_option maxRecDepth 100000 in
set_option maxHeartbeats 40000000 in
theorem polyWhole_any (A1 A2 : Option Addr) (n1 c1 n2 c2 : Nat) (xs ys : List Int) (hn1 : xs.length = n1) (hn2 : ys.length = n2) (x y u v : Int) (w : World) (hT : Tab w) (hs1 : Seq w w.heap.size A1 (xs.map iv)) (hs2 : Seq w w.heap.size A2 (ys.map iv)) :
    Calls Tryz.prog 3 #[.slice A1 n1 c1, .slice A2 n2 c2, .int .i64 x, .int .i64 y, .int .i64 u, .int .i64 v] w fun e w' => e = .returned (.bool true) ∧ Below w.heap.size w w' := by
  have HS1 := Lib.hid hs1
  have HS2 := Lib.hid hs2
  have HL1 := Lib.hid (fun w hs => little_any A1 n1 c1 xs hn1 w hs)
  have HL2 := Lib.hid (fun w hs => little_any A2 n2 c2 ys hn2 w hs)
  have HT0 := Lib.hid hT
  clear hT hs1 hs2 hn1 hn2
  go_enter Tryz.func3, Tryz.ntmps3
  go_wp2_with fail
  refine (awake_any _).mono ?_
  rintro e w1 ⟨rfl, hb1⟩
  have HB1 := Lib.hid hb1
  clear hb1
  go_wp2_with fail
  refine (HL1.out _ ((HS1.out.below HB1.out (Nat.le_refl _)).more HB1.out.size)).mono ?_
  rintro e w2 ⟨vp, rp, mp, kp, hkp, hcp, hfp, rfl, hop, hb2⟩
  obtain ⟨Ap, cp, rfl, hsp⟩ := seq_of_own hop
  have HB2 := Lib.hid (HB1.out.trans (hb2.mono HB1.out.size))
  have HSP := Lib.hid hsp
  have HLP := Lib.hid (Little.of hkp hcp hfp)
  generalize (zlit xs kp).take mp = P at HLP
  clear hb2 hop hsp hkp hcp hfp
  go_wp2_with fail
  refine (HL2.out _ ((HS2.out.below HB2.out (Nat.le_refl _)).more HB2.out.size)).mono ?_
  rintro e w3 ⟨vq, rq, mq, kq, hkq, hcq, hfq, rfl, hoq, hb3⟩
  obtain ⟨Aq, cq, rfl, hsq⟩ := seq_of_own hoq
  have HB3 := Lib.hid (HB2.out.trans (hb3.mono HB2.out.size))
  have HSP3 := Lib.hid ((HSP.out.below hb3 (Nat.le_refl _)).more hb3.size)
  have HSQ3 := Lib.hid hsq
  have HLQ := Lib.hid (Little.of hkq hcq hfq)
  generalize (zlit ys kq).take mq = Q at HLQ
  clear hb3 hoq hsq hkq hcq hfq HL1 HL2 HSP HB1 HS1 HS2
  have HT := Lib.hid (HT0.out.below HB3.out)
  have HE := Lib.hid (Env.start (B := w3.heap.size) (w := w3) (Nat.le_refl _))
  have HNR := Lib.hid (fun a b w hT => near_gv a b w hT)
  have HNG := Lib.hid (zn_near x y)
  have HNH := Lib.hid (zn_near u v)
  have hg1 : znear x y = znear x y := rfl
  generalize hgg : znear x y = g at HNG
  generalize hhh : znear u v = h at HNH
  have HGG := Lib.hid hgg
  have HHH := Lib.hid hhh
  clear hgg hhh hg1 HT0 HB2
  -- the numbers
  have HEXG := Lib.hid (fun w hT hs => exact_gv Ap mp cp rp P HLP.out.len (by have := HLP.out.le; omega) HLP.out.fc HLP.out.ck g (HLP.out.horn (by have := HNG.out; omega)) w hT hs)
  have HEYG := Lib.hid (fun w hT hs => exact_gv Aq mq cq rq Q HLQ.out.len (by have := HLQ.out.le; omega) HLQ.out.fc HLQ.out.ck g (HLQ.out.horn (by have := HNG.out; omega)) w hT hs)
  have HEXO := Lib.hid (fun w hT hs => exact_gv Ap mp cp rp P HLP.out.len (by have := HLP.out.le; omega) HLP.out.fc HLP.out.ck (zadd g h) (HLP.out.horn (by have := HNG.out; have := HNH.out; have := zn_add g h; omega)) w hT hs)
  have HSLO := Lib.hid (fun w hT hs => slope_gv Ap mp cp rp P HLP.out.len (by have := HLP.out.le; omega) HLP.out.fc HLP.out.ck (fun k hk => zb_of (Nat.le_trans (by rw [nthZ_eq (by have := HLP.out.len; omega)]; exact HLP.out.zn _ (List.getElem_mem _)) (show 16 ≤ _ by decide))) g (HLP.out.slope HNG.out) w hT hs)
  have HADD := Lib.hid (fun w hs1 hs2 => add_poly HLP.out HLQ.out Ap Aq cp cq w hs1 hs2)
  have HMUL := Lib.hid (fun w hs1 hs2 => mul_poly HLP.out HLQ.out Ap Aq cp cq w hs1 hs2)
  have HGA := Lib.hid (fun a b (ha : zn a ≤ 1000000000000000000000000) (hb : zn b ≤ 1000000000000000000000000) w hT => gvz_add a b (zb_of ha) (zb_of hb) w hT)
  have HGM := Lib.hid (fun a b (ha : zn a ≤ 1000000000000000000000000) (hb : zn b ≤ 1000000000000000000000000) w hT => gvz_mul a b (zb_of ha) (zb_of hb) w hT)
  have HGS := Lib.hid (fun a b (ha : zn a ≤ 1000000000000000000000000) (hb : zn b ≤ 1000000000000000000000000) w hT => gvz_sub a b (zb_of ha) (zb_of hb) w hT)
  have zg : Hid (zn g ≤ 1000000000000000000000000) := Lib.hid (by have := HNG.out; omega)
  have zh : Hid (zn h ≤ 1000000000000000000000000) := Lib.hid (by have := HNH.out; omega)
  have ba : Hid (zn (zev P g) ≤ 18159675916816) := Lib.hid (HLP.out.ev (by have := HNG.out; omega))
  have bb : Hid (zn (zev Q g) ≤ 18159675916816) := Lib.hid (HLQ.out.ev (by have := HNG.out; omega))
  have bc : Hid (zn (zev P (zadd g h)) ≤ 18159675916816) := Lib.hid (HLP.out.ev (by have := HNG.out; have := HNH.out; have := zn_add g h; omega))
  have bd : Hid (zn (zev (zsl P) g) ≤ 659706976656) := Lib.hid (HLP.out.der HNG.out)
  have HWAY := Lib.hid (way_poly HLP.out HNG.out HNH.out)
  have HQUO := Lib.hid (fun (rs : List Cc) h2 hf => quo_poly HLP.out HNG.out HNH.out (rs := rs) h2 hf)
  go_wp2_with (first
    | ((with_reducible refine wpl_load (b := ?_) (z := ?_) HE.out ?_ ?_ ?_ ?_); (any_goals rfl); (any_goals with_reducible (repeat (first | exact List.mem_cons_self | apply List.mem_cons_of_mem)))) | ((with_reducible refine wpl_alloc HE.out ?_); intro b w2 hE hb; clear hb; replace HE := Lib.hid hE; clear hE) | (first | ((with_reducible refine wpl_store (i := 0) (b := ?_) (y := ?_) (z := ?_) HE.out ?_ ?_ ?_ ?_); (any_goals rfl); intro w2 hE; dsimp only [List.set] at hE; replace HE := Lib.hid hE; clear hE) | ((with_reducible refine wpl_store (i := 1) (b := ?_) (y := ?_) (z := ?_) HE.out ?_ ?_ ?_ ?_); (any_goals rfl); intro w2 hE; dsimp only [List.set] at hE; replace HE := Lib.hid hE; clear hE) | ((with_reducible refine wpl_store (i := 2) (b := ?_) (y := ?_) (z := ?_) HE.out ?_ ?_ ?_ ?_); (any_goals rfl); intro w2 hE; dsimp only [List.set] at hE; replace HE := Lib.hid hE; clear hE) | ((with_reducible refine wpl_store (i := 3) (b := ?_) (y := ?_) (z := ?_) HE.out ?_ ?_ ?_ ?_); (any_goals rfl); intro w2 hE; dsimp only [List.set] at hE; replace HE := Lib.hid hE; clear hE) | ((with_reducible refine wpl_store (i := 4) (b := ?_) (y := ?_) (z := ?_) HE.out ?_ ?_ ?_ ?_); (any_goals rfl); intro w2 hE; dsimp only [List.set] at hE; replace HE := Lib.hid hE; clear hE) | ((with_reducible refine wpl_store (i := 5) (b := ?_) (y := ?_) (z := ?_) HE.out ?_ ?_ ?_ ?_); (any_goals rfl); intro w2 hE; dsimp only [List.set] at hE; replace HE := Lib.hid hE; clear hE) | ((with_reducible refine wpl_store (i := 6) (b := ?_) (y := ?_) (z := ?_) HE.out ?_ ?_ ?_ ?_); (any_goals rfl); intro w2 hE; dsimp only [List.set] at hE; replace HE := Lib.hid hE; clear hE) | ((with_reducible refine wpl_store (i := 7) (b := ?_) (y := ?_) (z := ?_) HE.out ?_ ?_ ?_ ?_); (any_goals rfl); intro w2 hE; dsimp only [List.set] at hE; replace HE := Lib.hid hE; clear hE) | ((with_reducible refine wpl_store (i := 8) (b := ?_) (y := ?_) (z := ?_) HE.out ?_ ?_ ?_ ?_); (any_goals rfl); intro w2 hE; dsimp only [List.set] at hE; replace HE := Lib.hid hE; clear hE) | ((with_reducible refine wpl_store (i := 9) (b := ?_) (y := ?_) (z := ?_) HE.out ?_ ?_ ?_ ?_); (any_goals rfl); intro w2 hE; dsimp only [List.set] at hE; replace HE := Lib.hid hE; clear hE) | ((with_reducible refine wpl_store (i := 10) (b := ?_) (y := ?_) (z := ?_) HE.out ?_ ?_ ?_ ?_); (any_goals rfl); intro w2 hE; dsimp only [List.set] at hE; replace HE := Lib.hid hE; clear hE) | ((with_reducible refine wpl_store (i := 11) (b := ?_) (y := ?_) (z := ?_) HE.out ?_ ?_ ?_ ?_); (any_goals rfl); intro w2 hE; dsimp only [List.set] at hE; replace HE := Lib.hid hE; clear hE) | ((with_reducible refine wpl_store (i := 12) (b := ?_) (y := ?_) (z := ?_) HE.out ?_ ?_ ?_ ?_); (any_goals rfl); intro w2 hE; dsimp only [List.set] at hE; replace HE := Lib.hid hE; clear hE) | ((with_reducible refine wpl_store (i := 13) (b := ?_) (y := ?_) (z := ?_) HE.out ?_ ?_ ?_ ?_); (any_goals rfl); intro w2 hE; dsimp only [List.set] at hE; replace HE := Lib.hid hE; clear hE) | ((with_reducible refine wpl_store (i := 14) (b := ?_) (y := ?_) (z := ?_) HE.out ?_ ?_ ?_ ?_); (any_goals rfl); intro w2 hE; dsimp only [List.set] at hE; replace HE := Lib.hid hE; clear hE) | ((with_reducible refine wpl_store (i := 15) (b := ?_) (y := ?_) (z := ?_) HE.out ?_ ?_ ?_ ?_); (any_goals rfl); intro w2 hE; dsimp only [List.set] at hE; replace HE := Lib.hid hE; clear hE)) | ((with_reducible refine wpl_ne (z := ?_) ?_ ?_ ?_ ?_); (any_goals rfl))
    | (go_at_call 10; refine (HNR.out _ _ _ (HT.out.below HE.out.be)).mono ?_; rintro e w4 ⟨rfl, hb⟩; replace HE := Lib.hid (HE.out.below hb); clear hb; first | rw [HGG.out] | rw [HHH.out])
    | (go_at_call 11; (with_reducible refine (HEXG.out _ (HT.out.below HE.out.be) ((HSP3.out.below HE.out.be (Nat.le_refl _)).more HE.out.be.size)).mono ?_); rintro e w4 ⟨rfl, hb⟩; replace HE := Lib.hid (HE.out.below hb); clear hb)
    | (go_at_call 11; (with_reducible refine (HEYG.out _ (HT.out.below HE.out.be) ((HSQ3.out.below HE.out.be (Nat.le_refl _)).more HE.out.be.size)).mono ?_); rintro e w4 ⟨rfl, hb⟩; replace HE := Lib.hid (HE.out.below hb); clear hb)
    | (go_at_call 12; (with_reducible refine (HADD.out _ ((HSP3.out.below HE.out.be (Nat.le_refl _)).more HE.out.be.size) ((HSQ3.out.below HE.out.be (Nat.le_refl _)).more HE.out.be.size)).mono ?_); rintro e w4 ⟨vs, S, rs, ms, hs1, hs2, hs3, hs4, hs5, hs6, rfl, hos, hb⟩; obtain ⟨As, cs, rfl, hss⟩ := seq_of_own hos; have HSX := Lib.hid (fun hT => exact_gv As ms cs rs S hs1 hs2 hs3 hs4 g (hs5 g HNG.out) w4 hT hss); rw [hs6 g] at HSX; replace HE := Lib.hid (HE.out.below hb); clear hb; clear hs1 hs2 hs3 hs4 hs5 hs6 hos hss)
    | (go_at_call 11; (with_reducible refine (HSX.out (HT.out.below HE.out.be)).mono ?_); rintro e w4 ⟨rfl, hb⟩; replace HE := Lib.hid (HE.out.below hb); clear hb; clear HSX)
    | (go_at_call 13; (with_reducible refine (HGA.out (zev P g) (zev Q g) (by have := ba.out; omega) (by have := bb.out; omega) _ (HT.out.below HE.out.be)).mono ?_); rintro e w4 ⟨rfl, hb⟩; replace HE := Lib.hid (HE.out.below hb); clear hb)
    | (go_at_call 15; (with_reducible refine (HMUL.out _ ((HSP3.out.below HE.out.be (Nat.le_refl _)).more HE.out.be.size) ((HSQ3.out.below HE.out.be (Nat.le_refl _)).more HE.out.be.size)).mono ?_); rintro e w4 ⟨vs, S, rs, ms, hs1, hs2, hs3, hs4, hs5, hs6, rfl, hos, hb⟩; obtain ⟨As, cs, rfl, hss⟩ := seq_of_own hos; have HSX := Lib.hid (fun hT => exact_gv As ms cs rs S hs1 hs2 hs3 hs4 g (hs5 g HNG.out) w4 hT hss); rw [hs6 g] at HSX; replace HE := Lib.hid (HE.out.below hb); clear hb; clear hs1 hs2 hs3 hs4 hs5 hs6 hos hss)
    | (go_at_call 16; (with_reducible refine (HGM.out (zev P g) (zev Q g) (by have := ba.out; omega) (by have := bb.out; omega) _ (HT.out.below HE.out.be)).mono ?_); rintro e w4 ⟨rfl, hb⟩; replace HE := Lib.hid (HE.out.below hb); clear hb)
    | (go_at_call 13; (with_reducible refine (HGA.out g h (by have := zg.out; omega) (by have := zh.out; omega) _ (HT.out.below HE.out.be)).mono ?_); rintro e w4 ⟨rfl, hb⟩; replace HE := Lib.hid (HE.out.below hb); clear hb)
    | (go_at_call 11; (with_reducible refine (HEXO.out _ (HT.out.below HE.out.be) ((HSP3.out.below HE.out.be (Nat.le_refl _)).more HE.out.be.size)).mono ?_); rintro e w4 ⟨rfl, hb⟩; replace HE := Lib.hid (HE.out.below hb); clear hb)
    | (go_at_call 17; (with_reducible refine (HSLO.out _ (HT.out.below HE.out.be) ((HSP3.out.below HE.out.be (Nat.le_refl _)).more HE.out.be.size)).mono ?_); rintro e w4 ⟨rfl, hb⟩; replace HE := Lib.hid (HE.out.below hb); clear hb)
    | (go_at_call 16; (with_reducible refine (HGM.out (zev (zsl P) g) h (by have := bd.out; omega) (by have := zh.out; omega) _ (HT.out.below HE.out.be)).mono ?_); rintro e w4 ⟨rfl, hb⟩; replace HE := Lib.hid (HE.out.below hb); clear hb)
    | (go_at_call 18; (with_reducible refine (HGS.out (zev P (zadd g h)) (zev P g) (by have := bc.out; omega) (by have := ba.out; omega) _ (HT.out.below HE.out.be)).mono ?_); rintro e w4 ⟨rfl, hb⟩; replace HE := Lib.hid (HE.out.below hb); clear hb)
    | (go_at_call 18; (with_reducible refine (HGS.out (zsub (zev P (zadd g h)) (zev P g)) (zmul (zev (zsl P) g) h) (by have := bc.out; have := ba.out; have := zn_sub (zev P (zadd g h)) (zev P g); omega) (by have h1 := zn_mul (zev (zsl P) g) h; have h2 := Nat.mul_le_mul bd.out HNH.out; omega) _ (HT.out.below HE.out.be)).mono ?_); rintro e w4 ⟨rfl, hb⟩; replace HE := Lib.hid (HE.out.below hb); clear hb)
    | (go_at_call 14; (with_reducible refine (all_env HE.out (oks5 _ _) (by decide)).mono ?_); rintro e w5 ⟨rfl, hE⟩; replace HE := Lib.hid hE; clear hE)
    | (go_at_call 14; (with_reducible refine (all_env HE.out (oks3 _ _) (by decide)).mono ?_); rintro e w5 ⟨rfl, hE⟩; replace HE := Lib.hid hE; clear hE)
    | (go_at_call 14; (with_reducible refine (all_env HE.out (oks6 _ _) (by decide)).mono ?_); rintro e w5 ⟨rfl, hE⟩; replace HE := Lib.hid hE; clear hE))
  obtain ⟨t, ht1, ht2⟩ := HWAY.out
  refine (multiple_any h t _ ht1 HNH.out ht2 _ (HT.out.below HE.out.be)).mono ?_
  rintro e w6 ⟨rfl, hb⟩
  replace HE := Lib.hid (HE.out.below hb); clear hb
  clear ht1 ht2 HWAY HEXG HEYG HEXO HSLO HADD HMUL bb bc bd
  have hzh := zn_parts h
  have HNRH := Lib.hid (fun w => gvz_near h (by have := HNH.out; omega) (by have := HNH.out; omega) w)
  clear hzh
  go_wp2_with (first
    | ((with_reducible refine wpl_load (b := ?_) (z := ?_) HE.out ?_ ?_ ?_ ?_); (any_goals rfl); (any_goals with_reducible (repeat (first | exact List.mem_cons_self | apply List.mem_cons_of_mem))))
    | (go_at_call 20; refine (HNRH.out _).mono ?_; rintro e w7 ⟨F, G, rfl, hFG, hb⟩; have HFG := Lib.hid hFG; clear hFG; replace HE := Lib.hid (HE.out.below hb); clear hb))
  by_cases hmp : mp < 2
  · have hmp' : (mp : Int) < 2 := by omega
    refine (div_short Ap mp cp rp (HLP.out.fc.1.trans HLP.out.len) hmp HLP.out.ck F G _ ((HSP3.out.below HE.out.be (Nat.le_refl _)).more HE.out.be.size)).mono ?_
    rintro e w8 ⟨rfl, hb⟩
    replace HE := Lib.hid (HE.out.below hb); clear hb
    go_wp2
    go_ret
    exact ⟨rfl, HB3.out.trans (HE.out.be.mono HB3.out.size)⟩
  · obtain ⟨m, rfl⟩ : ∃ m, mp = m + 2 := ⟨mp - 2, by omega⟩
    refine (div_any Ap m cp rp P HLP.out.len HLP.out.le HLP.out.fc HLP.out.ck (F, G) h HFG.out HNH.out HLP.out.zn _ ((HSP3.out.below HE.out.be (Nat.le_refl _)).more HE.out.be.size)).mono ?_
    rintro e w8 ⟨vw, rs, c, rfl, hf, hfc, how, hb⟩
    obtain ⟨Aw, cw, rfl, hsw⟩ := seq_of_own how
    have HQ := Lib.hid (HQUO.out rs (by omega) hf)
    have HF := Lib.hid hf
    have HC := Lib.hid hfc
    have HSW := Lib.hid hsw
    replace HE := Lib.hid (HE.out.below hb); clear hb
    clear hf hfc how hsw hmp HQUO
    have e1 : P.length - 1 = m + 1 := by have := HLP.out.len; omega
    rw [e1]
    have HXW := Lib.hid (fun hT => exact_gv Aw (m + 1) cw rs (zquo h P).2 HQ.out.1 (by have := HLP.out.le; omega) HF.out HQ.out.2.1 g HQ.out.2.2.1 w8 hT HSW.out)
    go_wp2_with (first
      | ((with_reducible refine wpl_load (b := ?_) (z := ?_) HE.out ?_ ?_ ?_ ?_); (any_goals rfl); (any_goals with_reducible (repeat (first | exact List.mem_cons_self | apply List.mem_cons_of_mem)))) | ((with_reducible refine wpl_alloc HE.out ?_); intro b w2 hE hb; clear hb; replace HE := Lib.hid hE; clear hE) | (first | ((with_reducible refine wpl_store (i := 0) (b := ?_) (y := ?_) (z := ?_) HE.out ?_ ?_ ?_ ?_); (any_goals rfl); intro w2 hE; dsimp only [List.set] at hE; replace HE := Lib.hid hE; clear hE) | ((with_reducible refine wpl_store (i := 1) (b := ?_) (y := ?_) (z := ?_) HE.out ?_ ?_ ?_ ?_); (any_goals rfl); intro w2 hE; dsimp only [List.set] at hE; replace HE := Lib.hid hE; clear hE) | ((with_reducible refine wpl_store (i := 2) (b := ?_) (y := ?_) (z := ?_) HE.out ?_ ?_ ?_ ?_); (any_goals rfl); intro w2 hE; dsimp only [List.set] at hE; replace HE := Lib.hid hE; clear hE) | ((with_reducible refine wpl_store (i := 3) (b := ?_) (y := ?_) (z := ?_) HE.out ?_ ?_ ?_ ?_); (any_goals rfl); intro w2 hE; dsimp only [List.set] at hE; replace HE := Lib.hid hE; clear hE) | ((with_reducible refine wpl_store (i := 4) (b := ?_) (y := ?_) (z := ?_) HE.out ?_ ?_ ?_ ?_); (any_goals rfl); intro w2 hE; dsimp only [List.set] at hE; replace HE := Lib.hid hE; clear hE) | ((with_reducible refine wpl_store (i := 5) (b := ?_) (y := ?_) (z := ?_) HE.out ?_ ?_ ?_ ?_); (any_goals rfl); intro w2 hE; dsimp only [List.set] at hE; replace HE := Lib.hid hE; clear hE) | ((with_reducible refine wpl_store (i := 6) (b := ?_) (y := ?_) (z := ?_) HE.out ?_ ?_ ?_ ?_); (any_goals rfl); intro w2 hE; dsimp only [List.set] at hE; replace HE := Lib.hid hE; clear hE) | ((with_reducible refine wpl_store (i := 7) (b := ?_) (y := ?_) (z := ?_) HE.out ?_ ?_ ?_ ?_); (any_goals rfl); intro w2 hE; dsimp only [List.set] at hE; replace HE := Lib.hid hE; clear hE) | ((with_reducible refine wpl_store (i := 8) (b := ?_) (y := ?_) (z := ?_) HE.out ?_ ?_ ?_ ?_); (any_goals rfl); intro w2 hE; dsimp only [List.set] at hE; replace HE := Lib.hid hE; clear hE) | ((with_reducible refine wpl_store (i := 9) (b := ?_) (y := ?_) (z := ?_) HE.out ?_ ?_ ?_ ?_); (any_goals rfl); intro w2 hE; dsimp only [List.set] at hE; replace HE := Lib.hid hE; clear hE) | ((with_reducible refine wpl_store (i := 10) (b := ?_) (y := ?_) (z := ?_) HE.out ?_ ?_ ?_ ?_); (any_goals rfl); intro w2 hE; dsimp only [List.set] at hE; replace HE := Lib.hid hE; clear hE) | ((with_reducible refine wpl_store (i := 11) (b := ?_) (y := ?_) (z := ?_) HE.out ?_ ?_ ?_ ?_); (any_goals rfl); intro w2 hE; dsimp only [List.set] at hE; replace HE := Lib.hid hE; clear hE) | ((with_reducible refine wpl_store (i := 12) (b := ?_) (y := ?_) (z := ?_) HE.out ?_ ?_ ?_ ?_); (any_goals rfl); intro w2 hE; dsimp only [List.set] at hE; replace HE := Lib.hid hE; clear hE) | ((with_reducible refine wpl_store (i := 13) (b := ?_) (y := ?_) (z := ?_) HE.out ?_ ?_ ?_ ?_); (any_goals rfl); intro w2 hE; dsimp only [List.set] at hE; replace HE := Lib.hid hE; clear hE) | ((with_reducible refine wpl_store (i := 14) (b := ?_) (y := ?_) (z := ?_) HE.out ?_ ?_ ?_ ?_); (any_goals rfl); intro w2 hE; dsimp only [List.set] at hE; replace HE := Lib.hid hE; clear hE) | ((with_reducible refine wpl_store (i := 15) (b := ?_) (y := ?_) (z := ?_) HE.out ?_ ?_ ?_ ?_); (any_goals rfl); intro w2 hE; dsimp only [List.set] at hE; replace HE := Lib.hid hE; clear hE)) | ((with_reducible refine wpl_eq (z := ?_) ?_ ?_ ?_ ?_); (any_goals rfl))
      | (go_at_call 11; (with_reducible refine (HXW.out (HT.out.below HE.out.be)).mono ?_); rintro e w9 ⟨rfl, hb⟩; replace HE := Lib.hid (HE.out.below hb); clear hb)
      | (go_at_call 18; (with_reducible refine (HGS.out g h (by have := zg.out; omega) (by have := zh.out; omega) _ (HT.out.below HE.out.be)).mono ?_); rintro e w9 ⟨rfl, hb⟩; replace HE := Lib.hid (HE.out.below hb); clear hb)
      | (go_at_call 16; (with_reducible refine (HGM.out (zev (zquo h P).2 g) (zsub g h) (by have := HQ.out.2.2.2.2.1; omega) (by have := zg.out; have := zh.out; have := zn_sub g h; have := HNG.out; have := HNH.out; omega) _ (HT.out.below HE.out.be)).mono ?_); rintro e w9 ⟨rfl, hb⟩; replace HE := Lib.hid (HE.out.below hb); clear hb)
      | (go_at_call 22; refine (gvz_complex HC.out _ (HT.out.below HE.out.be)).mono ?_; rintro e w9 ⟨rfl, hb⟩; replace HE := Lib.hid (HE.out.below hb); clear hb)
      | (go_at_call 13; (with_reducible refine (HGA.out (zmul (zev (zquo h P).2 g) (zsub g h)) (zquo h P).1 (by have h1 := zn_mul (zev (zquo h P).2 g) (zsub g h); have h2 : zn (zsub g h) ≤ 32 := (by have := zn_sub g h; have := HNG.out; have := HNH.out; omega); have h3 := Nat.mul_le_mul HQ.out.2.2.2.2.1 h2; omega) (by have := HQ.out.2.2.2.1; omega) _ (HT.out.below HE.out.be)).mono ?_); rintro e w9 ⟨rfl, hb⟩; rw [HQ.out.2.2.2.2.2]; replace HE := Lib.hid (HE.out.below hb); clear hb)
      | (go_at_call 14; (with_reducible refine (all_env HE.out (oks6 _ _) (by decide)).mono ?_); rintro e w9 ⟨rfl, hE⟩; replace HE := Lib.hid hE; clear hE))
    go_ret
    exact ⟨rfl, HB3.out.trans (HE.out.be.mono HB3.out.size)⟩
end Go.Proofs.YtbgjcpnbdgljbaaGreatDoor
