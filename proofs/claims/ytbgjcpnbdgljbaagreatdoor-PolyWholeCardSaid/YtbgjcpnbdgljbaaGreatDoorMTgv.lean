/- The contracts of package gauss at whole numbers, their values held shut. -/
import Derived.Test.YtbgjcpnbdgljbaaGreatDoorMTdv
import Derived.Deep.RegionHeld3
namespace Go.Proofs.YtbgjcpnbdgljbaaGreatDoor
open Go.RowKit Go.Fil Go.Shelf

/-- What a function that makes a whole complex number answers, held shut. -/
def RG (z : Zi) (w : World) (e : Ending) (w' : World) : Prop := e = .returned (.tuple #[gv z, .int .i64 0]) ∧ Below w.heap.size w w'
theorem gvz_add (y z : Zi) (hy : Zb 400 y) (hz : Zb 400 z) (w : World) (hT : Tab w) : Calls Tryz.prog 13 #[gv y, gv z] w (RG (zadd y z) w) := gz_add y z hy hz w hT
theorem gvz_sub (y z : Zi) (hy : Zb 400 y) (hz : Zb 400 z) (w : World) (hT : Tab w) : Calls Tryz.prog 18 #[gv y, gv z] w (RG (zsub y z) w) := gz_sub y z hy hz w hT
theorem gvz_mul (y z : Zi) (hy : Zb 400 y) (hz : Zb 400 z) (w : World) (hT : Tab w) : Calls Tryz.prog 16 #[gv y, gv z] w (RG (zmul y z) w) := gz_mul y z hy hz w hT
theorem gvz_complex {c : Cc} {z : Zi} (h : FC c z) (w : World) (hT : Tab w) : Calls Tryz.prog 22 #[.complex .f64 c.1 c.2] w (RG z w) := gz_complex h w hT
theorem gvz_norm (y : Zi) (hy : Zb 400 y) (w : World) (hT : Tab w) : Calls Tryz.prog 50 #[gv y] w (RDv (wd (znorm y)) w) := gz_norm y hy w hT
theorem gvz_near (z : Zi) (h1 : z.re.natAbs < 9007199254740992) (h2 : z.im.natAbs < 9007199254740992) (w : World) : Calls Tryz.prog 20 #[gv z] w (RNearZ z w) := gnear_any z h1 h2 w
theorem near_gv (x y : Int) (w : World) (hT : Tab w) : Calls Tryz.prog 10 #[.int .i64 x, .int .i64 y] w fun e w' => e = .returned (gv (znear x y)) ∧ Below w.heap.size w w' := near_any x y w hT
theorem exact_gv (A : Option Addr) (n cap : Nat) (ps : List Cc) (l : List Zi) (hn : l.length = n) (hle : n ≤ 17) (hfc : FCs ps l) (hck : checkS ps = true) (g : Zi) (H : Horn l g) (w : World) (hT : Tab w) (hs : Seq w w.heap.size A (ps.map cv)) :
    Calls Tryz.prog 11 #[.slice A n cap, gv g] w (RG (zev l g) w) := pExact_any A n cap ps l hn hle hfc hck g H w hT hs
theorem slope_gv (A : Option Addr) (n cap : Nat) (ps : List Cc) (l : List Zi) (hn : l.length = n) (hle : n ≤ 17) (hfc : FCs ps l) (hck : checkS ps = true) (hcl : ∀ k, k < n → Zb 400 (nthZ l k)) (g : Zi) (H : Horn (zsl l) g) (w : World) (hT : Tab w) (hs : Seq w w.heap.size A (ps.map cv)) :
    Calls Tryz.prog 17 #[.slice A n cap, gv g] w (RG (zev (zsl l) g) w) := pSlope_any A n cap ps l hn hle hfc hck hcl g H w hT hs
end Go.Proofs.YtbgjcpnbdgljbaaGreatDoor

/- filigreelaw09.multiple at whole numbers. -/
namespace Go.Proofs.YtbgjcpnbdgljbaaGreatDoor
open Go.RowKit Go.Fil Go.Shelf
attribute [local irreducible] fop fsqrt fup fabs fneg pick mulRe mulIm floatOfInt gv

section
variable {ops : Array Oper} {rest : List Oper} {Q : Exit → Act → World → Prop} {a : Act} {w : World}
theorem wpl_eq {dst : Option Nat} {t u : TypeId} {pos : String} {af : Array Edge} {gd : Option (Nat × Bool)} {x y : Operand} {z : Zi} (hw : Region.wanted ⟨dst, .binOp .eql 31 x y u, t, pos, af, gd⟩ (yielded ops a.tmps) = true) (hx : a.eval x = gv z) (hy : a.eval y = gv z)
    (K : wpList Tryz.prog ops Q rest (a.put dst (.bool true)) w) : wpList Tryz.prog ops Q (⟨dst, .binOp .eql 31 x y u, t, pos, af, gd⟩ :: rest) a w := by
  refine BigFrame.wpList_want hw fun K' hK => ?_
  have h := hK _ _ K
  unfold Oper.wp execOp
  simp only [Sem.run_bind, hx, hy, guardG, run_eqG, Sem.run_pure, Result.andThen_ok]
  exact h
theorem wpl_ne {dst : Option Nat} {t u : TypeId} {pos : String} {af : Array Edge} {gd : Option (Nat × Bool)} {x y : Operand} {z : Zi} (hw : Region.wanted ⟨dst, .binOp .neq 31 x y u, t, pos, af, gd⟩ (yielded ops a.tmps) = true) (hx : a.eval x = gv z) (hy : a.eval y = gv z)
    (K : wpList Tryz.prog ops Q rest (a.put dst (.bool false)) w) : wpList Tryz.prog ops Q (⟨dst, .binOp .neq 31 x y u, t, pos, af, gd⟩ :: rest) a w := by
  refine BigFrame.wpList_want hw fun K' hK => ?_
  have h := hK _ _ K
  unfold Oper.wp execOp
  simp only [Sem.run_bind, hx, hy, guardG, run_neG, Sem.run_pure, Result.andThen_ok]
  exact h
theorem wpl_eq0 {dst : Option Nat} {t u : TypeId} {pos : String} {af : Array Edge} {gd : Option (Nat × Bool)} {x y : Operand} {z : Zi} (hz : z ≠ z0) (hw : Region.wanted ⟨dst, .binOp .eql 31 x y u, t, pos, af, gd⟩ (yielded ops a.tmps) = true) (hx : a.eval x = gv z) (hy : a.eval y = gv z0)
    (K : wpList Tryz.prog ops Q rest (a.put dst (.bool false)) w) : wpList Tryz.prog ops Q (⟨dst, .binOp .eql 31 x y u, t, pos, af, gd⟩ :: rest) a w := by
  refine BigFrame.wpList_want hw fun K' hK => ?_
  have h := hK _ _ K
  unfold Oper.wp execOp
  simp only [Sem.run_bind, hx, hy, guardG, run_eqG0 hz, Sem.run_pure, Result.andThen_ok]
  exact h
end
set_option maxRecDepth 100000 in
set_option maxHeartbeats 3200000 in
theorem multiple_zero (h : Zi) (h0 : zmul h h = z0) (hh : Zb 400 h) (w : World) (hT : Tab w) :
    Calls Tryz.prog 19 #[gv z0, gv h] w fun e w' => e = .returned (.bool true) ∧ Below w.heap.size w w' := by
  have HM := Lib.hid (fun w hT => gvz_mul h h hh hh w hT)
  rw [h0] at HM
  have HE := Lib.hid (Env.start (B := w.heap.size) (w := w) (Nat.le_refl _))
  have HT := Lib.hid hT
  clear hT hh h0
  go_enter Tryz.func19, Tryz.ntmps19
  go_wp2_with (first
    | ((with_reducible refine wpl_box (z := ?_) HE.out ?_ ?_); (any_goals rfl); intro b w2 hE hb; clear hb; replace HE := Lib.hid hE; clear hE) | ((with_reducible refine wpl_load (b := ?_) (z := ?_) HE.out ?_ ?_ ?_ ?_); (any_goals rfl); (any_goals with_reducible (repeat (first | exact List.mem_cons_self | apply List.mem_cons_of_mem)))) | ((with_reducible refine wpl_alloc HE.out ?_); intro b w2 hE hb; clear hb; replace HE := Lib.hid hE; clear hE) | (first | ((with_reducible refine wpl_store (i := 0) (b := ?_) (y := ?_) (z := ?_) HE.out ?_ ?_ ?_ ?_); (any_goals rfl); intro w2 hE; dsimp only [List.set] at hE; replace HE := Lib.hid hE; clear hE) | ((with_reducible refine wpl_store (i := 1) (b := ?_) (y := ?_) (z := ?_) HE.out ?_ ?_ ?_ ?_); (any_goals rfl); intro w2 hE; dsimp only [List.set] at hE; replace HE := Lib.hid hE; clear hE) | ((with_reducible refine wpl_store (i := 2) (b := ?_) (y := ?_) (z := ?_) HE.out ?_ ?_ ?_ ?_); (any_goals rfl); intro w2 hE; dsimp only [List.set] at hE; replace HE := Lib.hid hE; clear hE) | ((with_reducible refine wpl_store (i := 3) (b := ?_) (y := ?_) (z := ?_) HE.out ?_ ?_ ?_ ?_); (any_goals rfl); intro w2 hE; dsimp only [List.set] at hE; replace HE := Lib.hid hE; clear hE) | ((with_reducible refine wpl_store (i := 4) (b := ?_) (y := ?_) (z := ?_) HE.out ?_ ?_ ?_ ?_); (any_goals rfl); intro w2 hE; dsimp only [List.set] at hE; replace HE := Lib.hid hE; clear hE) | ((with_reducible refine wpl_store (i := 5) (b := ?_) (y := ?_) (z := ?_) HE.out ?_ ?_ ?_ ?_); (any_goals rfl); intro w2 hE; dsimp only [List.set] at hE; replace HE := Lib.hid hE; clear hE) | ((with_reducible refine wpl_store (i := 6) (b := ?_) (y := ?_) (z := ?_) HE.out ?_ ?_ ?_ ?_); (any_goals rfl); intro w2 hE; dsimp only [List.set] at hE; replace HE := Lib.hid hE; clear hE) | ((with_reducible refine wpl_store (i := 7) (b := ?_) (y := ?_) (z := ?_) HE.out ?_ ?_ ?_ ?_); (any_goals rfl); intro w2 hE; dsimp only [List.set] at hE; replace HE := Lib.hid hE; clear hE) | ((with_reducible refine wpl_store (i := 8) (b := ?_) (y := ?_) (z := ?_) HE.out ?_ ?_ ?_ ?_); (any_goals rfl); intro w2 hE; dsimp only [List.set] at hE; replace HE := Lib.hid hE; clear hE) | ((with_reducible refine wpl_store (i := 9) (b := ?_) (y := ?_) (z := ?_) HE.out ?_ ?_ ?_ ?_); (any_goals rfl); intro w2 hE; dsimp only [List.set] at hE; replace HE := Lib.hid hE; clear hE) | ((with_reducible refine wpl_store (i := 10) (b := ?_) (y := ?_) (z := ?_) HE.out ?_ ?_ ?_ ?_); (any_goals rfl); intro w2 hE; dsimp only [List.set] at hE; replace HE := Lib.hid hE; clear hE) | ((with_reducible refine wpl_store (i := 11) (b := ?_) (y := ?_) (z := ?_) HE.out ?_ ?_ ?_ ?_); (any_goals rfl); intro w2 hE; dsimp only [List.set] at hE; replace HE := Lib.hid hE; clear hE) | ((with_reducible refine wpl_store (i := 12) (b := ?_) (y := ?_) (z := ?_) HE.out ?_ ?_ ?_ ?_); (any_goals rfl); intro w2 hE; dsimp only [List.set] at hE; replace HE := Lib.hid hE; clear hE) | ((with_reducible refine wpl_store (i := 13) (b := ?_) (y := ?_) (z := ?_) HE.out ?_ ?_ ?_ ?_); (any_goals rfl); intro w2 hE; dsimp only [List.set] at hE; replace HE := Lib.hid hE; clear hE) | ((with_reducible refine wpl_store (i := 14) (b := ?_) (y := ?_) (z := ?_) HE.out ?_ ?_ ?_ ?_); (any_goals rfl); intro w2 hE; dsimp only [List.set] at hE; replace HE := Lib.hid hE; clear hE) | ((with_reducible refine wpl_store (i := 15) (b := ?_) (y := ?_) (z := ?_) HE.out ?_ ?_ ?_ ?_); (any_goals rfl); intro w2 hE; dsimp only [List.set] at hE; replace HE := Lib.hid hE; clear hE)) | ((with_reducible refine wpl_build ?_ ?_); (any_goals rfl)) | ((with_reducible refine wpl_eq (z := ?_) ?_ ?_ ?_ ?_); (any_goals rfl))
    | (go_at_call 16; refine (HM.out _ (HT.out.below HE.out.be)).mono ?_; rintro e w2 ⟨rfl, hb⟩; replace HE := Lib.hid (HE.out.below hb); clear hb))
  go_ret
  exact ⟨rfl, HE.out.be⟩
/-- A quotient's rest is nothing. -/
theorem tmod_mul (d t : Int) : (d * t).tmod d = 0 := Int.mul_tmod_right d t
theorem run_toint {F : Nat} {n : Int} (h : FI F n) (hn : n.natAbs < 9007199254740992) (w : World) : (convert 55 2 (.float .f64 F)).run Tryz.prog w = .ok (.int .i64 n) w :=
  run_convert_float_int w _ _ .f64 .i64 F n (by rw [Tryz.underlying55]; rfl) Tryz.underlying2 (h.toInt hn)
theorem oks_new {w : World} {t : TypeId} {n : Nat} {a : Array Value} (ha : ∀ k, k < n → a[k]? = some (.int .i64 0)) : Oks (w.alloc (.cells a t)) w.heap.size n := by
  intro k hk
  rw [World.cell?_alloc_at _ _ _ _ rfl]
  exact ha k hk
theorem oks4 (w : World) (t : TypeId) : Oks (w.alloc (.cells #[.int .i64 0, .int .i64 0, .int .i64 0, .int .i64 0] t)) w.heap.size 4 := oks_new fun k hk => by
  match k, hk with
  | 0, _ => rfl
  | 1, _ => rfl
  | 2, _ => rfl
  | 3, _ => rfl
theorem env_new_gen {B : Nat} {w1 w : World} {l : List (Nat × Zi)} (h : Env B w1 w l) (z : Zi) : ∃ w7, w7 = w.alloc (.cells #[.bool (dn (wd z.re)), .string (ds (wd z.re)), .int .i64 (wd z.re).e, .bool (dn (wd z.im)), .string (ds (wd z.im)), .int .i64 (wd z.im).e] 31) ∧ Env B w1 w7 ((w.heap.size, z) :: l) := ⟨_, rfl, h.newOf z⟩
theorem env_set_gen {B : Nat} {w1 w : World} {l : List (Nat × Zi)} (h : Env B w1 w l) {i b : Nat} {y : Zi} (hi : l[i]? = some (b, y)) (z : Zi) : ∃ w7, w7 = (((((w.setCell ⟨b, 0, none⟩ (.bool (dn (wd z.re)))).setCell ⟨b, 1, none⟩ (.string (ds (wd z.re)))).setCell ⟨b, 2, none⟩ (.int .i64 (wd z.re).e)).setCell ⟨b, 3, none⟩ (.bool (dn (wd z.im)))).setCell ⟨b, 4, none⟩ (.string (ds (wd z.im)))).setCell ⟨b, 5, none⟩ (.int .i64 (wd z.im).e) ∧ Env B w1 w7 (l.set i (b, z)) := ⟨_, rfl, h.set hi z⟩
set_option maxRecDepth 100000 in
set_option maxHeartbeats 6400000 in
theorem multiple_core (c h hh cj up : Zi) (nn : Int) (HM : ∀ w, Tab w → Calls Tryz.prog 16 #[gv h, gv h] w (RG hh w))
    (HCJ : ∀ w, Calls Tryz.prog 49 #[.agg #[.bool (dn (wd hh.re)), .string (ds (wd hh.re)), .int .i64 (wd hh.re).e, .bool (dn (wd hh.im)), .string (ds (wd hh.im)), .int .i64 (wd hh.im).e]] w fun e w' => e = .returned (.agg #[.bool (dn (wd cj.re)), .string (ds (wd cj.re)), .int .i64 (wd cj.re).e, .bool (dn (wd cj.im)), .string (ds (wd cj.im)), .int .i64 (wd cj.im).e]) ∧ Below w.heap.size w w')
    (HU : ∀ w, Tab w → Calls Tryz.prog 16 #[.agg #[.bool (dn (wd c.re)), .string (ds (wd c.re)), .int .i64 (wd c.re).e, .bool (dn (wd c.im)), .string (ds (wd c.im)), .int .i64 (wd c.im).e], .agg #[.bool (dn (wd cj.re)), .string (ds (wd cj.re)), .int .i64 (wd cj.re).e, .bool (dn (wd cj.im)), .string (ds (wd cj.im)), .int .i64 (wd cj.im).e]] w (RZ up w))
    (HN : ∀ w, Tab w → Calls Tryz.prog 50 #[gv hh] w (RDv (wd nn) w)) (HNR : ∀ w, Calls Tryz.prog 20 #[gv up] w (RNearZ up w))
    (HDN : ∀ w, Calls Tryz.prog 51 #[.agg #[.bool (dn (wd nn)), .string (ds (wd nn)), .int .i64 (wd nn).e]] w (RNear nn w))
    (hne : hh ≠ z0) (hnn : nn ≠ 0) (hm1 : up.re.tmod nn = 0) (hm2 : up.im.tmod nn = 0) (hb1 : up.re.natAbs < 9007199254740992) (hb2 : up.im.natAbs < 9007199254740992) (hb3 : nn.natAbs < 9007199254740992) (w : World) (hT : Tab w) :
    Calls Tryz.prog 19 #[gv c, gv h] w fun e w' => e = .returned (.bool true) ∧ Below w.heap.size w w' := by
  have HMh := Lib.hid HM
  have HUh := Lib.hid HU
  have HCJh := Lib.hid HCJ
  have HNh := Lib.hid HN
  have HNRh := Lib.hid HNR
  have HDNh := Lib.hid HDN
  have HE := Lib.hid (Env.start (B := w.heap.size) (w := w) (Nat.le_refl _))
  have HT := Lib.hid hT
  have HB1 := Lib.hid hb1
  have HB2 := Lib.hid hb2
  have HB3 := Lib.hid hb3
  have HNE := Lib.hid hne
  have HNN := Lib.hid hnn
  have HM1 := Lib.hid hm1
  have HM2 := Lib.hid hm2
  clear HM HU HCJ HN HNR HDN hT hb1 hb2 hb3 hne hnn hm1 hm2
  go_enter Tryz.func19, Tryz.ntmps19
  go_wp2_with (first
    | ((with_reducible refine wpl_box (z := c) HE.out ?_ ?_); (any_goals rfl); intro bc w2 hE hb; clear hb; replace HE := Lib.hid hE; clear hE)
    | ((with_reducible refine wpl_box (z := ?_) HE.out ?_ ?_); (any_goals rfl); intro b w2 hE hb; clear hb; replace HE := Lib.hid hE; clear hE) | ((with_reducible refine wpl_load (b := ?_) (z := ?_) HE.out ?_ ?_ ?_ ?_); (any_goals rfl); (any_goals with_reducible (repeat (first | exact List.mem_cons_self | apply List.mem_cons_of_mem))))
    | ((with_reducible refine wpl_alloc HE.out ?_); intro bh w2 hE hb; clear hb; replace HE := Lib.hid hE; clear hE)
    | ((with_reducible refine wpl_eq0 HNE.out ?_ ?_ ?_ ?_); (any_goals rfl))
    | (first | ((with_reducible refine wpl_store (i := 0) (b := ?_) (y := ?_) (z := ?_) HE.out ?_ ?_ ?_ ?_); (any_goals rfl); intro w2 hE; dsimp only [List.set] at hE; replace HE := Lib.hid hE; clear hE) | ((with_reducible refine wpl_store (i := 1) (b := ?_) (y := ?_) (z := ?_) HE.out ?_ ?_ ?_ ?_); (any_goals rfl); intro w2 hE; dsimp only [List.set] at hE; replace HE := Lib.hid hE; clear hE) | ((with_reducible refine wpl_store (i := 2) (b := ?_) (y := ?_) (z := ?_) HE.out ?_ ?_ ?_ ?_); (any_goals rfl); intro w2 hE; dsimp only [List.set] at hE; replace HE := Lib.hid hE; clear hE) | ((with_reducible refine wpl_store (i := 3) (b := ?_) (y := ?_) (z := ?_) HE.out ?_ ?_ ?_ ?_); (any_goals rfl); intro w2 hE; dsimp only [List.set] at hE; replace HE := Lib.hid hE; clear hE) | ((with_reducible refine wpl_store (i := 4) (b := ?_) (y := ?_) (z := ?_) HE.out ?_ ?_ ?_ ?_); (any_goals rfl); intro w2 hE; dsimp only [List.set] at hE; replace HE := Lib.hid hE; clear hE) | ((with_reducible refine wpl_store (i := 5) (b := ?_) (y := ?_) (z := ?_) HE.out ?_ ?_ ?_ ?_); (any_goals rfl); intro w2 hE; dsimp only [List.set] at hE; replace HE := Lib.hid hE; clear hE) | ((with_reducible refine wpl_store (i := 6) (b := ?_) (y := ?_) (z := ?_) HE.out ?_ ?_ ?_ ?_); (any_goals rfl); intro w2 hE; dsimp only [List.set] at hE; replace HE := Lib.hid hE; clear hE) | ((with_reducible refine wpl_store (i := 7) (b := ?_) (y := ?_) (z := ?_) HE.out ?_ ?_ ?_ ?_); (any_goals rfl); intro w2 hE; dsimp only [List.set] at hE; replace HE := Lib.hid hE; clear hE) | ((with_reducible refine wpl_store (i := 8) (b := ?_) (y := ?_) (z := ?_) HE.out ?_ ?_ ?_ ?_); (any_goals rfl); intro w2 hE; dsimp only [List.set] at hE; replace HE := Lib.hid hE; clear hE) | ((with_reducible refine wpl_store (i := 9) (b := ?_) (y := ?_) (z := ?_) HE.out ?_ ?_ ?_ ?_); (any_goals rfl); intro w2 hE; dsimp only [List.set] at hE; replace HE := Lib.hid hE; clear hE) | ((with_reducible refine wpl_store (i := 10) (b := ?_) (y := ?_) (z := ?_) HE.out ?_ ?_ ?_ ?_); (any_goals rfl); intro w2 hE; dsimp only [List.set] at hE; replace HE := Lib.hid hE; clear hE) | ((with_reducible refine wpl_store (i := 11) (b := ?_) (y := ?_) (z := ?_) HE.out ?_ ?_ ?_ ?_); (any_goals rfl); intro w2 hE; dsimp only [List.set] at hE; replace HE := Lib.hid hE; clear hE) | ((with_reducible refine wpl_store (i := 12) (b := ?_) (y := ?_) (z := ?_) HE.out ?_ ?_ ?_ ?_); (any_goals rfl); intro w2 hE; dsimp only [List.set] at hE; replace HE := Lib.hid hE; clear hE) | ((with_reducible refine wpl_store (i := 13) (b := ?_) (y := ?_) (z := ?_) HE.out ?_ ?_ ?_ ?_); (any_goals rfl); intro w2 hE; dsimp only [List.set] at hE; replace HE := Lib.hid hE; clear hE) | ((with_reducible refine wpl_store (i := 14) (b := ?_) (y := ?_) (z := ?_) HE.out ?_ ?_ ?_ ?_); (any_goals rfl); intro w2 hE; dsimp only [List.set] at hE; replace HE := Lib.hid hE; clear hE) | ((with_reducible refine wpl_store (i := 15) (b := ?_) (y := ?_) (z := ?_) HE.out ?_ ?_ ?_ ?_); (any_goals rfl); intro w2 hE; dsimp only [List.set] at hE; replace HE := Lib.hid hE; clear hE)) | ((with_reducible refine wpl_build ?_ ?_); (any_goals rfl))
    | (go_at_call 16; refine (HMh.out _ (HT.out.below HE.out.be)).mono ?_; rintro e w2 ⟨rfl, hb⟩; replace HE := Lib.hid (HE.out.below hb); clear hb))
  have hgc := HE.out.cell _ (List.mem_cons_of_mem _ (List.mem_cons_of_mem _ List.mem_cons_self))
  have hgh := HE.out.cell _ List.mem_cons_self
  have hlc := (HE.out.lo _ (List.mem_cons_of_mem _ (List.mem_cons_of_mem _ List.mem_cons_self))).2
  have hlh := (HE.out.lo _ List.mem_cons_self).2
  obtain ⟨⟨c0, c1, c2, c3, c4, c5⟩, _⟩ := hgc
  obtain ⟨⟨d0, d1, d2, d3, d4, d5⟩, _⟩ := hgh
  dsimp only at c0 c1 c2 c3 c4 c5 d0 d1 d2 d3 d4 d5 hlc hlh
  go_region_held3 (fun x => x.cell? ⟨bc, 0, none⟩ = some (.bool (dn (wd c.re))) ∧ x.cell? ⟨bc, 1, none⟩ = some (.string (ds (wd c.re))) ∧ x.cell? ⟨bc, 2, none⟩ = some (.int .i64 (wd c.re).e) ∧ x.cell? ⟨bc, 3, none⟩ = some (.bool (dn (wd c.im))) ∧ x.cell? ⟨bc, 4, none⟩ = some (.string (ds (wd c.im))) ∧ x.cell? ⟨bc, 5, none⟩ = some (.int .i64 (wd c.im).e) ∧
      x.cell? ⟨bh, 0, none⟩ = some (.bool (dn (wd hh.re))) ∧ x.cell? ⟨bh, 1, none⟩ = some (.string (ds (wd hh.re))) ∧ x.cell? ⟨bh, 2, none⟩ = some (.int .i64 (wd hh.re).e) ∧ x.cell? ⟨bh, 3, none⟩ = some (.bool (dn (wd hh.im))) ∧ x.cell? ⟨bh, 4, none⟩ = some (.string (ds (wd hh.im))) ∧ x.cell? ⟨bh, 5, none⟩ = some (.int .i64 (wd hh.im).e))
    (refine ⟨?_, ?_, ?_, ?_, ?_, ?_, ?_, ?_, ?_, ?_, ?_, ?_⟩ <;> first
      | with_reducible assumption
      | (simp only [World.cell?_drew]; with_reducible assumption)
      | (rw [World.cell?_alloc_past _ _ _ hlc]; with_reducible assumption)
      | (rw [World.cell?_alloc_past _ _ _ hlh]; with_reducible assumption)
      | (rw [World.cell?_alloc_past _ _ _ lpc]; with_reducible assumption)
      | (rw [World.cell?_alloc_past _ _ _ lph]; with_reducible assumption)
      | (rw [World.cell?_alloc_past _ _ _ lqc]; with_reducible assumption)
      | (rw [World.cell?_alloc_past _ _ _ lqh]; with_reducible assumption)
      | (simp [go_sem, *]; done))
    (first
      | (go_at_call 49; refine (HCJh.out _).mono ?_; rintro e w5 ⟨rfl, hb5⟩; have hE5 := Env.below (by first | exact HE.out.dr | exact HE.out.new.dr | exact HE.out.dr.new) hb5; have HE5 := Lib.hid hE5; have pc := hE5.cell (bc, c) (by simp); have ph := hE5.cell (bh, hh) (by simp); have lpc := (hE5.lo (bc, c) (by simp)).2; have lph := (hE5.lo (bh, hh) (by simp)).2; obtain ⟨⟨p0, p1, p2, p3, p4, p5⟩, _⟩ := pc; obtain ⟨⟨p6, p7, p8, p9, p10, p11⟩, _⟩ := ph; dsimp only at p0 p1 p2 p3 p4 p5 p6 p7 p8 p9 p10 p11 lpc lph; clear hb5 hE5)
      | (go_at_call 16; refine (HUh.out _ (HT.out.below (by first | exact HE5.out.be | exact HE5.out.new.be))).mono ?_; rintro e w6 ⟨rfl, hb6⟩; have hE6 := Env.below (by first | exact HE5.out | exact HE5.out.new) hb6; have HE6 := Lib.hid hE6; have qc := hE6.cell (bc, c) (by simp); have qh := hE6.cell (bh, hh) (by simp); have lqc := (hE6.lo (bc, c) (by simp)).2; have lqh := (hE6.lo (bh, hh) (by simp)).2; obtain ⟨⟨q0, q1, q2, q3, q4, q5⟩, _⟩ := qc; obtain ⟨⟨q6, q7, q8, q9, q10, q11⟩, _⟩ := qh; dsimp only at q0 q1 q2 q3 q4 q5 q6 q7 q8 q9 q10 q11 lqc lqh; have hu := hE6.cell _ List.mem_cons_self; obtain ⟨⟨u0, u1, u2, u3, u4, u5⟩, uf⟩ := hu; dsimp only at u0 u1 u2 u3 u4 u5 uf; have hn6 := hE6.ne; simp only [List.pairwise_cons, List.mem_cons, List.not_mem_nil, or_false, forall_eq_or_imp, forall_eq, false_imp_iff, implies_true, and_true, List.Pairwise.nil, ne_eq] at hn6; have hnc : ¬ w6.heap.size = bc := (by omega); have hnh : ¬ w6.heap.size = bh := (by omega); clear hb6 hE6))
  -- BEHIND
  all_goals
    first
      | (obtain ⟨w7, hw7, hE7⟩ := env_new_gen HE6.out up; rw [← hw7])
      | (obtain ⟨w7, hw7, hE7⟩ := env_set_gen HE6.out (i := 0) rfl up; rw [← hw7])
    clear hw7 c0 c1 c2 c3 c4 c5 d0 d1 d2 d3 d4 d5 p0 p1 p2 p3 p4 p5 p6 p7 p8 p9 p10 p11 q0 q1 q2 q3 q4 q5 q6 q7 q8 q9 q10 q11 u0 u1 u2 u3 u4 u5 uf hn6 hnc hnh hlc hlh lpc lph lqc lqh HE5 HE6
    replace HE := Lib.hid hE7
    clear hE7
    try dsimp only [List.set] at HE
    go_wp2_with (first
      | ((with_reducible refine wpl_load (b := ?_) (z := ?_) HE.out ?_ ?_ ?_ ?_); (any_goals rfl); (any_goals with_reducible (repeat (first | exact List.mem_cons_self | apply List.mem_cons_of_mem)))) | ((with_reducible refine wpl_load (b := ?_) (z := ?_) (HE.out.below (alloc_below _ _)) ?_ ?_ ?_ ?_); (any_goals rfl); (any_goals with_reducible (repeat (first | exact List.mem_cons_self | apply List.mem_cons_of_mem))))
      | (go_at_call 50; refine (HNh.out _ (HT.out.below HE.out.be)).mono ?_; rintro e w8 ⟨rfl, hb⟩; replace HE := Lib.hid (HE.out.below hb); clear hb)
      | (go_at_call 20; refine (HNRh.out _).mono ?_; rintro e w9 ⟨F, G, rfl, hFG, hb⟩; have r0 : w9.cell? ⟨w8.heap.size, 0, none⟩ = some (.bool (dn (wd nn))) := (hb.cell (p := ⟨w8.heap.size, 0, none⟩) (by simp)).trans (by simp [go_sem]); have r1 : w9.cell? ⟨w8.heap.size, 1, none⟩ = some (.string (ds (wd nn))) := (hb.cell (p := ⟨w8.heap.size, 1, none⟩) (by simp)).trans (by simp [go_sem]); have r2 : w9.cell? ⟨w8.heap.size, 2, none⟩ = some (.int .i64 (wd nn).e) := (hb.cell (p := ⟨w8.heap.size, 2, none⟩) (by simp)).trans (by simp [go_sem]);
          have hz1 := run_toint hFG.1 HB1.out; have hz2 := run_toint hFG.2 HB2.out; dsimp only at hz1 hz2; replace HE := Lib.hid ((HE.out.below (alloc_below _ _)).below hb); clear hb hFG)
      | (go_at_call 51; refine (HDNh.out _).mono ?_; rintro e w10 ⟨Y, rfl, hY, hb⟩; have hz3 := run_toint hY HB3.out; have hy0 : (FloatKind.f64.format.order Y 0 == some .eq) = false := (show feq Y 0 = false by rw [hY.zero]; exact decide_eq_false HNN.out); have hm1 := HM1.out; have hm2 := HM2.out; have hnn := HNN.out; clear r0 r1 r2; replace HE := Lib.hid (HE.out.below hb); clear hb)
      | (go_at_call 14; refine (lawall_any _ 4 (by decide) _ (oks4 _ _)).mono ?_; rintro e w' ⟨rfl, rfl⟩))
    go_ret
    exact ⟨rfl, (HE.out.below (alloc_below _ _)).be⟩
/-- filigreelaw09.multiple, of a multiple of a square. -/
theorem multiple_any (h t c : Zi) (hc : c = zmul (zmul h h) t) (hh : zn h ≤ 16) (hb : zn c * 256 < 9007199254740992) (w : World) (hT : Tab w) :
    Calls Tryz.prog 19 #[gv c, gv h] w fun e w' => e = .returned (.bool true) ∧ Below w.heap.size w w' := by
  have hzh : Zb 400 h := (Zb.of (k := 53) (by omega)).mono (by decide)
  have hhh := Nat.le_trans (zn_mul h h) (Nat.mul_le_mul hh hh)
  have hzhh : Zb 400 (zmul h h) := (Zb.of (k := 53) (by omega)).mono (by decide)
  have hzc : Zb 400 c := (Zb.of (k := 53) (by omega)).mono (by decide)
  by_cases h0 : zmul h h = z0
  · subst hc
    rw [mult_zero h0]
    exact multiple_zero h h0 hzh w hT
  · have hmp := mult_parts (zmul h h) t
    rw [← hc] at hmp
    have hub := zn_mul c (zcon (zmul h h))
    rw [zn_con] at hub
    have hub2 : zn c * zn (zmul h h) ≤ zn c * 256 := Nat.mul_le_mul_left _ (by omega)
    have hup := zn_parts (zmul c (zcon (zmul h h)))
    have hnb := znorm_le (zmul h h)
    have hnb2 : zn (zmul h h) * zn (zmul h h) ≤ 256 * 256 := Nat.mul_le_mul (by omega) (by omega)
    have hcon : Zb 400 (zcon (zmul h h)) := ⟨hzhh.1, by show bl (-(zmul h h).im).natAbs ≤ 400; rw [Int.natAbs_neg]; exact hzhh.2⟩
    have e1 : (zmul c (zcon (zmul h h))).re = znorm (zmul h h) * t.re := by rw [hmp]
    have e2 : (zmul c (zcon (zmul h h))).im = znorm (zmul h h) * t.im := by rw [hmp]
    exact multiple_core c h (zmul h h) (zcon (zmul h h)) (zmul c (zcon (zmul h h))) (znorm (zmul h h)) (fun w hT => gvz_mul h h hzh hzh w hT) (fun w => gz_conj (zmul h h) hzhh w) (fun w hT => gz_mul c (zcon (zmul h h)) hzc hcon w hT)
      (fun w hT => gvz_norm (zmul h h) hzhh w hT) (fun w => gvz_near _ (by omega) (by omega) w) (fun w => dnear_any _ (by omega) w) h0 (fun e => h0 (znorm_zero e)) (by rw [e1]; exact tmod_mul _ _) (by rw [e2]; exact tmod_mul _ _) (by omega) (by omega) (by omega) w hT
end Go.Proofs.YtbgjcpnbdgljbaaGreatDoor

/- What PolyWhole reckons with, and its bounds. -/
namespace Go.Proofs.YtbgjcpnbdgljbaaGreatDoor
open Go.RowKit Go.Fil Go.Shelf

theorem horn_of {l : List Zi} {g : Zi} (hl : l.length ≤ 17) (hc : ∀ c ∈ l, zn c ≤ 1152921504606846976) (hg : zn g ≤ 32) : Horn l g := by
  have hgeo : 1152921504606846976 * geo 32 17 * 32 < 2 ^ 200 := by decide +kernel
  have hs : ∀ k, zn (zev (l.drop k) g) ≤ 1152921504606846976 * geo 32 17 := by
    intro k
    have h1 := zn_zev (p := l.drop k) (fun c h => hc c (List.mem_of_mem_drop h)) hg
    refine Nat.le_trans h1 (Nat.mul_le_mul_left _ (geo_mono 32 (by decide) ?_))
    rw [List.length_drop]; omega
  refine ⟨(Zb.of (k := 6) (by omega)).mono (by decide), fun k => ?_, fun k => ?_, fun k hk => ?_⟩
  · refine (Zb.of (k := 200) (Nat.lt_of_le_of_lt (hs k) (Nat.lt_of_le_of_lt ?_ hgeo))).mono (by decide)
    exact Nat.le_mul_of_pos_right _ (by decide)
  · exact (Zb.of (k := 200) (Nat.lt_of_le_of_lt (Nat.le_trans (zn_mul _ _) (Nat.mul_le_mul (hs k) hg)) hgeo)).mono (by decide)
  · refine (Zb.of (k := 61) ?_).mono (by decide)
    have := hc (nthZ l k) (by rw [nthZ_eq hk]; exact List.getElem_mem hk)
    omega
/-- The polynomial that little makes. -/
structure Little (P : List Zi) (ps : List Cc) (n : Nat) : Prop where
  len : P.length = n
  le : n ≤ 9
  zn : ∀ c ∈ P, zn c ≤ 16
  fc : FCs ps P
  ck : checkS ps = true
theorem zlit_zn (xs : List Int) (k : Nat) : ∀ c ∈ zlit xs k, zn c ≤ 16 := by
  intro c hc
  unfold zlit at hc
  obtain ⟨j, _, rfl⟩ := List.mem_map.1 hc
  exact zn_near _ _
theorem ZCut.check {l : List Zi} {m : Nat} {rs : List Cc} (hc : ZCut l m) (hf : FCs rs (l.take m)) (h17 : m ≤ 17) : (l.take m).length = m ∧ checkS rs = true := by
  have hl : (l.take m).length = m := by rw [List.length_take]; have := hc.le; omega
  refine ⟨hl, hf.check (by omega) ?_⟩
  rw [hl]
  rcases hc.last with h | h
  · exact .inl h
  · rcases Nat.eq_zero_or_pos m with h0 | h0
    · exact .inl h0
    · exact .inr (by rw [nthZ_take (by omega)]; exact h)
theorem Little.of {xs : List Int} {rs : List Cc} {m k : Nat} (hk : k ≤ 9) (hc : ZCut (zlit xs k) m) (hf : FCs rs ((zlit xs k).take m)) : Little ((zlit xs k).take m) rs m := by
  have hle := hc.le
  rw [zlit_length] at hle
  obtain ⟨h1, h2⟩ := hc.check hf (by omega)
  exact ⟨h1, by omega, fun c h => zlit_zn xs k c (List.mem_of_mem_take h), hf, h2⟩
theorem Little.pl {P : List Zi} {ps : List Cc} {n : Nat} (h : Little P ps n) (k : Nat) : Go.Fil.zn (zpl P k) ≤ 16 := by
  unfold zpl
  rw [List.getD_eq_getElem?_getD]
  rcases Nat.lt_or_ge k P.length with h1 | h1
  · rw [List.getElem?_eq_getElem h1]; exact h.zn _ (List.getElem_mem h1)
  · rw [List.getElem?_eq_none h1]; decide
theorem Little.horn {P : List Zi} {ps : List Cc} {n : Nat} (h : Little P ps n) {g : Zi} (hg : Go.Fil.zn g ≤ 32) : Horn P g :=
  horn_of (by have := h.len; have := h.le; omega) (fun c hc => Nat.le_trans (h.zn c hc) (by decide)) hg
theorem Little.zsl {P : List Zi} {ps : List Cc} {n : Nat} (h : Little P ps n) : ∀ c ∈ zsl P, Go.Fil.zn c ≤ 160 := by
  intro c hc
  unfold Go.Proofs.YtbgjcpnbdgljbaaGreatDoor.zsl at hc
  have h1 := zn_zdl (p := P.drop 1) 1 (fun c hc => h.zn c (List.mem_of_mem_drop hc)) c hc
  rw [List.length_drop] at h1
  have h2 := h.len
  have h3 := h.le
  have h4 : (1 + (P.length - 1)) * 16 ≤ 10 * 16 := Nat.mul_le_mul_right _ (by omega)
  omega
theorem Little.slope {P : List Zi} {ps : List Cc} {n : Nat} (h : Little P ps n) {g : Zi} (hg : Go.Fil.zn g ≤ 16) : Horn (Go.Proofs.YtbgjcpnbdgljbaaGreatDoor.zsl P) g :=
  horn_of (by rw [slope_length]; have := h.len; have := h.le; omega) (fun c hc => Nat.le_trans (h.zsl c hc) (by decide)) (by omega)
theorem Little.ev {P : List Zi} {ps : List Cc} {n : Nat} (h : Little P ps n) {g : Zi} (hg : Go.Fil.zn g ≤ 32) : Go.Fil.zn (zev P g) ≤ 18159675916816 := by
  have g1 : geo 32 9 = 1134979744801 := by decide +kernel
  have b1 := zn_zev (p := P) (g := g) (C := 16) (G := 32) h.zn hg
  have c1 := Nat.mul_le_mul_left 16 (geo_mono 32 (by decide) (show P.length ≤ 9 by have := h.len; have := h.le; omega))
  rw [g1] at c1
  exact Nat.le_trans b1 c1
theorem Little.der {P : List Zi} {ps : List Cc} {n : Nat} (h : Little P ps n) {g : Zi} (hg : Go.Fil.zn g ≤ 16) : Go.Fil.zn (zev (Go.Proofs.YtbgjcpnbdgljbaaGreatDoor.zsl P) g) ≤ 659706976656 := by
  have e : zev (Go.Proofs.YtbgjcpnbdgljbaaGreatDoor.zsl P) g = zder P g := by
    cases P with
    | nil => rfl
    | cons c q => rw [zder_cons]; rfl
  rw [e]
  have g2 : geo 16 9 = 4581298449 := by decide +kernel
  have hl : P.length ≤ 9 := by have := h.len; have := h.le; omega
  have b3 := zn_zder (p := P) (g := g) (C := 16) (G := 16) h.zn hg
  have c3 : P.length * 16 * geo 16 P.length ≤ 9 * 16 * geo 16 9 := Nat.mul_le_mul (Nat.mul_le_mul_right _ hl) (geo_mono 16 (by decide) hl)
  rw [g2] at c3
  exact Nat.le_trans b3 c3
theorem zsl_der (P : List Zi) (g : Zi) : zev (zsl P) g = zder P g := by
  cases P with
  | nil => rfl
  | cons c q => rw [zder_cons]; rfl
section
variable {P Q : List Zi} {ps qs : List Cc} {n1 n2 : Nat} (hp : Little P ps n1) (hq : Little Q qs n2) {g h : Zi} (hg : zn g ≤ 16) (hh : zn h ≤ 16)
include hp hq in
/-- The sum's polynomial. -/
theorem sum_poly {m : Nat} {rs : List Cc} (hc : ZCut (zsums P Q (max n1 n2)) m) (hf : FCs rs ((zsums P Q (max n1 n2)).take m)) :
    m ≤ 17 ∧ ((zsums P Q (max n1 n2)).take m).length = m ∧ checkS rs = true ∧ (∀ g, zn g ≤ 16 → Horn ((zsums P Q (max n1 n2)).take m) g) ∧ ∀ g, zev ((zsums P Q (max n1 n2)).take m) g = zadd (zev P g) (zev Q g) := by
  have h1 := hp.le
  have h2 := hq.le
  have h3 := hp.len
  have h4 := hq.len
  have hle := hc.le
  rw [zsums_length] at hle
  obtain ⟨c1, c2⟩ := hc.check hf (by omega)
  refine ⟨by omega, c1, c2, fun g hg => horn_of (by omega) (fun c hcm => ?_) (by omega), fun g => ?_⟩
  · have hm := List.mem_of_mem_take hcm
    unfold zsums at hm
    obtain ⟨j, _, rfl⟩ := List.mem_map.1 hm
    have a1 := zn_add (zpl P j) (zpl Q j)
    have a2 := hp.pl j
    have a3 := hq.pl j
    exact Nat.le_trans (show zn (zadd (zpl P j) (zpl Q j)) ≤ 32 by omega) (by decide)
  · rw [zev_take hc.z]
    exact zev_add P Q g (by omega) (by omega)
theorem zn_cv (P Q : List Zi) (hP : ∀ k, zn (zpl P k) ≤ 16) (hQ : ∀ k, zn (zpl Q k) ≤ 16) (k : Nat) : ∀ i, zn (zpart P Q k i) ≤ i * 256 := by
  intro i
  induction i with
  | zero => exact Nat.zero_le _
  | succ i ih =>
    rw [zpart]
    by_cases hki : k < i
    · rw [if_pos hki]
      exact Nat.le_trans ih (Nat.mul_le_mul_right _ (Nat.le_succ i))
    · rw [if_neg hki, Nat.succ_mul]
      have h2 := Nat.le_trans (zn_mul (zpl P i) (zpl Q (k - i))) (Nat.mul_le_mul (hP i) (hQ (k - i)))
      exact Nat.le_trans (zn_add _ _) (Nat.add_le_add ih h2)
include hp hq in
/-- The product's polynomial. -/
theorem prod_poly {m : Nat} {rs : List Cc} (h0 : 0 < n1) (h0' : 0 < n2) (hc : ZCut (zprods P Q (n1 + n2 - 1)) m) (hf : FCs rs ((zprods P Q (n1 + n2 - 1)).take m)) :
    m ≤ 17 ∧ ((zprods P Q (n1 + n2 - 1)).take m).length = m ∧ checkS rs = true ∧ (∀ g, zn g ≤ 16 → Horn ((zprods P Q (n1 + n2 - 1)).take m) g) ∧ ∀ g, zev ((zprods P Q (n1 + n2 - 1)).take m) g = zmul (zev P g) (zev Q g) := by
  have h1 := hp.le
  have h2 := hq.le
  have h3 := hp.len
  have h4 := hq.len
  have hle := hc.le
  rw [zprods_length] at hle
  obtain ⟨c1, c2⟩ := hc.check hf (by omega)
  refine ⟨by omega, c1, c2, fun g hg => horn_of (by omega) (fun c hcm => ?_) (by omega), fun g => ?_⟩
  · have hm := List.mem_of_mem_take hcm
    unfold zprods at hm
    obtain ⟨j, _, rfl⟩ := List.mem_map.1 hm
    rw [← zpart_all]
    have a1 := zn_cv P Q hp.pl hq.pl j P.length
    have a2 : P.length * 256 ≤ 9 * 256 := Nat.mul_le_mul_right _ (by omega)
    exact Nat.le_trans (Nat.le_trans a1 a2) (by decide)
  · rw [zev_take hc.z]
    unfold zprods
    rw [← h3, ← h4]
    exact zev_mul P Q g (by omega) (by omega)
include hp hg hh in
/-- The way from g to g + h. -/
theorem way_poly : ∃ t, zsub (zsub (zev P (zadd g h)) (zev P g)) (zmul (zev (zsl P) g) h) = zmul (zmul h h) t ∧ zn (zsub (zsub (zev P (zadd g h)) (zev P g)) (zmul (zev (zsl P) g) h)) * 256 < 9007199254740992 := by
  obtain ⟨t, ht⟩ := taylor P g h
  refine ⟨t, ?_, ?_⟩
  · rw [ht, zsl_der]
    apply Zi.ext' <;> simp only [zsub, zadd, zmul] <;> grind
  · have hl : P.length ≤ 9 := by have := hp.len; have := hp.le; omega
    have g1 : geo 32 9 = 1134979744801 := by decide +kernel
    have g2 : geo 16 9 = 4581298449 := by decide +kernel
    have b1 := zn_zev (p := P) (g := zadd g h) (C := 16) (G := 32) hp.zn (by have := zn_add g h; omega)
    have b2 := zn_zev (p := P) (g := g) (C := 16) (G := 16) hp.zn hg
    have b3 := zn_zder (p := P) (g := g) (C := 16) (G := 16) hp.zn hg
    have c1 := Nat.mul_le_mul_left 16 (geo_mono 32 (by decide) hl)
    have c2 := Nat.mul_le_mul_left 16 (geo_mono 16 (by decide) hl)
    have c3 : P.length * 16 * geo 16 P.length ≤ 9 * 16 * geo 16 9 := Nat.mul_le_mul (Nat.mul_le_mul_right _ hl) (geo_mono 16 (by decide) hl)
    have c4 := zn_mul (zder P g) h
    have c5 : zn (zder P g) * zn h ≤ zn (zder P g) * 16 := Nat.mul_le_mul_left _ hh
    have c6 := zn_sub (zsub (zev P (zadd g h)) (zev P g)) (zmul (zder P g) h)
    have c7 := zn_sub (zev P (zadd g h)) (zev P g)
    rw [zsl_der]
    omega
include hp hg hh in
/-- The quotient's polynomial. -/
theorem quo_poly {rs : List Cc} (h2 : 2 ≤ n1) (hf : FCs rs (zquo h P).2) : (zquo h P).2.length = n1 - 1 ∧ checkS rs = true ∧ Horn (zquo h P).2 g ∧ zn (zquo h P).1 ≤ 73300775184 ∧ zn (zev (zquo h P).2 g) ≤ 1000000000000000000000 ∧ zadd (zmul (zev (zquo h P).2 g) (zsub g h)) (zquo h P).1 = zev P g := by
  have hl := hp.len
  have hle := hp.le
  have hlen : (zquo h P).2.length = n1 - 1 := by
    cases P with
    | nil => simp at hl; omega
    | cons c q => rw [zquo_length]; simp at hl; omega
  have g2 : geo 16 9 = 4581298449 := by decide +kernel
  have c2 := Nat.mul_le_mul_left 16 (geo_mono 16 (by decide) (show P.length ≤ 9 by omega))
  obtain ⟨b1, b2⟩ := zn_zquo (p := P) (r := h) (C := 16) (G := 16) hp.zn hh
  refine ⟨hlen, ?_, horn_of (by omega) (fun c hc => ?_) (by omega), by omega, ?_, zquo_ev h P g⟩
  · refine hf.check (by omega) (.inr ?_)
    have e1 : nthZ (zquo h P).2 ((zquo h P).2.length - 1) = zpl P (n1 - 1) := by
      obtain ⟨j, hj⟩ : ∃ j, n1 = j + 2 := ⟨n1 - 2, by omega⟩
      rw [hlen]
      have := zquo_top (r := h) (p := P) (n := j) (by omega)
      rw [show n1 - 1 - 1 = j by omega, show n1 - 1 = j + 1 by omega]
      exact this
    rw [e1]
    have hck := hp.ck
    have hfc := hp.fc
    intro hz
    have h3 := hfc.2 (n1 - 1) (by omega)
    have h4 : czero (nth ps (n1 - 1)).1 (nth ps (n1 - 1)).2 = true := by
      rw [h3.zero]
      exact decide_eq_true hz
    unfold checkS lastzero czeroC at hck
    rw [hfc.1, hl, h4] at hck
    simp at hck
    omega
  · have := b2 c hc
    omega
  · have b3 := zn_zev (p := (zquo h P).2) (g := g) (C := 73300775184) (G := 16) (fun c hc => by have := b2 c hc; omega) hg
    have b4 := Nat.mul_le_mul_left 73300775184 (geo_mono 16 (by decide) (show (zquo h P).2.length ≤ 9 by omega))
    rw [g2] at b4
    exact Nat.le_trans b3 (Nat.le_trans b4 (by decide))
end
/-- What a function that makes a polynomial answers, of which it is known what it makes of a number. -/
def RPolyZ (f : Zi → Zi) (w : World) (e : Ending) (w' : World) : Prop := ∃ v T ts m, T.length = m ∧ m ≤ 17 ∧ FCs ts T ∧ checkS ts = true ∧ (∀ g, zn g ≤ 16 → Horn T g) ∧ (∀ g, zev T g = f g) ∧ e = .returned (.tuple #[v, .int .i64 0]) ∧ w'.ownsRow w.heap.size 41 1 v m (ts.map cv) ∧ Below w.heap.size w w'
section
variable {P Q : List Zi} {ps qs : List Cc} {n1 n2 : Nat} (hp : Little P ps n1) (hq : Little Q qs n2) (A1 A2 : Option Addr) (c1 c2 : Nat) (w : World) (hs1 : Seq w w.heap.size A1 (ps.map cv)) (hs2 : Seq w w.heap.size A2 (qs.map cv))
include hp hq hs1 hs2
theorem add_poly : Calls Tryz.prog 12 #[.slice A1 n1 c1, .slice A2 n2 c2] w (RPolyZ (fun g => zadd (zev P g) (zev Q g)) w) := by
  have h1 := hp.le
  have h2 := hq.le
  refine (pAdd_any A1 A2 n1 c1 n2 c2 ps qs P Q hp.len hq.len (by omega) (by omega) hp.fc hq.fc hp.ck hq.ck (fun k => Nat.le_trans (hp.pl k) (by decide)) (fun k => Nat.le_trans (hq.pl k) (by decide)) w hs1 hs2).mono ?_
  rintro e w' ⟨v, rs, m, hc, hf, he, ho, hb⟩
  obtain ⟨s1, s2, s3, s4, s5⟩ := sum_poly hp hq hc hf
  exact ⟨v, _, rs, m, s2, s1, hf, s3, s4, s5, he, ho, hb⟩
theorem mul_poly : Calls Tryz.prog 15 #[.slice A1 n1 c1, .slice A2 n2 c2] w (RPolyZ (fun g => zmul (zev P g) (zev Q g)) w) := by
  have h1 := hp.le
  have h2 := hq.le
  by_cases h0 : n1 = 0 ∨ n2 = 0
  · refine (pMul_none A1 A2 n1 c1 n2 c2 ps qs (hp.fc.1.trans hp.len) (hq.fc.1.trans hq.len) (by omega) (by omega) h0 hp.ck hq.ck w hs1 hs2).mono ?_
    rintro e w' ⟨v, rs, m, hc, hf, he, ho, hb⟩
    have hm : m = 0 := by have := hc.le; simpa using this
    subst hm
    refine ⟨v, [], rs, 0, rfl, by decide, by simpa using hf, ?_, fun g hg => horn_of (by decide) (by simp) (by omega), fun g => ?_, he, ho, hb⟩
    · have hr : rs = [] := List.eq_nil_of_length_eq_zero (by simpa using hf.1)
      subst hr; decide
    · rcases h0 with h0 | h0
      · have : P = [] := List.eq_nil_of_length_eq_zero (hp.len.trans h0)
        subst this; simp [zev, zero_zmul]
      · have : Q = [] := List.eq_nil_of_length_eq_zero (hq.len.trans h0)
        subst this; simp [zev, zmul_zero]
  · refine (pMul_some A1 A2 n1 c1 n2 c2 ps qs P Q hp.len hq.len (by omega) (by omega) (by omega) hp.fc hq.fc hp.ck hq.ck (fun k => Nat.le_trans (hp.pl k) (by decide)) (fun k => Nat.le_trans (hq.pl k) (by decide)) w hs1 hs2).mono ?_
    rintro e w' ⟨v, rs, m, hc, hf, he, ho, hb⟩
    obtain ⟨s1, s2, s3, s4, s5⟩ := prod_poly hp hq (by omega) (by omega) hc hf
    exact ⟨v, _, rs, m, s2, s1, hf, s3, s4, s5, he, ho, hb⟩
end
end Go.Proofs.YtbgjcpnbdgljbaaGreatDoor
