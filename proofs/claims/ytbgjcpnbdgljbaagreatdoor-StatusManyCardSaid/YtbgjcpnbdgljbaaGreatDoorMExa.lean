/- poly.exact at whole numbers: its closures. -/
import Derived.Test.YtbgjcpnbdgljbaaGreatDoorMGwh
import Derived.StillTailTactics
namespace Go.Proofs.YtbgjcpnbdgljbaaGreatDoor
open Go.RowKit Go.Fil Go.Shelf

/-- What stands there is written anew. -/
theorem below_same {B : Nat} {w w1 : World} {k : Nat} {t : TypeId} (hb : Below B w w1) (h : w1.heap[k]? = some (.cells #[.int .i64 0] t (0, 0))) : Below B w (w1.setCell ⟨k, 0, none⟩ (.int .i64 0)) := by
  have h1 := heap_setCell_same w1 k 0 _ _ (.int .i64 0) h
  refine ⟨hb.os, hb.tape, hb.output, by simpa using hb.size, fun i hi => ?_⟩
  by_cases hik : i = k
  · subst hik
    rw [h1, ← hb.block i hi, h]; rfl
  · rw [heap_setCell_other _ ⟨k, 0, none⟩ i _ (fun e => hik (by simp [e]))]
    exact hb.block i hi
/-- An exact number's block. -/
def NumAt (w : World) (g : Nat) (z : Zi) : Prop := w.cell? ⟨g, 0, none⟩ = some (.bool (dn (wd z.re))) ∧ w.cell? ⟨g, 1, none⟩ = some (.string (ds (wd z.re))) ∧ w.cell? ⟨g, 2, none⟩ = some (.int .i64 (wd z.re).e) ∧ w.cell? ⟨g, 3, none⟩ = some (.bool (dn (wd z.im))) ∧ w.cell? ⟨g, 4, none⟩ = some (.string (ds (wd z.im))) ∧ w.cell? ⟨g, 5, none⟩ = some (.int .i64 (wd z.im).e)
theorem NumAt.below {w w' : World} {g B : Nat} {z : Zi} (h : NumAt w g z) (hb : Below B w w') (hg : g < B) : NumAt w' g z :=
  ⟨(hb.cell (p := ⟨g, 0, none⟩) hg).trans h.1, (hb.cell (p := ⟨g, 1, none⟩) hg).trans h.2.1, (hb.cell (p := ⟨g, 2, none⟩) hg).trans h.2.2.1, (hb.cell (p := ⟨g, 3, none⟩) hg).trans h.2.2.2.1, (hb.cell (p := ⟨g, 4, none⟩) hg).trans h.2.2.2.2.1, (hb.cell (p := ⟨g, 5, none⟩) hg).trans h.2.2.2.2.2⟩
/-- What the step has caught: no fault yet, and the number. -/
structure ExAt (w : World) (fb gb : Nat) (g : Zi) : Prop where
  f : w.heap[fb]? = some (.cells #[.int .i64 0] 33 (0, 0))
  n : NumAt w gb g
  lg : gb < w.heap.size
theorem ExAt.lf {w : World} {fb gb : Nat} {g : Zi} (h : ExAt w fb gb g) : fb < w.heap.size := by
  rcases Nat.lt_or_ge fb w.heap.size with hh | hh
  · exact hh
  · have := h.f
    rw [Array.getElem?_eq_none hh] at this; cases this
theorem ExAt.below {w w' : World} {fb gb : Nat} {g : Zi} (h : ExAt w fb gb g) (hb : Below w.heap.size w w') : ExAt w' fb gb g :=
  ⟨by rw [hb.block fb h.lf]; exact h.f, h.n.below hb h.lg, Nat.lt_of_lt_of_le h.lg hb.size⟩
theorem ExAt.c {w : World} {fb gb : Nat} {g : Zi} (h : ExAt w fb gb g) : w.cell? ⟨fb, 0, none⟩ = some (.int .i64 0) ∧ w.frozen? ⟨fb, 0, none⟩ = false := by
  refine ⟨?_, frozen_of_row w fb 0 _ _ h.f⟩
  rw [cell_of_row w fb 0 _ _ (0, 0) h.f]; rfl
set_option maxRecDepth 100000 in
theorem ex1_any (z : Zi) (w : World) : Calls Tryz.prog 85 #[.agg #[.bool (dn (wd z.re)), .string (ds (wd z.re)), .int .i64 (wd z.re).e, .bool (dn (wd z.im)), .string (ds (wd z.im)), .int .i64 (wd z.im).e]] w fun e w' => e = .returned (.agg #[.bool (dn (wd z.re)), .string (ds (wd z.re)), .int .i64 (wd z.re).e, .bool (dn (wd z.im)), .string (ds (wd z.im)), .int .i64 (wd z.im).e]) ∧ Below w.heap.size w w' := by
  generalize dn (wd z.re) = na at *
  generalize ds (wd z.re) = sa at *
  generalize (wd z.re).e = xa at *
  generalize dn (wd z.im) = nb at *
  generalize ds (wd z.im) = sb at *
  generalize (wd z.im).e = xb at *
  go_enter Tryz.func85, Tryz.ntmps85
  go_wp2
  exact bodyPost_ret (v := .agg #[.bool na, .string sa, .int .i64 xa, .bool nb, .string sb, .int .i64 xb]) (by simp [results, Tryz.results85, go_sem]) rfl ⟨rfl, by repeat (first | exact Below.refl _ _ | refine below_drewN ?_ _ | refine Below.alloc ?_ (by first | omega | (simp; omega) | simp) _ | refine Below.setCell ?_ (by first | omega | (simp; omega) | simp) _ | refine Below.trans ?_ (Below.mono (by assumption) (by first | omega | (simp; omega) | simp)) | apply Below.drew)⟩
set_option maxRecDepth 100000 in
set_option maxHeartbeats 6400000 in
theorem ex2_any (y c g : Zi) (hy : Zb 400 y) (hg : Zb 400 g) (hp : Zb 400 (zmul y g)) (hc : Zb 400 c) (fb gb : Nat) (w : World) (hT : Tab w) (hx : ExAt w fb gb g) :
    Calls Tryz.prog 86 #[.agg #[.bool (dn (wd y.re)), .string (ds (wd y.re)), .int .i64 (wd y.re).e, .bool (dn (wd y.im)), .string (ds (wd y.im)), .int .i64 (wd y.im).e], .agg #[.bool (dn (wd c.re)), .string (ds (wd c.re)), .int .i64 (wd c.re).e, .bool (dn (wd c.im)), .string (ds (wd c.im)), .int .i64 (wd c.im).e], .pointer (some ⟨fb, 0, none⟩), .pointer (some ⟨gb, 0, none⟩)] w fun e w' => e = .returned (.agg #[.bool (dn (wd (zadd (zmul y g) c).re)), .string (ds (wd (zadd (zmul y g) c).re)), .int .i64 (wd (zadd (zmul y g) c).re).e, .bool (dn (wd (zadd (zmul y g) c).im)), .string (ds (wd (zadd (zmul y g) c).im)), .int .i64 (wd (zadd (zmul y g) c).im).e]) ∧ Below w.heap.size w w' := by
  have HM := Lib.hid (fun w hT => gz_mul y g hy hg w hT)
  have HA := Lib.hid (fun w hT => gz_add (zmul y g) c hp hc w hT)
  have HT := Lib.hid hT
  have HX := Lib.hid hx
  have hgn := hx.n
  unfold NumAt at hgn
  have p1 := hx.lg
  have p2 := hx.lf
  have q0 := hx.c.1
  unfold RZ RGv at HM HA
  clear hT hx hy hg hp hc
  generalize dn (wd y.re) = na at *
  generalize ds (wd y.re) = sa at *
  generalize (wd y.re).e = xa at *
  generalize dn (wd y.im) = nb at *
  generalize ds (wd y.im) = sb at *
  generalize (wd y.im).e = xb at *
  generalize dn (wd c.re) = nc at *
  generalize ds (wd c.re) = sc at *
  generalize (wd c.re).e = xc at *
  generalize dn (wd c.im) = nd at *
  generalize ds (wd c.im) = sd at *
  generalize (wd c.im).e = xd at *
  generalize dn (wd g.re) = ne at *
  generalize ds (wd g.re) = se at *
  generalize (wd g.re).e = xe at *
  generalize dn (wd g.im) = nf at *
  generalize ds (wd g.im) = sf at *
  generalize (wd g.im).e = xf at *
  generalize dn (wd (zmul y g).re) = np at *
  generalize ds (wd (zmul y g).re) = sp at *
  generalize (wd (zmul y g).re).e = xp at *
  generalize dn (wd (zmul y g).im) = nq at *
  generalize ds (wd (zmul y g).im) = sq at *
  generalize (wd (zmul y g).im).e = xq at *
  generalize dn (wd (zadd (zmul y g) c).re) = nr at *
  generalize ds (wd (zadd (zmul y g) c).re) = sr at *
  generalize (wd (zadd (zmul y g) c).re).e = xr at *
  generalize dn (wd (zadd (zmul y g) c).im) = nt at *
  generalize ds (wd (zadd (zmul y g) c).im) = st at *
  generalize (wd (zadd (zmul y g) c).im).e = xt at *
  obtain ⟨g0, g1, g2, g3, g4, g5⟩ := hgn
  have hb3 : Below w.heap.size w (((w.alloc (.cells #[.bool na, .string sa, .int .i64 xa, .bool nb, .string sb, .int .i64 xb] 31)).alloc (.cells #[.bool nc, .string sc, .int .i64 xc, .bool nd, .string sd, .int .i64 xd] 31)).alloc (.cells #[.bool false, .string ⟨#[]⟩, .int .i64 0, .bool false, .string ⟨#[]⟩, .int .i64 0] 31)) := by repeat (first | exact Below.refl _ _ | refine below_drewN ?_ _ | refine Below.alloc ?_ (by first | omega | (simp; omega) | simp) _ | refine Below.setCell ?_ (by first | omega | (simp; omega) | simp) _ | refine Below.trans ?_ (Below.mono (by assumption) (by first | omega | (simp; omega) | simp)) | apply Below.drew)
  have HB3 := Lib.hid hb3
  have h0 := (hb3.cell (p := ⟨gb, 0, none⟩) p1).trans g0
  have h1 := (hb3.cell (p := ⟨gb, 1, none⟩) p1).trans g1
  have h2 := (hb3.cell (p := ⟨gb, 2, none⟩) p1).trans g2
  have h3 := (hb3.cell (p := ⟨gb, 3, none⟩) p1).trans g3
  have h4 := (hb3.cell (p := ⟨gb, 4, none⟩) p1).trans g4
  have h5 := (hb3.cell (p := ⟨gb, 5, none⟩) p1).trans g5
  have hf0 := (hb3.cell (p := ⟨fb, 0, none⟩) p2).trans q0
  clear hb3 g0 g1 g2 g3 g4 g5 q0
  go_enter Tryz.func86, Tryz.ntmps86
  go_wp2_with fail
  refine (HM.out _ (HT.out.below HB3.out)).mono ?_
  rintro en w1 ⟨rfl, hb⟩
  have HB1 := Lib.hid (HB3.out.trans (hb.mono HB3.out.size))
  have HX1 := Lib.hid (HX.out.below HB1.out)
  have s1 := hb.size
  simp only [heap_size_alloc'] at s1
  have u0 := HX1.out.c.1
  have u1 := HX1.out.c.2
  have k0 : w1.cell? ⟨w.heap.size, 0, none⟩ = some (.bool na) := (hb.cell (p := ⟨w.heap.size, 0, none⟩) (by simp <;> omega)).trans (by simp [go_sem])
  have k1 : w1.cell? ⟨w.heap.size, 1, none⟩ = some (.string sa) := (hb.cell (p := ⟨w.heap.size, 1, none⟩) (by simp <;> omega)).trans (by simp [go_sem])
  have k2 : w1.cell? ⟨w.heap.size, 2, none⟩ = some (.int .i64 xa) := (hb.cell (p := ⟨w.heap.size, 2, none⟩) (by simp <;> omega)).trans (by simp [go_sem])
  have k3 : w1.cell? ⟨w.heap.size, 3, none⟩ = some (.bool nb) := (hb.cell (p := ⟨w.heap.size, 3, none⟩) (by simp <;> omega)).trans (by simp [go_sem])
  have k4 : w1.cell? ⟨w.heap.size, 4, none⟩ = some (.string sb) := (hb.cell (p := ⟨w.heap.size, 4, none⟩) (by simp <;> omega)).trans (by simp [go_sem])
  have k5 : w1.cell? ⟨w.heap.size, 5, none⟩ = some (.int .i64 xb) := (hb.cell (p := ⟨w.heap.size, 5, none⟩) (by simp <;> omega)).trans (by simp [go_sem])
  have l0 : w1.cell? ⟨w.heap.size + 1, 0, none⟩ = some (.bool nc) := (hb.cell (p := ⟨w.heap.size + 1, 0, none⟩) (by simp <;> omega)).trans (by simp [go_sem])
  have l1 : w1.cell? ⟨w.heap.size + 1, 1, none⟩ = some (.string sc) := (hb.cell (p := ⟨w.heap.size + 1, 1, none⟩) (by simp <;> omega)).trans (by simp [go_sem])
  have l2 : w1.cell? ⟨w.heap.size + 1, 2, none⟩ = some (.int .i64 xc) := (hb.cell (p := ⟨w.heap.size + 1, 2, none⟩) (by simp <;> omega)).trans (by simp [go_sem])
  have l3 : w1.cell? ⟨w.heap.size + 1, 3, none⟩ = some (.bool nd) := (hb.cell (p := ⟨w.heap.size + 1, 3, none⟩) (by simp <;> omega)).trans (by simp [go_sem])
  have l4 : w1.cell? ⟨w.heap.size + 1, 4, none⟩ = some (.string sd) := (hb.cell (p := ⟨w.heap.size + 1, 4, none⟩) (by simp <;> omega)).trans (by simp [go_sem])
  have l5 : w1.cell? ⟨w.heap.size + 1, 5, none⟩ = some (.int .i64 xd) := (hb.cell (p := ⟨w.heap.size + 1, 5, none⟩) (by simp <;> omega)).trans (by simp [go_sem])
  have m0 : w1.cell? ⟨w.heap.size + 1 + 1, 0, none⟩ = some (.bool false) := (hb.cell (p := ⟨w.heap.size + 1 + 1, 0, none⟩) (by simp <;> omega)).trans (by simp [go_sem])
  have m1 : w1.cell? ⟨w.heap.size + 1 + 1, 1, none⟩ = some (.string ⟨#[]⟩) := (hb.cell (p := ⟨w.heap.size + 1 + 1, 1, none⟩) (by simp <;> omega)).trans (by simp [go_sem])
  have m2 : w1.cell? ⟨w.heap.size + 1 + 1, 2, none⟩ = some (.int .i64 0) := (hb.cell (p := ⟨w.heap.size + 1 + 1, 2, none⟩) (by simp <;> omega)).trans (by simp [go_sem])
  have m3 : w1.cell? ⟨w.heap.size + 1 + 1, 3, none⟩ = some (.bool false) := (hb.cell (p := ⟨w.heap.size + 1 + 1, 3, none⟩) (by simp <;> omega)).trans (by simp [go_sem])
  have m4 : w1.cell? ⟨w.heap.size + 1 + 1, 4, none⟩ = some (.string ⟨#[]⟩) := (hb.cell (p := ⟨w.heap.size + 1 + 1, 4, none⟩) (by simp <;> omega)).trans (by simp [go_sem])
  have m5 : w1.cell? ⟨w.heap.size + 1 + 1, 5, none⟩ = some (.int .i64 0) := (hb.cell (p := ⟨w.heap.size + 1 + 1, 5, none⟩) (by simp <;> omega)).trans (by simp [go_sem])
  have kf : ∀ o, w1.frozen? ⟨w.heap.size, o, none⟩ = false := fun o => (hb.frozen (p := ⟨w.heap.size, o, none⟩) (by simp <;> omega)).trans (by simp [go_sem])
  have mf : ∀ o, w1.frozen? ⟨w.heap.size + 1 + 1, o, none⟩ = false := fun o => (hb.frozen (p := ⟨w.heap.size + 1 + 1, o, none⟩) (by simp <;> omega)).trans (by simp [go_sem])
  have ne0 : fb ≠ w.heap.size := by omega
  have ne1 : fb ≠ w.heap.size + 1 := by omega
  have ne2 : fb ≠ w.heap.size + 1 + 1 := by omega
  have ne3 : w.heap.size ≠ fb := by omega
  have ne4 : w.heap.size + 1 ≠ fb := by omega
  have ne5 : w.heap.size + 1 + 1 ≠ fb := by omega
  have ne6 : w.heap.size ≠ w.heap.size + 1 := by omega
  have ne7 : w.heap.size ≠ w.heap.size + 1 + 1 := by omega
  have ne8 : w.heap.size + 1 ≠ w.heap.size := by omega
  have ne9 : w.heap.size + 1 + 1 ≠ w.heap.size := by omega
  have ne10 : w.heap.size + 1 ≠ w.heap.size + 1 + 1 := by omega
  have ne11 : w.heap.size + 1 + 1 ≠ w.heap.size + 1 := by omega
  clear hb h0 h1 h2 h3 h4 h5 hf0
  go_wp2_with fail
  have hb6 : Below w.heap.size w ((((((w1.setCell ⟨w.heap.size, 0, none⟩ (.bool np)).setCell ⟨w.heap.size, 1, none⟩ (.string sp)).setCell ⟨w.heap.size, 2, none⟩ (.int .i64 xp)).setCell ⟨w.heap.size, 3, none⟩ (.bool nq)).setCell ⟨w.heap.size, 4, none⟩ (.string sq)).setCell ⟨w.heap.size, 5, none⟩ (.int .i64 xq)) := ((((((HB1.out.setCell (by show w.heap.size ≤ w.heap.size; omega) _).setCell (by show w.heap.size ≤ w.heap.size; omega) _).setCell (by show w.heap.size ≤ w.heap.size; omega) _).setCell (by show w.heap.size ≤ w.heap.size; omega) _).setCell (by show w.heap.size ≤ w.heap.size; omega) _).setCell (by show w.heap.size ≤ w.heap.size; omega) _)
  have hb7 : Below w.heap.size w (((((((w1.setCell ⟨w.heap.size, 0, none⟩ (.bool np)).setCell ⟨w.heap.size, 1, none⟩ (.string sp)).setCell ⟨w.heap.size, 2, none⟩ (.int .i64 xp)).setCell ⟨w.heap.size, 3, none⟩ (.bool nq)).setCell ⟨w.heap.size, 4, none⟩ (.string sq)).setCell ⟨w.heap.size, 5, none⟩ (.int .i64 xq)).setCell ⟨fb, 0, none⟩ (.int .i64 0)) := below_same hb6 ((hb6.block fb p2).trans HX.out.f)
  refine (HA.out _ (HT.out.below hb7)).mono ?_
  rintro en w2 ⟨rfl, hb⟩
  have HB2 := Lib.hid (hb7.trans (hb.mono hb7.size))
  have HX2 := Lib.hid (HX.out.below HB2.out)
  have s2 := hb.size
  have u2 := HX2.out.c.1
  have u3 := HX2.out.c.2
  have o0 : w2.cell? ⟨w.heap.size, 0, none⟩ = some (.bool np) := (hb.cell (p := ⟨w.heap.size, 0, none⟩) (by simp <;> omega)).trans (by simp [go_sem, *])
  have o1 : w2.cell? ⟨w.heap.size, 1, none⟩ = some (.string sp) := (hb.cell (p := ⟨w.heap.size, 1, none⟩) (by simp <;> omega)).trans (by simp [go_sem, *])
  have o2 : w2.cell? ⟨w.heap.size, 2, none⟩ = some (.int .i64 xp) := (hb.cell (p := ⟨w.heap.size, 2, none⟩) (by simp <;> omega)).trans (by simp [go_sem, *])
  have o3 : w2.cell? ⟨w.heap.size, 3, none⟩ = some (.bool nq) := (hb.cell (p := ⟨w.heap.size, 3, none⟩) (by simp <;> omega)).trans (by simp [go_sem, *])
  have o4 : w2.cell? ⟨w.heap.size, 4, none⟩ = some (.string sq) := (hb.cell (p := ⟨w.heap.size, 4, none⟩) (by simp <;> omega)).trans (by simp [go_sem, *])
  have o5 : w2.cell? ⟨w.heap.size, 5, none⟩ = some (.int .i64 xq) := (hb.cell (p := ⟨w.heap.size, 5, none⟩) (by simp <;> omega)).trans (by simp [go_sem, *])
  have v0 : w2.cell? ⟨w.heap.size + 1 + 1, 0, none⟩ = some (.bool false) := (hb.cell (p := ⟨w.heap.size + 1 + 1, 0, none⟩) (by simp <;> omega)).trans (by simp [go_sem, *])
  have v1 : w2.cell? ⟨w.heap.size + 1 + 1, 1, none⟩ = some (.string ⟨#[]⟩) := (hb.cell (p := ⟨w.heap.size + 1 + 1, 1, none⟩) (by simp <;> omega)).trans (by simp [go_sem, *])
  have v2 : w2.cell? ⟨w.heap.size + 1 + 1, 2, none⟩ = some (.int .i64 0) := (hb.cell (p := ⟨w.heap.size + 1 + 1, 2, none⟩) (by simp <;> omega)).trans (by simp [go_sem, *])
  have v3 : w2.cell? ⟨w.heap.size + 1 + 1, 3, none⟩ = some (.bool false) := (hb.cell (p := ⟨w.heap.size + 1 + 1, 3, none⟩) (by simp <;> omega)).trans (by simp [go_sem, *])
  have v4 : w2.cell? ⟨w.heap.size + 1 + 1, 4, none⟩ = some (.string ⟨#[]⟩) := (hb.cell (p := ⟨w.heap.size + 1 + 1, 4, none⟩) (by simp <;> omega)).trans (by simp [go_sem, *])
  have v5 : w2.cell? ⟨w.heap.size + 1 + 1, 5, none⟩ = some (.int .i64 0) := (hb.cell (p := ⟨w.heap.size + 1 + 1, 5, none⟩) (by simp <;> omega)).trans (by simp [go_sem, *])
  have of : ∀ o, w2.frozen? ⟨w.heap.size, o, none⟩ = false := fun o => (hb.frozen (p := ⟨w.heap.size, o, none⟩) (by simp <;> omega)).trans (by simp [go_sem, *])
  have vf : ∀ o, w2.frozen? ⟨w.heap.size + 1 + 1, o, none⟩ = false := fun o => (hb.frozen (p := ⟨w.heap.size + 1 + 1, o, none⟩) (by simp <;> omega)).trans (by simp [go_sem, *])
  clear hb hb6 hb7 u0 u1 k0 l0 m0 k1 l1 m1 k2 l2 m2 k3 l3 m3 k4 l4 m4 k5 l5 m5 kf mf
  go_wp2
  have hb8 : Below w.heap.size w ((((((w2.setCell ⟨w.heap.size, 0, none⟩ (.bool nr)).setCell ⟨w.heap.size, 1, none⟩ (.string sr)).setCell ⟨w.heap.size, 2, none⟩ (.int .i64 xr)).setCell ⟨w.heap.size, 3, none⟩ (.bool nt)).setCell ⟨w.heap.size, 4, none⟩ (.string st)).setCell ⟨w.heap.size, 5, none⟩ (.int .i64 xt)) := ((((((HB2.out.setCell (by show w.heap.size ≤ w.heap.size; omega) _).setCell (by show w.heap.size ≤ w.heap.size; omega) _).setCell (by show w.heap.size ≤ w.heap.size; omega) _).setCell (by show w.heap.size ≤ w.heap.size; omega) _).setCell (by show w.heap.size ≤ w.heap.size; omega) _).setCell (by show w.heap.size ≤ w.heap.size; omega) _)
  have hb9 := below_same hb8 ((hb8.block fb p2).trans HX.out.f)

  exact bodyPost_ret (v := .agg #[.bool nr, .string sr, .int .i64 xr, .bool nt, .string st, .int .i64 xt]) (by simp [results, Tryz.results86, go_sem, v0, v1, v2, v3, v4, v5]) rfl ⟨rfl, ((((((hb9.setCell (by show w.heap.size ≤ w.heap.size + 1 + 1; omega) _).setCell (by show w.heap.size ≤ w.heap.size + 1 + 1; omega) _).setCell (by show w.heap.size ≤ w.heap.size + 1 + 1; omega) _).setCell (by show w.heap.size ≤ w.heap.size + 1 + 1; omega) _).setCell (by show w.heap.size ≤ w.heap.size + 1 + 1; omega) _).setCell (by show w.heap.size ≤ w.heap.size + 1 + 1; omega) _)⟩
end Go.Proofs.YtbgjcpnbdgljbaaGreatDoor

/- poly.walk over exact numbers, poly.exact, at whole numbers. -/
namespace Go.Fil
open Go
/-- A whole complex number's six cells. -/
def nthZ (l : List Zi) (k : Nat) : Zi := l.getD k z0
theorem nthZ_eq {l : List Zi} {k : Nat} (hk : k < l.length) : nthZ l k = l[k] := by
  unfold nthZ; rw [List.getD_eq_getElem?_getD, List.getElem?_eq_getElem hk]; rfl
theorem zev_last {l : List Zi} {n : Nat} (hn : l.length = n + 1) (g : Zi) : zev (l.drop n) g = nthZ l n := by
  rw [List.drop_eq_getElem_cons (by omega), List.drop_of_length_le (by omega), zev_one, nthZ_eq (by omega)]
theorem zev_step {l : List Zi} {k : Nat} (hk : k < l.length) (g : Zi) : zev (l.drop k) g = zadd (zmul (zev (l.drop (k + 1)) g) g) (nthZ l k) := by
  rw [List.drop_eq_getElem_cons hk, nthZ_eq hk]; rfl
end Go.Fil
namespace Go.Proofs.YtbgjcpnbdgljbaaGreatDoor
open Go.RowKit Go.Fil Go.Shelf

def gcells (z : Zi) : List Value := [.bool (dn (wd z.re)), .string (ds (wd z.re)), .int .i64 (wd z.re).e, .bool (dn (wd z.im)), .string (ds (wd z.im)), .int .i64 (wd z.im).e]
def zcells (l : List Zi) : List Value := l.flatMap gcells
theorem zcells_append (l m : List Zi) : zcells (l ++ m) = zcells l ++ zcells m := by simp [zcells]
theorem zcells_length (l : List Zi) : (zcells l).length = l.length * 6 := by
  induction l with
  | nil => rfl
  | cons b l ih => simp [zcells, gcells] at *; omega
theorem zcells_at {l : List Zi} {k : Nat} (hk : k < l.length) {j : Nat} (hj : j < 6) : (zcells l)[k * 6 + j]? = (gcells (nthZ l k))[j]? := by
  induction l generalizing k with
  | nil => simp at hk
  | cons b l ih =>
    have hc : zcells (b :: l) = gcells b ++ zcells l := rfl
    have hg : (gcells b).length = 6 := rfl
    rw [hc]
    cases k with
    | zero =>
      rw [List.getElem?_append_left (by omega)]
      simp only [Nat.zero_mul, Nat.zero_add]; rfl
    | succ k =>
      have h := ih (k := k) (by simpa using hk)
      have e : nthZ (b :: l) (k + 1) = nthZ l k := rfl
      rw [List.getElem?_append_right (by omega), hg, e, show (k + 1) * 6 + j - 6 = k * 6 + j by omega]
      exact h
/-- A number's cells at place k of a row of numbers. -/
structure ZAt (w : World) (b o : Nat) (z : Zi) : Prop where
  c0 : w.cell? ⟨b, o, none⟩ = some (.bool (dn (wd z.re)))
  c1 : w.cell? ⟨b, o + 1, none⟩ = some (.string (ds (wd z.re)))
  c2 : w.cell? ⟨b, o + 2, none⟩ = some (.int .i64 (wd z.re).e)
  c3 : w.cell? ⟨b, o + 3, none⟩ = some (.bool (dn (wd z.im)))
  c4 : w.cell? ⟨b, o + 4, none⟩ = some (.string (ds (wd z.im)))
  c5 : w.cell? ⟨b, o + 5, none⟩ = some (.int .i64 (wd z.im).e)
theorem ZAt.below {w w' : World} {b o B : Nat} {z : Zi} (h : ZAt w b o z) (hb : Below B w w') (hg : b < B) : ZAt w' b o z :=
  ⟨(hb.cell (p := ⟨b, o, none⟩) hg).trans h.c0, (hb.cell (p := ⟨b, o + 1, none⟩) hg).trans h.c1, (hb.cell (p := ⟨b, o + 2, none⟩) hg).trans h.c2, (hb.cell (p := ⟨b, o + 3, none⟩) hg).trans h.c3, (hb.cell (p := ⟨b, o + 4, none⟩) hg).trans h.c4, (hb.cell (p := ⟨b, o + 5, none⟩) hg).trans h.c5⟩
theorem Seq.zat {w : World} {B : Nat} {A : Option Addr} {l : List Zi} (h : Seq w B A (zcells l)) {k : Nat} (hk : k < l.length) :
    ∃ b o, A = some ⟨b, o, none⟩ ∧ b < B ∧ ZAt w b (o + k * 6) (nthZ l k) := by
  have hz : ∀ j, j < 6 → (zcells l)[k * 6 + j]? = (gcells (nthZ l k))[j]? := fun j hj => zcells_at hk hj
  rcases h with h | ⟨b, o, hA, hb, hc⟩
  · have := hz 0 (by decide)
    rw [h] at this; simp [gcells] at this
  · refine ⟨b, o, hA, hb, ?_, ?_, ?_, ?_, ?_, ?_⟩
    · exact hc (k * 6 + 0) _ (hz 0 (by decide))
    · exact hc (k * 6 + 1) _ (hz 1 (by decide))
    · exact hc (k * 6 + 2) _ (hz 2 (by decide))
    · exact hc (k * 6 + 3) _ (hz 3 (by decide))
    · exact hc (k * 6 + 4) _ (hz 4 (by decide))
    · exact hc (k * 6 + 5) _ (hz 5 (by decide))
theorem Seq.zcell {w : World} {B b o : Nat} {l : List Zi} (h : Seq w B (some ⟨b, o, none⟩) (zcells l)) {k : Nat} (hk : k < l.length) : b < B ∧ ZAt w b (o + k * 6) (nthZ l k) := by
  obtain ⟨b', o', hA, hb, hc⟩ := h.zat hk
  injection hA with hA
  injection hA with h1 h2
  subst h1; subst h2
  exact ⟨hb, hc⟩
/-- A number in a variable of the call's own. -/
structure NCell (w : World) (G : Nat) (z : Zi) : Prop where
  n : NumAt w G z
  f : ∀ o, w.frozen? ⟨G, o, none⟩ = false
theorem NCell.below {w w' : World} {G B : Nat} {z : Zi} (h : NCell w G z) (hb : Below B w w') (hG : G < B) : NCell w' G z :=
  ⟨h.n.below hb hG, fun o => (hb.frozen (p := ⟨G, o, none⟩) hG).trans (h.f o)⟩
theorem NCell.new (w : World) (t : TypeId) (z : Zi) : NCell (w.alloc (.cells #[.bool (dn (wd z.re)), .string (ds (wd z.re)), .int .i64 (wd z.re).e, .bool (dn (wd z.im)), .string (ds (wd z.im)), .int .i64 (wd z.im).e] t)) w.heap.size z :=
  ⟨⟨by rw [World.cell?_alloc_at _ _ _ _ rfl]; rfl, by rw [World.cell?_alloc_at _ _ _ _ rfl]; rfl, by rw [World.cell?_alloc_at _ _ _ _ rfl]; rfl, by rw [World.cell?_alloc_at _ _ _ _ rfl]; rfl, by rw [World.cell?_alloc_at _ _ _ _ rfl]; rfl, by rw [World.cell?_alloc_at _ _ _ _ rfl]; rfl⟩, fun o => World.frozen?_alloc_at _ _ _ _ rfl⟩
/-- A number is written over a block. -/
def setZ (w : World) (G : Nat) (z : Zi) : World := (((((w.setCell ⟨G, 0, none⟩ (.bool (dn (wd z.re)))).setCell ⟨G, 1, none⟩ (.string (ds (wd z.re)))).setCell ⟨G, 2, none⟩ (.int .i64 (wd z.re).e)).setCell ⟨G, 3, none⟩ (.bool (dn (wd z.im)))).setCell ⟨G, 4, none⟩ (.string (ds (wd z.im)))).setCell ⟨G, 5, none⟩ (.int .i64 (wd z.im).e)
theorem NCell.set {w : World} {G : Nat} {y : Zi} (h : NCell w G y) (z : Zi) : NCell (setZ w G z) G z := by
  obtain ⟨⟨h0, h1, h2, h3, h4, h5⟩, hf⟩ := h
  unfold setZ
  refine ⟨⟨?_, ?_, ?_, ?_, ?_, ?_⟩, fun o => ?_⟩ <;> simp [go_sem, *]
theorem Below.setZ {B : Nat} {w w' : World} {G : Nat} (h : Below B w w') (hG : B ≤ G) (z : Zi) : Below B w (setZ w' G z) :=
  (((((h.setCell hG _).setCell hG _).setCell hG _).setCell hG _).setCell hG _).setCell hG _
theorem setZ_size (w : World) (G : Nat) (z : Zi) : (setZ w G z).heap.size = w.heap.size := by unfold setZ; simp
theorem wd_zero : dn (wd 0) = false ∧ ds (wd 0) = ⟨#[]⟩ ∧ (wd 0).e = 0 := by
  unfold dn ds wd
  rw [mkD_zero]
  exact ⟨rfl, by simp [natS_zero], rfl⟩
theorem NCell.zero (w : World) (t : TypeId) : NCell (w.alloc (.cells #[.bool false, .string ⟨#[]⟩, .int .i64 0, .bool false, .string ⟨#[]⟩, .int .i64 0] t)) w.heap.size z0 := by
  have h := NCell.new w t z0
  rw [show z0.re = 0 from rfl, show z0.im = 0 from rfl, wd_zero.1, wd_zero.2.1, wd_zero.2.2] at h
  exact h
/-- The bounds of a Horner walk. -/
structure Horn (l : List Zi) (g : Zi) : Prop where
  hg : Zb 400 g
  s : ∀ k, Zb 400 (zev (l.drop k) g)
  p : ∀ k, Zb 400 (zmul (zev (l.drop k) g) g)
  c : ∀ k, k < l.length → Zb 400 (nthZ l k)
set_option maxRecDepth 100000 in
set_option maxHeartbeats 6400000 in
theorem walkZ_some (A : Option Addr) (n cap : Nat) (l : List Zi) (hn : l.length = n + 1) (hle : n + 1 ≤ 17) (g : Zi) (H : Horn l g) (fb gb : Nat) (w : World) (hT : Tab w) (hx : ExAt w fb gb g) (hs : Seq w w.heap.size A (zcells l)) :
    Calls Tryz.prog 84 #[.slice A (n + 1) cap, .agg #[.bool false, .string ⟨#[]⟩, .int .i64 0, .bool false, .string ⟨#[]⟩, .int .i64 0], .func (.func 85) #[] #[], .func (.func 86) #[] #[.pointer (some ⟨fb, 0, none⟩), .pointer (some ⟨gb, 0, none⟩)]] w fun e w' => e = .returned (.agg #[.bool (dn (wd (zev l g).re)), .string (ds (wd (zev l g).re)), .int .i64 (wd (zev l g).re).e, .bool (dn (wd (zev l g).im)), .string (ds (wd (zev l g).im)), .int .i64 (wd (zev l g).im).e]) ∧ Below w.heap.size w w' := by
  obtain ⟨b, o, rfl, hb, hz⟩ := hs.zat (k := n) (by omega)
  have HN := Lib.hid hn
  have HS := Lib.hid hs
  have HL := Lib.hid (zev_last hn g)
  have HX := Lib.hid hx
  have HT := Lib.hid hT
  have HH := Lib.hid H
  have hb2 : Below w.heap.size w ((w.alloc (.cells #[.bool false, .string ⟨#[]⟩, .int .i64 0, .bool false, .string ⟨#[]⟩, .int .i64 0] 31)).alloc (.cells #[.bool false, .string ⟨#[]⟩, .int .i64 0, .bool false, .string ⟨#[]⟩, .int .i64 0] 31)) := by repeat (first | exact Below.refl _ _ | refine below_drewN ?_ _ | refine Below.alloc ?_ (by first | omega | (simp; omega) | simp) _ | refine Below.setCell ?_ (by first | omega | (simp; omega) | simp) _ | refine Below.trans ?_ (Below.mono (by assumption) (by first | omega | (simp; omega) | simp)) | apply Below.drew)
  obtain ⟨d0, d1, d2, d3, d4, d5⟩ := hz.below hb2 hb
  clear hn hs hz hx hT H hb2
  go_enter Tryz.func84, Tryz.ntmps84
  go_wp2_with (go_at_call 85; refine (ex1_any _ _).mono ?_; rintro e w1 ⟨rfl, hb⟩; obtain ⟨hc, hf⟩ := bcell hb; (try simp only [World.heap_drewN, World.cell?_drewN, World.frozen?_drewN] at hc hf); have z0 : w.heap.size < w1.heap.size := (by have := hb.size; (try simp at this); omega); have z1 : w.heap.size + 1 < w1.heap.size := (by have := hb.size; (try simp at this); omega))
  have hww : Below w.heap.size w w1 := by repeat (first | exact Below.refl _ _ | refine below_drewN ?_ _ | refine Below.alloc ?_ (by first | omega | (simp; omega) | simp) _ | refine Below.setCell ?_ (by first | omega | (simp; omega) | simp) _ | refine Below.trans ?_ (Below.mono (by assumption) (by first | omega | (simp; omega) | simp)) | apply Below.drew)
  have hR : NCell w1 (w.heap.size + 1) Go.Fil.z0 := NCell.below (by simpa using NCell.zero (w.alloc (.cells #[.bool false, .string ⟨#[]⟩, .int .i64 0, .bool false, .string ⟨#[]⟩, .int .i64 0] 31)) 31) hb (by simp)
  have HR := Lib.hid hR
  have HW := Lib.hid hww
  have HS1 := Lib.hid (HS.out.below hww (Nat.le_refl _))
  have HX1 := Lib.hid (HX.out.below hww)
  have HT1 := Lib.hid (HT.out.below hww)
  have HB : Hid (NCell (w1.alloc (.cells #[.bool (dn (wd (nthZ l n).re)), .string (ds (wd (nthZ l n).re)), .int .i64 (wd (nthZ l n).re).e, .bool (dn (wd (nthZ l n).im)), .string (ds (wd (nthZ l n).im)), .int .i64 (wd (nthZ l n).im).e] 31)) w1.heap.size (zev (l.drop n) g)) := by rw [HL.out]; exact NCell.new _ _ _
  have e0 : ((n : Int) + 1 - 2) = (n : Int) - 1 := by omega
  rw [e0]
  clear e0 hR hww hc hf d0 d1 d2 d3 d4 d5 hb HX HT HS
  go_loopw [10] (fun i wr => ∃ k : Nat, k ≤ n ∧ i = .int .i64 ((k : Int) - 1) ∧ NCell wr w1.heap.size (zev (l.drop k) g) ∧ Below w1.heap.size w1 wr ∧ w1.heap.size < wr.heap.size) (fun i _ => (intOf i + 1).toNat)
  case atStart => exact ⟨n, Nat.le_refl _, rfl, HB.out, (Below.refl _ _).alloc (Nat.le_refl _) _, by simp⟩
  case round =>
    obtain ⟨k, hk, rfl, hX, hnx, hlt⟩ := hrel
    have hRr := HR.out.below hnx z1
    cases k with
    | zero =>
      obtain ⟨⟨x0, x1, x2, x3, x4, x5⟩, xf⟩ := hX
      obtain ⟨⟨r0, r1, r2, r3, r4, r5⟩, rf⟩ := hRr
      rw [List.drop_zero] at x0 x1 x2 x3 x4 x5
      have hbw : Below w.heap.size w wr := HW.out.trans (hnx.mono HW.out.size)
      have hlt0 : w.heap.size + 1 < wr.heap.size := by have := hnx.size; omega
      go_wp2
      exact bodyPost_ret (v := .agg #[.bool (dn (wd (zev l g).re)), .string (ds (wd (zev l g).re)), .int .i64 (wd (zev l g).re).e, .bool (dn (wd (zev l g).im)), .string (ds (wd (zev l g).im)), .int .i64 (wd (zev l g).im).e])
        (by simp [results, Tryz.results84, go_sem, r0, r1, r2, r3, r4, r5]) rfl ⟨rfl, (((((hbw.setCell (by show w.heap.size ≤ w.heap.size + 1; omega) _).setCell (by show w.heap.size ≤ w.heap.size + 1; omega) _).setCell (by show w.heap.size ≤ w.heap.size + 1; omega) _).setCell (by show w.heap.size ≤ w.heap.size + 1; omega) _).setCell (by show w.heap.size ≤ w.heap.size + 1; omega) _).setCell (by show w.heap.size ≤ w.heap.size + 1; omega) _⟩
    | succ k =>
      obtain ⟨hbb, a0, a1, a2, a3, a4, a5⟩ := (HS1.out.below hnx (by omega)).zcell (k := k) (by have := HN.out; omega)
      have HXr := Lib.hid (HX1.out.below hnx)
      have HTr := Lib.hid (HT1.out.below hnx)
      have e1 : (((k + 1 : Nat) : Int) - 1) = (k : Int) := by omega
      rw [e1]
      clear e1 hRr
      have HT2 := Lib.hid (zev_step (l := l) (k := k) (by have := HN.out; omega) g)
      have HX2 := Lib.hid hX
      obtain ⟨⟨x0, x1, x2, x3, x4, x5⟩, xf⟩ := hX
      have i0 : (0 : Int) ≤ (k : Int) := by omega
      have i1 : (k : Int) < (n : Int) + 1 := by omega
      have i2 : k < n + 1 := by omega
      have HCK := Lib.hid (HH.out.c k (by have := HN.out; omega))
      go_wp2_with fail
      go_still_tail 6, (by kernel_rfl)
      change wpList _ _ _ _ _ (wr.drewN 1)
      go_wp2_with fail
      refine (ex2_any (zev (l.drop (k + 1)) g) (nthZ l k) g (HH.out.s _) HH.out.hg (HH.out.p _) HCK.out fb gb (wr.drewN 1) (HTr.out.below (below_drewN (Below.refl _ _) 1)) (HXr.out.below (below_drewN (Below.refl _ _) 1))).mono ?_
      rintro e w2 ⟨rfl, hb2⟩
      have HN2 := Lib.hid (NCell.below (w := wr.drewN 1) (z := zev (l.drop (k + 1)) g) ⟨HX2.out.n, HX2.out.f⟩ hb2 (by simpa using hlt))
      obtain ⟨⟨y0, y1, y2, y3, y4, y5⟩, yf⟩ := HN2.out
      go_wp2
      go_roundw
      case rel =>
        refine ⟨k, by omega, rfl, by rw [HT2.out]; exact NCell.set HN2.out _, Below.setZ ((below_drewN hnx 1).trans (hb2.mono (Nat.le_of_lt hlt))) (Nat.le_refl _) _, ?_⟩
        have h1 := hb2.size
        have h2 := setZ_size w2 w1.heap.size (zadd (zmul (zev (l.drop (k + 1)) g) g) (nthZ l k))
        simp at h1 ⊢
        omega
      case measure => simp [intOf]
end Go.Proofs.YtbgjcpnbdgljbaaGreatDoor

/- poly.exact, whole, Exact, SlopeExact at whole numbers. -/
namespace Go.Proofs.YtbgjcpnbdgljbaaGreatDoor
open Go.RowKit Go.Fil Go.Shelf

set_option maxRecDepth 100000 in
theorem walkZ_none (A : Option Addr) (cap : Nat) (f1 f2 : Value) (w : World) :
    Calls Tryz.prog 84 #[.slice A 0 cap, .agg #[.bool false, .string ⟨#[]⟩, .int .i64 0, .bool false, .string ⟨#[]⟩, .int .i64 0], f1, f2] w fun e w' => e = .returned (.agg #[.bool false, .string ⟨#[]⟩, .int .i64 0, .bool false, .string ⟨#[]⟩, .int .i64 0]) ∧ Below w.heap.size w w' := by
  go_enter Tryz.func84, Tryz.ntmps84
  go_wp2
  exact bodyPost_ret (v := .agg #[.bool false, .string ⟨#[]⟩, .int .i64 0, .bool false, .string ⟨#[]⟩, .int .i64 0]) (by simp [results, Tryz.results84, go_sem]) rfl ⟨rfl, by repeat (first | exact Below.refl _ _ | refine below_drewN ?_ _ | refine Below.alloc ?_ (by first | omega | (simp; omega) | simp) _ | refine Below.setCell ?_ (by first | omega | (simp; omega) | simp) _ | refine Below.trans ?_ (Below.mono (by assumption) (by first | omega | (simp; omega) | simp)) | apply Below.drew)⟩
theorem z0_val : (.agg #[.bool (dn (wd z0.re)), .string (ds (wd z0.re)), .int .i64 (wd z0.re).e, .bool (dn (wd z0.im)), .string (ds (wd z0.im)), .int .i64 (wd z0.im).e] : Value) = .agg #[.bool false, .string ⟨#[]⟩, .int .i64 0, .bool false, .string ⟨#[]⟩, .int .i64 0] := by
  rw [show z0.re = 0 from rfl, show z0.im = 0 from rfl, wd_zero.1, wd_zero.2.1, wd_zero.2.2]
theorem walkZ_any (A : Option Addr) (n cap : Nat) (l : List Zi) (hn : l.length = n) (hle : n ≤ 17) (g : Zi) (H : Horn l g) (fb gb : Nat) (w : World) (hT : Tab w) (hx : ExAt w fb gb g) (hs : Seq w w.heap.size A (zcells l)) :
    Calls Tryz.prog 84 #[.slice A n cap, .agg #[.bool false, .string ⟨#[]⟩, .int .i64 0, .bool false, .string ⟨#[]⟩, .int .i64 0], .func (.func 85) #[] #[], .func (.func 86) #[] #[.pointer (some ⟨fb, 0, none⟩), .pointer (some ⟨gb, 0, none⟩)]] w fun e w' => e = .returned (.agg #[.bool (dn (wd (zev l g).re)), .string (ds (wd (zev l g).re)), .int .i64 (wd (zev l g).re).e, .bool (dn (wd (zev l g).im)), .string (ds (wd (zev l g).im)), .int .i64 (wd (zev l g).im).e]) ∧ Below w.heap.size w w' := by
  cases n with
  | zero =>
    have h0 : l = [] := List.eq_nil_of_length_eq_zero hn
    subst h0
    have := walkZ_none A cap (.func (.func 85) #[] #[]) (.func (.func 86) #[] #[.pointer (some ⟨fb, 0, none⟩), .pointer (some ⟨gb, 0, none⟩)]) w
    refine this.mono ?_
    rintro e w' ⟨rfl, hb⟩
    exact ⟨by rw [show zev [] g = z0 from rfl, z0_val], hb⟩
  | succ n => exact walkZ_some A n cap l hn hle g H fb gb w hT hx hs
theorem err_row (w : World) : (w.alloc (.cells #[.int .i64 0] 33)).heap[w.heap.size]? = some (.cells #[.int .i64 0] 33 (0, 0)) := fresh_row w _
set_option maxRecDepth 100000 in
set_option maxHeartbeats 3200000 in
theorem exact_any (A : Option Addr) (n cap : Nat) (l : List Zi) (hn : l.length = n) (hle : n ≤ 17) (g : Zi) (H : Horn l g) (w : World) (hT : Tab w) (hs : Seq w w.heap.size A (zcells l)) :
    Calls Tryz.prog 36 #[.slice A n cap, .agg #[.bool (dn (wd g.re)), .string (ds (wd g.re)), .int .i64 (wd g.re).e, .bool (dn (wd g.im)), .string (ds (wd g.im)), .int .i64 (wd g.im).e]] w (RZ (zev l g) w) := by
  have hmf : ∀ (fn : Fn) (first cap : Array Value) (w : World), (Instr.makeFunc fn first cap).run Tryz.prog w = .ok (.func fn first cap) w := fun _ _ _ _ => rfl
  have HW := Lib.hid (fun fb gb w hT hx hs => walkZ_any A n cap l hn hle g H fb gb w hT hx hs)
  have hb3 : Below w.heap.size w (((w.alloc (.cells #[.bool (dn (wd g.re)), .string (ds (wd g.re)), .int .i64 (wd g.re).e, .bool (dn (wd g.im)), .string (ds (wd g.im)), .int .i64 (wd g.im).e] 31)).alloc (.cells #[.bool false, .string ⟨#[]⟩, .int .i64 0, .bool false, .string ⟨#[]⟩, .int .i64 0] 31)).alloc (.cells #[.int .i64 0] 33)) := by repeat (first | exact Below.refl _ _ | refine below_drewN ?_ _ | refine Below.alloc ?_ (by first | omega | (simp; omega) | simp) _ | refine Below.setCell ?_ (by first | omega | (simp; omega) | simp) _ | refine Below.trans ?_ (Below.mono (by assumption) (by first | omega | (simp; omega) | simp)) | apply Below.drew)
  have HT := Lib.hid (hT.below hb3)
  have HS := Lib.hid ((hs.below hb3 (Nat.le_refl _)).more hb3.size)
  have HB3 := Lib.hid hb3
  have hn0 : NumAt (((w.alloc (.cells #[.bool (dn (wd g.re)), .string (ds (wd g.re)), .int .i64 (wd g.re).e, .bool (dn (wd g.im)), .string (ds (wd g.im)), .int .i64 (wd g.im).e] 31)).alloc (.cells #[.bool false, .string ⟨#[]⟩, .int .i64 0, .bool false, .string ⟨#[]⟩, .int .i64 0] 31)).alloc (.cells #[.int .i64 0] 33)) w.heap.size g := by
    have h1 := (NCell.new w 31 g).n
    exact (h1.below (alloc_below _ (.cells #[.bool false, .string ⟨#[]⟩, .int .i64 0, .bool false, .string ⟨#[]⟩, .int .i64 0] 31)) (by simp)).below (alloc_below _ (.cells #[.int .i64 0] 33)) (by simp <;> omega)
  have hf0 : (((w.alloc (.cells #[.bool (dn (wd g.re)), .string (ds (wd g.re)), .int .i64 (wd g.re).e, .bool (dn (wd g.im)), .string (ds (wd g.im)), .int .i64 (wd g.im).e] 31)).alloc (.cells #[.bool false, .string ⟨#[]⟩, .int .i64 0, .bool false, .string ⟨#[]⟩, .int .i64 0] 31)).alloc (.cells #[.int .i64 0] 33)).heap[w.heap.size + 1 + 1]? = some (.cells #[.int .i64 0] 33 (0, 0)) := by
    have h := err_row ((w.alloc (.cells #[.bool (dn (wd g.re)), .string (ds (wd g.re)), .int .i64 (wd g.re).e, .bool (dn (wd g.im)), .string (ds (wd g.im)), .int .i64 (wd g.im).e] 31)).alloc (.cells #[.bool false, .string ⟨#[]⟩, .int .i64 0, .bool false, .string ⟨#[]⟩, .int .i64 0] 31))
    rw [heap_size_alloc', heap_size_alloc'] at h
    exact h
  have HX := Lib.hid (ExAt.mk hf0 hn0 (by simp <;> omega))
  have HRZ := Lib.hid (show ∀ W e w', (e = .returned (.tuple #[.agg #[.bool (dn (wd (zev l g).re)), .string (ds (wd (zev l g).re)), .int .i64 (wd (zev l g).re).e, .bool (dn (wd (zev l g).im)), .string (ds (wd (zev l g).im)), .int .i64 (wd (zev l g).im).e], .int .i64 0]) ∧ Below W.heap.size W w') → RZ (zev l g) W e w' from fun W e w' h => h)
  clear hT hs hb3 hn0 hf0 H hn
  unfold RZ RGv
  generalize zev l g = r at *
  generalize dn (wd g.re) = na at *
  generalize ds (wd g.re) = sa at *
  generalize (wd g.re).e = xa at *
  generalize dn (wd g.im) = nb at *
  generalize ds (wd g.im) = sb at *
  generalize (wd g.im).e = xb at *
  go_enter Tryz.func36, Tryz.ntmps36
  go_wp2_with fail
  refine (HW.out _ _ _ HT.out HX.out HS.out).mono ?_
  rintro en w1 ⟨rfl, hb⟩
  have s1 := hb.size
  simp only [heap_size_alloc'] at s1
  have hbw := HB3.out.trans (hb.mono HB3.out.size)
  have f0 : w1.cell? ⟨w.heap.size + 1 + 1, 0, none⟩ = some (.int .i64 0) := (hb.cell (p := ⟨w.heap.size + 1 + 1, 0, none⟩) (by simp)).trans (by simp [go_sem])
  have m0 : w1.cell? ⟨w.heap.size + 1, 0, none⟩ = some (.bool false) := (hb.cell (p := ⟨w.heap.size + 1, 0, none⟩) (by simp <;> omega)).trans (by simp [go_sem])
  have m1 : w1.cell? ⟨w.heap.size + 1, 1, none⟩ = some (.string ⟨#[]⟩) := (hb.cell (p := ⟨w.heap.size + 1, 1, none⟩) (by simp <;> omega)).trans (by simp [go_sem])
  have m2 : w1.cell? ⟨w.heap.size + 1, 2, none⟩ = some (.int .i64 0) := (hb.cell (p := ⟨w.heap.size + 1, 2, none⟩) (by simp <;> omega)).trans (by simp [go_sem])
  have m3 : w1.cell? ⟨w.heap.size + 1, 3, none⟩ = some (.bool false) := (hb.cell (p := ⟨w.heap.size + 1, 3, none⟩) (by simp <;> omega)).trans (by simp [go_sem])
  have m4 : w1.cell? ⟨w.heap.size + 1, 4, none⟩ = some (.string ⟨#[]⟩) := (hb.cell (p := ⟨w.heap.size + 1, 4, none⟩) (by simp <;> omega)).trans (by simp [go_sem])
  have m5 : w1.cell? ⟨w.heap.size + 1, 5, none⟩ = some (.int .i64 0) := (hb.cell (p := ⟨w.heap.size + 1, 5, none⟩) (by simp <;> omega)).trans (by simp [go_sem])
  have mf : ∀ o, w1.frozen? ⟨w.heap.size + 1, o, none⟩ = false := fun o => (hb.frozen (p := ⟨w.heap.size + 1, o, none⟩) (by simp <;> omega)).trans (by simp [go_sem])
  have l1 : w.heap.size + 1 < w1.heap.size := by omega
  have l2 : w.heap.size + 1 + 1 < w1.heap.size := by omega
  have ne1 : w.heap.size + 1 ≠ w1.heap.size := by omega
  have ne2 : w1.heap.size ≠ w.heap.size + 1 := by omega
  have HBW := Lib.hid hbw
  clear hb hbw HT HX HS HB3 HW hmf
  go_wp2
  have hbw := HBW.out
  exact bodyPost_ret (v := .tuple #[.agg #[.bool (dn (wd r.re)), .string (ds (wd r.re)), .int .i64 (wd r.re).e, .bool (dn (wd r.im)), .string (ds (wd r.im)), .int .i64 (wd r.im).e], .int .i64 0]) (by simp [results, Tryz.results36, go_sem, l1, m0, m1, m2, m3, m4, m5]) rfl ⟨rfl, ((((((hbw.setCell (by show w.heap.size ≤ w.heap.size + 1; omega) _).setCell (by show w.heap.size ≤ w.heap.size + 1; omega) _).setCell (by show w.heap.size ≤ w.heap.size + 1; omega) _).setCell (by show w.heap.size ≤ w.heap.size + 1; omega) _).setCell (by show w.heap.size ≤ w.heap.size + 1; omega) _).setCell (by show w.heap.size ≤ w.heap.size + 1; omega) _).alloc (by simp; omega) _⟩
end Go.Proofs.YtbgjcpnbdgljbaaGreatDoor
