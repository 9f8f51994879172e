/- The contracts of package poly on balls, at this translation. -/
import Derived.Test.YtmcihnpghcdnmaaPs
import Derived.Test.YtmcihnpghcdnmaaSb
import Derived.Maps.AppendAt
namespace Go.Proofs.Ytmcihnpghcdnmaa
open Go.RowKit Go.Fil
attribute [local irreducible] fop fsqrt fup fabs fneg pick

theorem own_below {w w' : World} {base e size n : Nat} {v : Value} {xs : List Value} (h : w.ownsRow base e size v n xs) (hb : Below w.heap.size w w') : w'.ownsRow base e size v n xs := by
  refine World.ownsRow.kept (row := none) h ⟨hb.os, hb.tape, hb.output, hb.size, fun i hi _ => hb.block i hi⟩ ?_
  cases v.ownBlock
  · exact .inl rfl
  · exact .inr (by simp)
theorem Try.infoB : (Try.prog.info? 34).map (fun i => (i.zero, i.size, i.bytes)) = some (some (.agg #[.complex .f64 0 0, .float .f64 0]), 2, 24) := by kernel_rfl
/-- The two cells of one new ball. -/
theorem ball_new (w : World) (b : Bl) (t : TypeId) : ∀ j u, [Value.complex .f64 b.1 b.2.1, Value.float .f64 b.2.2][j]? = some u → (w.alloc (.cells #[.complex .f64 b.1 b.2.1, .float .f64 b.2.2] t)).cell? ((⟨w.heap.size, 0, none⟩ : Addr).add j) = some u := by
  intro j u hj
  match j, hj with
  | 0, hj =>
    simp at hj; subst hj; simp only [Addr.add, if_true]
    rw [World.cell?_alloc_at _ _ _ _ (by simp)]; rfl
  | 1, hj =>
    simp at hj; subst hj
    rw [Addr.add_lit, World.cell?_alloc_at _ _ _ _ (by simp)]; rfl
/-- poly.points of a polynomial that may be. -/
theorem points_any (A : Option Addr) (n cap : Nat) (ps : List Cc) (hn : ps.length = n) (hle : n ≤ 17) (w : World) (hs : Seq w w.heap.size A (ps.map cv)) :
    Calls Try.prog 38 #[.slice A n cap] w fun e w' =>
      ∃ v, e = .returned v ∧ w'.ownsRow w.heap.size 34 2 v n (bcells (pointsS ps)) ∧ Below w.heap.size w w' := by
  obtain ⟨i0, hi, hz0, hz1, hz2⟩ := info_parts Try.infoB
  have HS := Lib.hid hs
  have HN := Lib.hid hn
  clear hs hn
  go_enter Try.func38, Try.ntmps38
  go_wp2
  go_loopw [3, 8] (fun v i wr => ∃ k : Nat, k ≤ n ∧ i = .int .i64 k ∧ wr.ownsRow w.heap.size 34 2 v k (bcells (pointsTo ps k)) ∧ Below w.heap.size w wr) (fun _ i _ => n - (intOf i).toNat)
  case atStart => exact ⟨0, Nat.zero_le _, rfl, World.ownsRow_nil _ _ _ _, Below.refl _ _⟩
  case round =>
    obtain ⟨k, hk, rfl, hown, hnx⟩ := hrel
    by_cases hlt : k < n
    · obtain ⟨b, o, rfl, hb, hcl⟩ := (HS.out.below hnx (Nat.le_refl _)).cat (k := k) (by have := HN.out; omega)
      clear hb
      go_wp2_with (first
        | (go_at_call 19; refine (point_any _ _ _).mono ?_; rintro e w1 ⟨rfl, hb⟩)
        | (at_builtin; refine wpList_append_own _ rfl _ _ 65 rfl w.heap.size 34 i0 (.agg #[.complex .f64 0 0, .float .f64 0]) 2 24 Try.underlying65 hi hz0 hz1 hz2 rfl (by decide) _ _ _ rfl ((own_below hown hb).alloc _) ⟨w1.heap.size, 0, none⟩ 1 1 [.complex .f64 (pointS (nth ps k).1 (nth ps k).2).1 (pointS (nth ps k).1 (nth ps k).2).2.1, .float .f64 (pointS (nth ps k).1 (nth ps k).2).2.2] rfl rfl ?c1 ?c2 ?c3 ?c4 ?c5 ?_))
      case c1 => exact ball_new w1 _ _
      case c2 => intro u hu; simp at hu; rcases hu with rfl | rfl <;> rfl
      case c3 => unfold maxLen; omega
      case c4 => omega
      case c5 => have := hnx.size; have := hb.size; simp; omega
      intro v' w2 hown' hgrow _
      have z1 : w.heap.size ≤ w1.heap.size := by have := hnx.size; have := hb.size; omega
      have hnx' : Below w.heap.size w w2 := (show Below w.heap.size w _ from (hnx.trans (hb.mono hnx.size)).alloc z1 _).grown hgrow (by simp; omega) (fun q hq => (hown.lt q hq).1)
      have hown2 : w2.ownsRow w.heap.size 34 2 v' (k + 1) (bcells (pointsTo ps (k + 1))) := by
        rw [pointsTo_next, bcells_append]
        exact hown'
      clear hown' hgrow hown hcl hb hnx
      go_wp2
      go_roundw
      case rel => exact ⟨k + 1, by omega, by go_num, hown2, hnx'⟩
      case measure => simp [intOf]; omega
    · obtain rfl : k = n := by omega
      go_wp2
      go_ret
      exact ⟨_, rfl, by rw [← HN.out] at hown; unfold pointsS; rw [← HN.out]; exact hown, hnx⟩
theorem on1_any (a b r : Nat) (w : World) : Calls Try.prog 64 #[.agg #[.complex .f64 a b, .float .f64 r]] w (RB (a, b, r) w) := by
  go_enter Try.func64, Try.ntmps64
  go_wp2
  exact bodyPost_ret (v := .agg #[.complex .f64 a b, .float .f64 r]) (by simp [results, Try.results64, go_sem]) rfl ⟨rfl, by repeat (first | exact Below.refl _ _ | refine below_drewN ?_ _ | refine Below.alloc ?_ (by first | omega | (simp; omega) | simp) _ | refine Below.setCell ?_ (by first | omega | (simp; omega) | simp) _ | refine Below.trans ?_ (Below.mono (by assumption) (by first | omega | (simp; omega) | simp)) | apply Below.drew)⟩
set_option maxHeartbeats 800000 in
/-- The closure of poly.on: one step of the walk; z lies in a box. -/
theorem on2_any (a b r c d q x y z g : Nat) (w : World) (hlt : g < w.heap.size) (hg0 : w.cell? ⟨g, 0, none⟩ = some (.complex .f64 x y)) (hg1 : w.cell? ⟨g, 1, none⟩ = some (.float .f64 z)) :
    Calls Try.prog 65 #[.agg #[.complex .f64 a b, .float .f64 r], .agg #[.complex .f64 c d, .float .f64 q], .pointer (some ⟨g, 0, none⟩)] w (RB (hornB (x, y, z) (a, b, r) (c, d, q)) w) := by
  have hlt1 : g < w.heap.size + 1 := by omega
  have hlt2 : g < w.heap.size + 1 + 1 := by omega
  have hne0 : ¬ w.heap.size = g := by omega
  unfold hornB
  go_enter Try.func65, Try.ntmps65
  go_wp2_with fail
  go_region_held3 (fun x' => x'.cell? ⟨w.heap.size, 0, none⟩ = some (.complex .f64 a b) ∧ x'.cell? ⟨w.heap.size, 1, none⟩ = some (.float .f64 r) ∧ x'.cell? ⟨w.heap.size + 1, 0, none⟩ = some (.complex .f64 c d) ∧ x'.cell? ⟨w.heap.size + 1, 1, none⟩ = some (.float .f64 q) ∧ x'.cell? ⟨g, 0, none⟩ = some (.complex .f64 x y) ∧ x'.cell? ⟨g, 1, none⟩ = some (.float .f64 z)) (((try dsimp only); refine ⟨?_, ?_, ?_, ?_, ?_, ?_⟩ <;> first | (simp [go_sem, World.cell?_alloc_past, *]; done) | (rw [hc _ _ (by first | assumption | (simp; assumption) | omega | (simp; omega))]; first | exact (‹_ ∧ _ ∧ _ ∧ _ ∧ _ ∧ _›).1 | exact (‹_ ∧ _ ∧ _ ∧ _ ∧ _ ∧ _›).2.1 | exact (‹_ ∧ _ ∧ _ ∧ _ ∧ _ ∧ _›).2.2.1 | exact (‹_ ∧ _ ∧ _ ∧ _ ∧ _ ∧ _›).2.2.2.1 | exact (‹_ ∧ _ ∧ _ ∧ _ ∧ _ ∧ _›).2.2.2.2.1 | exact (‹_ ∧ _ ∧ _ ∧ _ ∧ _ ∧ _›).2.2.2.2.2)))
    (first
      | (go_at_call 21; refine (bmul_any _ _ _ _ _ _ _).mono ?_; rintro e w1 ⟨rfl, hb⟩; obtain ⟨hc, hf⟩ := bcell hb; (try simp only [World.heap_drewN, World.cell?_drewN, World.frozen?_drewN] at hc hf); have z0 : w.heap.size < w1.heap.size := (by have := hb.size; (try simp at this); omega); have z1 : w.heap.size + 1 < w1.heap.size := (by have := hb.size; (try simp at this); omega); have z2 : w.heap.size + 1 + 1 < w1.heap.size := (by have := hb.size; (try simp at this); omega); have z3 : w.heap.size + 2 < w1.heap.size := (by omega); have zg : g < w1.heap.size := (by omega))
      | (go_at_call 66; refine (badd_any _ _ _ _ _ _ _).mono ?_; rintro e w1 ⟨rfl, hb⟩; obtain ⟨hc, hf⟩ := bcell hb; (try simp only [World.heap_drewN, World.cell?_drewN, World.frozen?_drewN] at hc hf); have z0 : w.heap.size < w1.heap.size := (by have := hb.size; (try simp at this); omega); have z1 : w.heap.size + 1 < w1.heap.size := (by have := hb.size; (try simp at this); omega); have z2 : w.heap.size + 1 + 1 < w1.heap.size := (by have := hb.size; (try simp at this); omega); have z3 : w.heap.size + 2 < w1.heap.size := (by omega); have zg : g < w1.heap.size := (by omega)))
  go_wp2
  exact bodyPost_ret (v := .agg #[.complex .f64 (addS (mulS (a, b, r) (x, y, z)) (c, d, q)).1 (addS (mulS (a, b, r) (x, y, z)) (c, d, q)).2.1, .float .f64 (addS (mulS (a, b, r) (x, y, z)) (c, d, q)).2.2])
    (by simp [results, Try.results65, go_sem, *]) rfl ⟨rfl, by repeat (first | exact Below.refl _ _ | refine below_drewN ?_ _ | refine Below.alloc ?_ (by first | omega | (simp; omega) | simp) _ | refine Below.setCell ?_ (by first | omega | (simp; omega) | simp) _ | refine Below.trans ?_ (Below.mono (by assumption) (by first | omega | (simp; omega) | simp)) | apply Below.drew)⟩
end Go.Proofs.Ytmcihnpghcdnmaa
