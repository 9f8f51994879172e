/- The contracts of poly.steep and poly.SlopeAt, at this translation. -/
import Derived.Test.YtmcihnpghcdnmaaPo
import Derived.Test.YtmcihnpghcdnmaaFn
import Derived.OwnWalk
import Derived.Laws.OwnMore
import Derived.Deep.AppendLies
namespace Go.Proofs.Ytmcihnpghcdnmaa
open Go.RowKit Go.Fil
attribute [local irreducible] fop fsqrt fup fabs fneg pick

theorem Try.infoC : (Try.prog.info? 29).map (fun i => (i.zero, i.size, i.bytes)) = some (some (.complex .f64 0 0), 1, 16) := by kernel_rfl
theorem seq_of_own {w : World} {base e n : Nat} {v : Value} {xs : List Value} (h : w.ownsRow base e 1 v n xs) : ∃ A c, v = .slice A n c ∧ Seq w w.heap.size A xs := by
  rcases n with _ | n
  · have hx : xs = [] := List.eq_nil_of_length_eq_zero (by simpa using h.1)
    rcases h.2 with ⟨rfl, _⟩ | ⟨g, cap, cur, rfl, _⟩
    · exact ⟨none, 0, rfl, .inl hx⟩
    · exact ⟨_, cap, rfl, .inl hx⟩
  · obtain ⟨g, cap, hv, _, hlt⟩ := World.ownsRow.form h (by omega)
    subst hv
    refine ⟨_, cap, rfl, .inr ⟨g, 0, rfl, hlt, fun k u hu => ?_⟩⟩
    have := h.cells (g := g) rfl k u hu
    rw [Addr.add_lit] at this
    exact this

theorem own_drewN {w : World} {base e size n : Nat} {v : Value} {xs : List Value} (h : w.ownsRow base e size v n xs) (j : Nat) : (w.drewN j).ownsRow base e size v n xs := h
/-- poly.steep of a polynomial that may be. -/
theorem steep_any (A : Option Addr) (n cap : Nat) (ps : List Cc) (hn : ps.length = n) (hc : checkS ps = true) (w : World) (hs : Seq w w.heap.size A (ps.map cv)) :
    Calls Try.prog 35 #[.slice A n cap] w fun e w' =>
      ∃ v, e = .returned v ∧ w'.ownsRow w.heap.size 29 1 v (n - 1) ((steepS ps).map cv) ∧ Below w.heap.size w w' := by
  obtain ⟨i0, hi, hz0, hz1, hz2⟩ := info_parts Try.infoC
  have hle : n ≤ 17 := by unfold checkS at hc; simp at hc; omega
  have haf : allfin ps = true := by unfold checkS at hc; simp at hc; exact hc.2.2
  have HS := Lib.hid hs
  have HN := Lib.hid hn
  have HF := Lib.hid haf
  clear hs hn haf hc
  go_enter Try.func35, Try.ntmps35
  go_wp2
  go_loopw [3, 4] (fun v i wr => ∃ k : Nat, 1 ≤ k ∧ (k ≤ n ∨ k = 1) ∧ i = .int .i64 k ∧ wr.ownsRow w.heap.size 29 1 v (k - 1) ((steepTo ps k).map cv) ∧ Below w.heap.size w wr) (fun _ i _ => n - (intOf i).toNat)
  case atStart => exact ⟨1, Nat.le_refl _, .inr rfl, rfl, World.ownsRow_nil _ _ _ _, Below.refl _ _⟩
  case round =>
    obtain ⟨k, hk1, hk, rfl, hown, hnx⟩ := hrel
    by_cases hlt : k < n
    · obtain ⟨b, o, rfl, hb, hcl⟩ := (HS.out.below hnx (Nat.le_refl _)).cat (k := k) (by have := HN.out; omega)
      clear hb
      go_wp2_with (first
        | (go_at_call 59; refine (cscale_any _ _ _ _).mono ?_; rintro e w' ⟨s, t, j, rfl, rfl⟩)
        | (at_builtin; refine wpList_append_own _ rfl _ _ 23 rfl w.heap.size 29 i0 (.complex .f64 0 0) 1 16 Try.underlying23 hi hz0 hz1 hz2 rfl (by decide) _ _ _ rfl ((own_drewN hown _).alloc _) ⟨wr.heap.size, 0, none⟩ 1 1 [.complex .f64 (pick (fop .mul (nth ps k).1 (floatOfInt .f64 k)) s) (pick (fop .mul (nth ps k).2 (floatOfInt .f64 k)) t)] rfl rfl ?c1 ?c2 ?c3 ?c4 ?c5 ?_))
      case c1 =>
        intro j u hj
        match j, hj with
        | 0, hj =>
          simp at hj; subst hj; simp only [Addr.add, if_true]
          rw [World.cell?_alloc_at _ _ _ _ (by simp)]; rfl
      case c2 => intro u hu; simp at hu; subst hu; rfl
      case c3 => unfold maxLen; omega
      case c4 => omega
      case c5 => have := hnx.size; simp; omega
      intro v' w1 hown' hgrow _
      have hnx' : Below w.heap.size w w1 := (show Below w.heap.size w _ from (below_drewN hnx j).alloc (by have := hnx.size; simpa using this) _).grown hgrow (by have := hnx.size; simp; omega) (fun q hq => (hown.lt q hq).1)
      have hown2 : w1.ownsRow w.heap.size 29 1 v' (k + 1 - 1) ((steepTo ps (k + 1)).map cv) := by
        have e := scaleC_pick HF.out (k := k) (by have := HN.out; omega) (by omega) s t
        rw [steepTo_next ps hk1, List.map_append, show k + 1 - 1 = k by omega, ← e]
        exact hown'
      clear hown' hgrow hown hcl
      go_wp2
      go_roundw
      case rel => exact ⟨k + 1, by omega, by omega, by go_num, hown2, hnx'⟩
      case measure => simp [intOf]; omega
    · have e : steepTo ps k = steepS ps := by
        unfold steepS
        have := HN.out
        rcases hk with h | h
        · rw [show k = ps.length by omega]
        · unfold steepTo; rw [show k - 1 = 0 by omega, show ps.length - 1 = 0 by omega]
      rw [e] at hown
      have hkn : k - 1 = n - 1 := by omega
      rw [hkn] at hown
      clear e hkn
      go_wp2
      go_ret
      exact ⟨_, rfl, hown, hnx⟩
/-- poly.SlopeAt. -/
theorem SlopeAt_any (A : Option Addr) (n cap : Nat) (ps : List Cc) (hn : ps.length = n) (hm : n ≤ 9223372036854775807) (x y : Nat) (w : World) (hs : Seq w w.heap.size A (ps.map cv)) :
    Calls Try.prog 15 #[.slice A n cap, .complex .f64 x y] w (RCE (checkS ps) (atFrom (x, y) (steepS ps) 0).1 (atFrom (x, y) (steepS ps) 0).2 w) := by
  have HS := Lib.hid hs
  have HN := Lib.hid hn
  clear hs hn
  unfold RCE
  cases hc : checkS ps
  · go_enter Try.func15, Try.ntmps15
    go_wp2_with fail
    refine (all_one w.heap.size A n cap ps HN.out hm w.heap.size _ (HS.out.alloc (Nat.le_refl _) _) (by simp)).mono ?_
    rintro e w' ⟨rfl, rfl⟩
    rw [hc]
    go_wp2
    go_ret2
    exact ⟨rfl, by repeat (first | exact Below.refl _ _ | refine below_drewN ?_ _ | refine Below.alloc ?_ (by first | omega | (simp; omega) | simp) _ | refine Below.setCell ?_ (by first | omega | (simp; omega) | simp) _ | refine Below.trans ?_ (Below.mono (by assumption) (by first | omega | (simp; omega) | simp)) | apply Below.drew)⟩
  · have hn17 : n ≤ 17 := by have := HN.out; unfold checkS at hc; simp at hc; omega
    have HC := Lib.hid hc
    go_enter Try.func15, Try.ntmps15
    go_wp2_with fail
    refine (all_one w.heap.size A n cap ps HN.out hm w.heap.size _ (HS.out.alloc (Nat.le_refl _) _) (by simp)).mono ?_
    rintro e w' ⟨rfl, rfl⟩
    rw [hc]
    clear hc
    go_wp2_with fail
    refine (steep_any A n cap ps HN.out HC.out _ ((HS.out.alloc (Nat.le_refl _) _).more (by simp))).mono ?_
    rintro e w1 ⟨v, rfl, hown, hb⟩
    obtain ⟨A1, c1, rfl, hs1⟩ := seq_of_own hown
    clear hown
    have HS1 := Lib.hid hs1
    clear hs1
    go_wp2_with fail
    refine (pat_any A1 (n - 1) c1 (steepS ps) (by have := HN.out; unfold steepS; rw [steepTo_length]; omega) (by omega) x y _ HS1.out).mono ?_
    rintro e w2 ⟨s, t, rfl, hb2⟩
    have z0 : w.heap.size < w1.heap.size := by have := hb.size; simp at this; omega
    go_wp2
    go_ret2
    exact ⟨⟨_, _, rfl⟩, by repeat (first | exact Below.refl _ _ | refine below_drewN ?_ _ | refine Below.alloc ?_ (by first | omega | (simp; omega) | simp) _ | refine Below.setCell ?_ (by first | omega | (simp; omega) | simp) _ | refine Below.trans ?_ (Below.mono (by assumption) (by first | omega | (simp; omega) | simp)) | apply Below.drew)⟩
end Go.Proofs.Ytmcihnpghcdnmaa
