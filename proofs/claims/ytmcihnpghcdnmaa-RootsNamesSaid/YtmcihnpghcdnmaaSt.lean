/- The contract of roots.Start, at this translation. -/
import Derived.Test.YtmcihnpghcdnmaaNw
namespace Go.Proofs.Ytmcihnpghcdnmaa
open Go.RowKit Go.Fil
attribute [local irreducible] fop fsqrt fup fabs fneg pick fmax

def startMax (ps : List Cc) : Nat → Nat
  | 0 => 0
  | k + 1 => fmax (startMax ps k) (hiS (nth ps k).1 (nth ps k).2)
def startR0 (ps : List Cc) (m : Nat) : Nat := fop .add fone (fop .quo (startMax ps m) (hiS (nth ps m).1 (nth ps m).2))
def startR (ps : List Cc) (m : Nat) : Nat := if infB (startR0 ps m) || isNaN (startR0 ps m) then fone else startR0 ps m
def RSt (R m : Nat) (w : World) (e : Ending) (w' : World) : Prop :=
  ∃ (v : Value) (zs : List Cc), e = .returned (.tuple #[v, .int .i64 0]) ∧ zs.length = m ∧ (0 < m → nth zs 0 = (R, 0)) ∧ w'.ownsRow w.heap.size 29 1 v m (zs.map cv) ∧ Below w.heap.size w w'
/-- The one cell of a new complex number. -/
theorem c_new (w : World) (a b : Nat) (t : TypeId) : ∀ j u, [Value.complex .f64 a b][j]? = some u → (w.alloc (.cells #[.complex .f64 a b] t)).cell? ((⟨w.heap.size, 0, none⟩ : Addr).add j) = some u := by
  intro j u hj
  match j, hj with
  | 0, hj =>
    simp at hj; subst hj; simp only [Addr.add, if_true]
    rw [World.cell?_alloc_at _ _ _ _ (by simp)]; rfl
theorem nth_append_first {zs : List Cc} {c : Cc} {R : Nat} (h0 : zs.length = 0 → c = (R, 0)) (h1 : 0 < zs.length → nth zs 0 = (R, 0)) : nth (zs ++ [c]) 0 = (R, 0) := by
  cases zs with
  | nil => exact h0 rfl
  | cons z zs => exact h1 (by simp)
section
variable (A : Option Addr) (m cap : Nat) (ps : List Cc) (hn : ps.length = m + 1) (hcap : m + 1 ≤ cap) (w : World) (hs : Seq w w.heap.size A (ps.map cv)) (hc : checkS ps = true)
include hn hcap hs hc
set_option maxHeartbeats 1600000 in
theorem start_inf (h1 : infB (fop .add 4607182418800017408 (fop .quo (startMax ps m) (hiS (nth ps m).1 (nth ps m).2))) = true) : Calls Try.prog 5 #[.slice A (m + 1) cap] w (RSt fone m w) := by
  have hm17 : m < 17 := by unfold checkS at hc; simp at hc; omega
  obtain ⟨i0, hi, hz0, hz1, hz2⟩ := info_parts Try.infoC
  have i1 : (0 : Int) ≤ (m : Int) := by omega
  have i2 : (m : Int) ≤ (cap : Int) := by omega
  have i3 : (m : Int) < (m : Int) + 1 := by omega
  obtain ⟨b, o, rfl, hb, hcl⟩ := hs.cat (k := m) (by omega)
  have HS := Lib.hid hs
  have HN := Lib.hid hn
  skip
  clear hs hn
  go_enter Try.func5, Try.ntmps5
  go_wp2_with (first
    | (go_at_call 9; refine (may_ok _ (m + 1) cap ps HN.out (by omega) (by omega) w.heap.size _ HS.out hc).mono ?_; rintro e w' ⟨rfl, rfl⟩))
  go_loopw [5, 21] (fun s i wr => ∃ k t j : Nat, k ≤ m ∧ s = .float .f64 (pick (startMax ps k) t) ∧ i = .int .i64 k ∧ wr = w.drewN j) (fun _ i _ => m - (intOf i).toNat)
  case atStart => exact ⟨0, 0, 0, Nat.zero_le _, by rw [show startMax ps 0 = 0 from rfl, pick_of (show isNaN 0 = false by decide)], rfl, rfl⟩
  case round =>
    obtain ⟨k, t, j, hk, rfl, rfl, rfl⟩ := hrel
    by_cases hlt : k < m
    · have hck := (HS.out.drewN j).cell (k := k) (by have := HN.out; omega)
      have HX : Hid (fmax (startMax ps k) (hiS (nth ps k).1 (nth ps k).2) = startMax ps (k + 1)) := Lib.hid rfl
      go_wp2_with (first
        | (go_at_call 10; refine (hi_any _ _ _).mono ?_; rintro e w' ⟨s, i, rfl, rfl⟩))
      go_roundw
      case rel => exact ⟨k + 1, _, _, by omega, by rw [← HX.out], by go_num, rfl⟩
      case measure => simp [intOf]; omega
    · obtain rfl : k = m := by omega
      go_wp2_with (first
        | (go_at_call 10; refine (hi_any _ _ _).mono ?_; rintro e w' ⟨s, i, rfl, rfl⟩)
        | (go_at_call 11; refine (isinf0_any _ _).mono ?_; rintro e w' ⟨rfl, rfl⟩))
      go_loopw [9, 10, 48] (fun u z i wr => ∃ (q : Nat) (v : Value) (zs : List Cc) (c : Cc), v = u ∧ q ≤ k ∧ zs.length = q ∧ z = .complex .f64 c.1 c.2 ∧ i = .int .i64 q ∧ (q = 0 → c = (4607182418800017408, 0)) ∧ (0 < q → nth zs 0 = (4607182418800017408, 0)) ∧ wr.ownsRow w.heap.size 29 1 v q (zs.map cv) ∧ Below w.heap.size w wr) (fun _ _ i _ => k - (intOf i).toNat)
      case atStart => exact ⟨0, _, [], (4607182418800017408, 0), rfl, Nat.zero_le _, rfl, rfl, rfl, fun _ => rfl, fun h => absurd h (by decide), World.ownsRow_nil _ _ _ _, by repeat (first | exact Below.refl _ _ | refine below_drewN ?_ _ | refine Below.alloc ?_ (by first | omega | (simp; omega) | simp) _ | refine Below.setCell ?_ (by first | omega | (simp; omega) | simp) _ | refine Below.trans ?_ (Below.mono (by assumption) (by first | omega | (simp; omega) | simp)) | apply Below.drew)⟩
      case round =>
        obtain ⟨q, v, zs, c, hv, hq, hz, rfl, rfl, hc0, hc1, hown, hnx⟩ := hrel
        subst hv
        have HC0 := Lib.hid hc0
        have HC1 := Lib.hid hc1
        have HZ := Lib.hid hz
        clear hc0 hc1 hz
        by_cases hlq : q < k
        · go_wp2_with (first
            | (at_builtin; refine wpList_append_own _ rfl _ _ 23 rfl w.heap.size 29 i0 (.complex .f64 0 0) 1 16 Try.underlying23 hi hz0 hz1 hz2 rfl (by decide) _ _ _ rfl (hown.alloc _) ⟨wr.heap.size, 0, none⟩ 1 1 [.complex .f64 c.1 c.2] rfl rfl ?c1 ?c2 ?c3 ?c4 ?c5 ?_))
          case c1 => exact c_new wr _ _ _
          case c2 => intro u hu; simp at hu; subst hu; rfl
          case c3 => unfold maxLen; omega
          case c4 => omega
          case c5 => have := hnx.size; simp; omega
          intro v' w1 hown' hgrow _
          have hnx' : Below w.heap.size w w1 := (show Below w.heap.size w _ from hnx.alloc hnx.size _).grown hgrow (by have := hnx.size; simp; omega) (fun q hq => (hown.lt q hq).1)
          have hown2 : w1.ownsRow w.heap.size 29 1 v' (q + 1) ((zs ++ [c]).map cv) := by
            rw [List.map_append]; exact hown'
          clear hown' hgrow hown
          go_wp2_with (first
            | (go_at_call 12; refine (cmul_any _ _ _ _ _).mono ?_; rintro e w' ⟨s, t, j, rfl, rfl⟩))
          go_roundw
          case rel => exact ⟨q + 1, _, zs ++ [c], (_, _), rfl, by omega, by have := HZ.out; simp; omega, rfl, by go_num, fun h => absurd h (by omega), fun _ => nth_append_first (by rw [HZ.out]; exact HC0.out) (by rw [HZ.out]; exact HC1.out), hown2, by repeat (first | exact Below.refl _ _ | refine below_drewN ?_ _ | refine Below.alloc ?_ (by first | omega | (simp; omega) | simp) _ | refine Below.setCell ?_ (by first | omega | (simp; omega) | simp) _ | refine Below.trans ?_ (Below.mono (by assumption) (by first | omega | (simp; omega) | simp)) | apply Below.drew)⟩
          case measure => simp [intOf]; omega
        · obtain rfl : q = k := by omega
          go_wp2
          go_ret2
          exact ⟨_, zs, rfl, HZ.out, HC1.out, hown, hnx⟩
set_option maxHeartbeats 1600000 in
theorem start_nan (h1 : infB (fop .add 4607182418800017408 (fop .quo (startMax ps m) (hiS (nth ps m).1 (nth ps m).2))) = false) (h2 : isNaN (fop .add 4607182418800017408 (fop .quo (startMax ps m) (hiS (nth ps m).1 (nth ps m).2))) = true) : Calls Try.prog 5 #[.slice A (m + 1) cap] w (RSt fone m w) := by
  have hm17 : m < 17 := by unfold checkS at hc; simp at hc; omega
  obtain ⟨i0, hi, hz0, hz1, hz2⟩ := info_parts Try.infoC
  have i1 : (0 : Int) ≤ (m : Int) := by omega
  have i2 : (m : Int) ≤ (cap : Int) := by omega
  have i3 : (m : Int) < (m : Int) + 1 := by omega
  obtain ⟨b, o, rfl, hb, hcl⟩ := hs.cat (k := m) (by omega)
  have HS := Lib.hid hs
  have HN := Lib.hid hn
  skip
  clear hs hn
  go_enter Try.func5, Try.ntmps5
  go_wp2_with (first
    | (go_at_call 9; refine (may_ok _ (m + 1) cap ps HN.out (by omega) (by omega) w.heap.size _ HS.out hc).mono ?_; rintro e w' ⟨rfl, rfl⟩))
  go_loopw [5, 21] (fun s i wr => ∃ k t j : Nat, k ≤ m ∧ s = .float .f64 (pick (startMax ps k) t) ∧ i = .int .i64 k ∧ wr = w.drewN j) (fun _ i _ => m - (intOf i).toNat)
  case atStart => exact ⟨0, 0, 0, Nat.zero_le _, by rw [show startMax ps 0 = 0 from rfl, pick_of (show isNaN 0 = false by decide)], rfl, rfl⟩
  case round =>
    obtain ⟨k, t, j, hk, rfl, rfl, rfl⟩ := hrel
    by_cases hlt : k < m
    · have hck := (HS.out.drewN j).cell (k := k) (by have := HN.out; omega)
      have HX : Hid (fmax (startMax ps k) (hiS (nth ps k).1 (nth ps k).2) = startMax ps (k + 1)) := Lib.hid rfl
      go_wp2_with (first
        | (go_at_call 10; refine (hi_any _ _ _).mono ?_; rintro e w' ⟨s, i, rfl, rfl⟩))
      go_roundw
      case rel => exact ⟨k + 1, _, _, by omega, by rw [← HX.out], by go_num, rfl⟩
      case measure => simp [intOf]; omega
    · obtain rfl : k = m := by omega
      go_wp2_with (first
        | (go_at_call 10; refine (hi_any _ _ _).mono ?_; rintro e w' ⟨s, i, rfl, rfl⟩)
        | (go_at_call 11; refine (isinf0_any _ _).mono ?_; rintro e w' ⟨rfl, rfl⟩))
      go_loopw [9, 10, 48] (fun u z i wr => ∃ (q : Nat) (v : Value) (zs : List Cc) (c : Cc), v = u ∧ q ≤ k ∧ zs.length = q ∧ z = .complex .f64 c.1 c.2 ∧ i = .int .i64 q ∧ (q = 0 → c = (4607182418800017408, 0)) ∧ (0 < q → nth zs 0 = (4607182418800017408, 0)) ∧ wr.ownsRow w.heap.size 29 1 v q (zs.map cv) ∧ Below w.heap.size w wr) (fun _ _ i _ => k - (intOf i).toNat)
      case atStart => exact ⟨0, _, [], (4607182418800017408, 0), rfl, Nat.zero_le _, rfl, rfl, rfl, fun _ => rfl, fun h => absurd h (by decide), World.ownsRow_nil _ _ _ _, by repeat (first | exact Below.refl _ _ | refine below_drewN ?_ _ | refine Below.alloc ?_ (by first | omega | (simp; omega) | simp) _ | refine Below.setCell ?_ (by first | omega | (simp; omega) | simp) _ | refine Below.trans ?_ (Below.mono (by assumption) (by first | omega | (simp; omega) | simp)) | apply Below.drew)⟩
      case round =>
        obtain ⟨q, v, zs, c, hv, hq, hz, rfl, rfl, hc0, hc1, hown, hnx⟩ := hrel
        subst hv
        have HC0 := Lib.hid hc0
        have HC1 := Lib.hid hc1
        have HZ := Lib.hid hz
        clear hc0 hc1 hz
        by_cases hlq : q < k
        · go_wp2_with (first
            | (at_builtin; refine wpList_append_own _ rfl _ _ 23 rfl w.heap.size 29 i0 (.complex .f64 0 0) 1 16 Try.underlying23 hi hz0 hz1 hz2 rfl (by decide) _ _ _ rfl (hown.alloc _) ⟨wr.heap.size, 0, none⟩ 1 1 [.complex .f64 c.1 c.2] rfl rfl ?c1 ?c2 ?c3 ?c4 ?c5 ?_))
          case c1 => exact c_new wr _ _ _
          case c2 => intro u hu; simp at hu; subst hu; rfl
          case c3 => unfold maxLen; omega
          case c4 => omega
          case c5 => have := hnx.size; simp; omega
          intro v' w1 hown' hgrow _
          have hnx' : Below w.heap.size w w1 := (show Below w.heap.size w _ from hnx.alloc hnx.size _).grown hgrow (by have := hnx.size; simp; omega) (fun q hq => (hown.lt q hq).1)
          have hown2 : w1.ownsRow w.heap.size 29 1 v' (q + 1) ((zs ++ [c]).map cv) := by
            rw [List.map_append]; exact hown'
          clear hown' hgrow hown
          go_wp2_with (first
            | (go_at_call 12; refine (cmul_any _ _ _ _ _).mono ?_; rintro e w' ⟨s, t, j, rfl, rfl⟩))
          go_roundw
          case rel => exact ⟨q + 1, _, zs ++ [c], (_, _), rfl, by omega, by have := HZ.out; simp; omega, rfl, by go_num, fun h => absurd h (by omega), fun _ => nth_append_first (by rw [HZ.out]; exact HC0.out) (by rw [HZ.out]; exact HC1.out), hown2, by repeat (first | exact Below.refl _ _ | refine below_drewN ?_ _ | refine Below.alloc ?_ (by first | omega | (simp; omega) | simp) _ | refine Below.setCell ?_ (by first | omega | (simp; omega) | simp) _ | refine Below.trans ?_ (Below.mono (by assumption) (by first | omega | (simp; omega) | simp)) | apply Below.drew)⟩
          case measure => simp [intOf]; omega
        · obtain rfl : q = k := by omega
          go_wp2
          go_ret2
          exact ⟨_, zs, rfl, HZ.out, HC1.out, hown, hnx⟩
set_option maxHeartbeats 1600000 in
theorem start_num (h1 : infB (fop .add 4607182418800017408 (fop .quo (startMax ps m) (hiS (nth ps m).1 (nth ps m).2))) = false) (h2 : isNaN (fop .add 4607182418800017408 (fop .quo (startMax ps m) (hiS (nth ps m).1 (nth ps m).2))) = false) : Calls Try.prog 5 #[.slice A (m + 1) cap] w (RSt (fop .add fone (fop .quo (startMax ps m) (hiS (nth ps m).1 (nth ps m).2))) m w) := by
  have hm17 : m < 17 := by unfold checkS at hc; simp at hc; omega
  obtain ⟨i0, hi, hz0, hz1, hz2⟩ := info_parts Try.infoC
  have i1 : (0 : Int) ≤ (m : Int) := by omega
  have i2 : (m : Int) ≤ (cap : Int) := by omega
  have i3 : (m : Int) < (m : Int) + 1 := by omega
  obtain ⟨b, o, rfl, hb, hcl⟩ := hs.cat (k := m) (by omega)
  have HS := Lib.hid hs
  have HN := Lib.hid hn
  have hpk := pick_of h2
  clear hs hn
  go_enter Try.func5, Try.ntmps5
  go_wp2_with (first
    | (go_at_call 9; refine (may_ok _ (m + 1) cap ps HN.out (by omega) (by omega) w.heap.size _ HS.out hc).mono ?_; rintro e w' ⟨rfl, rfl⟩))
  go_loopw [5, 21] (fun s i wr => ∃ k t j : Nat, k ≤ m ∧ s = .float .f64 (pick (startMax ps k) t) ∧ i = .int .i64 k ∧ wr = w.drewN j) (fun _ i _ => m - (intOf i).toNat)
  case atStart => exact ⟨0, 0, 0, Nat.zero_le _, by rw [show startMax ps 0 = 0 from rfl, pick_of (show isNaN 0 = false by decide)], rfl, rfl⟩
  case round =>
    obtain ⟨k, t, j, hk, rfl, rfl, rfl⟩ := hrel
    by_cases hlt : k < m
    · have hck := (HS.out.drewN j).cell (k := k) (by have := HN.out; omega)
      have HX : Hid (fmax (startMax ps k) (hiS (nth ps k).1 (nth ps k).2) = startMax ps (k + 1)) := Lib.hid rfl
      go_wp2_with (first
        | (go_at_call 10; refine (hi_any _ _ _).mono ?_; rintro e w' ⟨s, i, rfl, rfl⟩))
      go_roundw
      case rel => exact ⟨k + 1, _, _, by omega, by rw [← HX.out], by go_num, rfl⟩
      case measure => simp [intOf]; omega
    · obtain rfl : k = m := by omega
      go_wp2_with (first
        | (go_at_call 10; refine (hi_any _ _ _).mono ?_; rintro e w' ⟨s, i, rfl, rfl⟩)
        | (go_at_call 11; refine (isinf0_any _ _).mono ?_; rintro e w' ⟨rfl, rfl⟩))
      go_loopw [9, 10, 48] (fun u z i wr => ∃ (q : Nat) (v : Value) (zs : List Cc) (c : Cc), v = u ∧ q ≤ k ∧ zs.length = q ∧ z = .complex .f64 c.1 c.2 ∧ i = .int .i64 q ∧ (q = 0 → c = ((fop .add 4607182418800017408 (fop .quo (startMax ps k) (hiS (nth ps k).1 (nth ps k).2))), 0)) ∧ (0 < q → nth zs 0 = ((fop .add 4607182418800017408 (fop .quo (startMax ps k) (hiS (nth ps k).1 (nth ps k).2))), 0)) ∧ wr.ownsRow w.heap.size 29 1 v q (zs.map cv) ∧ Below w.heap.size w wr) (fun _ _ i _ => k - (intOf i).toNat)
      case atStart => exact ⟨0, _, [], ((fop .add 4607182418800017408 (fop .quo (startMax ps k) (hiS (nth ps k).1 (nth ps k).2))), 0), rfl, Nat.zero_le _, rfl, rfl, rfl, fun _ => rfl, fun h => absurd h (by decide), World.ownsRow_nil _ _ _ _, by repeat (first | exact Below.refl _ _ | refine below_drewN ?_ _ | refine Below.alloc ?_ (by first | omega | (simp; omega) | simp) _ | refine Below.setCell ?_ (by first | omega | (simp; omega) | simp) _ | refine Below.trans ?_ (Below.mono (by assumption) (by first | omega | (simp; omega) | simp)) | apply Below.drew)⟩
      case round =>
        obtain ⟨q, v, zs, c, hv, hq, hz, rfl, rfl, hc0, hc1, hown, hnx⟩ := hrel
        subst hv
        have HC0 := Lib.hid hc0
        have HC1 := Lib.hid hc1
        have HZ := Lib.hid hz
        clear hc0 hc1 hz
        by_cases hlq : q < k
        · go_wp2_with (first
            | (at_builtin; refine wpList_append_own _ rfl _ _ 23 rfl w.heap.size 29 i0 (.complex .f64 0 0) 1 16 Try.underlying23 hi hz0 hz1 hz2 rfl (by decide) _ _ _ rfl (hown.alloc _) ⟨wr.heap.size, 0, none⟩ 1 1 [.complex .f64 c.1 c.2] rfl rfl ?c1 ?c2 ?c3 ?c4 ?c5 ?_))
          case c1 => exact c_new wr _ _ _
          case c2 => intro u hu; simp at hu; subst hu; rfl
          case c3 => unfold maxLen; omega
          case c4 => omega
          case c5 => have := hnx.size; simp; omega
          intro v' w1 hown' hgrow _
          have hnx' : Below w.heap.size w w1 := (show Below w.heap.size w _ from hnx.alloc hnx.size _).grown hgrow (by have := hnx.size; simp; omega) (fun q hq => (hown.lt q hq).1)
          have hown2 : w1.ownsRow w.heap.size 29 1 v' (q + 1) ((zs ++ [c]).map cv) := by
            rw [List.map_append]; exact hown'
          clear hown' hgrow hown
          go_wp2_with (first
            | (go_at_call 12; refine (cmul_any _ _ _ _ _).mono ?_; rintro e w' ⟨s, t, j, rfl, rfl⟩))
          go_roundw
          case rel => exact ⟨q + 1, _, zs ++ [c], (_, _), rfl, by omega, by have := HZ.out; simp; omega, rfl, by go_num, fun h => absurd h (by omega), fun _ => nth_append_first (by rw [HZ.out]; exact HC0.out) (by rw [HZ.out]; exact HC1.out), hown2, by repeat (first | exact Below.refl _ _ | refine below_drewN ?_ _ | refine Below.alloc ?_ (by first | omega | (simp; omega) | simp) _ | refine Below.setCell ?_ (by first | omega | (simp; omega) | simp) _ | refine Below.trans ?_ (Below.mono (by assumption) (by first | omega | (simp; omega) | simp)) | apply Below.drew)⟩
          case measure => simp [intOf]; omega
        · obtain rfl : q = k := by omega
          go_wp2
          go_ret2
          exact ⟨_, zs, rfl, HZ.out, HC1.out, hown, hnx⟩
theorem start_any : Calls Try.prog 5 #[.slice A (m + 1) cap] w (RSt (startR ps m) m w) := by
  unfold startR startR0
  cases h1 : infB (fop .add fone (fop .quo (startMax ps m) (hiS (nth ps m).1 (nth ps m).2)))
  · cases h2 : isNaN (fop .add fone (fop .quo (startMax ps m) (hiS (nth ps m).1 (nth ps m).2)))
    · exact start_num A m cap ps hn hcap w hs hc h1 h2
    · exact start_nan A m cap ps hn hcap w hs hc h1 h2
  · exact start_inf A m cap ps hn hcap w hs hc h1
end
end Go.Proofs.Ytmcihnpghcdnmaa
