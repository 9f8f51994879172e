/- roots.moved, Step, Guess: the points stay finite. -/
import Derived.Test.YtbgjcpnbdgljbaaGreatDoorMCtr
import Derived.Test.YtbgjcpnbdgljbaaGreatDoorMVpl
import Derived.Test.YtbgjcpnbdgljbaaGreatDoorMPcu
namespace Go.Proofs.YtbgjcpnbdgljbaaGreatDoor
open Go.RowKit Go.Fil
attribute [local irreducible] fop fsqrt fup fabs fneg pick fmax

/-- A finite complex number's two words. -/
def FW (c : Cc) : Prop := cfin c.1 c.2 = true ∧ c.1 < 18446744073709551616 ∧ c.2 < 18446744073709551616
theorem FW.pick {X Y s t : Nat} (h : cfin X Y = true) (hX : X < 18446744073709551616) (hY : Y < 18446744073709551616) : FW (pick X s, pick Y t) := by
  obtain ⟨h1, h2⟩ := cfin_nan h
  unfold FW
  rw [pick_of h1, pick_of h2]
  exact ⟨h, hX, hY⟩
def FWs (ls : List Cc) : Prop := ∀ k, k < ls.length → FW (nth ls k)
theorem FWs.nil : FWs [] := fun _ h => absurd h (Nat.not_lt_zero _)
theorem FWs.snoc {ls : List Cc} {c : Cc} (h : FWs ls) (hc : FW c) : FWs (ls ++ [c]) := by
  intro k hk
  unfold nth
  rw [List.getD_eq_getElem?_getD]
  rw [List.length_append] at hk
  rcases Nat.lt_or_ge k ls.length with h1 | h1
  · rw [List.getElem?_append_left h1, ← List.getD_eq_getElem?_getD]
    exact h k h1
  · have : k - ls.length = 0 := by simp at hk; omega
    rw [List.getElem?_append_right h1, this]
    exact hc
/-- What moved answers. -/
def RMv (w : World) (e : Ending) (w' : World) : Prop := ∃ c, FW c ∧ e = .returned (.complex .f64 c.1 c.2) ∧ Below w.heap.size w w'
set_option maxRecDepth 100000 in
set_option maxHeartbeats 3200000 in
theorem moved_any (A A2 : Option Addr) (n m cap cap2 k : Nat) (ps ls : List Cc) (hn : ps.length = n + 1) (hn2 : n ≤ 1000) (hm : ls.length = m) (hm2 : m ≤ 1000) (hk : k < m) (hf : FWs ls) (hc : checkS ps = true) (w : World) (hs : Seq w w.heap.size A (ps.map cv)) (hs2 : Seq w w.heap.size A2 (ls.map cv)) :
    Calls Tryz.prog 182 #[.slice A (n + 1) cap, .slice A2 m cap2, .int .i64 k] w (RMv w) := by
  obtain ⟨b2, o2, rfl, hb2, hcl⟩ := hs2.cat (k := k) (by omega)
  obtain ⟨b1, o1, rfl, hb1, hcp⟩ := hs.cat (k := n) (by omega)
  have HFK := Lib.hid (hf k (by omega))
  have HS2 := Lib.hid hs2
  have HM := Lib.hid hm
  have i0 : (0 : Int) ≤ (k : Int) := by omega
  have i1 : (k : Int) < (m : Int) := by omega
  have HAT := Lib.hid (fun x y w hs => At_ok (some ⟨b1, o1, none⟩) (n + 1) cap ps hn (by omega) x y w hs hc (u1 := (atFrom (x, y) ps 0).1) (u2 := (atFrom (x, y) ps 0).2) rfl)
  have HS := Lib.hid hs
  clear hs hs2 hn hm hf hc
  go_enter Tryz.func182, Tryz.ntmps182
  go_wp2_with fail
  refine (HAT.out _ _ _ HS.out).mono ?_
  rintro e w1 ⟨s, t, rfl, hb⟩
  have HB := Lib.hid hb
  have hcl1 := (hb.cell (p := ⟨b2, o2 + k, none⟩) hb2).trans hcl
  have hcp1 := (hb.cell (p := ⟨b1, o1 + n, none⟩) hb1).trans hcp
  clear hb hcl hcp HAT HS
  generalize pick (atFrom ((nth ls k).1, (nth ls k).2) ps 0).1 s = U1
  generalize pick (atFrom ((nth ls k).1, (nth ls k).2) ps 0).2 t = U2
  go_wp2
  go_loopw [9, 37] (fun d i wr => ∃ (j q D E : Nat), j ≤ m ∧ d = .complex .f64 D E ∧ i = .int .i64 j ∧ wr = w1.drewN q) (fun _ i _ => m - (intOf i).toNat)
  case atStart => exact ⟨0, 0, _, _, Nat.zero_le _, rfl, rfl, rfl⟩
  case round =>
    obtain ⟨j, q, D, E, hj, rfl, rfl, rfl⟩ := hrel
    by_cases hlt : j < m
    · have hclj := (HS2.out.below HB.out (Nat.le_refl _)).cell (k := j) (by have := HM.out; omega)
      by_cases hjk : (j : Int) = (k : Int)
      · have hjk' : ((j : Int) != (k : Int)) = false := by simpa using hjk
        go_wp2
        go_roundw
        case rel => exact ⟨j + 1, q, _, _, by omega, rfl, by go_num, rfl⟩
        case measure => simp [intOf]; omega
      · have hjk' : ((j : Int) != (k : Int)) = true := by simpa using hjk
        go_wp2_with (first
          | (go_at_call 110; refine (csub_any _ _ _ _ _).mono ?_; rintro e w' ⟨s, t, i, rfl, rfl⟩)
          | (go_at_call 45; refine (cmul_any _ _ _ _ _).mono ?_; rintro e w' ⟨s, t, i', rfl, rfl⟩))
        go_roundw
        case rel => exact ⟨j + 1, _, _, _, by omega, rfl, by go_num, by first | rfl | (simp [World.drewN, Nat.add_assoc]; rfl)⟩
        case measure => simp [intOf]; omega
    · obtain rfl : j = m := by omega
      have hbw := HB.out
      have hfk := HFK.out
      cases hq : cfin (quoRe U1 U2 D E) (quoIm U1 U2 D E)
      · go_wp2_with (first
          | (go_at_call 109; refine (cquo_any _ _ _ _ _).mono ?_; rintro e w' ⟨s, t, j, rfl, rfl⟩)
          | (go_at_call 110; refine (csub_any _ _ _ _ _).mono ?_; rintro e w' ⟨s, t, i, rfl, rfl⟩)
          | (go_at_call 107; refine (rfinite_any _ _ _).mono ?_; rintro e w' ⟨j, rfl, rfl⟩; simp only [cfin_pick_l, cfin_pick_r, hq]))
        go_ret
        exact ⟨nth ls k, hfk, rfl, by repeat (first | exact Below.refl _ _ | refine below_drewN ?_ _ | refine Below.alloc ?_ (by first | omega | (simp; omega) | simp) _ | refine Below.setCell ?_ (by first | omega | (simp; omega) | simp) _ | refine Below.trans ?_ (Below.mono (by assumption) (by first | omega | (simp; omega) | simp)) | apply Below.drew)⟩
      · have hp1 := pick_of (cfin_nan hq).1
        have hp2 := pick_of (cfin_nan hq).2
        cases hz : cfin (fop .sub (nth ls k).1 (quoRe U1 U2 D E)) (fop .sub (nth ls k).2 (quoIm U1 U2 D E))
        · go_wp2_with (first
            | (go_at_call 109; refine (cquo_any _ _ _ _ _).mono ?_; rintro e w' ⟨s, t, j, rfl, rfl⟩; simp only [hp1, hp2])
            | (go_at_call 110; refine (csub_any _ _ _ _ _).mono ?_; rintro e w' ⟨s, t, i, rfl, rfl⟩)
            | (go_at_call 107; refine (rfinite_any _ _ _).mono ?_; rintro e w' ⟨j, rfl, rfl⟩; simp only [cfin_pick_l, cfin_pick_r, hq, hz]))
          go_ret
          exact ⟨nth ls k, hfk, rfl, by repeat (first | exact Below.refl _ _ | refine below_drewN ?_ _ | refine Below.alloc ?_ (by first | omega | (simp; omega) | simp) _ | refine Below.setCell ?_ (by first | omega | (simp; omega) | simp) _ | refine Below.trans ?_ (Below.mono (by assumption) (by first | omega | (simp; omega) | simp)) | apply Below.drew)⟩
        · have hr := FW.pick (s := 0) (t := 0) hz (fop_lt _ _ _) (fop_lt _ _ _)
          have hp3 := pick_of (cfin_nan hz).1
          have hp4 := pick_of (cfin_nan hz).2
          rw [hp3, hp4] at hr
          go_wp2_with (first
            | (go_at_call 109; refine (cquo_any _ _ _ _ _).mono ?_; rintro e w' ⟨s, t, j, rfl, rfl⟩; simp only [hp1, hp2])
            | (go_at_call 110; refine (csub_any _ _ _ _ _).mono ?_; rintro e w' ⟨s, t, i, rfl, rfl⟩; simp only [hp3, hp4])
            | (go_at_call 107; refine (rfinite_any _ _ _).mono ?_; rintro e w' ⟨j, rfl, rfl⟩; simp only [hq, hz]))
          go_ret
          exact ⟨_, hr, rfl, by repeat (first | exact Below.refl _ _ | refine below_drewN ?_ _ | refine Below.alloc ?_ (by first | omega | (simp; omega) | simp) _ | refine Below.setCell ?_ (by first | omega | (simp; omega) | simp) _ | refine Below.trans ?_ (Below.mono (by assumption) (by first | omega | (simp; omega) | simp)) | apply Below.drew)⟩
/-- What Step answers. -/
def RPts (m : Nat) (w : World) (e : Ending) (w' : World) : Prop := ∃ (v : Value) (zs : List Cc), e = .returned (.tuple #[v, .int .i64 0]) ∧ zs.length = m ∧ FWs zs ∧ w'.ownsRow w.heap.size 41 1 v m (zs.map cv) ∧ Below w.heap.size w w'
set_option maxRecDepth 100000 in
set_option maxHeartbeats 3200000 in
theorem step_any (A A2 : Option Addr) (n cap cap2 : Nat) (ps ls : List Cc) (hn : ps.length = n + 1) (hn2 : n ≤ 1000) (hm : ls.length = n) (hf : FWs ls) (hc : checkS ps = true) (w : World) (hs : Seq w w.heap.size A (ps.map cv)) (hs2 : Seq w w.heap.size A2 (ls.map cv)) :
    Calls Tryz.prog 119 #[.slice A (n + 1) cap, .slice A2 n cap2] w (RPts n w) := by
  obtain ⟨i0, hi, hz0, hz1, hz2⟩ := info_parts Tryz.infoC
  have HMV := Lib.hid (fun k hk w hs hs2 => moved_any A A2 n n cap cap2 k ps ls hn hn2 hm hn2 hk hf hc w hs hs2)
  have HMAY := Lib.hid (fun w hs => may_ok A (n + 1) cap ps hn (by omega) (by omega) w.heap.size w hs hc)
  have HS := Lib.hid hs
  have HS2 := Lib.hid hs2
  have HM := Lib.hid hm
  have HF := Lib.hid hf
  clear hs hs2 hn hm hf hc
  go_enter Tryz.func119, Tryz.ntmps119
  go_wp2_with (first
    | (go_at_call 105; refine (HMAY.out _ HS.out).mono ?_; rintro e w' ⟨rfl, rfl⟩))
  go_loopw [23] (fun i wr => ∃ k j : Nat, k ≤ n ∧ i = .int .i64 k ∧ wr = w.drewN j) (fun i _ => n - (intOf i).toNat)
  case atStart => exact ⟨0, 0, Nat.zero_le _, rfl, rfl⟩
  case round =>
    obtain ⟨k, q, hk, rfl, rfl⟩ := hrel
    by_cases hlt : k < n
    · obtain ⟨b, o, rfl, hb, hcl⟩ := (HS2.out.drewN q).cat (k := k) (by have := HM.out; omega)
      have hfk := (HF.out k (by have := HM.out; omega)).1
      go_wp2_with (first
        | (go_at_call 107; refine (rfinite_any _ _ _).mono ?_; rintro e w' ⟨j, rfl, rfl⟩; simp only [hfk]))
      go_roundw
      case rel => exact ⟨k + 1, q + j, by omega, by go_num, by first | rfl | (simp [World.drewN, Nat.add_assoc])⟩
      case measure => simp [intOf]; omega
    · obtain rfl : k = n := by omega
      go_wp2
      go_loopw [8, 33] (fun u i wr => ∃ (p : Nat) (v : Value) (zs : List Cc), v = u ∧ p ≤ k ∧ zs.length = p ∧ i = .int .i64 p ∧ FWs zs ∧ wr.ownsRow w.heap.size 41 1 v p (zs.map cv) ∧ Below w.heap.size w wr) (fun _ i _ => k - (intOf i).toNat)
      case atStart => exact ⟨0, _, [], rfl, Nat.zero_le _, rfl, rfl, FWs.nil, World.ownsRow_nil _ _ _ _, below_drewN (Below.refl _ _) _⟩
      case round =>
        obtain ⟨p, v, zs, hv, hp, hzl, rfl, hfz, hown, hnx⟩ := hrel
        subst hv
        by_cases hlp : p < k
        · have HB := Lib.hid hnx
          have HFZ := Lib.hid hfz
          have HL := Lib.hid hzl
          clear hnx hfz hzl
          go_wp2_with fail
          refine (HMV.out p hlp _ ((HS.out.below HB.out (Nat.le_refl _)).more HB.out.size) ((HS2.out.below HB.out (Nat.le_refl _)).more HB.out.size)).mono ?_
          rintro e w2 ⟨c, hc, rfl, hb2⟩
          have hown2 := own_below hown hb2
          have HB2 := Lib.hid (HB.out.trans (hb2.mono HB.out.size))
          have HC := Lib.hid hc
          clear hc hb2 hown
          go_wp2_with (first
            | (at_builtin; refine wpList_append_own _ rfl _ _ 24 rfl w.heap.size 41 i0 (.complex .f64 0 0) 1 16 Tryz.underlying24 hi hz0 hz1 hz2 rfl (by decide) _ _ _ rfl (hown2.alloc _) ⟨w2.heap.size, 0, none⟩ 1 1 [.complex .f64 c.1 c.2] rfl rfl ?c1 ?c2 ?c3 ?c4 ?c5 ?_))
          case c1 => exact c_new w2 _ _ _
          case c2 => intro u hu; simp at hu; subst hu; rfl
          case c3 => unfold maxLen; omega
          case c4 => omega
          case c5 => have := HB2.out.size; simp; omega
          intro v' w3 hown' hgrow _
          have hnx' : Below w.heap.size w w3 := (HB2.out.alloc (by have := HB2.out.size; omega) _).grown hgrow (by have := HB2.out.size; simp; omega) (fun q hq => (hown2.lt q hq).1)
          have hown3 : w3.ownsRow w.heap.size 41 1 v' (p + 1) ((zs ++ [c]).map cv) := by
            rw [List.map_append]
            exact hown'
          have hfz' := HFZ.out.snoc HC.out
          have hzl' : (zs ++ [c]).length = p + 1 := by rw [List.length_append, HL.out]; rfl
          clear hown' hgrow hown2
          go_wp2
          go_roundw
          case rel => exact ⟨p + 1, _, zs ++ [c], rfl, by omega, hzl', by go_num, hfz', hown3, hnx'⟩
          case measure => simp [intOf]; omega
        · obtain rfl : p = k := by omega
          go_wp2
          go_ret2
          exact ⟨_, zs, rfl, hzl, hfz, hown, hnx⟩
end Go.Proofs.YtbgjcpnbdgljbaaGreatDoor

/- roots.Start: its points are finite where the spiral's are. -/
namespace Go.Proofs.YtbgjcpnbdgljbaaGreatDoor
open Go.RowKit Go.Fil
attribute [local irreducible] fop fsqrt fup fabs fneg pick fmax

/-- The spiral from R on. -/
def startZ (R : Nat) : Nat → Cc
  | 0 => (R, 0)
  | k + 1 => (mulRe (startZ R k).1 (startZ R k).2 4600877379321698714 4606281698874543309, mulIm (startZ R k).1 (startZ R k).2 4600877379321698714 4606281698874543309)
theorem startZ_next {R q s t : Nat} {c : Cc} (hc : c = startZ R q) (h : FW (startZ R (q + 1))) : (pick (mulRe c.1 c.2 4600877379321698714 4606281698874543309) s, pick (mulIm c.1 c.2 4600877379321698714 4606281698874543309) t) = startZ R (q + 1) := by
  subst hc
  obtain ⟨h1, h2⟩ := cfin_nan h.1
  rw [startZ] at h1 h2
  rw [startZ, pick_of h1, pick_of h2]
section
variable (A : Option Addr) (m cap : Nat) (ps : List Cc) (hn : ps.length = m + 1) (hcap : m + 1 ≤ cap) (w : World) (hs : Seq w w.heap.size A (ps.map cv)) (hc : checkS ps = true)
include hn hcap hs hc
set_option maxRecDepth 100000 in
set_option maxHeartbeats 1600000 in
theorem startf_inf (h1 : infB (fop .add 4607182418800017408 (fop .quo (startMax ps m) (hiS (nth ps m).1 (nth ps m).2))) = true) (hfz : ∀ k, k < m → FW (startZ (fone) k)) : Calls Tryz.prog 55 #[.slice A (m + 1) cap] w (RPts m w) := by
  have hm17 : m < 17 := by unfold checkS at hc; simp at hc; omega
  obtain ⟨i0, hi, hz0, hz1, hz2⟩ := info_parts Tryz.infoC
  have i1 : (0 : Int) ≤ (m : Int) := by omega
  have i2 : (m : Int) ≤ (cap : Int) := by omega
  have i3 : (m : Int) < (m : Int) + 1 := by omega
  obtain ⟨b, o, rfl, hb, hcl⟩ := hs.cat (k := m) (by omega)
  have HS := Lib.hid hs
  have HN := Lib.hid hn
  have HFZ := Lib.hid hfz
  skip
  clear hs hn hfz
  go_enter Tryz.func55, Tryz.ntmps55
  go_wp2_with (first
    | (go_at_call 105; refine (may_ok _ (m + 1) cap ps HN.out (by omega) (by omega) w.heap.size _ HS.out hc).mono ?_; rintro e w' ⟨rfl, rfl⟩))
  go_loopw [5, 21] (fun s i wr => ∃ k t j : Nat, k ≤ m ∧ s = .float .f64 (pick (startMax ps k) t) ∧ i = .int .i64 k ∧ wr = w.drewN j) (fun _ i _ => m - (intOf i).toNat)
  case atStart => exact ⟨0, 0, 0, Nat.zero_le _, by rw [show startMax ps 0 = 0 from rfl, pick_of (show isNaN 0 = false by decide)], rfl, rfl⟩
  case round =>
    obtain ⟨k, t, j, hk, rfl, rfl, rfl⟩ := hrel
    by_cases hlt : k < m
    · have hck := (HS.out.drewN j).cell (k := k) (by have := HN.out; omega)
      have HX : Hid (fmax (startMax ps k) (hiS (nth ps k).1 (nth ps k).2) = startMax ps (k + 1)) := Lib.hid rfl
      go_wp2_with (first
        | (go_at_call 106; refine (hi_any _ _ _).mono ?_; rintro e w' ⟨s, i, rfl, rfl⟩))
      go_roundw
      case rel => exact ⟨k + 1, _, _, by omega, by rw [← HX.out], by go_num, rfl⟩
      case measure => simp [intOf]; omega
    · obtain rfl : k = m := by omega
      go_wp2_with (first
        | (go_at_call 106; refine (hi_any _ _ _).mono ?_; rintro e w' ⟨s, i, rfl, rfl⟩)
        | (go_at_call 102; refine (isinf0_any _ _).mono ?_; rintro e w' ⟨rfl, rfl⟩))
      go_loopw [9, 10, 48] (fun u z i wr => ∃ (q : Nat) (v : Value) (zs : List Cc) (c : Cc), v = u ∧ q ≤ k ∧ zs.length = q ∧ z = .complex .f64 c.1 c.2 ∧ i = .int .i64 q ∧ (q < k → c = startZ (4607182418800017408) q) ∧ FWs zs ∧ wr.ownsRow w.heap.size 41 1 v q (zs.map cv) ∧ Below w.heap.size w wr) (fun _ _ i _ => k - (intOf i).toNat)
      case atStart => exact ⟨0, _, [], (4607182418800017408, 0), rfl, Nat.zero_le _, rfl, rfl, rfl, fun _ => rfl, FWs.nil, World.ownsRow_nil _ _ _ _, by repeat (first | exact Below.refl _ _ | refine below_drewN ?_ _ | refine Below.alloc ?_ (by first | omega | (simp; omega) | simp) _ | refine Below.setCell ?_ (by first | omega | (simp; omega) | simp) _ | refine Below.trans ?_ (Below.mono (by assumption) (by first | omega | (simp; omega) | simp)) | apply Below.drew)⟩
      case round =>
        obtain ⟨q, v, zs, c, hv, hq, hz, rfl, rfl, hc0, hc1, hown, hnx⟩ := hrel
        subst hv
        have HC0 := Lib.hid hc0
        have HC1 := Lib.hid hc1
        have HZ := Lib.hid hz
        clear hc0 hc1 hz
        by_cases hlq : q < k
        · go_wp2_with (first
            | (at_builtin; refine wpList_append_own _ rfl _ _ 24 rfl w.heap.size 41 i0 (.complex .f64 0 0) 1 16 Tryz.underlying24 hi hz0 hz1 hz2 rfl (by decide) _ _ _ rfl (hown.alloc _) ⟨wr.heap.size, 0, none⟩ 1 1 [.complex .f64 c.1 c.2] rfl rfl ?c1 ?c2 ?c3 ?c4 ?c5 ?_))
          case c1 => exact c_new wr _ _ _
          case c2 => intro u hu; simp at hu; subst hu; rfl
          case c3 => unfold maxLen; omega
          case c4 => omega
          case c5 => have := hnx.size; simp; omega
          intro v' w1 hown' hgrow _
          have hnx' : Below w.heap.size w w1 := (show Below w.heap.size w _ from hnx.alloc hnx.size _).grown hgrow (by have := hnx.size; simp; omega) (fun q hq => (hown.lt q hq).1)
          have hown2 : w1.ownsRow w.heap.size 41 1 v' (q + 1) ((zs ++ [c]).map cv) := by
            rw [List.map_append]; exact hown'
          clear hown' hgrow hown
          go_wp2_with (first
            | (go_at_call 45; refine (cmul_any _ _ _ _ _).mono ?_; rintro e w' ⟨s, t, j, rfl, rfl⟩))
          go_roundw
          case rel => exact ⟨q + 1, _, zs ++ [c], (_, _), rfl, by omega, by have := HZ.out; simp; omega, rfl, by go_num, fun h => startZ_next (HC0.out hlq) (HFZ.out _ h), HC1.out.snoc (by rw [HC0.out hlq]; exact HFZ.out _ hlq), hown2, by repeat (first | exact Below.refl _ _ | refine below_drewN ?_ _ | refine Below.alloc ?_ (by first | omega | (simp; omega) | simp) _ | refine Below.setCell ?_ (by first | omega | (simp; omega) | simp) _ | refine Below.trans ?_ (Below.mono (by assumption) (by first | omega | (simp; omega) | simp)) | apply Below.drew)⟩
          case measure => simp [intOf]; omega
        · obtain rfl : q = k := by omega
          go_wp2
          go_ret2
          exact ⟨_, zs, rfl, HZ.out, HC1.out, hown, hnx⟩
set_option maxRecDepth 100000 in
set_option maxHeartbeats 1600000 in
theorem startf_nan (h1 : infB (fop .add 4607182418800017408 (fop .quo (startMax ps m) (hiS (nth ps m).1 (nth ps m).2))) = false) (h2 : isNaN (fop .add 4607182418800017408 (fop .quo (startMax ps m) (hiS (nth ps m).1 (nth ps m).2))) = true) (hfz : ∀ k, k < m → FW (startZ (fone) k)) : Calls Tryz.prog 55 #[.slice A (m + 1) cap] w (RPts m w) := by
  have hm17 : m < 17 := by unfold checkS at hc; simp at hc; omega
  obtain ⟨i0, hi, hz0, hz1, hz2⟩ := info_parts Tryz.infoC
  have i1 : (0 : Int) ≤ (m : Int) := by omega
  have i2 : (m : Int) ≤ (cap : Int) := by omega
  have i3 : (m : Int) < (m : Int) + 1 := by omega
  obtain ⟨b, o, rfl, hb, hcl⟩ := hs.cat (k := m) (by omega)
  have HS := Lib.hid hs
  have HN := Lib.hid hn
  have HFZ := Lib.hid hfz
  skip
  clear hs hn hfz
  go_enter Tryz.func55, Tryz.ntmps55
  go_wp2_with (first
    | (go_at_call 105; refine (may_ok _ (m + 1) cap ps HN.out (by omega) (by omega) w.heap.size _ HS.out hc).mono ?_; rintro e w' ⟨rfl, rfl⟩))
  go_loopw [5, 21] (fun s i wr => ∃ k t j : Nat, k ≤ m ∧ s = .float .f64 (pick (startMax ps k) t) ∧ i = .int .i64 k ∧ wr = w.drewN j) (fun _ i _ => m - (intOf i).toNat)
  case atStart => exact ⟨0, 0, 0, Nat.zero_le _, by rw [show startMax ps 0 = 0 from rfl, pick_of (show isNaN 0 = false by decide)], rfl, rfl⟩
  case round =>
    obtain ⟨k, t, j, hk, rfl, rfl, rfl⟩ := hrel
    by_cases hlt : k < m
    · have hck := (HS.out.drewN j).cell (k := k) (by have := HN.out; omega)
      have HX : Hid (fmax (startMax ps k) (hiS (nth ps k).1 (nth ps k).2) = startMax ps (k + 1)) := Lib.hid rfl
      go_wp2_with (first
        | (go_at_call 106; refine (hi_any _ _ _).mono ?_; rintro e w' ⟨s, i, rfl, rfl⟩))
      go_roundw
      case rel => exact ⟨k + 1, _, _, by omega, by rw [← HX.out], by go_num, rfl⟩
      case measure => simp [intOf]; omega
    · obtain rfl : k = m := by omega
      go_wp2_with (first
        | (go_at_call 106; refine (hi_any _ _ _).mono ?_; rintro e w' ⟨s, i, rfl, rfl⟩)
        | (go_at_call 102; refine (isinf0_any _ _).mono ?_; rintro e w' ⟨rfl, rfl⟩))
      go_loopw [9, 10, 48] (fun u z i wr => ∃ (q : Nat) (v : Value) (zs : List Cc) (c : Cc), v = u ∧ q ≤ k ∧ zs.length = q ∧ z = .complex .f64 c.1 c.2 ∧ i = .int .i64 q ∧ (q < k → c = startZ (4607182418800017408) q) ∧ FWs zs ∧ wr.ownsRow w.heap.size 41 1 v q (zs.map cv) ∧ Below w.heap.size w wr) (fun _ _ i _ => k - (intOf i).toNat)
      case atStart => exact ⟨0, _, [], (4607182418800017408, 0), rfl, Nat.zero_le _, rfl, rfl, rfl, fun _ => rfl, FWs.nil, World.ownsRow_nil _ _ _ _, by repeat (first | exact Below.refl _ _ | refine below_drewN ?_ _ | refine Below.alloc ?_ (by first | omega | (simp; omega) | simp) _ | refine Below.setCell ?_ (by first | omega | (simp; omega) | simp) _ | refine Below.trans ?_ (Below.mono (by assumption) (by first | omega | (simp; omega) | simp)) | apply Below.drew)⟩
      case round =>
        obtain ⟨q, v, zs, c, hv, hq, hz, rfl, rfl, hc0, hc1, hown, hnx⟩ := hrel
        subst hv
        have HC0 := Lib.hid hc0
        have HC1 := Lib.hid hc1
        have HZ := Lib.hid hz
        clear hc0 hc1 hz
        by_cases hlq : q < k
        · go_wp2_with (first
            | (at_builtin; refine wpList_append_own _ rfl _ _ 24 rfl w.heap.size 41 i0 (.complex .f64 0 0) 1 16 Tryz.underlying24 hi hz0 hz1 hz2 rfl (by decide) _ _ _ rfl (hown.alloc _) ⟨wr.heap.size, 0, none⟩ 1 1 [.complex .f64 c.1 c.2] rfl rfl ?c1 ?c2 ?c3 ?c4 ?c5 ?_))
          case c1 => exact c_new wr _ _ _
          case c2 => intro u hu; simp at hu; subst hu; rfl
          case c3 => unfold maxLen; omega
          case c4 => omega
          case c5 => have := hnx.size; simp; omega
          intro v' w1 hown' hgrow _
          have hnx' : Below w.heap.size w w1 := (show Below w.heap.size w _ from hnx.alloc hnx.size _).grown hgrow (by have := hnx.size; simp; omega) (fun q hq => (hown.lt q hq).1)
          have hown2 : w1.ownsRow w.heap.size 41 1 v' (q + 1) ((zs ++ [c]).map cv) := by
            rw [List.map_append]; exact hown'
          clear hown' hgrow hown
          go_wp2_with (first
            | (go_at_call 45; refine (cmul_any _ _ _ _ _).mono ?_; rintro e w' ⟨s, t, j, rfl, rfl⟩))
          go_roundw
          case rel => exact ⟨q + 1, _, zs ++ [c], (_, _), rfl, by omega, by have := HZ.out; simp; omega, rfl, by go_num, fun h => startZ_next (HC0.out hlq) (HFZ.out _ h), HC1.out.snoc (by rw [HC0.out hlq]; exact HFZ.out _ hlq), hown2, by repeat (first | exact Below.refl _ _ | refine below_drewN ?_ _ | refine Below.alloc ?_ (by first | omega | (simp; omega) | simp) _ | refine Below.setCell ?_ (by first | omega | (simp; omega) | simp) _ | refine Below.trans ?_ (Below.mono (by assumption) (by first | omega | (simp; omega) | simp)) | apply Below.drew)⟩
          case measure => simp [intOf]; omega
        · obtain rfl : q = k := by omega
          go_wp2
          go_ret2
          exact ⟨_, zs, rfl, HZ.out, HC1.out, hown, hnx⟩
set_option maxRecDepth 100000 in
set_option maxHeartbeats 1600000 in
theorem startf_num (h1 : infB (fop .add 4607182418800017408 (fop .quo (startMax ps m) (hiS (nth ps m).1 (nth ps m).2))) = false) (h2 : isNaN (fop .add 4607182418800017408 (fop .quo (startMax ps m) (hiS (nth ps m).1 (nth ps m).2))) = false) (hfz : ∀ k, k < m → FW (startZ ((fop .add fone (fop .quo (startMax ps m) (hiS (nth ps m).1 (nth ps m).2)))) k)) : Calls Tryz.prog 55 #[.slice A (m + 1) cap] w (RPts m w) := by
  have hm17 : m < 17 := by unfold checkS at hc; simp at hc; omega
  obtain ⟨i0, hi, hz0, hz1, hz2⟩ := info_parts Tryz.infoC
  have i1 : (0 : Int) ≤ (m : Int) := by omega
  have i2 : (m : Int) ≤ (cap : Int) := by omega
  have i3 : (m : Int) < (m : Int) + 1 := by omega
  obtain ⟨b, o, rfl, hb, hcl⟩ := hs.cat (k := m) (by omega)
  have HS := Lib.hid hs
  have HN := Lib.hid hn
  have HFZ := Lib.hid hfz
  have hpk := pick_of h2
  clear hs hn hfz
  go_enter Tryz.func55, Tryz.ntmps55
  go_wp2_with (first
    | (go_at_call 105; refine (may_ok _ (m + 1) cap ps HN.out (by omega) (by omega) w.heap.size _ HS.out hc).mono ?_; rintro e w' ⟨rfl, rfl⟩))
  go_loopw [5, 21] (fun s i wr => ∃ k t j : Nat, k ≤ m ∧ s = .float .f64 (pick (startMax ps k) t) ∧ i = .int .i64 k ∧ wr = w.drewN j) (fun _ i _ => m - (intOf i).toNat)
  case atStart => exact ⟨0, 0, 0, Nat.zero_le _, by rw [show startMax ps 0 = 0 from rfl, pick_of (show isNaN 0 = false by decide)], rfl, rfl⟩
  case round =>
    obtain ⟨k, t, j, hk, rfl, rfl, rfl⟩ := hrel
    by_cases hlt : k < m
    · have hck := (HS.out.drewN j).cell (k := k) (by have := HN.out; omega)
      have HX : Hid (fmax (startMax ps k) (hiS (nth ps k).1 (nth ps k).2) = startMax ps (k + 1)) := Lib.hid rfl
      go_wp2_with (first
        | (go_at_call 106; refine (hi_any _ _ _).mono ?_; rintro e w' ⟨s, i, rfl, rfl⟩))
      go_roundw
      case rel => exact ⟨k + 1, _, _, by omega, by rw [← HX.out], by go_num, rfl⟩
      case measure => simp [intOf]; omega
    · obtain rfl : k = m := by omega
      go_wp2_with (first
        | (go_at_call 106; refine (hi_any _ _ _).mono ?_; rintro e w' ⟨s, i, rfl, rfl⟩)
        | (go_at_call 102; refine (isinf0_any _ _).mono ?_; rintro e w' ⟨rfl, rfl⟩))
      go_loopw [9, 10, 48] (fun u z i wr => ∃ (q : Nat) (v : Value) (zs : List Cc) (c : Cc), v = u ∧ q ≤ k ∧ zs.length = q ∧ z = .complex .f64 c.1 c.2 ∧ i = .int .i64 q ∧ (q < k → c = startZ ((fop .add 4607182418800017408 (fop .quo (startMax ps k) (hiS (nth ps k).1 (nth ps k).2)))) q) ∧ FWs zs ∧ wr.ownsRow w.heap.size 41 1 v q (zs.map cv) ∧ Below w.heap.size w wr) (fun _ _ i _ => k - (intOf i).toNat)
      case atStart => exact ⟨0, _, [], ((fop .add 4607182418800017408 (fop .quo (startMax ps k) (hiS (nth ps k).1 (nth ps k).2))), 0), rfl, Nat.zero_le _, rfl, rfl, rfl, fun _ => rfl, FWs.nil, World.ownsRow_nil _ _ _ _, by repeat (first | exact Below.refl _ _ | refine below_drewN ?_ _ | refine Below.alloc ?_ (by first | omega | (simp; omega) | simp) _ | refine Below.setCell ?_ (by first | omega | (simp; omega) | simp) _ | refine Below.trans ?_ (Below.mono (by assumption) (by first | omega | (simp; omega) | simp)) | apply Below.drew)⟩
      case round =>
        obtain ⟨q, v, zs, c, hv, hq, hz, rfl, rfl, hc0, hc1, hown, hnx⟩ := hrel
        subst hv
        have HC0 := Lib.hid hc0
        have HC1 := Lib.hid hc1
        have HZ := Lib.hid hz
        clear hc0 hc1 hz
        by_cases hlq : q < k
        · go_wp2_with (first
            | (at_builtin; refine wpList_append_own _ rfl _ _ 24 rfl w.heap.size 41 i0 (.complex .f64 0 0) 1 16 Tryz.underlying24 hi hz0 hz1 hz2 rfl (by decide) _ _ _ rfl (hown.alloc _) ⟨wr.heap.size, 0, none⟩ 1 1 [.complex .f64 c.1 c.2] rfl rfl ?c1 ?c2 ?c3 ?c4 ?c5 ?_))
          case c1 => exact c_new wr _ _ _
          case c2 => intro u hu; simp at hu; subst hu; rfl
          case c3 => unfold maxLen; omega
          case c4 => omega
          case c5 => have := hnx.size; simp; omega
          intro v' w1 hown' hgrow _
          have hnx' : Below w.heap.size w w1 := (show Below w.heap.size w _ from hnx.alloc hnx.size _).grown hgrow (by have := hnx.size; simp; omega) (fun q hq => (hown.lt q hq).1)
          have hown2 : w1.ownsRow w.heap.size 41 1 v' (q + 1) ((zs ++ [c]).map cv) := by
            rw [List.map_append]; exact hown'
          clear hown' hgrow hown
          go_wp2_with (first
            | (go_at_call 45; refine (cmul_any _ _ _ _ _).mono ?_; rintro e w' ⟨s, t, j, rfl, rfl⟩))
          go_roundw
          case rel => exact ⟨q + 1, _, zs ++ [c], (_, _), rfl, by omega, by have := HZ.out; simp; omega, rfl, by go_num, fun h => startZ_next (HC0.out hlq) (HFZ.out _ h), HC1.out.snoc (by rw [HC0.out hlq]; exact HFZ.out _ hlq), hown2, by repeat (first | exact Below.refl _ _ | refine below_drewN ?_ _ | refine Below.alloc ?_ (by first | omega | (simp; omega) | simp) _ | refine Below.setCell ?_ (by first | omega | (simp; omega) | simp) _ | refine Below.trans ?_ (Below.mono (by assumption) (by first | omega | (simp; omega) | simp)) | apply Below.drew)⟩
          case measure => simp [intOf]; omega
        · obtain rfl : q = k := by omega
          go_wp2
          go_ret2
          exact ⟨_, zs, rfl, HZ.out, HC1.out, hown, hnx⟩
theorem startf_any (hfz : ∀ k, k < m → FW (startZ (startR ps m) k)) : Calls Tryz.prog 55 #[.slice A (m + 1) cap] w (RPts m w) := by
  unfold startR startR0 at hfz
  cases h1 : infB (fop .add fone (fop .quo (startMax ps m) (hiS (nth ps m).1 (nth ps m).2)))
  · cases h2 : isNaN (fop .add fone (fop .quo (startMax ps m) (hiS (nth ps m).1 (nth ps m).2)))
    · rw [h1, h2] at hfz
      exact startf_num A m cap ps hn hcap w hs hc h1 h2 hfz
    · rw [h1, h2] at hfz
      exact startf_nan A m cap ps hn hcap w hs hc h1 h2 hfz
  · rw [h1] at hfz
    exact startf_inf A m cap ps hn hcap w hs hc h1 hfz
end
end Go.Proofs.YtbgjcpnbdgljbaaGreatDoor

/- Rounding keeps a bound that is a float; the spiral's points are finite. -/
namespace Go.Fil
open Go.RowKit
attribute [local irreducible] fop fsqrt fup fabs fneg pick fmax

/-- Rounding does not pass a float. -/
theorem Rd.small {v : Rat} {z : Nat} (h : Rd v z) {t : Nat} (ht : t < 9218868437227405312) (h1 : v ≤ rv t) (h2 : -v ≤ rv t) : fin z = true ∧ fm z ≤ rv t := by
  obtain ⟨neg, m, p, rfl, rfl⟩ := h
  have hM : (m : Rat) * p2 p ≤ rv t := by rcases neg1_cases neg with h3 | h3 <;> rw [h3] at h1 h2 <;> grind
  clear h1 h2
  by_cases hm : m = 0
  · subst hm
    have e : Ieee.double.nearest neg 0 p = Ieee.double.word neg 0 := by unfold Ieee.Format.nearest; rw [if_pos rfl]
    rw [e, fin_word neg (by decide)]
    refine ⟨by decide, ?_⟩
    unfold fm
    rw [(word_mod neg (by decide)).1, rv_zero]
    exact rv_nonneg t
  · obtain ⟨j, kept, hw, hk, hj, _, hlo2, _, hlo, _⟩ := nearest_spec neg p hm
    obtain ⟨i, k, ht2, hk2, hi⟩ := rv_form t
    have hvt : rv t = (k : Rat) * p2 (-1074 + (i : Int)) := rv_at ht2 (by omega) hi
    have hvn : rv (j * 4503599627370496 + kept) = (kept : Rat) * p2 (-1074 + (j : Int)) := rv_at rfl hk hj
    have hP := p2_pos (-1074 + (j : Int))
    have hle : j * 4503599627370496 + kept ≤ t := by
      refine Nat.not_lt.1 fun hlt => ?_
      have hr := rv_lt hlt
      rw [hvt, hvn] at hr
      rcases Nat.lt_or_ge i j with hij | hij
      · rcases hlo with h0 | h0
        · omega
        · rw [hvt] at hM
          have h1 : p2 (-1074 + (i : Int) + 1) ≤ p2 (-1074 + (j : Int)) := p2_mono (by omega)
          rw [p2_succ] at h1
          have h2 : ((k : Nat) : Rat) < ((9007199254740992 : Nat) : Rat) := by exact_mod_cast hk2
          have e3 : ((9007199254740992 : Nat) : Rat) = 9007199254740992 := rfl
          rw [e3] at h2
          have h3 := Rat.mul_lt_mul_of_pos_right h2 (p2_pos (-1074 + (i : Int)))
          grind
      · have hc : (k : Rat) * p2 (-1074 + (i : Int)) = ((k * 2 ^ (i - j) : Nat) : Rat) * p2 (-1074 + (j : Int)) := by
          rw [Rat.natCast_mul, ← p2_nat, Rat.mul_assoc, ← p2_add]
          congr 2; omega
        rw [hc] at hr
        rw [hvt, hc] at hM
        generalize k * 2 ^ (i - j) = c at *
        have hck : c + 1 ≤ kept := by
          refine Nat.not_lt.1 fun hh => ?_
          have h4 : ((kept : Nat) : Rat) ≤ (c : Rat) := by exact_mod_cast (show kept ≤ c by omega)
          have := Rat.mul_le_mul_of_nonneg_right h4 (Rat.le_of_lt hP)
          grind
        have h5 : ((c + 1 : Nat) : Rat) ≤ (kept : Rat) := by exact_mod_cast hck
        rw [Rat.natCast_add] at h5
        have h6 := Rat.mul_le_mul_of_nonneg_right h5 (Rat.le_of_lt hP)
        have e1 : ((1 : Nat) : Rat) = 1 := rfl
        rw [e1] at h6
        grind
    rw [hw, Nat.min_eq_left (by omega), fin_word neg (by omega)]
    refine ⟨decide_eq_true (by omega), ?_⟩
    unfold fm
    rw [(word_mod neg (by omega)).1]
    exact rv_mono hle
theorem rv_dbl {t u : Nat} (h : 4503599627370496 ≤ t) (hu : u = t + 4503599627370496) : rv u = 2 * rv t := by
  obtain ⟨j, k, h1, h2, h3⟩ := rv_form t
  have h4 : 4503599627370496 ≤ k := by rcases h3 with h3 | h3 <;> omega
  rw [rv_at (K := u) (j := j + 1) (kept := k) (by omega) (by omega) (.inr h4), rv_at h1 (by omega) h3, show -1074 + ((j + 1 : Nat) : Int) = -1074 + (j : Int) + 1 by omega, p2_succ]
  clear h hu h1 h2 h3 h4
  grind
/-- A finite float of a size. -/
structure Bf (x : Nat) (T : Rat) : Prop where
  f : fin x = true
  l : x < 18446744073709551616
  m : fm x ≤ T
theorem Bf.of {v : Rat} {z : Nat} (h : Rd v z) {t : Nat} (ht : t < 9218868437227405312) (h1 : v ≤ rv t) (h2 : -v ≤ rv t) : Bf z (rv t) :=
  ⟨(h.small ht h1 h2).1, h.lt, (h.small ht h1 h2).2⟩
theorem Bf.mul {x y t : Nat} (hx : Bf x (rv t)) (hy : Bf y 1) (ht : t < 9218868437227405312) : Bf (fop .mul x y) (rv t) := by
  have h1 := fm_abs x
  have h2 := fm_abs y
  have h3 := hx.m
  have h4 := hy.m
  have h5 := fm_nn x
  have h6 := fm_nn y
  have h7 : fm x * fm y ≤ rv t * 1 := mul_mono h5 h6 h3 h4
  have h8 : fv x * fv y ≤ fm x * fm y ∧ -(fv x * fv y) ≤ fm x * fm y := by
    rcases fm_or x with e1 | e1 <;> rcases fm_or y with e2 | e2 <;> rw [e1, e2] at h7 ⊢ <;> rw [e1] at h5 <;> rw [e2] at h6 <;> have h9 := Rat.mul_nonneg h5 h6 <;> grind
  have h9 : fv x * fv y ≤ rv t ∧ -(fv x * fv y) ≤ rv t := by
    clear ht hx hy
    constructor <;> grind
  exact Bf.of (fop_mul_rd hx.f hx.l hy.f hy.l) ht h9.1 h9.2
theorem Bf.sub {x y t : Nat} (hx : Bf x (rv t)) (hy : Bf y (rv t)) (h0 : 4503599627370496 ≤ t) {u : Nat} (hu : u = t + 4503599627370496) (ht : u < 9218868437227405312) : Bf (fop .sub x y) (rv u) := by
  have h1 := fm_abs x
  have h2 := fm_abs y
  have h3 := hx.m
  have h4 := hy.m
  have h5 := rv_dbl h0 hu
  have h6 : fv x - fv y ≤ rv u ∧ -(fv x - fv y) ≤ rv u := by
    clear hu ht h0 hx hy
    constructor <;> grind
  exact Bf.of (fop_sub_rd hx.f hx.l hy.f hy.l).rd ht h6.1 h6.2
theorem Bf.add {x y t : Nat} (hx : Bf x (rv t)) (hy : Bf y (rv t)) (h0 : 4503599627370496 ≤ t) {u : Nat} (hu : u = t + 4503599627370496) (ht : u < 9218868437227405312) : Bf (fop .add x y) (rv u) := by
  have h1 := fm_abs x
  have h2 := fm_abs y
  have h3 := hx.m
  have h4 := hy.m
  have h5 := rv_dbl h0 hu
  have h6 : fv x + fv y ≤ rv u ∧ -(fv x + fv y) ≤ rv u := by
    clear hu ht h0 hx hy
    constructor <;> grind
  exact Bf.of (fop_add_rd hx.f hx.l hy.f hy.l).rd ht h6.1 h6.2
theorem bf_c1 : Bf 4600877379321698714 1 := ⟨by decide, by decide, by
  unfold fm
  rw [← rv_one]
  exact rv_mono (by decide)⟩
theorem bf_c2 : Bf 4606281698874543309 1 := ⟨by decide, by decide, by
  unfold fm
  rw [← rv_one]
  exact rv_mono (by decide)⟩
theorem spiral_fin {R t : Nat} (hR : Bf R (rv t)) (h0 : 4503599627370496 ≤ t) : ∀ (k u : Nat), u = t + k * 4503599627370496 → u < 9218868437227405312 → Bf (Go.Proofs.YtbgjcpnbdgljbaaGreatDoor.startZ R k).1 (rv u) ∧ Bf (Go.Proofs.YtbgjcpnbdgljbaaGreatDoor.startZ R k).2 (rv u)
  | 0, u, hu, _ => by
    rw [Nat.zero_mul, Nat.add_zero] at hu
    subst hu
    refine ⟨hR, ⟨by show fin 0 = true; decide, by show 0 < 18446744073709551616; decide, ?_⟩⟩
    show rv (0 % 9223372036854775808) ≤ rv u
    exact rv_mono (by omega)
  | k + 1, u, hu, h => by
    obtain ⟨v, hv⟩ : ∃ v, v = t + k * 4503599627370496 := ⟨_, rfl⟩
    have hl : v < 9218868437227405312 := by omega
    obtain ⟨h1, h2⟩ := spiral_fin hR h0 k v hv hl
    have hv0 : 4503599627370496 ≤ v := by omega
    have hu2 : u = v + 4503599627370496 := by omega
    rw [Go.Proofs.YtbgjcpnbdgljbaaGreatDoor.startZ]
    unfold mulRe mulIm
    exact ⟨(h1.mul bf_c1 hl).sub (h2.mul bf_c2 hl) hv0 hu2 h, (h1.mul bf_c2 hl).add (h2.mul bf_c1 hl) hv0 hu2 h⟩
theorem spiral_FW {R t : Nat} (hR : Bf R (rv t)) (h0 : 4503599627370496 ≤ t) (k : Nat) (h : t + k * 4503599627370496 < 9218868437227405312) : Go.Proofs.YtbgjcpnbdgljbaaGreatDoor.FW (Go.Proofs.YtbgjcpnbdgljbaaGreatDoor.startZ R k) := by
  obtain ⟨u, hu⟩ : ∃ u, u = t + k * 4503599627370496 := ⟨_, rfl⟩
  obtain ⟨h1, h2⟩ := spiral_fin hR h0 k u hu (by omega)
  exact ⟨cfin_of h1.f h2.f, h1.l, h2.l⟩
end Go.Fil

/- Upper bounds: quotients, roots, cplx.Hi. -/
namespace Go.Fil
open Go.RowKit

theorem Rd.mag (M : Nat) (E : Int) : Rd ((M : Rat) * p2 E) (Ieee.double.nearest false M E) := ⟨false, M, E, rfl, by simp [neg1]⟩
theorem bool_le (b : Bool) : ((b.toNat : Nat) : Rat) ≤ 1 := by cases b <;> decide
theorem quo_form {x y : Nat} (hx : x < 9218868437227405312) (hy : y < 9218868437227405312) (hy0 : y ≠ 0) :
    ∃ (M : Nat) (E : Int), fop .quo x y = Ieee.double.nearest false M E ∧ (M : Rat) * p2 E * rv y ≤ 2 * rv x := by
  obtain ⟨m, i, h1, h2, _⟩ := read_nb hx
  obtain ⟨n, j, h3, h4, _⟩ := read_nb hy
  have hn : n ≠ 0 := by
    rintro rfl
    have := rv_ne hy0
    rw [h4, nat0, Rat.zero_mul] at this
    exact absurd this (by decide)
  obtain ⟨more, hmore⟩ : ∃ more, 54 + n.log2 - m.log2 = more := ⟨_, rfl⟩
  obtain ⟨D, hD⟩ : ∃ D, m * 2 ^ more = D := ⟨_, rfl⟩
  have hq : fop .quo x y = Ieee.double.nearest false (2 * (D / n) + (D % n != 0).toNat) (i - j - more - 1) := by
    have e : fop .quo x y = (Option.map Ieee.double.write ((Ieee.double.read x).quotient (Ieee.double.fractionBits + 2) (Ieee.double.read y))).getD qnan := rfl
    rw [e, h1, h3, fb_double]
    have e2 : (Ieee.Datum.number false m i).quotient 54 (Ieee.Datum.number false n j) = if n = 0 then (if m = 0 then none else some (.infinity false)) else some (.number false (2 * ((m <<< (54 + n.log2 - m.log2)) / n) + ((m <<< (54 + n.log2 - m.log2)) % n != 0).toNat) (i - j - ((54 + n.log2 - m.log2 : Nat) : Int) - 1)) := rfl
    rw [e2, if_neg hn, hmore, Nat.shiftLeft_eq, hD, Option.map_some, Option.getD_some]
    rfl
  have hval : rv x = (D : Rat) * p2 (i - more) := by
    rw [h2, ← hD, Rat.natCast_mul, ← p2_nat, Rat.mul_assoc, ← p2_add]
    congr 2; omega
  have hE : p2 (i - more) = 2 * (p2 (i - j - more - 1) * p2 j) := by
    rw [← p2_add, ← p2_succ]; congr 1; omega
  have hpe := p2_pos (i - j - more - 1)
  have hpj := p2_pos j
  have hnn : (0 : Rat) ≤ (n : Rat) := by exact_mod_cast Nat.zero_le n
  have hdm := Nat.div_add_mod D n
  refine ⟨_, _, hq, ?_⟩
  have hb : (D % n != 0).toNat * n ≤ D := by
    by_cases h0 : D % n = 0
    · rw [h0]; simp
    · have h1 : (D % n != 0).toNat ≤ 1 := by cases (D % n != 0) <;> decide
      have hm0 : m ≠ 0 := by
        rintro rfl
        rw [Nat.zero_mul] at hD
        rw [← hD, Nat.zero_mod] at h0
        exact h0 rfl
      have l1 : 2 ^ m.log2 ≤ m := Nat.log2_self_le hm0
      have l2 : n < 2 ^ (n.log2 + 1) := Nat.lt_log2_self
      have l3 : 2 ^ m.log2 * 2 ^ more ≤ m * 2 ^ more := Nat.mul_le_mul_right _ l1
      rw [hD, ← Nat.pow_add] at l3
      have l4 : 2 ^ (n.log2 + 1) ≤ 2 ^ (m.log2 + more) := Nat.pow_le_pow_right (by decide) (by omega)
      have l5 : (D % n != 0).toNat * n ≤ 1 * n := Nat.mul_le_mul_right _ h1
      omega
  have hc : (2 * (D / n) + (D % n != 0).toNat) * n ≤ 4 * D := by
    have h1 : D / n * n ≤ D := Nat.div_mul_le_self D n
    rw [Nat.add_mul, Nat.mul_assoc]
    omega
  generalize 2 * (D / n) + (D % n != 0).toNat = M at *
  have hcr : (M : Rat) * (n : Rat) ≤ 4 * (D : Rat) := by exact_mod_cast hc
  rw [h4, hval, hE]
  have g := Rat.mul_le_mul_of_nonneg_right hcr (Rat.le_of_lt (Rat.mul_pos hpe hpj))
  clear hq hb hc hdm hD hE hval hcr h1 h2 h3 h4 hx hy hy0 hmore hn
  grind
theorem sqrt_form {x : Nat} (hlt : x < 9218868437227405312) :
    ∃ (M : Nat) (E : Int), fsqrt x = Ieee.double.nearest false M E ∧ ((M : Rat) * p2 E) * ((M : Rat) * p2 E) ≤ 4 * rv x := by
  obtain ⟨m, i, h1, h2, _⟩ := read_nb hlt
  have e : fsqrt x = (Option.map Ieee.double.write ((Ieee.double.read x).root (Ieee.double.fractionBits + 2))).getD qnan := rfl
  by_cases hm : m = 0
  · have e2 : fsqrt x = Ieee.double.nearest false 0 i := by
      rw [e, h1, hm, fb_double]; rfl
    refine ⟨_, _, e2, ?_⟩
    have := rv_nonneg x
    rw [nat0, Rat.zero_mul, Rat.zero_mul]; grind
  · obtain ⟨m0, hm0⟩ : ∃ m0, 2 * 54 - m.log2 = m0 := ⟨_, rfl⟩
    obtain ⟨more, hmore⟩ : ∃ more, m0 + ((i - (m0 : Int)) % 2).toNat = more := ⟨_, rfl⟩
    obtain ⟨n, hn⟩ : ∃ n, m * 2 ^ more = n := ⟨_, rfl⟩
    obtain ⟨w, hw⟩ : ∃ w, Ieee.Datum.rootFrom n (n.log2 / 2 + 1) 0 = w := ⟨_, rfl⟩
    obtain ⟨h, hh⟩ : ∃ h : Int, (i - more) / 2 = h := ⟨_, rfl⟩
    have e2 : fsqrt x = Ieee.double.nearest false (2 * w + (w * w != n).toNat) (h - 1) := by
      have e3 : (Ieee.Datum.number false m i).root 54 = if m = 0 then some (.number false m i) else if false = true then none else
          some (.number false (2 * Ieee.Datum.rootFrom (m <<< (2 * 54 - m.log2 + ((i - ((2 * 54 - m.log2 : Nat) : Int)) % 2).toNat)) ((m <<< (2 * 54 - m.log2 + ((i - ((2 * 54 - m.log2 : Nat) : Int)) % 2).toNat)).log2 / 2 + 1) 0 + (Ieee.Datum.rootFrom (m <<< (2 * 54 - m.log2 + ((i - ((2 * 54 - m.log2 : Nat) : Int)) % 2).toNat)) ((m <<< (2 * 54 - m.log2 + ((i - ((2 * 54 - m.log2 : Nat) : Int)) % 2).toNat)).log2 / 2 + 1) 0 * Ieee.Datum.rootFrom (m <<< (2 * 54 - m.log2 + ((i - ((2 * 54 - m.log2 : Nat) : Int)) % 2).toNat)) ((m <<< (2 * 54 - m.log2 + ((i - ((2 * 54 - m.log2 : Nat) : Int)) % 2).toNat)).log2 / 2 + 1) 0 != m <<< (2 * 54 - m.log2 + ((i - ((2 * 54 - m.log2 : Nat) : Int)) % 2).toNat)).toNat) ((i - ((2 * 54 - m.log2 + ((i - ((2 * 54 - m.log2 : Nat) : Int)) % 2).toNat : Nat) : Int)) / 2 - 1)) := rfl
      rw [e, h1, fb_double, e3, if_neg hm, if_neg (by decide), hm0, hmore, Nat.shiftLeft_eq, hn, hw, hh, Option.map_some, Option.getD_some]
      rfl
    have hih : i = (more : Int) + (h + h) := by omega
    have hval : rv x = (n : Rat) * (p2 h * p2 h) := by
      rw [h2, ← hn, Rat.natCast_mul, ← p2_nat, ← p2_add, Rat.mul_assoc, ← p2_add, ← hih]
    have hlog : n < (0 + 2 ^ (n.log2 / 2 + 1)) * (0 + 2 ^ (n.log2 / 2 + 1)) := by
      rw [Nat.zero_add, ← Nat.pow_add]
      exact Nat.lt_of_lt_of_le Nat.lt_log2_self (Nat.pow_le_pow_right (by decide) (by omega))
    obtain ⟨r1, r2⟩ := rootFrom_spec n (n.log2 / 2 + 1) 0 (by omega) hlog
    rw [hw] at r1 r2
    have hph : p2 h = 2 * p2 (h - 1) := by rw [← p2_succ]; congr 1; omega
    have hp0 := p2_pos h
    have hw0 : (0 : Rat) ≤ (w : Rat) := by exact_mod_cast Nat.zero_le w
    refine ⟨_, _, e2, ?_⟩
    have hn1 : 1 ≤ n := by
      rw [← hn]
      exact Nat.mul_pos (by omega) (Nat.two_pow_pos _)
    have hw1 : 1 ≤ w := by
      refine Nat.not_lt.1 fun hh => ?_
      have : w = 0 := by omega
      subst this
      omega
    have hM : 2 * w + (w * w != n).toNat ≤ 4 * w := by
      have : (w * w != n).toNat ≤ 1 := by cases (w * w != n) <;> decide
      omega
    generalize 2 * w + (w * w != n).toNat = M at *
    have hMr : (M : Rat) ≤ 4 * (w : Rat) := by exact_mod_cast hM
    have hM0 : (0 : Rat) ≤ (M : Rat) := by exact_mod_cast Nat.zero_le M
    have hwr : (w : Rat) * (w : Rat) ≤ (n : Rat) := by exact_mod_cast r1
    have hq0 := p2_pos (h - 1)
    have g1 := Rat.mul_le_mul_of_nonneg_right hMr (Rat.le_of_lt hq0)
    have g2 := sq_mono (Rat.mul_nonneg hM0 (Rat.le_of_lt hq0)) g1
    rw [hval, hph]
    have g3 := Rat.mul_le_mul_of_nonneg_right hwr (show 0 ≤ p2 (h - 1) * p2 (h - 1) from Rat.mul_nonneg (Rat.le_of_lt hq0) (Rat.le_of_lt hq0))
    clear e2 hval hlog hlt h1 h2 hm r2 hn hw hh hM e
    grind
end Go.Fil

/- cplx.Hi does not exceed a bound. -/
namespace Go.Fil
open Go.RowKit

theorem near_le {M : Nat} {E : Int} {t : Nat} (ht : t < 9218868437227405312) (h : (M : Rat) * p2 E ≤ rv t) : Ieee.double.nearest false M E ≤ t := by
  have h0 : (0 : Rat) ≤ (M : Rat) * p2 E := Rat.mul_nonneg (by exact_mod_cast Nat.zero_le M) (Rat.le_of_lt (p2_pos E))
  obtain ⟨h1, h2⟩ := (Rd.mag M E).small ht h (by have := rv_nonneg t; grind)
  have h3 := (mag_up M E).1
  have h4 := fin_nb h3 h1
  unfold fm at h2
  rw [Nat.mod_eq_of_lt (by omega)] at h2
  refine Nat.not_lt.1 fun hlt => ?_
  have := rv_lt hlt
  grind
theorem fup_eq {z : Nat} (h1 : z < 9218868437227405312) : fup z = z + 1 := by
  have hf := nb_fin h1
  have hN : Nb z := by unfold Nb; omega
  unfold fup
  rw [not_nan_of_fin hf, if_neg (by decide)]
  have h2 : (FloatKind.f64.format.order z 9218868437227405311 == some .gt) = false := by
    rw [order_fv hf (by omega) (by decide) (by decide)]
    have : fv z ≤ fv 9218868437227405311 := by
      rw [fv_small (by omega), fv_small (by decide)]
      exact rv_mono (by omega)
    by_cases h3 : fv z < fv 9218868437227405311
    · rw [if_pos h3]; rfl
    · rw [if_neg h3, if_pos (by grind)]; rfl
  rw [h2, if_neg (by decide)]
  have h3 := feq_nb hN
  unfold feq at h3
  rw [h3]
  by_cases h0 : z = 0
  · rw [decide_eq_true h0, if_pos rfl, h0]
  · rw [decide_eq_false h0, if_neg (by decide), if_neg (by omega)]
attribute [local irreducible] fop fsqrt fup fabs fneg pick fmax
theorem up_le {z t u : Nat} (h : z ≤ t) (ht : t < u) (hu : u < 9218868437227405312) : fup z ≤ u := by rw [fup_eq (by omega)]; omega
theorem rv_2 : rv 4611686018427387904 = 2 := by rw [rv_dbl (t := 4607182418800017408) (by decide) (by decide), rv_one]; grind
theorem rv_4 : rv 4616189618054758400 = 4 := by rw [rv_dbl (t := 4611686018427387904) (by decide) (by decide), rv_2]; grind
theorem rv_8 : rv 4620693217682128896 = 8 := by rw [rv_dbl (t := 4616189618054758400) (by decide) (by decide), rv_4]; grind
theorem rv_16 : rv 4625196817309499392 = 16 := by rw [rv_dbl (t := 4620693217682128896) (by decide) (by decide), rv_8]; grind
theorem rv_32 : rv 4629700416936869888 = 32 := by rw [rv_dbl (t := 4625196817309499392) (by decide) (by decide), rv_16]; grind
theorem rv_64 : rv 4634204016564240384 = 64 := by rw [rv_dbl (t := 4629700416936869888) (by decide) (by decide), rv_32]; grind
theorem rv_128 : rv 4638707616191610880 = 128 := by rw [rv_dbl (t := 4634204016564240384) (by decide) (by decide), rv_64]; grind
theorem rv_64t {t u : Nat} (h : 4503599627370496 ≤ t) (hu : u = t + 27021597764222976) : rv u = 64 * rv t := by
  obtain ⟨t1, h1⟩ : ∃ t1, t1 = t + 4503599627370496 := ⟨_, rfl⟩
  obtain ⟨t2, h2⟩ : ∃ t2, t2 = t1 + 4503599627370496 := ⟨_, rfl⟩
  obtain ⟨t3, h3⟩ : ∃ t3, t3 = t2 + 4503599627370496 := ⟨_, rfl⟩
  obtain ⟨t4, h4⟩ : ∃ t4, t4 = t3 + 4503599627370496 := ⟨_, rfl⟩
  obtain ⟨t5, h5⟩ : ∃ t5, t5 = t4 + 4503599627370496 := ⟨_, rfl⟩
  have h6 : u = t5 + 4503599627370496 := by omega
  have e1 := rv_dbl h h1
  have e2 := rv_dbl (by omega) h2
  have e3 := rv_dbl (by omega) h3
  have e4 := rv_dbl (by omega) h4
  have e5 := rv_dbl (by omega) h5
  have e6 := rv_dbl (by omega) h6
  clear h hu h1 h2 h3 h4 h5 h6
  rw [e6, e5, e4, e3, e2, e1]
  generalize rv t = v
  grind
theorem mul_le_w {x y t : Nat} (hx : x < 9218868437227405312) (hy : y < 9218868437227405312) (ht : t < 9218868437227405312) (h : rv x * rv y ≤ rv t) : fop .mul x y ≤ t := by
  obtain ⟨m, p, h1, h2⟩ := mul_nb hx hy
  rw [h1]
  exact near_le ht (by rw [← h2]; exact h)
theorem add_le_w {x y t : Nat} (hx : x < 9218868437227405312) (hy : y < 9218868437227405312) (ht : t < 9218868437227405312) (h : rv x + rv y ≤ rv t) : fop .add x y ≤ t := by
  obtain ⟨m, p, h1, h2⟩ := add_nb hx hy
  rw [h1]
  exact near_le ht (by rw [← h2]; exact h)
theorem quo_le_w {x y t : Nat} (hx : x < 9218868437227405312) (hy : y < 9218868437227405312) (hy0 : y ≠ 0) (ht : t < 9218868437227405312) (h : 2 * rv x ≤ rv t * rv y) : fop .quo x y ≤ t := by
  obtain ⟨M, E, h1, h2⟩ := quo_form hx hy hy0
  rw [h1]
  refine near_le ht (Rat.not_lt.1 fun hlt => ?_)
  have h3 := Rat.mul_lt_mul_of_pos_right hlt (rv_ne hy0)
  grind
theorem sqrt_le_w {x t : Nat} (hx : x < 9218868437227405312) (ht : t < 9218868437227405312) (h : 4 * rv x ≤ rv t * rv t) : fsqrt x ≤ t := by
  obtain ⟨M, E, h1, h2⟩ := sqrt_form hx
  rw [h1]
  exact near_le ht (le_of_sq (rv_nonneg t) (by grind))
theorem reach_le {p q t u : Nat} (hp : p < 9218868437227405312) (hp0 : p ≠ 0) (hq : q ≤ p) (hpt : p ≤ t) (h0 : 4503599627370496 ≤ t) (hu : u = t + 27021597764222976) (hui : u + 1 < 9218868437227405312) : reachUp p q ≤ u + 1 := by
  have s1 : fop .quo q p ≤ 4611686018427387904 := quo_le_w (by omega) hp hp0 (by decide) (by rw [rv_2]; have := rv_mono hq; grind)
  have s2 : fup (fop .quo q p) ≤ 4616189618054758400 := up_le s1 (by decide) (by decide)
  unfold reachUp
  dsimp only
  generalize fup (fop .quo q p) = a at *
  have r2 : rv a ≤ 4 := by rw [← rv_4]; exact rv_mono s2
  have s3 : fop .mul a a ≤ 4625196817309499392 := mul_le_w (by omega) (by omega) (by decide) (by rw [rv_16]; have := sq_mono (rv_nonneg a) r2; grind)
  have s4 : fup (fop .mul a a) ≤ 4629700416936869888 := up_le s3 (by decide) (by decide)
  generalize fup (fop .mul a a) = b at *
  have r4 : rv b ≤ 32 := by rw [← rv_32]; exact rv_mono s4
  have s5 : fop .add fone b ≤ 4634204016564240384 := add_le_w (by decide) (by omega) (by decide) (by rw [rv_64, show rv fone = 1 from rv_one]; grind)
  have s6 : fup (fop .add fone b) ≤ 4638707616191610880 := up_le s5 (by decide) (by decide)
  generalize fup (fop .add fone b) = c at *
  have r6 : rv c ≤ 128 := by rw [← rv_128]; exact rv_mono s6
  have s7 : fsqrt c ≤ 4629700416936869888 := sqrt_le_w (by omega) (by decide) (by rw [rv_32]; grind)
  have s8 : fup (fsqrt c) ≤ 4634204016564240384 := up_le s7 (by decide) (by decide)
  generalize fup (fsqrt c) = d at *
  have r8 : rv d ≤ 64 := by rw [← rv_64]; exact rv_mono s8
  have s9 : fop .mul p d ≤ u := mul_le_w hp (by omega) (by omega) (by
    rw [rv_64t h0 hu]
    have := mul_mono (rv_nonneg p) (rv_nonneg d) (rv_mono hpt) r8
    grind)
  exact up_le s9 (by omega) hui
end Go.Fil

/- The radius of roots.Start's spiral is bounded where the coefficients are. -/
namespace Go.Fil
open Go.RowKit
attribute [local irreducible] fop fsqrt fup fabs fneg pick

theorem fm_word {x t : Nat} (h : fm x ≤ rv t) : x % 9223372036854775808 ≤ t := by
  refine Nat.not_lt.1 fun hlt => ?_
  have := rv_lt hlt
  unfold fm at h
  grind
theorem hi_le {a b t u : Nat} (ha : Bf a (rv t)) (hb : Bf b (rv t)) (h0 : 4503599627370496 ≤ t) (hu : u = t + 27021597764222976) (hui : u + 1 < 9218868437227405312) : hiS a b ≤ u + 1 := by
  have na := fabs_nb (not_nan_of_fin ha.f)
  have nb := fabs_nb (not_nan_of_fin hb.f)
  have la := fin_nb na.1 (fin_fabs ha.f)
  have lb := fin_nb nb.1 (fin_fabs hb.f)
  have wa : fabs a ≤ t := by rw [na.2]; exact fm_word ha.m
  have wb : fabs b ≤ t := by rw [nb.2]; exact fm_word hb.m
  have hpq : ∃ P Q, sizeP a b = P ∧ sizeQ a b = Q ∧ P < 9218868437227405312 ∧ Q ≤ P ∧ P ≤ t := by
    unfold sizeP sizeQ
    by_cases h : flt (fabs a) (fabs b) = true
    · rw [if_pos h, if_pos h]
      have := flt_nb na.1 lb h
      exact ⟨_, _, rfl, rfl, lb, by omega, wb⟩
    · rw [if_neg h, if_neg h]
      refine ⟨_, _, rfl, rfl, la, ?_, wa⟩
      refine Nat.not_lt.1 fun hlt => h ?_
      unfold flt
      rw [order_nb na.1 lb, if_pos hlt]; rfl
  obtain ⟨P, Q, hP, hQ, hl, hQP, hPt⟩ := hpq
  unfold hiS
  rw [if_pos (cfin_of ha.f hb.f), hP, hQ]
  have hQN : Nb Q := by unfold Nb; omega
  rw [feq_nb hQN]
  by_cases h : Q = 0
  · rw [if_pos (decide_eq_true h)]; omega
  · rw [if_neg (by simpa using h)]
    exact reach_le hl (by omega) hQP hPt h0 hu hui
theorem fmax_le {x y t : Nat} (hx : x ≤ t) (hy : y ≤ t) (ht : t < 9218868437227405312) : fmax x y ≤ t := by
  unfold fmax
  rw [order_nb (show Nb x by unfold Nb; omega) (by omega)]
  by_cases h1 : x < y
  · rw [if_pos h1]; exact hy
  · rw [if_neg h1]
    by_cases h2 : x = y
    · rw [if_pos h2]
      show (if _ then y else x) ≤ t
      split <;> assumption
    · rw [if_neg h2]; exact hx
theorem startMax_le {ps : List Cc} {t u : Nat} (h0 : 4503599627370496 ≤ t) (hu : u = t + 27021597764222976) (hui : u + 1 < 9218868437227405312) : ∀ m, (∀ k, k < m → Bf (nth ps k).1 (rv t) ∧ Bf (nth ps k).2 (rv t)) → Go.Proofs.YtbgjcpnbdgljbaaGreatDoor.startMax ps m ≤ u + 1
  | 0, _ => Nat.zero_le _
  | m + 1, h => by
    rw [Go.Proofs.YtbgjcpnbdgljbaaGreatDoor.startMax]
    exact fmax_le (startMax_le h0 hu hui m (fun k hk => h k (by omega))) (hi_le (h m (by omega)).1 (h m (by omega)).2 h0 hu hui) hui
theorem hi_one : hiS fone 0 = fone := by decide +kernel
/-- The spiral's points, of a polynomial with leading coefficient 1 whose other coefficients are below 2 to the power 900. -/
theorem spiral_ok {ps : List Cc} {m : Nat} (hm : m ≤ 16) (h1 : hiS (nth ps m).1 (nth ps m).2 = fone) (h : ∀ k, k < m → Bf (nth ps k).1 (rv 8660422083433463808) ∧ Bf (nth ps k).2 (rv 8660422083433463808)) (k : Nat) (hk : k < m) : Go.Proofs.YtbgjcpnbdgljbaaGreatDoor.FW (Go.Proofs.YtbgjcpnbdgljbaaGreatDoor.startZ (Go.Proofs.YtbgjcpnbdgljbaaGreatDoor.startR ps m) k) := by
  have s1 := startMax_le (ps := ps) (t := 8660422083433463808) (u := 8687443681197686784) (by decide) (by decide) (by decide) m h
  have hR0 : Go.Proofs.YtbgjcpnbdgljbaaGreatDoor.startR0 ps m ≤ 8700954480079798272 := by
    unfold Go.Proofs.YtbgjcpnbdgljbaaGreatDoor.startR0
    rw [h1]
    show fop .add fone (fop .quo _ fone) ≤ _
    generalize Go.Proofs.YtbgjcpnbdgljbaaGreatDoor.startMax ps m = s at *
    have s2 : rv s ≤ rv 8691947280825057280 := rv_mono (by omega)
    have e1 := rv_dbl (t := 8691947280825057280) (u := 8696450880452427776) (by decide) (by decide)
    have e2 := rv_dbl (t := 8696450880452427776) (u := 8700954480079798272) (by decide) (by decide)
    have s3 : fop .quo s fone ≤ 8696450880452427776 := quo_le_w (by omega) (by decide) (by decide) (by decide) (by rw [show rv fone = 1 from rv_one, e1]; grind)
    generalize fop .quo s fone = q at *
    have s4 : rv q ≤ rv 8696450880452427776 := rv_mono s3
    have s5 : (1 : Rat) ≤ rv 8696450880452427776 := by rw [← rv_one]; exact rv_mono (by decide)
    exact add_le_w (by decide) (by omega) (by decide) (by rw [show rv fone = 1 from rv_one, e2]; grind)
  have hB : Bf (Go.Proofs.YtbgjcpnbdgljbaaGreatDoor.startR ps m) (rv 8700954480079798272) := by
    unfold Go.Proofs.YtbgjcpnbdgljbaaGreatDoor.startR
    split
    · exact ⟨by decide, by decide, by unfold fm; exact rv_mono (by decide)⟩
    · generalize Go.Proofs.YtbgjcpnbdgljbaaGreatDoor.startR0 ps m = r at *
      exact ⟨nb_fin (by omega), by omega, by unfold fm; rw [Nat.mod_eq_of_lt (by omega)]; exact rv_mono hR0⟩
  exact spiral_FW hB (by decide) k (by omega)
end Go.Fil

/- roots.Guess: its points are finite. -/
namespace Go.Proofs.YtbgjcpnbdgljbaaGreatDoor
open Go.RowKit Go.Fil
attribute [local irreducible] fop fsqrt fup fabs fneg pick fmax

section
variable (A : Option Addr) (m cap : Nat) (ps : List Cc) (hn : ps.length = m + 1) (hcap : m + 1 ≤ cap) (hm : m ≤ 1000) (w : World) (hs : Seq w w.heap.size A (ps.map cv)) (hc : checkS ps = true) (hfz : ∀ k, k < m → FW (startZ (startR ps m) k))
include hn hcap hm hs hc hfz
set_option maxRecDepth 100000 in
set_option maxHeartbeats 3200000 in
theorem guess_any : Calls Tryz.prog 59 #[.slice A (m + 1) cap, .int .i64 64] w (RPts m w) := by
  have HSA := Lib.hid (startf_any A m cap ps hn hcap w hs hc hfz)
  have HST := Lib.hid (fun A2 cap2 ls hl hf w hs hs2 => step_any A A2 m cap cap2 ps ls hn hm hl hf hc w hs hs2)
  have HS := Lib.hid hs
  clear hn hcap hm hs hc hfz
  go_enter Tryz.func59, Tryz.ntmps59
  go_wp2_with (go_at_call 55; (with_reducible refine HSA.out.mono ?_); rintro e w1 ⟨v, zs, rfl, hz, hf, hown, hb⟩)
  go_loopw [6, 7, 8] (fun l e k wr => ∃ (q : Nat) (v : Value) (zs : List Cc), q ≤ 64 ∧ l = v ∧ e = .int .i64 0 ∧ k = .int .i64 q ∧ zs.length = m ∧ FWs zs ∧ wr.ownsRow w.heap.size 41 1 v m (zs.map cv) ∧ Below w.heap.size w wr) (fun _ _ k _ => 64 - (intOf k).toNat)
  case atStart => exact ⟨0, v, zs, by omega, rfl, rfl, rfl, hz, hf, hown, hb⟩
  case round =>
    obtain ⟨q, v, zs, hq, rfl, rfl, rfl, hz, hf, hown, hb⟩ := hrel
    obtain ⟨A2, c2, rfl, hs2⟩ := seq_of_own hown
    by_cases hlt : q < 64
    · have HSW := Lib.hid ((HS.out.below hb (Nat.le_refl _)).more hb.size)
      have HR := Lib.hid (HST.out A2 c2 zs hz hf wr HSW.out hs2)
      have HB := Lib.hid hb
      clear hb hown hs2 hz hf
      go_wp2_with (go_at_call 119; (with_reducible refine HR.out.mono ?_); rintro e w2 ⟨v2, zs2, rfl, hz2, hf2, hown2, hb2⟩)
      go_roundw
      case rel => exact ⟨q + 1, v2, zs2, by omega, rfl, rfl, by go_num, hz2, hf2, own_base hown2 HB.out.size, HB.out.trans (hb2.mono HB.out.size)⟩
      case measure => simp [intOf]; omega
    · obtain rfl : q = 64 := by omega
      go_wp2
      go_ret2
      exact ⟨_, zs, rfl, hz, hf, hown, hb⟩
end
end Go.Proofs.YtbgjcpnbdgljbaaGreatDoor

/- roots.Certify where the derivative can not be turned round. -/
namespace Go.Proofs.YtbgjcpnbdgljbaaGreatDoor
open Go.RowKit Go.Fil
attribute [local irreducible] fop fsqrt fup fabs fneg pick fmax
attribute [local irreducible] pointS mulS negS addS subS bhiS hiS contractsS onFrom
def RNo (w : World) (e : Ending) (w' : World) : Prop := e = .returned (.tuple #[.agg #[.complex .f64 0 0, .float .f64 0], .bool false, .int .i64 0]) ∧ Below w.heap.size w w'
section
variable (A : Option Addr) (n cap : Nat) (ps : List Cc) (hn : ps.length = n) (hm : n ≤ 9223372036854775807) (hp : 0 < n) (x y : Nat) (w : World) (hs : Seq w w.heap.size A (ps.map cv)) (hc : checkS ps = true)
include hn hm hp hs hc
set_option maxRecDepth 100000 in
set_option maxHeartbeats 6400000 in
theorem certify_v (h1 : n ≠ 1) (hz : cfin x y = true) {v1 v2 : Nat} (hv : atFrom (x, y) (steepS ps) 0 = (v1, v2)) (hv1 : cfin v1 v2 = false) {q1 q2 : Nat} (hq1 : quoRe 4607182418800017408 0 v1 v2 = q1) (hq2 : quoIm 4607182418800017408 0 v1 v2 = q2) {H : Bl} (hH : onFrom ((pointS x y).1, (pointS x y).2.1, (pointS x y).2.2) (pointsS ps) 0 = H) :
    Calls Tryz.prog 58 #[.slice A n cap, .complex .f64 x y] w (RNo w) := by
  have hp' : (0 : Int) < (n : Int) := by omega
  have h1' : ((n : Int) == 1) = false := by rw [beq_eq_false_iff_ne]; omega
  have HS := Lib.hid hs
  have HN := Lib.hid hn
  clear hs hn
  go_enter Tryz.func58, Tryz.ntmps58
  go_wp2
  refine wp_scope_once 0 rfl ?_
  go_wp2_with (first
    | (go_at_call 105; refine (may_ok A n cap ps HN.out hm hp w.heap.size _ (HS.out.alloc (Nat.le_refl _) _) hc).mono ?_; rintro e w' ⟨rfl, rfl⟩)
    | (go_at_call 107; refine (rfinite_any _ _ _).mono ?_; rintro e w' ⟨j, rfl, rfl⟩)
    | (go_at_call 108; refine (SlopeAt_ok A n cap ps HN.out hm _ _ _ ((HS.out.below (B' := w.heap.size) (by repeat (first | exact Below.refl _ _ | refine below_drewN ?_ _ | refine Below.alloc ?_ (by first | omega | (simp; omega) | simp) _ | refine Below.setCell ?_ (by first | omega | (simp; omega) | simp) _ | refine Below.trans ?_ (Below.mono (by assumption) (by first | omega | (simp; omega) | simp)) | apply Below.drew)) (Nat.le_refl _)).more (by first | omega | (simp; omega) | simp)) hc hv).mono ?_; rintro e w1 ⟨s, t, rfl, hb⟩; obtain ⟨hc', hf'⟩ := bcell hb; (try simp only [World.heap_drewN, World.cell?_drewN, World.frozen?_drewN] at hc' hf'); have hsz := hb.size; (try simp at hsz); have g1 : w.heap.size < w1.heap.size := (by omega))
    | (go_at_call 109; refine (cquo_any _ _ _ _ _).mono ?_; rintro e w' ⟨s, t, j, rfl, rfl⟩; simp only [quoRe_pick3, quoRe_pick4, quoIm_pick3, quoIm_pick4, hq1, hq2])
    | (go_at_call 112; refine (point_any _ _ _).mono ?_; rintro e w2 ⟨rfl, hb⟩; obtain ⟨hc', hf'⟩ := bcell hb; (try simp only [World.heap_drewN, World.cell?_drewN, World.frozen?_drewN] at hc' hf'); have hsz := hb.size; (try simp at hsz); have g2 : w.heap.size < w2.heap.size := (by omega))
    | (go_at_call 111; refine (On_ok A n cap ps HN.out hm (pointS x y).1 (pointS x y).2.1 (pointS x y).2.2 _ ((HS.out.below (B' := w.heap.size) (by repeat (first | exact Below.refl _ _ | refine below_drewN ?_ _ | refine Below.alloc ?_ (by first | omega | (simp; omega) | simp) _ | refine Below.setCell ?_ (by first | omega | (simp; omega) | simp) _ | refine Below.trans ?_ (Below.mono (by assumption) (by first | omega | (simp; omega) | simp)) | apply Below.drew)) (Nat.le_refl _)).more (by first | omega | (simp; omega) | simp)) hc (mayS_point hz)).mono ?_; rintro e w3 ⟨rfl, hb⟩; rw [hH]; obtain ⟨hc', hf'⟩ := bcell hb; (try simp only [World.heap_drewN, World.cell?_drewN, World.frozen?_drewN] at hc' hf'); have hsz := hb.size; (try simp at hsz); have g3 : w.heap.size < w3.heap.size := (by omega)))
  simp only [Exit.jump]
  exact bodyPost_ret (v := .tuple #[.agg #[.complex .f64 0 0, .float .f64 0], .bool false, .int .i64 0]) (by simp [results, Tryz.results58, go_sem, *]) rfl ⟨rfl, by repeat (first | exact Below.refl _ _ | refine below_drewN ?_ _ | refine Below.alloc ?_ (by first | omega | (simp; omega) | simp) _ | refine Below.setCell ?_ (by first | omega | (simp; omega) | simp) _ | refine Below.trans ?_ (Below.mono (by assumption) (by first | omega | (simp; omega) | simp)) | apply Below.drew)⟩
set_option maxRecDepth 100000 in
set_option maxHeartbeats 6400000 in
theorem certify_y (h1 : n ≠ 1) (hz : cfin x y = true) {v1 v2 : Nat} (hv : atFrom (x, y) (steepS ps) 0 = (v1, v2)) (hv1 : cfin v1 v2 = true) {q1 q2 : Nat} (hq1 : quoRe 4607182418800017408 0 v1 v2 = q1) (hq2 : quoIm 4607182418800017408 0 v1 v2 = q2) (hy : cfin q1 q2 = false) {H : Bl} (hH : onFrom ((pointS x y).1, (pointS x y).2.1, (pointS x y).2.2) (pointsS ps) 0 = H) :
    Calls Tryz.prog 58 #[.slice A n cap, .complex .f64 x y] w (RNo w) := by
  have hp' : (0 : Int) < (n : Int) := by omega
  have h1' : ((n : Int) == 1) = false := by rw [beq_eq_false_iff_ne]; omega
  have HS := Lib.hid hs
  have HN := Lib.hid hn
  clear hs hn
  go_enter Tryz.func58, Tryz.ntmps58
  go_wp2
  refine wp_scope_once 0 rfl ?_
  go_wp2_with (first
    | (go_at_call 105; refine (may_ok A n cap ps HN.out hm hp w.heap.size _ (HS.out.alloc (Nat.le_refl _) _) hc).mono ?_; rintro e w' ⟨rfl, rfl⟩)
    | (go_at_call 107; refine (rfinite_any _ _ _).mono ?_; rintro e w' ⟨j, rfl, rfl⟩)
    | (go_at_call 108; refine (SlopeAt_ok A n cap ps HN.out hm _ _ _ ((HS.out.below (B' := w.heap.size) (by repeat (first | exact Below.refl _ _ | refine below_drewN ?_ _ | refine Below.alloc ?_ (by first | omega | (simp; omega) | simp) _ | refine Below.setCell ?_ (by first | omega | (simp; omega) | simp) _ | refine Below.trans ?_ (Below.mono (by assumption) (by first | omega | (simp; omega) | simp)) | apply Below.drew)) (Nat.le_refl _)).more (by first | omega | (simp; omega) | simp)) hc hv).mono ?_; rintro e w1 ⟨s, t, rfl, hb⟩; obtain ⟨hc', hf'⟩ := bcell hb; (try simp only [World.heap_drewN, World.cell?_drewN, World.frozen?_drewN] at hc' hf'); have hsz := hb.size; (try simp at hsz); have g1 : w.heap.size < w1.heap.size := (by omega))
    | (go_at_call 109; refine (cquo_any _ _ _ _ _).mono ?_; rintro e w' ⟨s, t, j, rfl, rfl⟩; simp only [quoRe_pick3, quoRe_pick4, quoIm_pick3, quoIm_pick4, hq1, hq2])
    | (go_at_call 112; refine (point_any _ _ _).mono ?_; rintro e w2 ⟨rfl, hb⟩; obtain ⟨hc', hf'⟩ := bcell hb; (try simp only [World.heap_drewN, World.cell?_drewN, World.frozen?_drewN] at hc' hf'); have hsz := hb.size; (try simp at hsz); have g2 : w.heap.size < w2.heap.size := (by omega))
    | (go_at_call 111; refine (On_ok A n cap ps HN.out hm (pointS x y).1 (pointS x y).2.1 (pointS x y).2.2 _ ((HS.out.below (B' := w.heap.size) (by repeat (first | exact Below.refl _ _ | refine below_drewN ?_ _ | refine Below.alloc ?_ (by first | omega | (simp; omega) | simp) _ | refine Below.setCell ?_ (by first | omega | (simp; omega) | simp) _ | refine Below.trans ?_ (Below.mono (by assumption) (by first | omega | (simp; omega) | simp)) | apply Below.drew)) (Nat.le_refl _)).more (by first | omega | (simp; omega) | simp)) hc (mayS_point hz)).mono ?_; rintro e w3 ⟨rfl, hb⟩; rw [hH]; obtain ⟨hc', hf'⟩ := bcell hb; (try simp only [World.heap_drewN, World.cell?_drewN, World.frozen?_drewN] at hc' hf'); have hsz := hb.size; (try simp at hsz); have g3 : w.heap.size < w3.heap.size := (by omega)))
  simp only [Exit.jump]
  exact bodyPost_ret (v := .tuple #[.agg #[.complex .f64 0 0, .float .f64 0], .bool false, .int .i64 0]) (by simp [results, Tryz.results58, go_sem, *]) rfl ⟨rfl, by repeat (first | exact Below.refl _ _ | refine below_drewN ?_ _ | refine Below.alloc ?_ (by first | omega | (simp; omega) | simp) _ | refine Below.setCell ?_ (by first | omega | (simp; omega) | simp) _ | refine Below.trans ?_ (Below.mono (by assumption) (by first | omega | (simp; omega) | simp)) | apply Below.drew)⟩
set_option maxRecDepth 100000 in
set_option maxHeartbeats 6400000 in
theorem certify_0 (h1 : n ≠ 1) (hz : cfin x y = true) {v1 v2 : Nat} (hv : atFrom (x, y) (steepS ps) 0 = (v1, v2)) (hv1 : cfin v1 v2 = true) {q1 q2 : Nat} (hq1 : quoRe 4607182418800017408 0 v1 v2 = q1) (hq2 : quoIm 4607182418800017408 0 v1 v2 = q2) (hy : cfin q1 q2 = true) (hv0 : (FloatKind.f64.format.order v1 0 == some .eq && FloatKind.f64.format.order v2 0 == some .eq) = true) {H : Bl} (hH : onFrom ((pointS x y).1, (pointS x y).2.1, (pointS x y).2.2) (pointsS ps) 0 = H) :
    Calls Tryz.prog 58 #[.slice A n cap, .complex .f64 x y] w (RNo w) := by
  have hp' : (0 : Int) < (n : Int) := by omega
  have h1' : ((n : Int) == 1) = false := by rw [beq_eq_false_iff_ne]; omega
  have HS := Lib.hid hs
  have HN := Lib.hid hn
  clear hs hn
  go_enter Tryz.func58, Tryz.ntmps58
  go_wp2
  refine wp_scope_once 0 rfl ?_
  go_wp2_with (first
    | (go_at_call 105; refine (may_ok A n cap ps HN.out hm hp w.heap.size _ (HS.out.alloc (Nat.le_refl _) _) hc).mono ?_; rintro e w' ⟨rfl, rfl⟩)
    | (go_at_call 107; refine (rfinite_any _ _ _).mono ?_; rintro e w' ⟨j, rfl, rfl⟩)
    | (go_at_call 108; refine (SlopeAt_ok A n cap ps HN.out hm _ _ _ ((HS.out.below (B' := w.heap.size) (by repeat (first | exact Below.refl _ _ | refine below_drewN ?_ _ | refine Below.alloc ?_ (by first | omega | (simp; omega) | simp) _ | refine Below.setCell ?_ (by first | omega | (simp; omega) | simp) _ | refine Below.trans ?_ (Below.mono (by assumption) (by first | omega | (simp; omega) | simp)) | apply Below.drew)) (Nat.le_refl _)).more (by first | omega | (simp; omega) | simp)) hc hv).mono ?_; rintro e w1 ⟨s, t, rfl, hb⟩; obtain ⟨hc', hf'⟩ := bcell hb; (try simp only [World.heap_drewN, World.cell?_drewN, World.frozen?_drewN] at hc' hf'); have hsz := hb.size; (try simp at hsz); have g1 : w.heap.size < w1.heap.size := (by omega))
    | (go_at_call 109; refine (cquo_any _ _ _ _ _).mono ?_; rintro e w' ⟨s, t, j, rfl, rfl⟩; simp only [quoRe_pick3, quoRe_pick4, quoIm_pick3, quoIm_pick4, hq1, hq2])
    | (go_at_call 112; refine (point_any _ _ _).mono ?_; rintro e w2 ⟨rfl, hb⟩; obtain ⟨hc', hf'⟩ := bcell hb; (try simp only [World.heap_drewN, World.cell?_drewN, World.frozen?_drewN] at hc' hf'); have hsz := hb.size; (try simp at hsz); have g2 : w.heap.size < w2.heap.size := (by omega))
    | (go_at_call 111; refine (On_ok A n cap ps HN.out hm (pointS x y).1 (pointS x y).2.1 (pointS x y).2.2 _ ((HS.out.below (B' := w.heap.size) (by repeat (first | exact Below.refl _ _ | refine below_drewN ?_ _ | refine Below.alloc ?_ (by first | omega | (simp; omega) | simp) _ | refine Below.setCell ?_ (by first | omega | (simp; omega) | simp) _ | refine Below.trans ?_ (Below.mono (by assumption) (by first | omega | (simp; omega) | simp)) | apply Below.drew)) (Nat.le_refl _)).more (by first | omega | (simp; omega) | simp)) hc (mayS_point hz)).mono ?_; rintro e w3 ⟨rfl, hb⟩; rw [hH]; obtain ⟨hc', hf'⟩ := bcell hb; (try simp only [World.heap_drewN, World.cell?_drewN, World.frozen?_drewN] at hc' hf'); have hsz := hb.size; (try simp at hsz); have g3 : w.heap.size < w3.heap.size := (by omega)))
  simp only [Exit.jump]
  exact bodyPost_ret (v := .tuple #[.agg #[.complex .f64 0 0, .float .f64 0], .bool false, .int .i64 0]) (by simp [results, Tryz.results58, go_sem, *]) rfl ⟨rfl, by repeat (first | exact Below.refl _ _ | refine below_drewN ?_ _ | refine Below.alloc ?_ (by first | omega | (simp; omega) | simp) _ | refine Below.setCell ?_ (by first | omega | (simp; omega) | simp) _ | refine Below.trans ?_ (Below.mono (by assumption) (by first | omega | (simp; omega) | simp)) | apply Below.drew)⟩
end
end Go.Proofs.YtbgjcpnbdgljbaaGreatDoor

/- roots.Certify at a finite point: a ball that the certificate tells, or none. -/
namespace Go.Proofs.YtbgjcpnbdgljbaaGreatDoor
open Go.RowKit Go.Fil
attribute [local irreducible] fop fsqrt fup fabs fneg pick
attribute [local irreducible] pointS mulS negS addS subS bhiS hiS contractsS onFrom

/-- What Certify answers. -/
def RCw (ps : List Cc) (x y : Nat) (w : World) (e : Ending) (w' : World) : Prop :=
  ((∃ a b r, a < 18446744073709551616 ∧ b < 18446744073709551616 ∧ r < 18446744073709551616 ∧ certOk ps a b x y r = true ∧ e = .returned (.tuple #[.agg #[.complex .f64 x y, .float .f64 r], .bool true, .int .i64 0])) ∨
   e = .returned (.tuple #[.agg #[.complex .f64 0 0, .float .f64 0], .bool false, .int .i64 0])) ∧ Below w.heap.size w w'
theorem fmax_lt {x y : Nat} (hx : x < 18446744073709551616) (hy : y < 18446744073709551616) : fmax x y < 18446744073709551616 := by
  unfold fmax
  split
  · decide
  · exact hy
  · exact hx
  · split <;> assumption
theorem certR_lt (M : Bl) (x y : Nat) : ∀ k, certR (certR0 M x y) k < 18446744073709551616
  | 0 => fmax_lt (fmax_lt (fop_lt _ _ _) (fop_lt _ _ _)) (by decide)
  | _ + 1 => fop_lt _ _ _
theorem quo_lt (a b c d : Nat) : quoRe a b c d < 18446744073709551616 ∧ quoIm a b c d < 18446744073709551616 := by
  unfold quoRe quoIm
  constructor <;> split <;> exact fop_lt _ _ _
section
variable (A : Option Addr) (n cap : Nat) (ps : List Cc) (hn : ps.length = n) (hm : n ≤ 9223372036854775807) (hp : 0 < n) (x y : Nat) (w : World) (hs : Seq w w.heap.size A (ps.map cv)) (hc : checkS ps = true)
include hn hm hp hs hc
theorem certify_any (h1 : n ≠ 1) (hz : cfin x y = true) : Calls Tryz.prog 58 #[.slice A n cap, .complex .f64 x y] w (RCw ps x y w) := by
  obtain ⟨v1, v2, hv⟩ : ∃ v1 v2, atFrom (x, y) (steepS ps) 0 = (v1, v2) := ⟨_, _, rfl⟩
  have hl := quo_lt 4607182418800017408 0 v1 v2
  obtain ⟨q1, hq1⟩ : ∃ q1, quoRe 4607182418800017408 0 v1 v2 = q1 := ⟨_, rfl⟩
  obtain ⟨q2, hq2⟩ : ∃ q2, quoIm 4607182418800017408 0 v1 v2 = q2 := ⟨_, rfl⟩
  rw [hq1, hq2] at hl
  have hno : ∀ {e w'}, RNo w e w' → RCw ps x y w e w' := fun h => ⟨.inr h.1, h.2⟩
  cases hv1 : cfin v1 v2
  · exact (certify_v A n cap ps hn hm hp x y w hs hc h1 hz hv hv1 hq1 hq2 rfl).mono (fun _ _ h => hno h)
  · cases hy : cfin q1 q2
    · exact (certify_y A n cap ps hn hm hp x y w hs hc h1 hz hv hv1 hq1 hq2 hy rfl).mono (fun _ _ h => hno h)
    · cases hv0 : (FloatKind.f64.format.order v1 0 == some .eq && FloatKind.f64.format.order v2 0 == some .eq)
      · refine (certify_ok A n cap ps hn hm hp x y w hs hc h1 hz hv hv1 hv0 hq1 hq2 hy rfl rfl rfl rfl).mono ?_
        rintro e w' ⟨h, hb⟩
        refine ⟨?_, hb⟩
        rcases h with ⟨k, _, _, hk, rfl⟩ | ⟨_, rfl⟩
        · exact .inl ⟨q1, q2, _, hl.1, hl.2, certR_lt _ _ _ _, hk, rfl⟩
        · exact .inr rfl
      · exact (certify_0 A n cap ps hn hm hp x y w hs hc h1 hz hv hv1 hq1 hq2 hy hv0 rfl).mono (fun _ _ h => hno h)
end
end Go.Proofs.YtbgjcpnbdgljbaaGreatDoor
