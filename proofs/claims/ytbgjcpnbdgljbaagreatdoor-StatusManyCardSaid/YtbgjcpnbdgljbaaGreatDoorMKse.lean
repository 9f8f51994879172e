/- status.critical, Critical of the map 2z: no critical numbers. -/
import Derived.Test.YtbgjcpnbdgljbaaGreatDoorMKba
import Derived.Test.YtbgjcpnbdgljbaaGreatDoorMPcu
import Derived.Test.YtbgjcpnbdgljbaaGreatDoorMKea
import Derived.Test.YtbgjcpnbdgljbaaGreatDoorMKal
import Derived.Test.YtbgjcpnbdgljbaaGreatDoorMSth
namespace Go.Proofs.YtbgjcpnbdgljbaaGreatDoor
open Go.RowKit Go.Fil
attribute [local irreducible] fop fsqrt fup fabs fneg pick

theorem derive0 {A : Option Addr} {c : Nat} {w : World} (hs : Seq w w.heap.size A (P2.map cv)) :
    Calls Tryz.prog 196 #[.slice A 2 c] w fun e w' => ∃ A1 c1, e = .returned (.tuple #[.slice A1 1 c1, .int .i64 0]) ∧ Below w.heap.size w w' := by
  have HS := Lib.hid hs
  clear hs
  have e1 : steepS P2 = [(4611686018427387904, 0)] := by decide +kernel
  go_enter Tryz.func196, Tryz.ntmps196
  go_wp2_with fail
  refine (all_one w.heap.size A 2 c P2 rfl (by decide) w.heap.size _ (HS.out.alloc (Nat.le_refl _) _) (by simp)).mono ?_
  rintro e w' ⟨rfl, rfl⟩
  rw [checkP]
  go_wp2_with fail
  refine (steep_any A 2 c P2 rfl checkP _ ((HS.out.alloc (Nat.le_refl _) _).more (by simp))).mono ?_
  rintro e w1 ⟨v, rfl, hown, hb⟩
  rw [e1] at hown
  obtain ⟨A1, c1, rfl, hs1⟩ := seq_of_own hown
  have hcap : 1 ≤ c1 := own_cap hown
  clear hown
  have HS1 := Lib.hid hs1
  clear hs1
  go_wp2_with fail
  refine (pcut_any A1 1 c1 [(4611686018427387904, 0)] rfl (by decide) hcap (by decide +kernel) _ HS1.out).mono ?_
  unfold RCut
  rintro e w2 ⟨v, m, hm, rfl, hown, hb2⟩
  obtain rfl : m = 1 := by
    have h1 := hm.le
    simp at h1
    rcases hm.last with h | h
    · subst h
      have := hm.z 0 (Nat.le_refl _) (by simp)
      exact absurd this (by decide +kernel)
    · rcases Nat.lt_or_ge m 1 with h2 | h2
      · obtain rfl : m = 0 := by omega
        have := hm.z 0 (Nat.le_refl _) (by simp)
        exact absurd this (by decide +kernel)
      · omega
  obtain ⟨A2, c2, rfl, _⟩ := seq_of_own hown
  have z0 : w.heap.size < w1.heap.size := by have := hb.size; simp at this; omega
  go_wp2
  go_ret2
  exact ⟨_, _, rfl, by repeat (first | exact Below.refl _ _ | refine below_drewN ?_ _ | refine Below.alloc ?_ (by first | omega | (simp; omega) | simp) _ | refine Below.setCell ?_ (by first | omega | (simp; omega) | simp) _ | refine Below.trans ?_ (Below.mono (by assumption) (by first | omega | (simp; omega) | simp)) | apply Below.drew)⟩
theorem critical0 {A1 A2 : Option Addr} {c1 c2 : Nat} {w : World} (hM : Mp w w.heap.size A1 A2) :
    Calls Tryz.prog 136 #[.agg #[.slice A1 2 c1, .slice A2 1 c2]] w fun e w' => ∃ A3 c3, e = .returned (.tuple #[.slice A3 1 c3, .bool true]) ∧ Below w.heap.size w w' := by
  have HM := Lib.hid hM
  obtain ⟨b, o, rfl, hb, hcl⟩ := hM.q.cat (k := 0) (by decide)
  have hc0 : w.cell? ⟨b, o, none⟩ = some (.complex .f64 4607182418800017408 0) := hcl
  clear hcl
  clear hM
  have HD := Lib.hid (fun w (h : Mp w w.heap.size A1 (some ⟨b, o, none⟩)) => derive0 (c := c1) h.p)
  go_enter Tryz.func136, Tryz.ntmps136
  go_wp2_with fail
  refine (HD.out _ (HM.out.now (by repeat (first | exact Below.refl _ _ | refine below_drewN ?_ _ | refine Below.alloc ?_ (by first | omega | (simp; omega) | simp) _ | refine Below.setCell ?_ (by first | omega | (simp; omega) | simp) _ | refine Below.trans ?_ (Below.mono (by assumption) (by first | omega | (simp; omega) | simp)) | apply Below.drew)))).mono ?_
  rintro e w1 ⟨A3, c3, rfl, hb1⟩
  obtain ⟨hbc, hbf⟩ := bcell hb1
  have s1 := hb1.size
  simp at s1
  have z1 : w.heap.size < w1.heap.size := by omega
  have hne : b ≠ w.heap.size := by omega
  have hne2 : w.heap.size ≠ b := by omega
  have hlt : b < w.heap.size + 1 := by omega
  go_wp2
  go_ret2
  exact ⟨_, _, rfl, by repeat (first | exact Below.refl _ _ | refine below_drewN ?_ _ | refine Below.alloc ?_ (by first | omega | (simp; omega) | simp) _ | refine Below.setCell ?_ (by first | omega | (simp; omega) | simp) _ | refine Below.trans ?_ (Below.mono (by assumption) (by first | omega | (simp; omega) | simp)) | apply Below.drew)⟩
theorem crit0 {A1 A2 : Option Addr} {c1 c2 : Nat} {w : World} (hM : Mp w w.heap.size A1 A2) :
    Calls Tryz.prog 75 #[.agg #[.slice A1 2 c1, .slice A2 1 c2]] w fun e w' => e = .returned (.tuple #[.slice none 0 0, .int .i64 0]) ∧ Below w.heap.size w w' := by
  have HM := Lib.hid hM
  clear hM
  have HC := Lib.hid (fun w (h : Mp w w.heap.size A1 A2) => mcheck (c1 := c1) (c2 := c2) h)
  have HD := Lib.hid (fun w (h : Mp w w.heap.size A1 A2) => critical0 (c1 := c1) (c2 := c2) h)
  go_enter Tryz.func75, Tryz.ntmps75
  go_wp2_with fail
  refine (HC.out _ (HM.out.now (by repeat (first | exact Below.refl _ _ | refine below_drewN ?_ _ | refine Below.alloc ?_ (by first | omega | (simp; omega) | simp) _ | refine Below.setCell ?_ (by first | omega | (simp; omega) | simp) _ | refine Below.trans ?_ (Below.mono (by assumption) (by first | omega | (simp; omega) | simp)) | apply Below.drew)))).mono ?_
  rintro e w1 ⟨rfl, hb1⟩
  obtain ⟨hbc, hbf⟩ := bcell hb1
  have s1 := hb1.size
  simp at s1
  have z1 : w.heap.size < w1.heap.size := by omega
  have z2 : w.heap.size < w.heap.size + 1 := by omega
  go_wp2_with fail
  refine (HD.out _ (HM.out.now (by repeat (first | exact Below.refl _ _ | refine below_drewN ?_ _ | refine Below.alloc ?_ (by first | omega | (simp; omega) | simp) _ | refine Below.setCell ?_ (by first | omega | (simp; omega) | simp) _ | refine Below.trans ?_ (Below.mono (by assumption) (by first | omega | (simp; omega) | simp)) | apply Below.drew)))).mono ?_
  rintro e w2 ⟨A3, c3, rfl, hb2⟩
  go_wp2
  go_ret2
  exact ⟨rfl, by repeat (first | exact Below.refl _ _ | refine below_drewN ?_ _ | refine Below.alloc ?_ (by first | omega | (simp; omega) | simp) _ | refine Below.setCell ?_ (by first | omega | (simp; omega) | simp) _ | refine Below.trans ?_ (Below.mono (by assumption) (by first | omega | (simp; omega) | simp)) | apply Below.drew)⟩
end Go.Proofs.YtbgjcpnbdgljbaaGreatDoor

/- status.Seek of the map 2z, zeros for seeds. -/
namespace Go.Proofs.YtbgjcpnbdgljbaaGreatDoor
open Go.RowKit Go.Fil
attribute [local irreducible] fop fsqrt fup fabs fneg pick fmax SL0 R0

/-- What Seek answers: no trap. -/
def RSk (x : Int) (w : World) (e : Ending) (w' : World) : Prop := e = .returned (.tuple #[.slice none 0 0, .int .i64 x]) ∧ Below w.heap.size w w'
set_option maxRecDepth 100000 in
set_option maxHeartbeats 1600000 in
theorem seek_long {A A1 A2 : Option Addr} {cap c1 c2 : Nat} (zs : List Cc) (hn : zs.length = 513) (hz : ∀ k, k < 513 → nth zs k = (0, 0)) {w : World} (hs : Seq w w.heap.size A (zs.map cv)) (hM : Mp w w.heap.size A1 A2) :
    Calls Tryz.prog 31 #[.agg #[.slice A1 2 c1, .slice A2 1 c2], .int .i64 1, .slice A 513 cap] w (RSk 4 w) := by
  have HFN := Lib.hid (fun w hs => containsf_ok A 513 cap zs hn (by omega) (fun k hk => by rw [hz k hk]; decide +kernel) w hs)
  have HM := Lib.hid hM
  have HS := Lib.hid hs
  clear hM hs hn hz
  go_enter Tryz.func31, Tryz.ntmps31
  go_wp2_with (first
    | (go_at_call 71; (with_reducible refine (mcheck (HM.out.now (by repeat (first | exact Below.refl _ _ | refine below_drewN ?_ _ | refine Below.alloc ?_ (by first | omega | (simp; omega) | simp) _ | refine Below.setCell ?_ (by first | omega | (simp; omega) | simp) _ | refine Below.trans ?_ (Below.mono (by assumption) (by first | omega | (simp; omega) | simp)) | apply Below.drew)))).mono ?_); rintro e w1 ⟨rfl, hb1⟩; have s1 := hb1.size; (try simp at s1))
    | (go_at_call 72; (with_reducible refine (HFN.out _ ((HS.out.below (B' := w.heap.size) (by repeat (first | exact Below.refl _ _ | refine below_drewN ?_ _ | refine Below.alloc ?_ (by first | omega | (simp; omega) | simp) _ | refine Below.setCell ?_ (by first | omega | (simp; omega) | simp) _ | refine Below.trans ?_ (Below.mono (by assumption) (by first | omega | (simp; omega) | simp)) | apply Below.drew)) (Nat.le_refl _)).more (by omega))).mono ?_); rintro e w' ⟨rfl, rfl⟩))
  go_ret2
  exact ⟨rfl, by repeat (first | exact Below.refl _ _ | refine below_drewN ?_ _ | refine Below.alloc ?_ (by first | omega | (simp; omega) | simp) _ | refine Below.setCell ?_ (by first | omega | (simp; omega) | simp) _ | refine Below.trans ?_ (Below.mono (by assumption) (by first | omega | (simp; omega) | simp)) | apply Below.drew)⟩
set_option maxRecDepth 100000 in
set_option maxHeartbeats 3200000 in
theorem seek_ok {A A1 A2 : Option Addr} {cap c1 c2 : Nat} (zs : List Cc) (hn : zs.length = 512) (hz : ∀ k, k < 512 → nth zs k = (0, 0)) {w : World} (hs : Seq w w.heap.size A (zs.map cv)) (hM : Mp w w.heap.size A1 A2) (hT : Tab64 w) :
    Calls Tryz.prog 31 #[.agg #[.slice A1 2 c1, .slice A2 1 c2], .int .i64 1, .slice A 512 cap] w (RSk 0 w) := by
  obtain ⟨i0, hi, hz0, hz1, hz2⟩ := info_parts Tryz.infoC
  have HFN := Lib.hid (fun w hs => containsf_ok A 512 cap zs hn (by omega) (fun k hk => by rw [hz k hk]; decide +kernel) w hs)
  have HLA := Lib.hid (fun w (hM : Mp w w.heap.size A1 A2) => last0 (c1 := c1) (c2 := c2) hM)
  have HCR := Lib.hid (fun w (hM : Mp w w.heap.size A1 A2) => crit0 (c1 := c1) (c2 := c2) hM)
  have HAL := Lib.hid (fun w A cap zs' hn hz' hs (hM : Mp w w.heap.size A1 A2) hT => all0 (A := A) (n := 512) (cap := cap) (c1 := c1) (c2 := c2) zs' hn (by omega) hz' hs hM hT)
  have HM := Lib.hid hM
  have HS := Lib.hid hs
  have HT := Lib.hid hT
  have HZ := Lib.hid hz
  have HN := Lib.hid hn
  clear hM hs hn hz hT
  go_enter Tryz.func31, Tryz.ntmps31
  go_upto_region 10 with (first
    | (go_at_call 71; (with_reducible refine (mcheck (HM.out.now (by repeat (first | exact Below.refl _ _ | refine below_drewN ?_ _ | refine Below.alloc ?_ (by first | omega | (simp; omega) | simp) _ | refine Below.setCell ?_ (by first | omega | (simp; omega) | simp) _ | refine Below.trans ?_ (Below.mono (by assumption) (by first | omega | (simp; omega) | simp)) | apply Below.drew)))).mono ?_); rintro e w1 ⟨rfl, hb1⟩; have s1 := hb1.size; (try simp at s1); obtain ⟨hc1, hf1⟩ := bcell hb1; have y1 : w.heap.size < w1.heap.size := (by omega))
    | (go_at_call 72; (with_reducible refine (HFN.out _ ((HS.out.below (B' := w.heap.size) (by repeat (first | exact Below.refl _ _ | refine below_drewN ?_ _ | refine Below.alloc ?_ (by first | omega | (simp; omega) | simp) _ | refine Below.setCell ?_ (by first | omega | (simp; omega) | simp) _ | refine Below.trans ?_ (Below.mono (by assumption) (by first | omega | (simp; omega) | simp)) | apply Below.drew)) (Nat.le_refl _)).more (by omega))).mono ?_); rintro e w' ⟨rfl, rfl⟩)
    | (go_at_call 75; (with_reducible refine (HCR.out _ (HM.out.now (by repeat (first | exact Below.refl _ _ | refine below_drewN ?_ _ | refine Below.alloc ?_ (by first | omega | (simp; omega) | simp) _ | refine Below.setCell ?_ (by first | omega | (simp; omega) | simp) _ | refine Below.trans ?_ (Below.mono (by assumption) (by first | omega | (simp; omega) | simp)) | apply Below.drew)))).mono ?_); rintro e w2 ⟨rfl, hb2⟩; have s2 := hb2.size; (try simp at s2); obtain ⟨hc2, hf2⟩ := bcell hb2; have y2 : w.heap.size < w2.heap.size := (by omega))
    | (go_at_call 76; (with_reducible refine (deletef_nil _ _).mono ?_); rintro e w' ⟨rfl, rfl⟩))
  have hbw : Below w.heap.size w w2 := by clear hc1 hf1 hc2 hf2; repeat (first | exact Below.refl _ _ | refine below_drewN ?_ _ | refine Below.alloc ?_ (by first | omega | (simp; omega) | simp) _ | refine Below.setCell ?_ (by first | omega | (simp; omega) | simp) _ | refine Below.trans ?_ (Below.mono (by assumption) (by first | omega | (simp; omega) | simp)) | apply Below.drew)
  have m0 : w2.cell? ⟨w.heap.size, 0, none⟩ = some (.slice A1 2 c1) := by simp [go_sem, *]
  have m1 : w2.cell? ⟨w.heap.size, 1, none⟩ = some (.slice A2 1 c2) := by simp [go_sem, *]
  have hs2 := (HS.out.below hbw (Nat.le_refl _))
  rcases hs2 with hs2 | ⟨b, o, rfl, hb, hcl⟩
  · have h := congrArg List.length hs2
    rw [List.length_map, HN.out] at h
    cases h
  have HB2 := Lib.hid hbw
  have HCL := Lib.hid hcl
  clear hc1 hf1 hc2 hf2 hb1 hb2 hbw hcl
  go_wp2_with (at_builtin; refine wpList_append_own_at _ rfl _ _ 24 rfl w.heap.size 41 i0 (.complex .f64 0 0) 1 16 Tryz.underlying24 hi hz0 hz1 hz2 rfl (by decide) _ _ _ rfl (World.ownsRow_nil _ _ _ _) ⟨b, o, none⟩ 512 cap (zs.map cv) rfl ?hl ?c1 ?c2 ?c3 ?c4 ?c5 ?_)
  case hl => rw [List.length_map, HN.out]
  case c1 => intro j u hj; rw [Addr.add_mid]; exact HCL.out j u hj
  case c2 => intro u hu; obtain ⟨z, _, rfl⟩ := List.mem_map.1 hu; rfl
  case c3 => unfold maxLen; omega
  case c4 => omega
  case c5 => exact HB2.out.size
  intro v' w3 hown hg _ _
  have hg' : w2.grownBy w3 none := hg
  have hown' : w3.ownsRow w.heap.size 41 1 v' 512 (zs.map cv) := hown
  have hB3 : Below w.heap.size w w3 := HB2.out.grown hg' HB2.out.size (fun k e => by cases e)
  have m0' := cell_grown hg' y2 (by simp) m0
  have m1' := cell_grown hg' y2 (by simp) m1
  obtain ⟨A3, c3, rfl, hs3⟩ := seq_of_own hown'
  have y3 : w.heap.size < w3.heap.size := Nat.lt_of_lt_of_le y2 hg'.size
  have HB3 := Lib.hid hB3
  have HS3 := Lib.hid hs3
  clear hown hown' hg hg' hB3 hs3 m0 m1 HCL hb
  go_wp2
  go_loopw [10, 55] (fun v i wr => ∃ (k : Nat) (v1 : Value), v1 = v ∧ k ≤ 512 ∧ i = .int .i64 k ∧ wr.ownsRow w3.heap.size 41 1 v1 k ((List.replicate k ((0, 0) : Cc)).map cv) ∧ Below w3.heap.size w3 wr) (fun _ i _ => 512 - (intOf i).toNat)
  case atStart => exact ⟨0, _, rfl, by omega, rfl, World.ownsRow_nil _ _ _ _, Below.refl _ _⟩
  case round =>
    obtain ⟨k, v1, hv1, hk, rfl, hown, hbx⟩ := hrel
    subst hv1
    have HMR := Lib.hid (HM.out.now (HB3.out.trans (hbx.mono HB3.out.size)))
    have m0r := (hbx.cell (p := ⟨w.heap.size, 0, none⟩) y3).trans m0'
    have m1r := (hbx.cell (p := ⟨w.heap.size, 1, none⟩) y3).trans m1'
    have yr : w.heap.size < wr.heap.size := Nat.lt_of_lt_of_le y3 hbx.size
    have sr := hbx.size
    have HBX := Lib.hid hbx
    have HOW := Lib.hid hown
    clear hown m0' m1' hbx
    by_cases hlt : k < 512
    · obtain ⟨b', o', rfl, hb', hcl⟩ := (HS3.out.below HBX.out (Nat.le_refl _)).cat (k := k) (by have := HN.out; omega)
      rw [HZ.out k hlt] at hcl
      have k0 : (0 : Int) ≤ (k : Int) := by omega
      have k1 : (k : Int) < 512 := by omega
      clear hb'
      go_wp2_with (first
        | (go_at_call 78; (with_reducible refine (HLA.out _ HMR.out).mono ?_); rintro e w4 ⟨rfl, hb4⟩)
        | (at_builtin; refine wpList_append_own_at _ rfl _ _ 24 rfl w3.heap.size 41 i0 (.complex .f64 0 0) 1 16 Tryz.underlying24 hi hz0 hz1 hz2 rfl (by decide) _ _ _ rfl (((own_below HOW.out hb4).alloc _).alloc _) ⟨w4.heap.size + 1, 0, none⟩ 1 1 [.complex .f64 0 0] rfl rfl ?c1 ?c2 ?c3 ?c4 ?c5 ?_))
      case c1 =>
        have h := cell_one_new (w4.alloc (.cells #[.complex .f64 0 0, .bool false] 133)) (.complex .f64 0 0) 41
        rw [World.size_alloc] at h
        exact h
      case c2 => intro u hu; simp at hu; subst hu; rfl
      case c3 => unfold maxLen; omega
      case c4 => omega
      case c5 => have := hb4.size; simp; omega
      intro v' w5 hown5 hg5 _ _
      have hb5 : Below w3.heap.size w3 w5 := (((HBX.out.trans (hb4.mono HBX.out.size)).alloc (by have := hb4.size; omega) (.cells #[.complex .f64 0 0, .bool false] 133)).alloc (by have := hb4.size; simp; omega) (.cells #[.complex .f64 0 0] 41)).grown hg5 (by have := hb4.size; simp; omega) (fun q hq => (HOW.out.lt q hq).1)
      have hown6 : w5.ownsRow w3.heap.size 41 1 v' (k + 1) ((List.replicate (k + 1) ((0, 0) : Cc)).map cv) := by
        rw [List.replicate_succ', List.map_append, List.map_replicate]
        exact hown5
      clear hown5 hg5 hb4
      go_wp2
      go_roundw
      case rel => exact ⟨k + 1, _, rfl, by omega, by go_num, hown6, hb5⟩
      case measure => simp [intOf]; omega
    · obtain rfl : k = 512 := by omega
      obtain ⟨A8, c8, rfl, hs8⟩ := seq_of_own HOW.out
      have HS8 := Lib.hid hs8
      have hbw := HB3.out.trans (HBX.out.mono HB3.out.size)
      have HBR := Lib.hid hbw
      have HTR := Lib.hid (tab64_below HT.out hbw)
      have hnr : ∀ k, k < 512 → nth (List.replicate 512 ((0, 0) : Cc)) k = (0, 0) := fun k hk => by
        rw [nth_eq (by simp; omega), List.getElem_replicate]
      have HA := Lib.hid (HAL.out wr A8 c8 (List.replicate 512 (0, 0)) (by simp) hnr HS8.out HMR.out HTR.out)
      clear hs8 hbw hnr
      rw [show ((512 : Nat) : Int) = 512 from rfl]
      go_wp2
      go_loopw [16, 17] (fun t j wx => t = .slice none 0 0 ∧ ((j = .int .i64 1 ∧ wx = wr) ∨ (j = .int .i64 2 ∧ Below w.heap.size w wx))) (fun _ j _ => 2 - (intOf j).toNat)
      case atStart => exact ⟨rfl, .inl ⟨rfl, rfl⟩⟩
      case round =>
        rename World => wx
        obtain ⟨rfl, ⟨rfl, rfl⟩ | ⟨rfl, hbf⟩⟩ := hrel
        · go_wp2_with fail
          refine HA.out.mono ?_
          rintro e w6 ⟨⟨v, rfl, ho⟩, hb6⟩
          have hbf := HBR.out.trans (hb6.mono HBR.out.size)
          have HBF := Lib.hid hbf
          clear hbf hb6
          rcases ho with rfl | ⟨q, c, g, m, rfl, hm, hown, hp⟩
          · go_wp2
            go_loopw [16, 99] (fun t i wy => t = .slice none 0 0 ∧ i = .int .i64 0 ∧ wy = w6) (fun _ _ _ => 0)
            case atStart => exact ⟨rfl, rfl, rfl⟩
            case round =>
              rename World => wy
              obtain ⟨rfl, rfl, rfl⟩ := hrel
              go_wp2
              go_roundw
              case rel => exact ⟨rfl, .inr ⟨rfl, HBF.out⟩⟩
              case measure => simp [intOf]
          · have z0 : w6.cell? ⟨q, 0, none⟩ = some (.int .i64 1) := (hown.cellAt 0 (by decide)).trans rfl
            have z1 : w6.cell? ⟨q, 1, none⟩ = some (.complex .f64 0 0) := (hown.cellAt 1 (by decide)).trans rfl
            have z2 : w6.cell? ⟨q, 2, none⟩ = some (.float .f64 R0) := (hown.cellAt 2 (by decide)).trans rfl
            have z3 : w6.cell? ⟨q, 3, none⟩ = some (.slice (some ⟨g, 0, none⟩) 1 1) := (hown.cellAt 3 (by decide)).trans rfl
            have z4 : w6.cell? ⟨q, 4, none⟩ = some (.complex .f64 SL0.1 SL0.2.1) := (hown.cellAt 4 (by decide)).trans rfl
            have z5 : w6.cell? ⟨q, 5, none⟩ = some (.float .f64 SL0.2.2) := (hown.cellAt 5 (by decide)).trans rfl
            have z6 : w6.cell? ⟨q, 6, none⟩ = some (.int .u8 m) := (hown.cellAt 6 (by decide)).trans rfl
            clear hown hp
            go_wp2
            go_loopw [16, 99] (fun t i wy => t = .slice none 0 0 ∧ ((i = .int .i64 0 ∧ wy = w6) ∨ (i = .int .i64 1 ∧ Below w.heap.size w wy))) (fun _ i _ => 1 - (intOf i).toNat)
            case atStart => exact ⟨rfl, .inl ⟨rfl, rfl⟩⟩
            case round =>
              rename World => wy
              obtain ⟨rfl, ⟨rfl, rfl⟩ | ⟨rfl, hby⟩⟩ := hrel
              · go_wp2
                exact ⟨⟨rfl, .inr ⟨rfl, HBF.out.alloc HBF.out.size _⟩⟩, by simp [intOf]⟩
              · go_wp2
                go_roundw
                case rel => exact ⟨rfl, .inr ⟨rfl, hby⟩⟩
                case measure => simp [intOf]
        · go_wp2
          go_ret2
          exact ⟨rfl, hbf⟩
end Go.Proofs.YtbgjcpnbdgljbaaGreatDoor

/- filigreelaw19.StatusMany. -/
namespace Go.Proofs.YtbgjcpnbdgljbaaGreatDoor
open Go.RowKit Go.Fil
attribute [local irreducible] fop fsqrt fup fabs fneg pick fmax

set_option maxRecDepth 100000 in
set_option maxHeartbeats 1600000 in
theorem statusMany_any (w : World) (hT : Tab w) (hT64 : Tab64 w) : Calls Tryz.prog 7 #[] w (RY true w) := by
  have HT := Lib.hid hT
  have HT64 := Lib.hid hT64
  have HL := Lib.hid (fun w (h : Tab w) => slives_any w h)
  clear hT hT64
  obtain ⟨i0, hi, hz0, hz1, hz2⟩ := info_parts Tryz.infoC
  go_enter Tryz.func7, Tryz.ntmps7
  go_wp2_with (at_make; refine wpList_make_full _ rfl _ _ 24 rfl w.heap.size 41 i0 (.complex .f64 0 0) 1 Tryz.underlying24 hi hz0 hz1 _ _ _ _ 513 rfl rfl ?b0 ?b1 ?b2 ?b3 ?b4 ?_)
  case b0 => rfl
  case b1 => rfl
  case b2 => rw [hz2]; omega
  case b3 => unfold maxLen; omega
  case b4 => simp; omega
  intro w1 hown hg
  have e0 : ((((w.alloc (.cells #[.complex .f64 0 0, .complex .f64 4611686018427387904 0] 41)).alloc (.cells #[.complex .f64 4607182418800017408 0] 41)).alloc (.cells #[.slice (some ⟨w.heap.size, 0, none⟩) 2 2, .slice (some ⟨w.heap.size + 1, 0, none⟩) 1 1] 68))).cell? ⟨w.heap.size, 0, none⟩ = some (.complex .f64 0 0) := by simp [go_sem]
  have e1 : ((((w.alloc (.cells #[.complex .f64 0 0, .complex .f64 4611686018427387904 0] 41)).alloc (.cells #[.complex .f64 4607182418800017408 0] 41)).alloc (.cells #[.slice (some ⟨w.heap.size, 0, none⟩) 2 2, .slice (some ⟨w.heap.size + 1, 0, none⟩) 1 1] 68))).cell? ⟨w.heap.size, 1, none⟩ = some (.complex .f64 4611686018427387904 0) := by simp [go_sem]
  have e2 : ((((w.alloc (.cells #[.complex .f64 0 0, .complex .f64 4611686018427387904 0] 41)).alloc (.cells #[.complex .f64 4607182418800017408 0] 41)).alloc (.cells #[.slice (some ⟨w.heap.size, 0, none⟩) 2 2, .slice (some ⟨w.heap.size + 1, 0, none⟩) 1 1] 68))).cell? ⟨w.heap.size + 1, 0, none⟩ = some (.complex .f64 4607182418800017408 0) := by simp [go_sem]
  have e3 : ((((w.alloc (.cells #[.complex .f64 0 0, .complex .f64 4611686018427387904 0] 41)).alloc (.cells #[.complex .f64 4607182418800017408 0] 41)).alloc (.cells #[.slice (some ⟨w.heap.size, 0, none⟩) 2 2, .slice (some ⟨w.heap.size + 1, 0, none⟩) 1 1] 68))).cell? ⟨w.heap.size + 1 + 1, 0, none⟩ = some (.slice (some ⟨w.heap.size, 0, none⟩) 2 2) := by simp [go_sem]
  have e4 : ((((w.alloc (.cells #[.complex .f64 0 0, .complex .f64 4611686018427387904 0] 41)).alloc (.cells #[.complex .f64 4607182418800017408 0] 41)).alloc (.cells #[.slice (some ⟨w.heap.size, 0, none⟩) 2 2, .slice (some ⟨w.heap.size + 1, 0, none⟩) 1 1] 68))).cell? ⟨w.heap.size + 1 + 1, 1, none⟩ = some (.slice (some ⟨w.heap.size + 1, 0, none⟩) 1 1) := by simp [go_sem]
  have hB3 : Below w.heap.size w (((w.alloc (.cells #[.complex .f64 0 0, .complex .f64 4611686018427387904 0] 41)).alloc (.cells #[.complex .f64 4607182418800017408 0] 41)).alloc (.cells #[.slice (some ⟨w.heap.size, 0, none⟩) 2 2, .slice (some ⟨w.heap.size + 1, 0, none⟩) 1 1] 68)) := by repeat (first | exact Below.refl _ _ | refine below_drewN ?_ _ | refine Below.alloc ?_ (by first | omega | (simp; omega) | simp) _ | refine Below.setCell ?_ (by first | omega | (simp; omega) | simp) _ | refine Below.trans ?_ (Below.mono (by assumption) (by first | omega | (simp; omega) | simp)) | apply Below.drew)
  have hs3 : ((((w.alloc (.cells #[.complex .f64 0 0, .complex .f64 4611686018427387904 0] 41)).alloc (.cells #[.complex .f64 4607182418800017408 0] 41)).alloc (.cells #[.slice (some ⟨w.heap.size, 0, none⟩) 2 2, .slice (some ⟨w.heap.size + 1, 0, none⟩) 1 1] 68))).heap.size = w.heap.size + 3 := by simp
  generalize (((w.alloc (.cells #[.complex .f64 0 0, .complex .f64 4611686018427387904 0] 41)).alloc (.cells #[.complex .f64 4607182418800017408 0] 41)).alloc (.cells #[.slice (some ⟨w.heap.size, 0, none⟩) 2 2, .slice (some ⟨w.heap.size + 1, 0, none⟩) 1 1] 68)) = W3 at *
  have l0 : w.heap.size < W3.heap.size := by omega
  have l1 : w.heap.size + 1 < W3.heap.size := by omega
  have l2 : w.heap.size + 1 + 1 < W3.heap.size := by omega
  replace e0 := cell_grown hg l0 (by simp) e0
  replace e1 := cell_grown hg l0 (by simp) e1
  replace e2 := cell_grown hg l1 (by simp) e2
  replace e3 := cell_grown hg l2 (by simp) e3
  replace e4 := cell_grown hg l2 (by simp) e4
  have hb1 : Below w.heap.size w w1 := hB3.grown hg hB3.size (fun k e => by cases e)
  have s1 := hg.size
  have hrow : w1.ownsRow w.heap.size 41 1 (.slice (some ⟨w.heap.size + 1 + 1 + 1, 0, none⟩) 513 513) 513 ((List.replicate 513 ((0, 0) : Cc)).map cv) := by
    rw [List.map_replicate]
    have h := hown
    rw [toList_madeCells_one] at h
    exact h
  have hM : Mp w1 w1.heap.size (some ⟨w.heap.size, 0, none⟩) (some ⟨w.heap.size + 1, 0, none⟩) := by
    refine ⟨.inr ⟨w.heap.size, 0, rfl, by omega, fun k v hk => ?_⟩, .inr ⟨w.heap.size + 1, 0, rfl, by omega, fun k v hk => ?_⟩⟩
    · match k, hk with
      | 0, hk => rw [Nat.zero_add, e0]; exact hk
      | 1, hk => rw [Nat.zero_add, e1]; exact hk
      | k + 2, hk => cases hk
    · match k, hk with
      | 0, hk => rw [Nat.zero_add, e2]; exact hk
      | k + 1, hk => cases hk
  have hsq : Seq w1 w1.heap.size (some ⟨w.heap.size + 1 + 1 + 1, 0, none⟩) ((List.replicate 513 ((0, 0) : Cc)).map cv) := own_seq hrow
  have hsq2 : Seq w1 w1.heap.size (some ⟨w.heap.size + 1 + 1 + 1, 1, none⟩) ((List.replicate 512 ((0, 0) : Cc)).map cv) := by
    refine .inr ⟨w.heap.size + 1 + 1 + 1, 1, rfl, (hrow.lt _ rfl).2, fun k v hk => ?_⟩
    have hk2 := (List.getElem?_eq_some_iff.1 hk).1
    simp at hk2
    rw [hrow.cellAt _ (by omega)]
    rw [List.map_replicate, List.getElem?_replicate] at hk ⊢
    rw [if_pos (by omega)]
    rw [if_pos (by omega)] at hk
    exact hk
  have hnth : ∀ n k, k < n → nth (List.replicate n ((0, 0) : Cc)) k = (0, 0) := fun n k hk => by rw [nth_eq (by simp; omega), List.getElem_replicate]
  have H1 := Lib.hid (seek_long (cap := 513) (c1 := 2) (c2 := 1) (List.replicate 513 (0, 0)) (by simp) (hnth 513) hsq hM)
  have H2 := Lib.hid (fun w2 (hb : Below w1.heap.size w1 w2) hT => seek_ok (w := w2) (cap := 512) (c1 := 2) (c2 := 1) (List.replicate 512 (0, 0)) (by simp) (hnth 512) ((hsq2.below hb (Nat.le_refl _)).more hb.size) (hM.now hb) hT)
  have HB1 := Lib.hid hb1
  have HT1 := Lib.hid (HT.out.below hb1)
  have HT64' := Lib.hid (tab64_below HT64.out hb1)
  have q2 : w.heap.size + 1 + 1 < w1.heap.size := by omega
  clear hown hg e0 e1 e2 hB3 hs3 l0 l1 l2 hb1 s1 hrow hM hsq hsq2 hnth
  go_upto_region 4 with (go_at_call 31; (with_reducible refine H1.out.mono ?_); rintro e w2 ⟨rfl, hb2⟩)
  have k3 := (hb2.cell (p := ⟨w.heap.size + 1 + 1, 0, none⟩) q2).trans e3
  have k4 := (hb2.cell (p := ⟨w.heap.size + 1 + 1, 1, none⟩) q2).trans e4
  have H3 := Lib.hid (fun n => H2.out (w2.drewN n) (below_drewN hb2 n) (tab64_below HT64'.out (below_drewN hb2 n)))
  have HB2 := Lib.hid (HB1.out.trans (hb2.mono HB1.out.size))
  have HT2 := Lib.hid (HT1.out.below hb2)
  have q3 : w.heap.size + 1 + 1 < w2.heap.size := Nat.lt_of_lt_of_le q2 hb2.size
  clear H1 H2 hb2 e3 e4
  go_region_held3 (fun x => x.cell? ⟨w.heap.size + 1 + 1, 0, none⟩ = some (.slice (some ⟨w.heap.size, 0, none⟩) 2 2) ∧ x.cell? ⟨w.heap.size + 1 + 1, 1, none⟩ = some (.slice (some ⟨w.heap.size + 1, 0, none⟩) 1 1)) (((try dsimp only); refine ⟨?_, ?_⟩ <;> first | (simp [go_sem, *]; done) | (rw [hc _ _ (by first | assumption | (simp; assumption) | omega | (simp; omega))]; first | exact k3 | exact k4)))
    (first
      | (go_at_call 31; refine (H3.out _).mono ?_; rintro e w3 ⟨rfl, hb3⟩; obtain ⟨hc, hf⟩ := bcell hb3))
  have hb3' := (below_drewN (Below.refl w2.heap.size w2) 1).trans hb3
  have HB3 := Lib.hid (HB2.out.trans (hb3'.mono HB2.out.size))
  have HT3 := Lib.hid (HT2.out.below hb3')
  clear hb3 hb3' hc hf
  go_wp2_with (go_at_call 29; (with_reducible refine (HL.out _ HT3.out).mono ?_); rintro e w4 ⟨rfl, hb4⟩)
  go_ret
  exact ⟨rfl, HB3.out.trans (hb4.mono HB3.out.size)⟩
end Go.Proofs.YtbgjcpnbdgljbaaGreatDoor
