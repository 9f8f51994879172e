/- cycles.Find, Unlike of the map 2z. -/
import Derived.Test.YtbgjcpnbdgljbaaGreatDoorMKru
import Derived.Test.YtbgjcpnbdgljbaaGreatDoorMUfg
namespace Go.Proofs.YtbgjcpnbdgljbaaGreatDoor
open Go.RowKit Go.Fil
attribute [local irreducible] fop fsqrt fup fabs fneg pick fmax SL0 R0

theorem Pt0.set {w : World} {g : Nat} (h : Pt0 w g) (b o : Nat) (v : Value) (hne : b ≠ g) : Pt0 (w.setCell ⟨b, o, none⟩ v) g :=
  ⟨cell_grown (grown_set w b o v) h.lt (fun e => hne (Option.some.inj e)) h.c0, cell_grown (grown_set w b o v) h.lt (fun e => hne (Option.some.inj e)) h.c1, Nat.lt_of_lt_of_le h.lt (grown_set w b o v).size⟩
theorem Pt0.grown {w w' : World} {g : Nat} {row : Option Nat} (h : Pt0 w g) (hg : w.grownBy w' row) (hne : row ≠ some g) : Pt0 w' g :=
  ⟨cell_grown hg h.lt hne h.c0, cell_grown hg h.lt hne h.c1, Nat.lt_of_lt_of_le h.lt hg.size⟩
theorem Pt0.below {w w' : World} {g B : Nat} (h : Pt0 w g) (hb : Below B w w') (hg : g < B) : Pt0 w' g :=
  ⟨(hb.cell (p := ⟨g, 0, none⟩) hg).trans h.c0, (hb.cell (p := ⟨g, 1, none⟩) hg).trans h.c1, Nat.lt_of_lt_of_le h.lt hb.size⟩
set_option maxRecDepth 100000 in
set_option maxHeartbeats 1600000 in
theorem find0 {A1 A2 : Option Addr} {c1 c2 : Nat} {w : World} (hM : Mp w w.heap.size A1 A2) :
    Calls Tryz.prog 141 #[.agg #[.slice A1 2 c1, .slice A2 1 c2], .int .i64 1, .complex .f64 0 0] w (RCy w) := by
  have HM := Lib.hid hM
  have HSE := Lib.hid (fun w (hM : Mp w w.heap.size A1 A2) => seek0 (c1 := c1) (c2 := c2) hM)
  have HCE := Lib.hid (fun w (hM : Mp w w.heap.size A1 A2) => (certify0 (c1 := c1) (c2 := c2) hM).mono (R' := fun e w' => (∃ (g : Nat) (n : Int), n ≠ 1 ∧ e = .returned (.tuple #[.agg #[.int .i64 1, .complex .f64 0 0, .float .f64 R0, .slice (some ⟨g, 0, none⟩) 1 1, .complex .f64 SL0.1 SL0.2.1, .float .f64 SL0.2.2, .int .u8 n], .int .i64 0]) ∧ Pt0 w' g) ∧ Below w.heap.size w w') (fun _ _ h => h))
  clear hM
  go_enter Tryz.func141, Tryz.ntmps141
  go_wp2_with (first
    | (go_at_call 201; (with_reducible refine (HSE.out _ (HM.out.now (by repeat (first | exact Below.refl _ _ | refine below_drewN ?_ _ | refine Below.alloc ?_ (by first | omega | (simp; omega) | simp) _ | refine Below.setCell ?_ (by first | omega | (simp; omega) | simp) _ | refine Below.trans ?_ (Below.mono (by assumption) (by first | omega | (simp; omega) | simp)) | apply Below.drew)))).mono ?_); rintro e w1 ⟨rfl, hb1⟩; obtain ⟨hc1, hf1⟩ := bcell hb1; have s1 := hb1.size; (try simp at s1); have y1 : w.heap.size < w1.heap.size := (by omega); have y1' : w.heap.size + 1 < w1.heap.size := (by omega))
    | (go_at_call 202; (with_reducible refine (HCE.out _ (HM.out.now (by repeat (first | exact Below.refl _ _ | refine below_drewN ?_ _ | refine Below.alloc ?_ (by first | omega | (simp; omega) | simp) _ | refine Below.setCell ?_ (by first | omega | (simp; omega) | simp) _ | refine Below.trans ?_ (Below.mono (by assumption) (by first | omega | (simp; omega) | simp)) | apply Below.drew)))).mono ?_); rintro e w2 ⟨⟨g, n, hn, rfl, hp⟩, hb2⟩; obtain ⟨hc2, hf2⟩ := bcell hb2; have s2 := hb2.size; (try simp at s2); have y2 : w.heap.size < w2.heap.size := (by omega); have y2' : w.heap.size + 1 < w2.heap.size := (by omega)))
  have t1 : w2.cell? ⟨w.heap.size + 1, 1, none⟩ = some (.complex .f64 0 0) := by
    clear hp hn
    simp [go_sem, *]
  have ng : w.heap.size + 1 ≠ g := fun e => by
    have h := hp.c1
    rw [← e, t1] at h
    cases h
  have hp7 := (((((((hp.set (w.heap.size + 1) 0 (.int .i64 1) ng).set (w.heap.size + 1) 1 (.complex .f64 0 0) ng).set (w.heap.size + 1) 2 (.float .f64 R0) ng).set (w.heap.size + 1) 3 (.slice (some ⟨g, 0, none⟩) 1 1) ng).set (w.heap.size + 1) 4 (.complex .f64 SL0.1 SL0.2.1) ng).set (w.heap.size + 1) 5 (.float .f64 SL0.2.2) ng).set (w.heap.size + 1) 6 (.int .u8 n) ng)
  have hbw : Below w.heap.size w w2 := by repeat (first | exact Below.refl _ _ | refine below_drewN ?_ _ | refine Below.alloc ?_ (by first | omega | (simp; omega) | simp) _ | refine Below.setCell ?_ (by first | omega | (simp; omega) | simp) _ | refine Below.trans ?_ (Below.mono (by assumption) (by first | omega | (simp; omega) | simp)) | apply Below.drew)
  have l : w.heap.size ≤ w.heap.size + 1 := Nat.le_succ _
  have hbf := (((((((hbw.setCell (p := ⟨w.heap.size + 1, 0, none⟩) l (.int .i64 1)).setCell (p := ⟨w.heap.size + 1, 1, none⟩) l (.complex .f64 0 0)).setCell (p := ⟨w.heap.size + 1, 2, none⟩) l (.float .f64 R0)).setCell (p := ⟨w.heap.size + 1, 3, none⟩) l (.slice (some ⟨g, 0, none⟩) 1 1)).setCell (p := ⟨w.heap.size + 1, 4, none⟩) l (.complex .f64 SL0.1 SL0.2.1)).setCell (p := ⟨w.heap.size + 1, 5, none⟩) l (.float .f64 SL0.2.2)).setCell (p := ⟨w.heap.size + 1, 6, none⟩) l (.int .u8 n))
  clear ng t1 hp hbw l
  refine bodyPost_ret (v := .tuple #[.agg #[.int .i64 1, .complex .f64 0 0, .float .f64 R0, .slice (some ⟨g, 0, none⟩) 1 1, .complex .f64 SL0.1 SL0.2.1, .float .f64 SL0.2.2, .int .u8 n], .int .i64 0]) (by simp [results, Tryz.results141, go_sem, *]) rfl ?_
  exact ⟨⟨g, n, hn, rfl, hp7⟩, hbf⟩
set_option maxRecDepth 100000 in
set_option maxHeartbeats 1600000 in
theorem unlike0 {g g' : Nat} {n n' : Int} {w : World} (hp : Pt0 w g') (hT : Tab64 w) :
    Calls Tryz.prog 142 #[.agg #[.int .i64 1, .complex .f64 0 0, .float .f64 R0, .slice (some ⟨g, 0, none⟩) 1 1, .complex .f64 SL0.1 SL0.2.1, .float .f64 SL0.2.2, .int .u8 n], .agg #[.int .i64 1, .complex .f64 0 0, .float .f64 R0, .slice (some ⟨g', 0, none⟩) 1 1, .complex .f64 SL0.1 SL0.2.1, .float .f64 SL0.2.2, .int .u8 n']] w (RY false w) := by
  have hap : apartR 0 0 R0 0 0 R0 = false := by decide +kernel
  have hfv : 0 ≤ fv R0 + fv R0 := by decide +kernel
  have HAP := Lib.hid (fun w hT => apart_any 0 0 R0 0 0 R0 (by decide +kernel) (by decide +kernel) (by decide +kernel) (by decide +kernel) (by decide +kernel) (by decide +kernel) (by decide +kernel) (by decide +kernel) (by decide +kernel) (by decide +kernel) (by decide +kernel) (by decide +kernel) tok0.nw tok0.nw hfv w hT)
  have HMA := Lib.hid (fun w => may_any 0 0 R0 w)
  rw [tok0.may] at HMA
  rw [hap] at HAP
  have HP := Lib.hid hp
  have HT := Lib.hid hT
  clear hp hT hap hfv
  go_enter Tryz.func142, Tryz.ntmps142
  go_wp2_with (first
    | (go_at_call 120; (with_reducible refine (HMA.out _).mono ?_); rintro e w1 ⟨rfl, hb1⟩; obtain ⟨hc1, hf1⟩ := bcell hb1; have s1 := hb1.size; (try simp at s1); have y1 : w.heap.size < w1.heap.size := (by omega); have y1' : w.heap.size + 1 < w1.heap.size := (by omega)))
  have hbw : Below w.heap.size w w1 := by repeat (first | exact Below.refl _ _ | refine below_drewN ?_ _ | refine Below.alloc ?_ (by first | omega | (simp; omega) | simp) _ | refine Below.setCell ?_ (by first | omega | (simp; omega) | simp) _ | refine Below.trans ?_ (Below.mono (by assumption) (by first | omega | (simp; omega) | simp)) | apply Below.drew)
  have hp1 := HP.out.below hbw HP.out.lt
  have HT1 := Lib.hid (tab64_below HT.out hbw)
  have q0 := hp1.c0
  have q1 := hp1.c1
  have lq := hp1.lt
  have h1 : w1.cell? ⟨w.heap.size, 1, none⟩ = some (.complex .f64 0 0) := (hb1.cell (p := ⟨w.heap.size, 1, none⟩) (by simp; omega)).trans (by rw [World.cell?_alloc_past _ _ _ (by simp), World.cell?_alloc_at _ _ _ _ rfl]; rfl)
  have h2 : w1.cell? ⟨w.heap.size, 2, none⟩ = some (.float .f64 R0) := (hb1.cell (p := ⟨w.heap.size, 2, none⟩) (by simp; omega)).trans (by rw [World.cell?_alloc_past _ _ _ (by simp), World.cell?_alloc_at _ _ _ _ rfl]; rfl)
  have HBW := Lib.hid hbw
  clear hp1 hbw hb1 hc1 hf1 s1
  go_loopw [35] (fun k wx => k = .int .i64 0 ∧ wx = w1) (fun _ _ => 0)
  case atStart => exact ⟨rfl, rfl⟩
  case round =>
    rename World => wx
    obtain ⟨rfl, rfl⟩ := hrel
    go_wp2_with (first
      | (go_at_call 120; (with_reducible refine (HMA.out _).mono ?_); rintro e w2 ⟨rfl, hb2⟩; obtain ⟨hc2, hf2⟩ := bcell hb2; have s2 := hb2.size; (try simp at s2); have y2 : w.heap.size < w2.heap.size := (by omega); have y3 : wx.heap.size < w2.heap.size := (by omega))
      | (go_at_call 28; (with_reducible refine (HAP.out _ (tab64_below HT1.out (by repeat (first | exact Below.refl _ _ | refine below_drewN ?_ _ | refine Below.alloc ?_ (by first | omega | (simp; omega) | simp) _ | refine Below.setCell ?_ (by first | omega | (simp; omega) | simp) _ | refine Below.trans ?_ (Below.mono (by assumption) (by first | omega | (simp; omega) | simp)) | apply Below.drew)))).mono ?_); rintro e w3 ⟨rfl, hb3⟩))
    go_ret
    exact ⟨rfl, by (have hbw := HBW.out; repeat (first | exact Below.refl _ _ | refine below_drewN ?_ _ | refine Below.alloc ?_ (by first | omega | (simp; omega) | simp) _ | refine Below.setCell ?_ (by first | omega | (simp; omega) | simp) _ | refine Below.trans ?_ (Below.mono (by assumption) (by first | omega | (simp; omega) | simp)) | apply Below.drew))⟩
end Go.Proofs.YtbgjcpnbdgljbaaGreatDoor

/- cycles.All of the map 2z, all starts 0. -/
namespace Go.Proofs.YtbgjcpnbdgljbaaGreatDoor
open Go.RowKit Go.Fil
attribute [local irreducible] fop fsqrt fup fabs fneg pick fmax SL0 R0

theorem Tryz.infoCy : (Tryz.prog.info? 141).map (fun i => (i.zero, i.size, i.bytes)) = some (some (.agg #[.int .i64 0, .complex .f64 0 0, .float .f64 0, .slice none 0 0, .complex .f64 0 0, .float .f64 0, .int .u8 0]), 7, 88) := by kernel_rfl
/-- The cells of the cycle. -/
def cyl (g : Nat) (n : Int) : List Value := [.int .i64 1, .complex .f64 0 0, .float .f64 R0, .slice (some ⟨g, 0, none⟩) 1 1, .complex .f64 SL0.1 SL0.2.1, .float .f64 SL0.2.2, .int .u8 n]
/-- What has been found. -/
def Out1 (B : Nat) (v : Value) (w : World) : Prop := v = .slice none 0 0 ∨ ∃ (q c g : Nat) (n : Int), v = .slice (some ⟨q, 0, none⟩) 1 c ∧ n ≠ 1 ∧ w.ownsRow B 141 7 v 1 (cyl g n) ∧ Pt0 w g
theorem Out1.below {B : Nat} {v : Value} {w w' : World} (h : Out1 B v w) (hb : Below w.heap.size w w') : Out1 B v w' := by
  rcases h with h | ⟨q, c, g, n, h1, h2, h3, h4⟩
  · exact .inl h
  · exact .inr ⟨q, c, g, n, h1, h2, own_below h3 hb, h4.below hb h4.lt⟩
def RAll (w : World) (e : Ending) (w' : World) : Prop := (∃ v, e = .returned (.tuple #[v, .int .i64 0]) ∧ Out1 w.heap.size v w') ∧ Below w.heap.size w w'
theorem own1_form {w : World} {base e : Nat} {v : Value} {xs : List Value} (h : w.ownsRow base e 7 v 1 xs) : ∃ g c, v = .slice (some ⟨g, 0, none⟩) 1 c := by
  rcases h.2 with ⟨_, h⟩ | ⟨g, c, _, hv, _⟩
  · cases h
  · exact ⟨g, c, hv⟩
theorem cells_new (w : World) (cs : Array Value) (t : TypeId) : ∀ j u, cs.toList[j]? = some u → (w.alloc (.cells cs t)).cell? ((⟨w.heap.size, 0, none⟩ : Addr).add j) = some u := by
  intro j u hj
  rw [Addr.add_lit, World.cell?_alloc_at _ _ _ _ (by simp), ← hj]
  simp
set_option maxRecDepth 100000 in
set_option maxHeartbeats 3200000 in
theorem all0 {A A1 A2 : Option Addr} {n cap c1 c2 : Nat} (zs : List Cc) (hn : zs.length = n) (hle : n ≤ 1024) (hz : ∀ k, k < n → nth zs k = (0, 0)) {w : World} (hs : Seq w w.heap.size A (zs.map cv)) (hM : Mp w w.heap.size A1 A2) (hT : Tab64 w) :
    Calls Tryz.prog 79 #[.agg #[.slice A1 2 c1, .slice A2 1 c2], .int .i64 1, .slice A n cap] w (RAll w) := by
  obtain ⟨i0, hi, hz0, hz1, hz2⟩ := info_parts Tryz.infoCy
  have HFN := Lib.hid (fun w hs => cyfin_any A n cap zs hn (by omega) (fun k hk => by rw [hz k hk]; decide +kernel) w hs)
  have HFI := Lib.hid (fun w (hM : Mp w w.heap.size A1 A2) => (find0 (c1 := c1) (c2 := c2) hM).mono (R' := fun e w' => (∃ (g : Nat) (n : Int), n ≠ 1 ∧ e = .returned (.tuple #[.agg #[.int .i64 1, .complex .f64 0 0, .float .f64 R0, .slice (some ⟨g, 0, none⟩) 1 1, .complex .f64 SL0.1 SL0.2.1, .float .f64 SL0.2.2, .int .u8 n], .int .i64 0]) ∧ Pt0 w' g) ∧ Below w.heap.size w w') (fun _ _ h => h))
  have HM := Lib.hid hM
  have HS := Lib.hid hs
  have HN := Lib.hid hn
  have HZ := Lib.hid hz
  have HT := Lib.hid hT
  have hn0 : (n : Int) ≤ 1024 := by omega
  have hn1 : (0 : Int) ≤ (n : Int) := by omega
  clear hM hs hn hz hT
  go_enter Tryz.func79, Tryz.ntmps79
  go_wp2
  go_step3
  go_wp2_with (first
    | (go_at_call 139; (with_reducible refine (cymay (HM.out.now (by repeat (first | exact Below.refl _ _ | refine below_drewN ?_ _ | refine Below.alloc ?_ (by first | omega | (simp; omega) | simp) _ | refine Below.setCell ?_ (by first | omega | (simp; omega) | simp) _ | refine Below.trans ?_ (Below.mono (by assumption) (by first | omega | (simp; omega) | simp)) | apply Below.drew)))).mono ?_); rintro e w1 ⟨rfl, hb1⟩; obtain ⟨hc1, hf1⟩ := bcell hb1; have s1 := hb1.size; (try simp at s1); have y1 : w.heap.size < w1.heap.size := (by omega))
    | (go_at_call 140; (with_reducible refine (HFN.out _ ((HS.out.below (B' := w.heap.size) (by repeat (first | exact Below.refl _ _ | refine below_drewN ?_ _ | refine Below.alloc ?_ (by first | omega | (simp; omega) | simp) _ | refine Below.setCell ?_ (by first | omega | (simp; omega) | simp) _ | refine Below.trans ?_ (Below.mono (by assumption) (by first | omega | (simp; omega) | simp)) | apply Below.drew)) (Nat.le_refl _)).more (by omega))).mono ?_); rintro e w' ⟨rfl, rfl⟩))
  go_step3
  go_wp2
  have hbw : Below w.heap.size w w1 := by repeat (first | exact Below.refl _ _ | refine below_drewN ?_ _ | refine Below.alloc ?_ (by first | omega | (simp; omega) | simp) _ | refine Below.setCell ?_ (by first | omega | (simp; omega) | simp) _ | refine Below.trans ?_ (Below.mono (by assumption) (by first | omega | (simp; omega) | simp)) | apply Below.drew)
  have m0 : w1.cell? ⟨w.heap.size, 0, none⟩ = some (.slice A1 2 c1) := (hc1 _ _ (by simp)).trans (by rw [World.cell?_alloc_at _ _ _ _ rfl]; rfl)
  have m1 : w1.cell? ⟨w.heap.size, 1, none⟩ = some (.slice A2 1 c2) := (hc1 _ _ (by simp)).trans (by rw [World.cell?_alloc_at _ _ _ _ rfl]; rfl)
  have HBW := Lib.hid hbw
  clear hc1 hf1 hb1 hbw
  go_loopw [8, 30] (fun o i wr => ∃ k : Nat, k ≤ n ∧ i = .int .i64 k ∧ Out1 w.heap.size o wr ∧ Below w1.heap.size w1 wr) (fun _ i _ => n - (intOf i).toNat)
  case atStart => exact ⟨0, Nat.zero_le _, rfl, .inl rfl, Below.refl _ _⟩
  case round =>
    obtain ⟨k, hk, rfl, ho, hbx⟩ := hrel
    have hbwr := HBW.out.trans (hbx.mono HBW.out.size)
    have HBX := Lib.hid hbwr
    have m0' := (hbx.cell (p := ⟨w.heap.size, 0, none⟩) y1).trans m0
    have m1' := (hbx.cell (p := ⟨w.heap.size, 1, none⟩) y1).trans m1
    have HMR := Lib.hid (HM.out.now hbwr)
    have yr : w.heap.size < wr.heap.size := Nat.lt_of_lt_of_le y1 hbx.size
    have HB1 := Lib.hid hbx
    clear hbx hbwr m0 m1
    by_cases hlt : k < n
    · obtain ⟨b, o, rfl, hbk, hcl⟩ := (HS.out.below HBX.out (Nat.le_refl _)).cat (k := k) (by have := HN.out; omega)
      rw [HZ.out k hlt] at hcl
      have k0 : (0 : Int) ≤ (k : Int) := by omega
      have k1 : (k : Int) < (n : Int) := by omega
      clear hbk
      rcases ho with rfl | ⟨q, c, g', m', rfl, hm', hown, hp'⟩
      · go_wp2_with (go_at_call 141; (with_reducible refine (HFI.out _ HMR.out).mono ?_); rintro e w3 ⟨⟨g, m, hm, rfl, hp⟩, hb3⟩)
        have hpE := hp.below (alloc_below w3 (.cells #[.int .i64 1, .complex .f64 0 0, .float .f64 R0, .slice (some ⟨g, 0, none⟩) 1 1, .complex .f64 SL0.1 SL0.2.1, .float .f64 SL0.2.2, .int .u8 m] 141)) hp.lt
        have hbE : Below w1.heap.size w1 (w3.alloc (.cells #[.int .i64 1, .complex .f64 0 0, .float .f64 R0, .slice (some ⟨g, 0, none⟩) 1 1, .complex .f64 SL0.1 SL0.2.1, .float .f64 SL0.2.2, .int .u8 m] 141)) := (HB1.out.trans (hb3.mono HB1.out.size)).alloc (Nat.le_trans HB1.out.size hb3.size) _
        have e0 : ∀ j u, #[Value.int .i64 1, .complex .f64 0 0, .float .f64 R0, .slice (some ⟨g, 0, none⟩) 1 1, .complex .f64 SL0.1 SL0.2.1, .float .f64 SL0.2.2, .int .u8 m][j]? = some u → (w3.alloc (.cells #[.int .i64 1, .complex .f64 0 0, .float .f64 R0, .slice (some ⟨g, 0, none⟩) 1 1, .complex .f64 SL0.1 SL0.2.1, .float .f64 SL0.2.2, .int .u8 m] 141)).cell? ⟨w3.heap.size, j, none⟩ = some u := fun j u h => by rw [World.cell?_alloc_at _ _ _ _ rfl]; exact h
        have x0 := e0 0 _ rfl
        have x1 := e0 1 _ rfl
        have x2 := e0 2 _ rfl
        have x3 := e0 3 _ rfl
        have x4 := e0 4 _ rfl
        have x5 := e0 5 _ rfl
        have x6 := e0 6 _ rfl
        generalize w3.alloc (.cells #[.int .i64 1, .complex .f64 0 0, .float .f64 R0, .slice (some ⟨g, 0, none⟩) 1 1, .complex .f64 SL0.1 SL0.2.1, .float .f64 SL0.2.2, .int .u8 m] 141) = E at *
        have HPE := Lib.hid hpE
        have HBE := Lib.hid hbE
        clear e0 hp hb3 hpE hbE
        go_loopw [45] (fun i wx => i = .int .i64 0 ∧ wx = E) (fun _ _ => 0)
        case atStart => exact ⟨rfl, rfl⟩
        case round =>
          rename World => wx
          obtain ⟨rfl, rfl⟩ := hrel
          go_wp2_with (at_builtin; refine wpList_append_own_at _ rfl _ _ 136 rfl w.heap.size 141 i0 (.agg #[.int .i64 0, .complex .f64 0 0, .float .f64 0, .slice none 0 0, .complex .f64 0 0, .float .f64 0, .int .u8 0]) 7 88 Tryz.underlying136 hi hz0 hz1 hz2 rfl (by decide) _ _ _ rfl (World.ownsRow_nil _ _ _ _) ⟨wx.heap.size, 0, none⟩ 1 1 (#[.int .i64 1, .complex .f64 0 0, .float .f64 R0, .slice (some ⟨g, 0, none⟩) 1 1, .complex .f64 SL0.1 SL0.2.1, .float .f64 SL0.2.2, .int .u8 m]).toList rfl rfl ?c1 ?c2 ?c3 ?c4 ?c5 ?_)
          case c2 => simp [Value.oneCell']
          case c3 => unfold maxLen; omega
          case c4 => omega
          case c5 =>
            have h1 := HBE.out.size
            have h2 := HBW.out.size
            simp; omega
          intro v' w8 hown' hg _ _
          have hg' : (wx.alloc (.cells #[.int .i64 1, .complex .f64 0 0, .float .f64 R0, .slice (some ⟨g, 0, none⟩) 1 1, .complex .f64 SL0.1 SL0.2.1, .float .f64 SL0.2.2, .int .u8 m] 141)).grownBy w8 none := hg
          obtain ⟨q, c, rfl⟩ := own1_form hown'
          have ho8 : Out1 w.heap.size (.slice (some ⟨q, 0, none⟩) 1 c) w8 := .inr ⟨q, c, g, m, rfl, hm, hown', (HPE.out.below (alloc_below wx (.cells #[.int .i64 1, .complex .f64 0 0, .float .f64 R0, .slice (some ⟨g, 0, none⟩) 1 1, .complex .f64 SL0.1 SL0.2.1, .float .f64 SL0.2.2, .int .u8 m] 141)) HPE.out.lt).grown hg' (by simp)⟩
          have hb8 : Below w1.heap.size w1 w8 := (HBE.out.alloc HBE.out.size (.cells #[.int .i64 1, .complex .f64 0 0, .float .f64 R0, .slice (some ⟨g, 0, none⟩) 1 1, .complex .f64 SL0.1 SL0.2.1, .float .f64 SL0.2.2, .int .u8 m] 141)).grown hg' (Nat.le_trans HBE.out.size (by simp)) (fun k e => by cases e)
          clear hown' hg hg'
          go_wp2
          exact ⟨⟨k + 1, by omega, by go_num, ho8, hb8⟩, by simp [intOf]; omega⟩
      · have HOW := Lib.hid hown
        have HP' := Lib.hid hp'
        have lq := (hown.lt q rfl).2
        clear hown hp'
        go_wp2_with (go_at_call 141; (with_reducible refine (HFI.out _ HMR.out).mono ?_); rintro e w3 ⟨⟨g, m, hm, rfl, hp⟩, hb3⟩)
        have hpE := HP'.out.below (hb3.trans ((alloc_below w3 (.cells #[.int .i64 1, .complex .f64 0 0, .float .f64 R0, .slice (some ⟨g, 0, none⟩) 1 1, .complex .f64 SL0.1 SL0.2.1, .float .f64 SL0.2.2, .int .u8 m] 141)).mono hb3.size)) HP'.out.lt
        have hownE := own_below HOW.out (hb3.trans ((alloc_below w3 (.cells #[.int .i64 1, .complex .f64 0 0, .float .f64 R0, .slice (some ⟨g, 0, none⟩) 1 1, .complex .f64 SL0.1 SL0.2.1, .float .f64 SL0.2.2, .int .u8 m] 141)).mono hb3.size))
        have hbE : Below w1.heap.size w1 (w3.alloc (.cells #[.int .i64 1, .complex .f64 0 0, .float .f64 R0, .slice (some ⟨g, 0, none⟩) 1 1, .complex .f64 SL0.1 SL0.2.1, .float .f64 SL0.2.2, .int .u8 m] 141)) := (HB1.out.trans (hb3.mono HB1.out.size)).alloc (Nat.le_trans HB1.out.size hb3.size) _
        have e0 : ∀ j u, #[Value.int .i64 1, .complex .f64 0 0, .float .f64 R0, .slice (some ⟨g, 0, none⟩) 1 1, .complex .f64 SL0.1 SL0.2.1, .float .f64 SL0.2.2, .int .u8 m][j]? = some u → (w3.alloc (.cells #[.int .i64 1, .complex .f64 0 0, .float .f64 R0, .slice (some ⟨g, 0, none⟩) 1 1, .complex .f64 SL0.1 SL0.2.1, .float .f64 SL0.2.2, .int .u8 m] 141)).cell? ⟨w3.heap.size, j, none⟩ = some u := fun j u h => by rw [World.cell?_alloc_at _ _ _ _ rfl]; exact h
        have x0 := e0 0 _ rfl
        have x1 := e0 1 _ rfl
        have x2 := e0 2 _ rfl
        have x3 := e0 3 _ rfl
        have x4 := e0 4 _ rfl
        have x5 := e0 5 _ rfl
        have x6 := e0 6 _ rfl
        have l3 : w3.heap.size < (w3.alloc (.cells #[.int .i64 1, .complex .f64 0 0, .float .f64 R0, .slice (some ⟨g, 0, none⟩) 1 1, .complex .f64 SL0.1 SL0.2.1, .float .f64 SL0.2.2, .int .u8 m] 141)).heap.size := by simp
        generalize w3.alloc (.cells #[.int .i64 1, .complex .f64 0 0, .float .f64 R0, .slice (some ⟨g, 0, none⟩) 1 1, .complex .f64 SL0.1 SL0.2.1, .float .f64 SL0.2.2, .int .u8 m] 141) = E at *
        have z0 : E.cell? ⟨q, 0, none⟩ = some (.int .i64 1) := (hownE.cellAt 0 (by decide)).trans rfl
        have z1 : E.cell? ⟨q, 1, none⟩ = some (.complex .f64 0 0) := (hownE.cellAt 1 (by decide)).trans rfl
        have z2 : E.cell? ⟨q, 2, none⟩ = some (.float .f64 R0) := (hownE.cellAt 2 (by decide)).trans rfl
        have z3 : E.cell? ⟨q, 3, none⟩ = some (.slice (some ⟨g', 0, none⟩) 1 1) := (hownE.cellAt 3 (by decide)).trans rfl
        have z4 : E.cell? ⟨q, 4, none⟩ = some (.complex .f64 SL0.1 SL0.2.1) := (hownE.cellAt 4 (by decide)).trans rfl
        have z5 : E.cell? ⟨q, 5, none⟩ = some (.float .f64 SL0.2.2) := (hownE.cellAt 5 (by decide)).trans rfl
        have z6 : E.cell? ⟨q, 6, none⟩ = some (.int .u8 m') := (hownE.cellAt 6 (by decide)).trans rfl
        have HOE := Lib.hid hownE
        have HPE := Lib.hid hpE
        have HBE := Lib.hid hbE
        have lqE := (hownE.lt q rfl).2
        clear e0 hp hb3 hpE hbE hownE
        go_loopw [45] (fun i wx => i = .int .i64 0 ∧ wx = E) (fun _ _ => 0)
        case atStart => exact ⟨rfl, rfl⟩
        case round =>
          rename World => wx
          obtain ⟨rfl, rfl⟩ := hrel
          have HTE := Lib.hid (tab64_below HT.out (HBW.out.trans (HBE.out.mono HBW.out.size)))
          go_wp2_with (go_at_call 142; (with_reducible refine (unlike0 (HPE.out.below (alloc_below wx _) HPE.out.lt) (tab64_below HTE.out (alloc_below wx _))).mono ?_); rintro e w6 ⟨rfl, hb6⟩)
          have hb6' : Below wx.heap.size wx w6 := ((Below.refl _ wx).alloc (Nat.le_refl _) _).trans (hb6.mono (by simp))
          exact ⟨⟨k + 1, by omega, by go_num, Out1.below (.inr ⟨q, c, g', m', rfl, hm', HOE.out, HPE.out⟩) hb6', HBE.out.trans (hb6'.mono HBE.out.size)⟩, by simp [intOf]; omega⟩
    · obtain rfl : k = n := by omega
      go_wp2
      rw [Exit.noGoto_ret]
      go_ret2
      exact ⟨⟨_, rfl, ho⟩, HBX.out⟩
end Go.Proofs.YtbgjcpnbdgljbaaGreatDoor
