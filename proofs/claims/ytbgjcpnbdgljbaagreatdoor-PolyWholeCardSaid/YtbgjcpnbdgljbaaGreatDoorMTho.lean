/- PolyWhole returns true, whatever the lists and the numbers. CONDITIONS: the row's own: the listed table starts as the program's text lays it (the card ties it). -/
import Derived.Test.YtbgjcpnbdgljbaaGreatDoorCards
import Derived.Test.YtbgjcpnbdgljbaaGreatDoorTie
import Derived.Test.YtbgjcpnbdgljbaaGreatDoorMRow
import Derived.Test.YtbgjcpnbdgljbaaGreatDoorMTlo
import Derived.ChangeSlices
import Derived.SevenTiedAt
namespace Go.Proofs.YtbgjcpnbdgljbaaGreatDoor
open Go.ChangeShapes Go.WideShapes Go.ChangeAt Go.RowKit Go.Fil

theorem cells64 : Tryz.prog.cellsOf 2 = 1 := by kernel_rfl
set_option maxRecDepth 100000 in
/-- A slice of integers that is handed in: its numbers; it reads so still where nothing of what lay there has changed. -/
theorem ints_arg {H : Type} {enc : TypeId × Value → H} {W : World} {b0 : Nat} {v : Value} {d : DataW H} {p : List MemPlace} (hv : Value.okWide Tryz.prog W .any b0 22 v) (h : DataW.Trod enc Tryz.prog W 0 (fun _ => true) true 22 v d p) :
    ∃ (A : Option Addr) (n cap : Nat) (xs : List Int), v = .slice A n cap ∧ xs.length = n ∧ Seq W W.heap.size A (xs.map iv) ∧ ∀ W', Below W.heap.size W W' → ∃ p', DataW.Trod enc Tryz.prog W' 0 (fun b => decide (b < W.heap.size)) true 22 v d p' := by
  obtain ⟨a0, len, cap, rfl⟩ := okWide_slice Tryz.underlying22 hv
  obtain ⟨fuel, hf⟩ := h
  rcases open_ints Tryz.underlying22 Tryz.underlying2 cells64 hf with ⟨hcs, hx⟩ | ⟨a, len', cap', zs, hcs, _, hl, hm, hz, hx, hcell, hwz⟩
  · simp [Value.cells] at hcs
    obtain ⟨rfl, rfl, rfl⟩ := hcs
    simp only [Prod.mk.injEq] at hx
    obtain ⟨rfl, rfl⟩ := hx
    exact ⟨none, 0, 0, [], rfl, rfl, .inl rfl, fun W' _ => ⟨_, shut_slice_nil Tryz.underlying22⟩⟩
  · simp [Value.cells] at hcs
    obtain ⟨rfl, rfl, rfl⟩ := hcs
    simp only [Prod.mk.injEq] at hx
    obtain ⟨rfl, rfl⟩ := hx
    simp only [if_true] at hz
    obtain ⟨b, off, spot⟩ := a
    by_cases hz0 : zs.length = 0
    · have hc0 : cap = 0 := by omega
      have hl0 : len = 0 := by omega
      subst hc0; subst hl0
      refine ⟨_, 0, 0, [], rfl, rfl, .inl rfl, fun W' _ => ⟨MemPlace.row ⟨b, off, spot⟩ zs.length, 2, ?_⟩⟩
      have t0 := shut_ints (enc := enc) (w := W') (base := 0) (spare := fun b => decide (b < W.heap.size)) (held := true) (a := ⟨b, off, spot⟩) (len := 0) (cap := 0) (zs := zs) 0 Tryz.underlying22 Tryz.underlying2 cells64 (Nat.zero_le _) (Nat.le_refl _) hm (by simp [hz0]) (fun i hi => absurd hi (by omega)) hwz
      simpa [Value.cells] using t0
    · have hspot : spot = none := by simpa [Addr.add] using World.cell?_spot (hcell 0 (by omega))
      subst hspot
      have hadd : ∀ i, (⟨b, off, none⟩ : Addr).add i = ⟨b, off + i, none⟩ := fun i => by simp [Addr.add]
      have hbl : b < W.heap.size := by
        have h0 := hcell 0 (by omega)
        rw [hadd] at h0
        refine Nat.lt_of_not_le fun hge => ?_
        unfold World.cell? at h0
        simp [Array.getElem?_eq_none hge] at h0
      refine ⟨_, len, cap, zs.take len, rfl, by rw [List.length_take]; omega, .inr ⟨b, off, rfl, hbl, fun k v hk => ?_⟩, fun W' hb => ⟨MemPlace.row ⟨b, off, none⟩ zs.length, 2, ?_⟩⟩
      · have hkl : k < len := by
          have := (List.getElem?_eq_some_iff.1 hk).1
          rw [List.length_map, List.length_take] at this; omega
        rw [List.getElem?_map, List.getElem?_take, if_pos hkl, List.getElem?_eq_getElem (by omega)] at hk
        have h1 := hcell k (by omega)
        rw [hadd] at h1
        rw [h1]
        simp only [Option.map_some, Option.some.injEq] at hk
        rw [← hk, List.getD_eq_getElem?_getD, List.getElem?_eq_getElem (by omega)]; rfl
      · have t0 := shut_ints (enc := enc) (w := W') (base := 0) (spare := fun b => decide (b < W.heap.size)) (held := true) (a := ⟨b, off, none⟩) (len := len) (cap := cap) (zs := zs) 0 Tryz.underlying22 Tryz.underlying2 cells64 (Nat.zero_le _) hl hm (by simp [hbl, hz]) (fun i hi => by rw [hadd, hb.cell (p := ⟨b, off + i, none⟩) hbl, ← hadd]; exact hcell i hi) hwz
        simpa [Value.cells] using t0
theorem trodAll_nil {H : Type} {enc : TypeId × Value → H} {P : Program} {W : World} {base : Nat} {spare : Nat → Bool} {held : Bool} {vs : List Value} {ds : List (DataW H)} {ps : List MemPlace} (h : DataW.TrodAll enc P W base spare held [] vs ds ps) : vs = [] ∧ ds = [] ∧ ps = [] := by
  cases vs <;> cases ds <;> simp [DataW.TrodAll] at h
  exact ⟨rfl, rfl, h⟩
set_option maxRecDepth 100000 in
theorem polyWhole_lifted (os : Os) (started : os.Started) (H : Type) (enc : TypeId × Value → H) :
    ReturnsInHanded {} Tryz.checked os 3 .any (fun w args => (Rows.polyWholeSpec.pre enc Tryz.prog Tryz.f3 [] false w args ∧ laidMetH Tryz.prog laid1 w) ∧ sizedMet enc Tryz.prog Tryz.f3 (OpenSpec.ofChange Rows.polyWholeSpec) false w args)
      (Rows.polyWholeSpec.post enc Tryz.prog Tryz.f3 false true false false) := by
  refine returnsInHanded_of_change_and (C := Tryz.checked) (X := fun w _ => laidMetH Tryz.prog laid1 w) (fun _ _ _ hh h => h.of_heap hh) Tryz.own started (by kernel_rfl) Tryz.func3
    (ChangeSpec.witness_shaped (enc := enc) (C := Tryz.checked) (os := os) (X := fun w _ => laidMetH Tryz.prog laid1 w) false (World.doorLaid Tryz.prog 400 os) #[.slice none 0 0, .slice none 0 0, .int .i64 0, .int .i64 0, .int .i64 0, .int .i64 0] 8 rfl (World.shaped_of_RefB (by kernel_rfl) (by kernel_rfl)) (by kernel_rfl) (by kernel_rfl) (by kernel_rfl) (door_met1 os _)) ?_
  intro W base args ds gs before hval0 hW _ _ hL _
  have hval : ∀ (j : Nat) t v, Tryz.f3.params[j]? = some t → args[j]? = some v → Value.okWide Tryz.prog W .any base t v := hval0
  have hW' := hW
  obtain ⟨p, q, hA0, hV, rfl, hfz, hnd⟩ := hW
  have hA : DataW.TrodAll enc Tryz.prog W 0 (fun _ => true) true Tryz.f3.params.toList args.toList ds p := hA0
  rw [Tryz.params3] at hA hval
  obtain ⟨rfl, rfl⟩ := trodVars_none hV
  have hT := tab_of_laid1 hL
  obtain ⟨v0, vs0, d0, ds0, p0, q0, e0, rfl, rfl, h0, hA⟩ := trodAll_cons hA
  obtain ⟨v1, vs1, d1, ds1, p1, q1, rfl, rfl, rfl, h1, hA⟩ := trodAll_cons hA
  obtain ⟨v2, vs2, d2, ds2, p2, q2, rfl, rfl, rfl, h2, hA⟩ := trodAll_cons hA
  obtain ⟨v3, vs3, d3, ds3, p3, q3, rfl, rfl, rfl, h3, hA⟩ := trodAll_cons hA
  obtain ⟨v4, vs4, d4, ds4, p4, q4, rfl, rfl, rfl, h4, hA⟩ := trodAll_cons hA
  obtain ⟨v5, vs5, d5, ds5, p5, q5, rfl, rfl, rfl, h5, hA⟩ := trodAll_cons hA
  obtain ⟨rfl, rfl, rfl⟩ := trodAll_nil hA
  obtain ⟨l⟩ := args
  dsimp only at e0
  subst e0
  obtain ⟨A1, n1, c1, xs, rfl, hn1, hs1, k0⟩ := ints_arg (hval 0 22 v0 rfl rfl) h0
  obtain ⟨A2, n2, c2, ys, rfl, hn2, hs2, k1⟩ := ints_arg (hval 1 22 v1 rfl rfl) h1
  obtain ⟨m2, rfl, rfl, rfl, hw2⟩ := open_int Tryz.underlying2 (hval 2 2 v2 rfl rfl) h2
  obtain ⟨m3, rfl, rfl, rfl, hw3⟩ := open_int Tryz.underlying2 (hval 3 2 v3 rfl rfl) h3
  obtain ⟨m4, rfl, rfl, rfl, hw4⟩ := open_int Tryz.underlying2 (hval 4 2 v4 rfl rfl) h4
  obtain ⟨m5, rfl, rfl, rfl, hw5⟩ := open_int Tryz.underlying2 (hval 5 2 v5 rfl rfl) h5
  clear hA0 hval0
  refine (polyWhole_any A1 A2 n1 c1 n2 c2 xs ys hn1 hn2 m2 m3 m4 m5 W hT hs1 hs2).mono fun e W' ⟨he, hw⟩ => ?_
  subst he
  obtain ⟨p0', t0⟩ := k0 W' hw
  obtain ⟨p1', t1⟩ := k1 W' hw
  exact ⟨_, rfl, _, _, _, [], _, [], hW', trodAll_mk1 (shut_bool Tryz.underlying4 _), trodAll_cons_mk t0 (trodAll_cons_mk t1 (trodAll_cons_mk (shut_int Tryz.underlying2 hw2) (trodAll_cons_mk (shut_int Tryz.underlying2 hw3) (trodAll_cons_mk (shut_int Tryz.underlying2 hw4) (trodAll_mk1 (shut_int Tryz.underlying2 hw5)))))), rfl, hw.frame _, fun h => by cases h⟩

theorem polyWhole_said : Rows.PolyWholeSaid :=
  OpenClaim.holds_of_wide 3 Tryz.f3 rfl rfl rfl rfl rfl rfl rfl ⟨rfl, rfl, rfl, rfl, rfl⟩ rfl rfl rfl rfl rfl (by kernel_rfl) Tryz.func3 (by kernel_rfl)
    (of_decide_eq_true (by kernel_rfl)) (by unfold Func.isWrapper; first | (rw [if_pos (by decide +kernel)]; kernel_rfl) | (rw [if_neg (by decide +kernel)]; exact ⟨rfl, rfl⟩))
    (fun os started H enc _ => polyWhole_lifted os started H enc)

theorem polyWhole_holds : Rows.PolyWholeCardSaid :=
  Claim7.holds_tied_plain_at .later [] [.data] true (true, "10e2e28465d9eb5677f81332343f25664cba87f4ef4054edfe1554710713f43a") false
    polyWhole_said (fun _ h => by cases h) (by kernel_rfl) (fun _ h => by cases h) polyWhole_row_tie rfl ⟨rfl, rfl⟩ (by kernel_rfl) rfl
    (fun f fn hf hfn => by
      obtain rfl : f = 3 := Option.some.inj ((show Tryz.prog.funcNamed "filigree/filigreelaw09.PolyWhole" = some 3 by kernel_rfl).symm.trans hf) |>.symm
      obtain rfl : fn = Tryz.f3 := (Option.some.inj (Tryz.func3.symm.trans hfn)).symm
      exact ⟨by kernel_rfl, fun j t ht => by
        rw [Tryz.params3] at ht
        have hm : t ∈ [22, 22, 2, 2, 2, 2] := by simpa using Array.mem_of_getElem? ht
        have hall : ([22, 22, 2, 2, 2, 2].all fun u => !Tryz.prog.wantsStandIn u) = true := by kernel_rfl
        exact (show Tryz.prog.wantsStandIn t = false by simpa using List.all_eq_true.1 hall t hm)⟩)
    (by kernel_rfl)
#print axioms polyWhole_holds
end Go.Proofs.YtbgjcpnbdgljbaaGreatDoor
