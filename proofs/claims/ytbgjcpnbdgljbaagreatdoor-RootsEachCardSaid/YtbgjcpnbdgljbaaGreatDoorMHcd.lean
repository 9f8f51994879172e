/- RootsEach returns true, whatever the list. CONDITIONS: the row's own: the listed tables start as the program's text lays them (the card ties them). -/
import Derived.Test.YtbgjcpnbdgljbaaGreatDoorCards
import Derived.Test.YtbgjcpnbdgljbaaGreatDoorTie
import Derived.Test.YtbgjcpnbdgljbaaGreatDoorMRow
import Derived.Test.YtbgjcpnbdgljbaaGreatDoorMHma
import Derived.ChangeSlices
import Derived.Deep.Slices
import Derived.SevenTiedAt
namespace Go.Proofs.YtbgjcpnbdgljbaaGreatDoor
open Go.ChangeShapes Go.WideShapes Go.ChangeAt Go.RowKit Go.Fil Go.Deep

theorem cells98 : Tryz.prog.cellsOf 98 = 1 := by kernel_rfl
theorem cells99 : Tryz.prog.cellsOf 99 = 2 := by kernel_rfl
theorem i8_shut {H : Type} {enc : TypeId × Value → H} {W : World} {base : Nat} {spare : Nat → Bool} {held : Bool} {x : Int} (hx : (Lit.int .i8 x).wf = true) :
    DataW.trod enc Tryz.prog W base spare held 1 98 [.int .i8 x] = some (.lit (.int .i8 x), []) := by
  rw [DataW.trod_step]
  unfold DataW.trodStep
  simp only [Tryz.underlying98]
  rw [if_pos ⟨trivial, hx⟩]
set_option maxRecDepth 100000 in
theorem pair_shut {H : Type} {enc : TypeId × Value → H} {W : World} {base : Nat} {spare : Nat → Bool} {held : Bool} {x y : Int} (hx : (Lit.int .i8 x).wf = true) (hy : (Lit.int .i8 y).wf = true) :
    DataW.trod enc Tryz.prog W base spare held 2 99 [.int .i8 x, .int .i8 y] = some (.agg [.lit (.int .i8 x), .lit (.int .i8 y)], []) := by
  rw [DataW.trod_step]
  unfold DataW.trodStep
  simp only [Tryz.underlying99]
  rw [if_pos (by rw [cells99]; rfl), cells98, mapM_range_of (g := fun i => (DataW.lit (.int .i8 (if i = 0 then x else y)), [])) 2 (fun i hi => ?_)]
  · rfl
  · match i, hi with
    | 0, _ => exact i8_shut hx
    | 1, _ => exact i8_shut hy
set_option maxRecDepth 100000 in
theorem pair_open {H : Type} {enc : TypeId × Value → H} {W : World} {base : Nat} {spare : Nat → Bool} {held : Bool} {fuel : Nat} {cs : List Value} {x : DataW H × List MemPlace} (h : DataW.trod enc Tryz.prog W base spare held fuel 99 cs = some x) :
    ∃ a b : Int, cs = [.int .i8 a, .int .i8 b] ∧ x = (.agg [.lit (.int .i8 a), .lit (.int .i8 b)], []) ∧ (Lit.int .i8 a).wf = true ∧ (Lit.int .i8 b).wf = true := by
  obtain ⟨xs, m, rfl, rfl, hl, hn, hel⟩ := DataW.trod_array Tryz.underlying99 h
  rw [cells99] at hl
  have h0 := hel 0 (by decide)
  have h1 := hel 1 (by decide)
  rw [cells98] at h0 h1
  match xs, hn with
  | [u, v], _ =>
    match cs, hl with
    | [p, q], _ =>
      simp at h0 h1
      obtain ⟨a, e1, rfl, w1⟩ := DataW.trod_int Tryz.underlying98 h0
      obtain ⟨b, e2, rfl, w2⟩ := DataW.trod_int Tryz.underlying98 h1
      simp at e1 e2
      subst e1; subst e2
      exact ⟨a, b, rfl, rfl, w1, w2⟩
theorem prs_length (L : List Zi) : (prs L).length = 2 * L.length := by
  induction L with
  | nil => rfl
  | cons G L ih =>
    show (_ :: _ :: prs L).length = _
    simp [ih]; omega
set_option maxRecDepth 100000 in
/-- A slice of pairs that is handed in: its numbers; it reads so still where nothing of what lay there has changed. -/
theorem pairs_arg {H : Type} {enc : TypeId × Value → H} {W : World} {b0 : Nat} {v : Value} {d : DataW H} {p : List MemPlace} (hv : Value.okWide Tryz.prog W .any b0 48 v) (h : DataW.Trod enc Tryz.prog W 0 (fun _ => true) true 48 v d p) :
    ∃ (A : Option Addr) (n cap : Nat) (L : List Zi), v = .slice A n cap ∧ L.length = n ∧ n ≤ cap ∧ n ≤ 9223372036854775807 ∧ (∀ G ∈ L, -128 ≤ G.re ∧ G.re ≤ 127 ∧ -128 ≤ G.im ∧ G.im ≤ 127) ∧ Seq W W.heap.size A (prs L) ∧ ∀ W', Below W.heap.size W W' → ∃ p', DataW.Trod enc Tryz.prog W' 0 (fun b => decide (b < W.heap.size)) true 48 v d p' := by
  obtain ⟨a0, len, cap, rfl⟩ := okWide_slice Tryz.underlying48 hv
  obtain ⟨fuel, hf⟩ := h
  rcases open_slice Tryz.underlying48 hf with ⟨hcs, hx⟩ | ⟨a, len', cap', m, fl, D, Pl, hcs, _, hl, hm, hmm, hx, hel⟩
  · simp [Value.cells] at hcs
    obtain ⟨rfl, rfl, rfl⟩ := hcs
    simp only [Prod.mk.injEq] at hx
    obtain ⟨rfl, rfl⟩ := hx
    exact ⟨none, 0, 0, [], rfl, rfl, Nat.le_refl _, by decide, (fun G h => by cases h), .inl rfl, fun W' _ => ⟨_, shut_slice_nil Tryz.underlying48⟩⟩
  · simp [Value.cells] at hcs
    obtain ⟨rfl, rfl, rfl⟩ := hcs
    simp only [Prod.mk.injEq] at hx
    obtain ⟨rfl, rfl⟩ := hx
    simp only [if_true] at hmm
    subst hmm
    rw [cells99] at hel
    obtain ⟨b, off, spot⟩ := a
    have hone : ∀ i, i < m → ∃ x y : Int, W.cell? ((⟨b, off, spot⟩ : Addr).add (i * 2)) = some (.int .i8 x) ∧ W.cell? ((⟨b, off, spot⟩ : Addr).add (i * 2 + 1)) = some (.int .i8 y) ∧ (Lit.int .i8 x).wf = true ∧ (Lit.int .i8 y).wf = true ∧ D i = .agg [.lit (.int .i8 x), .lit (.int .i8 y)] := by
      intro i hi
      obtain ⟨cs', h1, h2⟩ := hel i hi
      obtain ⟨x, y, rfl, h3, w1, w2⟩ := pair_open h2
      obtain ⟨_, _, h4⟩ := World.cells?_some h1
      refine ⟨x, y, ?_, ?_, w1, w2, congrArg Prod.fst h3⟩
      · have := h4 0 (by decide)
        simpa [Addr.add] using this
      · have := h4 1 (by decide)
        have e : ((⟨b, off, spot⟩ : Addr).add (i * 2)).add 1 = (⟨b, off, spot⟩ : Addr).add (i * 2 + 1) := by
          unfold Addr.add
          by_cases h0 : i * 2 = 0
          · rw [h0]
            simp
          · rw [if_neg h0, if_neg (by decide), if_neg (show ¬ i * 2 + 1 = 0 by omega)]
            simp; omega
        rw [e] at this
        simpa using this
    by_cases hm0 : m = 0
    · subst hm0
      obtain rfl : len = 0 := by omega
      refine ⟨_, 0, 0, [], rfl, rfl, Nat.le_refl _, by decide, (fun G h => by cases h), .inl rfl, fun W' _ => ?_⟩
      by_cases hs : b < W.heap.size
      · exact ⟨_, shut_slice_whole Tryz.underlying48 (Nat.zero_le _) hl hm (by simp [hs]) D Pl (fun i hi => absurd hi (Nat.not_lt_zero i))⟩
      · exact ⟨_, shut_slice Tryz.underlying48 (Nat.zero_le _) hl hm (by simp [hs]) D Pl (fun i hi => absurd hi (Nat.not_lt_zero i))⟩
    · have hspot : spot = none := by
        obtain ⟨x, y, h1, _⟩ := hone 0 (by omega)
        simpa [Addr.add] using World.cell?_spot h1
      subst hspot
      have hadd : ∀ i, (⟨b, off, none⟩ : Addr).add i = ⟨b, off + i, none⟩ := fun i => by simp [Addr.add]
      have hbl : b < W.heap.size := by
        obtain ⟨x, y, h0, _⟩ := hone 0 (by omega)
        rw [hadd] at h0
        refine Nat.lt_of_not_le fun hge => ?_
        unfold World.cell? at h0
        simp [Array.getElem?_eq_none hge] at h0
      have hG : ∀ i, ∃ G : Zi, i < m → W.cell? ⟨b, off + i * 2, none⟩ = some (.int .i8 G.re) ∧ W.cell? ⟨b, off + (i * 2 + 1), none⟩ = some (.int .i8 G.im) ∧ (Lit.int .i8 G.re).wf = true ∧ (Lit.int .i8 G.im).wf = true ∧ D i = .agg [.lit (.int .i8 G.re), .lit (.int .i8 G.im)] := by
        intro i
        by_cases hi : i < m
        · obtain ⟨x, y, h1, h2, h3, h4, h5⟩ := hone i hi
          rw [hadd] at h1 h2
          exact ⟨⟨x, y⟩, fun _ => ⟨h1, h2, h3, h4, h5⟩⟩
        · exact ⟨z0, fun h => absurd h hi⟩
      obtain ⟨F, hF⟩ := Classical.axiomOfChoice hG
      have hat : ∀ k, k < len → nthZ ((List.range len).map F) k = F k := by
        intro k hk
        rw [nthZ_eq (by simp; exact hk)]
        simp
      have hlen : ((List.range len).map F).length = len := by simp
      refine ⟨_, len, m, (List.range len).map F, rfl, hlen, hl, by unfold maxLen at hm; omega, ?_, ?_, fun W' hb => ⟨_, shut_slice_whole Tryz.underlying48 (Nat.zero_le _) hl hm (by simp [hbl]) D (fun _ => []) (fun i hi => ?_)⟩⟩
      · intro G hG
        obtain ⟨k, hk, rfl⟩ := List.mem_map.1 hG
        obtain ⟨_, _, h3, h4, _⟩ := hF k (by have := List.mem_range.1 hk; omega)
        have h5 := bounds_i8 h3
        have h6 := bounds_i8 h4
        exact ⟨h5.1, h5.2, h6.1, h6.2⟩
      · refine .inr ⟨b, off, rfl, hbl, fun k v hk => ?_⟩
        have hkl : k < 2 * len := by
          have := (List.getElem?_eq_some_iff.1 hk).1
          rw [prs_length, hlen] at this
          omega
        have hk2 : k / 2 < ((List.range len).map F).length := by rw [hlen]; omega
        obtain ⟨p0, p1⟩ := prs_at hk2
        obtain ⟨h1, h2, _⟩ := hF (k / 2) (by omega)
        rw [hat _ (by omega)] at p0 p1
        rcases Nat.mod_two_eq_zero_or_one k with e | e
        · rw [show k / 2 * 2 = k by omega] at p0 h1
          rw [p0] at hk
          rw [h1, ← Option.some.inj hk]
        · rw [show k / 2 * 2 + 1 = k by omega] at p1 h2
          rw [p1] at hk
          rw [h2, ← Option.some.inj hk]
      · obtain ⟨h1, h2, h3, h4, h5⟩ := hF i hi
        refine ⟨[.int .i8 (F i).re, .int .i8 (F i).im], 2, ?_, ?_⟩
        · rw [cells99, hadd]
          refine cells?_of (Nat.zero_le _) rfl fun j hj => ?_
          rw [hb.cell (p := ⟨b, off + i * 2 + j, none⟩) hbl]
          match j, hj with
          | 0, _ => exact h1
          | 1, _ => rw [show off + i * 2 + 1 = off + (i * 2 + 1) by omega]; exact h2
        · rw [h5]
          exact pair_shut h3 h4
theorem trodAll_end {H : Type} {enc : TypeId × Value → H} {P : Program} {W : World} {base : Nat} {spare : Nat → Bool} {held : Bool} {vs : List Value} {ds : List (DataW H)} {ps : List MemPlace} (h : DataW.TrodAll enc P W base spare held [] vs ds ps) : vs = [] ∧ ds = [] ∧ ps = [] := by
  cases vs <;> cases ds <;> simp [DataW.TrodAll] at h
  exact ⟨rfl, rfl, h⟩
theorem g64 : Tryz.prog.globalNamed "math/bits.deBruijn64tab" = some 1 := by kernel_rfl
theorem t64 : (Tryz.prog.globals[1]?).map (·.type) = some 267 := by kernel_rfl
theorem tab64_list : (Rows.laid_math_bits_deBruijn64tab : DataW Unit) = .agg (Lib.deBruijn64tab.map fun (n : Nat) => .lit (.int .u8 (n : Int))) := by kernel_rfl
theorem tab64_len : Lib.deBruijn64tab.length = 64 := by decide
set_option maxRecDepth 100000 in
/-- The second table's variable, out of the condition. -/
theorem tab64_of_first {W : World} {rest : List (String × DataW Unit)} {ps : List MemPlace} (h : DataW.LaidVars Tryz.prog W (("math/bits.deBruijn64tab", Rows.laid_math_bits_deBruijn64tab) :: rest) ps) : Tab64 W := by
  obtain ⟨g, t, cs, fuel, p, q, hg, ht, hv, hd, _⟩ := h
  obtain rfl := Option.some.inj (g64.symm.trans hg)
  obtain rfl := Option.some.inj (t64.symm.trans ht)
  rw [tab64_list] at hd
  obtain ⟨xs, m, rfl, hx, hlen, hn, hel⟩ := DataW.trod_array Tryz.underlying267 hd
  simp only [Prod.mk.injEq, DataW.agg.injEq] at hx
  intro j hj
  have hj64 : j < 64 := by rw [tab64_len] at hj; exact hj
  have h1 := hel j hj64
  have hjx : j < xs.length := by omega
  rw [List.getElem?_eq_getElem hjx, cells8, Nat.mul_one] at h1
  obtain ⟨n, e1, e2, _⟩ := DataW.trod_int Tryz.underlying5 h1
  have e3 : (xs.map (·.1))[j]? = some (.lit (.int .u8 n)) := by rw [List.getElem?_map, List.getElem?_eq_getElem hjx, e2]; rfl
  rw [← hx.1, List.getElem?_map, List.getElem?_eq_getElem hj] at e3
  simp only [Option.map_some, Option.some.injEq, DataW.lit.injEq, Lit.int.injEq, true_and] at e3
  have e4 := World.var?_cell hg hv j
  rw [e4]
  have e5 : cs[j]? = some (.int .u8 n) := by
    have h2 : (cs.toList.drop j)[0]? = some (Value.int .u8 n) := by
      have h3 : ((cs.toList.drop j).take 1)[0]? = some (Value.int .u8 n) := by rw [e1]; rfl
      rw [List.getElem?_take] at h3
      simpa using h3
    rw [List.getElem?_drop] at h2
    simpa using h2
  rw [e5, ← e3, getD_lt _ hj]
theorem tab64_of_laid2 {W : World} (h : laidMetH Tryz.prog laid2 W) : Tab64 W := by
  rw [MakeChecks.laidMetH_plain _ _ _ (by kernel_rfl)] at h
  obtain ⟨ps, h, _⟩ := h
  obtain ⟨g, t, cs, fuel, p, q, hg, ht, hv, hd, h2, _⟩ := h
  exact tab64_of_first h2
set_option maxRecDepth 100000 in
theorem rootsEach_lifted (os : Os) (started : os.Started) (H : Type) (enc : TypeId × Value → H) :
    ReturnsInHanded {} Tryz.checked os 4 .any (fun w args => (Rows.rootsEachSpec.pre enc Tryz.prog Tryz.f4 [] false w args ∧ laidMetH Tryz.prog laid2 w) ∧ sizedMet enc Tryz.prog Tryz.f4 (OpenSpec.ofChange Rows.rootsEachSpec) false w args)
      (Rows.rootsEachSpec.post enc Tryz.prog Tryz.f4 false true false false) := by
  refine returnsInHanded_of_change_and (C := Tryz.checked) (X := fun w _ => laidMetH Tryz.prog laid2 w) (fun _ _ _ hh h => h.of_heap hh) Tryz.own started (by kernel_rfl) Tryz.func4
    (ChangeSpec.witness_shaped (enc := enc) (C := Tryz.checked) (os := os) (X := fun w _ => laidMetH Tryz.prog laid2 w) false (World.doorLaid Tryz.prog 400 os) #[.slice none 0 0] 8 rfl (World.shaped_of_RefB (by kernel_rfl) (by kernel_rfl)) (by kernel_rfl) (by kernel_rfl) (by kernel_rfl) (door_met2 os _)) ?_
  intro W base args ds gs before hval0 hW _ _ hL _
  have hval : ∀ (j : Nat) t v, Tryz.f4.params[j]? = some t → args[j]? = some v → Value.okWide Tryz.prog W .any base t v := hval0
  have hW' := hW
  obtain ⟨p, q, hA0, hV, rfl, hfz, hnd⟩ := hW
  have hA : DataW.TrodAll enc Tryz.prog W 0 (fun _ => true) true Tryz.f4.params.toList args.toList ds p := hA0
  rw [Tryz.params4] at hA hval
  obtain ⟨rfl, rfl⟩ := trodVars_none hV
  have hT := tab_of_laid2 hL
  have hT64 := tab64_of_laid2 hL
  obtain ⟨v0, vs0, d0, ds0, p0, q0, e0, rfl, rfl, h0, hA⟩ := trodAll_cons hA
  obtain ⟨rfl, rfl, rfl⟩ := trodAll_end hA
  obtain ⟨l⟩ := args
  dsimp only at e0
  subst e0
  obtain ⟨A1, n1, c1, L, rfl, hn1, hc1, hm1, hr1, hs1, k0⟩ := pairs_arg (hval 0 48 v0 rfl rfl) h0
  clear hA0 hval0
  refine (rootsEach_any A1 n1 c1 L hn1 hc1 hm1 hr1 W hs1 hT hT64).mono fun e W' ⟨he, hw⟩ => ?_
  subst he
  obtain ⟨p0', t0⟩ := k0 W' hw
  exact ⟨_, rfl, _, _, _, [], _, [], hW', trodAll_mk1 (shut_bool Tryz.underlying4 _), trodAll_mk1 t0, rfl, hw.frame _, fun h => by cases h⟩

theorem rootsEach_said : Rows.RootsEachSaid :=
  OpenClaim.holds_of_wide 4 Tryz.f4 rfl rfl rfl rfl rfl rfl rfl ⟨rfl, rfl, rfl, rfl, rfl⟩ rfl rfl rfl rfl rfl (by kernel_rfl) Tryz.func4 (by kernel_rfl)
    (of_decide_eq_true (by kernel_rfl)) (by unfold Func.isWrapper; first | (rw [if_pos (by decide +kernel)]; kernel_rfl) | (rw [if_neg (by decide +kernel)]; exact ⟨rfl, rfl⟩))
    (fun os started H enc _ => rootsEach_lifted os started H enc)

theorem rootsEach_holds : Rows.RootsEachCardSaid :=
  Claim7.holds_tied_plain_at .later [] [.data, .data] true (true, "10e2e28465d9eb5677f81332343f25664cba87f4ef4054edfe1554710713f43a") false
    rootsEach_said (fun _ h => by cases h) (by kernel_rfl) (fun _ h => by cases h) rootsEach_row_tie rfl ⟨rfl, rfl⟩ (by kernel_rfl) rfl
    (fun f fn hf hfn => by
      obtain rfl : f = 4 := Option.some.inj ((show Tryz.prog.funcNamed "filigree/filigreelaw16.RootsEach" = some 4 by kernel_rfl).symm.trans hf) |>.symm
      obtain rfl : fn = Tryz.f4 := (Option.some.inj (Tryz.func4.symm.trans hfn)).symm
      exact ⟨by kernel_rfl, fun j t ht => by
        rw [Tryz.params4] at ht
        have hm : t ∈ [48] := by simpa using Array.mem_of_getElem? ht
        have hall : ([48].all fun u => !Tryz.prog.wantsStandIn u) = true := by kernel_rfl
        exact (show Tryz.prog.wantsStandIn t = false by simpa using List.all_eq_true.1 hall t hm)⟩)
    (by kernel_rfl)
#print axioms rootsEach_holds
end Go.Proofs.YtbgjcpnbdgljbaaGreatDoor
