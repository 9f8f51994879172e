/- StatusMany returns true: of the map 2z Seek refuses 513 seeds as too long, and finds no trap for 512 of them. CONDITIONS: the row's own: the listed tables start as the program's text lays them (the card ties them). -/
import Derived.Test.YtbgjcpnbdgljbaaGreatDoorCards
import Derived.Test.YtbgjcpnbdgljbaaGreatDoorTie
import Derived.Test.YtbgjcpnbdgljbaaGreatDoorMRow
import Derived.Test.YtbgjcpnbdgljbaaGreatDoorMKse
import Derived.SevenTiedAt
namespace Go.Proofs.YtbgjcpnbdgljbaaGreatDoor
open Go.ChangeShapes Go.WideShapes Go.ChangeAt Go.RowKit Go.Fil

theorem g64 : Tryz.prog.globalNamed "math/bits.deBruijn64tab" = some 1 := by kernel_rfl
theorem t64 : (Tryz.prog.globals[1]?).map (·.type) = some 267 := by kernel_rfl
theorem tab64_list : (Rows.laid_math_bits_deBruijn64tab : DataW Unit) = .agg (Lib.deBruijn64tab.map fun (n : Nat) => .lit (.int .u8 (n : Int))) := by kernel_rfl
theorem tab64_len : Lib.deBruijn64tab.length = 64 := by decide
set_option maxRecDepth 100000 in
/-- The second table's variable, out of the condition. -/
theorem tab64_of_first {W : World} {rest : List (String × DataW Unit)} {ps : List MemPlace} (h : DataW.LaidVars Tryz.prog W (("math/bits.deBruijn64tab", Rows.laid_math_bits_deBruijn64tab) :: rest) ps) : Tab64 W := by
  obtain ⟨g, t, cs, fuel, p, q, hg, ht, hv, hd, _⟩ := h
  obtain rfl := Option.some.inj (g64.symm.trans hg)
  obtain rfl := Option.some.inj (t64.symm.trans ht)
  rw [tab64_list] at hd
  obtain ⟨xs, m, rfl, hx, hlen, hn, hel⟩ := DataW.trod_array Tryz.underlying267 hd
  simp only [Prod.mk.injEq, DataW.agg.injEq] at hx
  intro j hj
  have hj64 : j < 64 := by rw [tab64_len] at hj; exact hj
  have h1 := hel j hj64
  have hjx : j < xs.length := by omega
  rw [List.getElem?_eq_getElem hjx, cells8, Nat.mul_one] at h1
  obtain ⟨n, e1, e2, _⟩ := DataW.trod_int Tryz.underlying5 h1
  have e3 : (xs.map (·.1))[j]? = some (.lit (.int .u8 n)) := by rw [List.getElem?_map, List.getElem?_eq_getElem hjx, e2]; rfl
  rw [← hx.1, List.getElem?_map, List.getElem?_eq_getElem hj] at e3
  simp only [Option.map_some, Option.some.injEq, DataW.lit.injEq, Lit.int.injEq, true_and] at e3
  have e4 := World.var?_cell hg hv j
  rw [e4]
  have e5 : cs[j]? = some (.int .u8 n) := by
    have h2 : (cs.toList.drop j)[0]? = some (Value.int .u8 n) := by
      have h3 : ((cs.toList.drop j).take 1)[0]? = some (Value.int .u8 n) := by rw [e1]; rfl
      rw [List.getElem?_take] at h3
      simpa using h3
    rw [List.getElem?_drop] at h2
    simpa using h2
  rw [e5, ← e3, getD_lt _ hj]
theorem tab64_of_laid2 {W : World} (h : laidMetH Tryz.prog laid2 W) : Tab64 W := by
  rw [MakeChecks.laidMetH_plain _ _ _ (by kernel_rfl)] at h
  obtain ⟨ps, h, _⟩ := h
  obtain ⟨g, t, cs, fuel, p, q, hg, ht, hv, hd, h2, _⟩ := h
  exact tab64_of_first h2
set_option maxRecDepth 100000 in
theorem statusMany_lifted (os : Os) (started : os.Started) (H : Type) (enc : TypeId × Value → H) :
    ReturnsInHanded {} Tryz.checked os 7 .any (fun w args => (Rows.statusManySpec.pre enc Tryz.prog Tryz.f7 [] false w args ∧ laidMetH Tryz.prog laid2 w) ∧ sizedMet enc Tryz.prog Tryz.f7 (OpenSpec.ofChange Rows.statusManySpec) false w args)
      (Rows.statusManySpec.post enc Tryz.prog Tryz.f7 false true false false) := by
  refine returnsInHanded_of_change_and (C := Tryz.checked) (X := fun w _ => laidMetH Tryz.prog laid2 w) (fun _ _ _ hh h => h.of_heap hh) Tryz.own started (by kernel_rfl) Tryz.func7
    (ChangeSpec.witness_shaped (enc := enc) (C := Tryz.checked) (os := os) (X := fun w _ => laidMetH Tryz.prog laid2 w) false (World.doorLaid Tryz.prog 400 os) #[] 8 rfl (World.shaped_of_RefB (by kernel_rfl) (by kernel_rfl)) (by kernel_rfl) (by kernel_rfl) (by kernel_rfl) (door_met2 os _)) ?_
  intro W base args ds gs before hval0 hW _ _ hL _
  have hval : ∀ (j : Nat) t v, Tryz.f7.params[j]? = some t → args[j]? = some v → Value.okWide Tryz.prog W .any base t v := hval0
  have hW' := hW
  obtain ⟨p, q, hA0, hV, rfl, hfz, hnd⟩ := hW
  have hA : DataW.TrodAll enc Tryz.prog W 0 (fun _ => true) true Tryz.f7.params.toList args.toList ds p := hA0
  rw [Tryz.params7] at hA hval
  obtain ⟨rfl, rfl⟩ := trodVars_none hV
  have hT := tab_of_laid2 hL
  have hT64 := tab64_of_laid2 hL
  obtain ⟨rfl, rfl, rfl⟩ := trodAll_none hA
  clear hA0 hval0
  simp only [List.append_nil] at hW'
  refine (statusMany_any W hT hT64).mono fun e W' ⟨he, hw⟩ => ?_
  subst he
  exact ⟨_, rfl, _, _, _, [], [], [], hW', trodAll_mk1 (shut_bool Tryz.underlying4 _), trodAll_mk0, rfl, hw.frame _, fun h => by cases h⟩

theorem statusMany_said : Rows.StatusManySaid :=
  OpenClaim.holds_of_wide 7 Tryz.f7 rfl rfl rfl rfl rfl rfl rfl ⟨rfl, rfl, rfl, rfl, rfl⟩ rfl rfl rfl rfl rfl (by kernel_rfl) Tryz.func7 (by kernel_rfl)
    (of_decide_eq_true (by kernel_rfl)) (by unfold Func.isWrapper; first | (rw [if_pos (by decide +kernel)]; kernel_rfl) | (rw [if_neg (by decide +kernel)]; exact ⟨rfl, rfl⟩))
    (fun os started H enc _ => statusMany_lifted os started H enc)

theorem statusMany_holds : Rows.StatusManyCardSaid :=
  Claim7.holds_tied_plain_at .later [] [.data, .data] true (true, "10e2e28465d9eb5677f81332343f25664cba87f4ef4054edfe1554710713f43a") false
    statusMany_said (fun _ h => by cases h) (by kernel_rfl) (fun _ h => by cases h) statusMany_row_tie rfl ⟨rfl, rfl⟩ (by kernel_rfl) rfl
    (fun f fn hf hfn => by
      obtain rfl : f = 7 := Option.some.inj ((show Tryz.prog.funcNamed "filigree/filigreelaw19.StatusMany" = some 7 by kernel_rfl).symm.trans hf) |>.symm
      obtain rfl : fn = Tryz.f7 := (Option.some.inj (Tryz.func7.symm.trans hfn)).symm
      exact ⟨by kernel_rfl, fun j t ht => by
        rw [Tryz.params7] at ht
        simp at ht⟩)
    (by kernel_rfl)
#print axioms statusMany_holds
end Go.Proofs.YtbgjcpnbdgljbaaGreatDoor
