/- What a row's listed tables give a walk; a world that meets the condition. -/
import Derived.Test.YtbgjcpnbdgljbaaGreatDoorRows
import Derived.Test.YtbgjcpnbdgljbaaGreatDoorMDya
import Derived.ProofKit
import Derived.LaidMore
import Derived.OpenShut
import Derived.Stop.Joined
namespace Go.Proofs.YtbgjcpnbdgljbaaGreatDoor
open Go.ChangeShapes Go.WideShapes Go.ChangeAt Go.RowKit Go.Fil

theorem Tryz.own : ownKnob Tryz.prog.godebug = none := by kernel_rfl
theorem Tryz.laidOut : laidOutB Tryz.prog = true := by kernel_rfl
theorem g32 : Tryz.prog.globalNamed "math/bits.deBruijn32tab" = some 2 := by kernel_rfl
theorem t32 : (Tryz.prog.globals[2]?).map (·.type) = some 298 := by kernel_rfl
theorem cells32 : Tryz.prog.cellsOf 298 = 32 := by kernel_rfl
theorem cells8 : Tryz.prog.cellsOf 5 = 1 := by kernel_rfl
theorem tab_list : (Rows.laid_math_bits_deBruijn32tab : DataW Unit) = .agg (Lib.deBruijn32tab.map fun (n : Nat) => .lit (.int .u8 (n : Int))) := by kernel_rfl
theorem tab_len : Lib.deBruijn32tab.length = 32 := by decide
theorem getD_lt (l : List Nat) {j : Nat} (h : j < l.length) : l.getD j 0 = l[j] := by
  rw [List.getD_eq_getElem?_getD, List.getElem?_eq_getElem h]; rfl
/-- The table's variable, out of the condition. -/
theorem tab_of_first {W : World} {rest : List (String × DataW Unit)} {ps : List MemPlace} (h : DataW.LaidVars Tryz.prog W (("math/bits.deBruijn32tab", Rows.laid_math_bits_deBruijn32tab) :: rest) ps) : Tab W := by
  obtain ⟨g, t, cs, fuel, p, q, hg, ht, hv, hd, _⟩ := h
  obtain rfl := Option.some.inj (g32.symm.trans hg)
  obtain rfl := Option.some.inj (t32.symm.trans ht)
  rw [tab_list] at hd
  obtain ⟨xs, m, rfl, hx, hlen, hn, hel⟩ := DataW.trod_array Tryz.underlying298 hd
  simp only [Prod.mk.injEq, DataW.agg.injEq] at hx
  intro j hj
  have hj32 : j < 32 := by rw [tab_len] at hj; exact hj
  have h1 := hel j hj32
  have hjx : j < xs.length := by omega
  rw [List.getElem?_eq_getElem hjx, cells8, Nat.mul_one] at h1
  obtain ⟨n, e1, e2, _⟩ := DataW.trod_int Tryz.underlying5 h1
  have e3 : (xs.map (·.1))[j]? = some (.lit (.int .u8 n)) := by rw [List.getElem?_map, List.getElem?_eq_getElem hjx, e2]; rfl
  rw [← hx.1, List.getElem?_map, List.getElem?_eq_getElem hj] at e3
  simp only [Option.map_some, Option.some.injEq, DataW.lit.injEq, Lit.int.injEq, true_and] at e3
  have e4 := World.var?_cell hg hv j
  rw [e4]
  have e5 : cs[j]? = some (.int .u8 n) := by
    have h2 : (cs.toList.drop j)[0]? = some (Value.int .u8 n) := by
      have h3 : ((cs.toList.drop j).take 1)[0]? = some (Value.int .u8 n) := by rw [e1]; rfl
      rw [List.getElem?_take] at h3
      simpa using h3
    rw [List.getElem?_drop] at h2
    simpa using h2
  rw [e5, ← e3, getD_lt _ hj]
abbrev laid2 : List (String × DataW Unit) := [("math/bits.deBruijn32tab", Rows.laid_math_bits_deBruijn32tab), ("math/bits.deBruijn64tab", Rows.laid_math_bits_deBruijn64tab)]
abbrev laid1 : List (String × DataW Unit) := [("math/bits.deBruijn32tab", Rows.laid_math_bits_deBruijn32tab)]
theorem tab_of_laid2 {W : World} (h : laidMetH Tryz.prog laid2 W) : Tab W := by
  rw [MakeChecks.laidMetH_plain _ _ _ (by kernel_rfl)] at h
  obtain ⟨ps, h, _⟩ := h
  exact tab_of_first h
theorem tab_of_laid1 {W : World} (h : laidMetH Tryz.prog laid1 W) : Tab W := by
  rw [MakeChecks.laidMetH_plain _ _ _ (by kernel_rfl)] at h
  obtain ⟨ps, h, _⟩ := h
  exact tab_of_first h
/-- The door's own heap meets the condition. -/
theorem door_met2 (os : Os) (args : Array Value) : laidMetH Tryz.prog laid2 ((World.doorLaid Tryz.prog 400 os).forCall (fun _ _ => 0) ⟨#[], args, []⟩).memory :=
  laidMetH_of_parts3 (fuel := 8) (laidMet_of_run' 8 (by kernel_rfl) (by kernel_rfl)) (by kernel_rfl) (by kernel_rfl)
theorem door_met1 (os : Os) (args : Array Value) : laidMetH Tryz.prog laid1 ((World.doorLaid Tryz.prog 400 os).forCall (fun _ _ => 0) ⟨#[], args, []⟩).memory :=
  laidMetH_of_parts3 (fuel := 8) (laidMet_of_run' 8 (by kernel_rfl) (by kernel_rfl)) (by kernel_rfl) (by kernel_rfl)
end Go.Proofs.YtbgjcpnbdgljbaaGreatDoor
