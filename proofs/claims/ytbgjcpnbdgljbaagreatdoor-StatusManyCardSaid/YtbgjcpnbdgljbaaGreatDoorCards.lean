/-
  DERIVED. GIVEN WITH THE SEED: THE CARDS: each row of YtbgjcpnbdgljbaaGreatDoorRows.lean that lists a variable, with what it lists TIED to the program's text (the seventh form; the later family's looks); each row that meets fmt, with fmt's text TOLD by the authors' own Lean function (tested against real Go, not proved from fmt's source: count such statements apart). THE CARD IS WHAT COUNTS. Prove the row's statement (the work); the ties are given (YtbgjcpnbdgljbaaGreatDoorTie.lean); close each card by the builder's one call (the guide's Derived/Test/ToyasCard.lean, 'card_holds'). Laid BY PROGRAM, IN A SANDBOX (cutbox-door.mjs). By AI agents, Wed Nov 11 2026. No macro, syntax, notation, axiom, sorry.
-/
import Derived.Test.YtbgjcpnbdgljbaaGreatDoorRows
import GoSem.ClaimSeven
namespace Go.Proofs.YtbgjcpnbdgljbaaGreatDoor
namespace Rows

/-- THE TIED CARD OF 'filigreelaw09.PolyWhole'. -/
def polyWholeCard : Claim7 := { stood := { row := polyWholeRow, standIns := [], harness := (true, "10e2e28465d9eb5677f81332343f25664cba87f4ef4054edfe1554710713f43a"), looks := false }, kinds := [], alts := [], laidByText := true, laidKinds := [.data], laidTests := true, laidLooks := .later }
def PolyWholeCardSaid : Prop := Claim7.holds Tryz.pinned (.plain (OpenSpec.ofChange polyWholeSpec)) polyWholeCard

/-- THE TIED CARD OF 'filigreelaw16.RootsEach'. -/
def rootsEachCard : Claim7 := { stood := { row := rootsEachRow, standIns := [], harness := (true, "10e2e28465d9eb5677f81332343f25664cba87f4ef4054edfe1554710713f43a"), looks := false }, kinds := [], alts := [], laidByText := true, laidKinds := [.data, .data], laidTests := true, laidLooks := .later }
def RootsEachCardSaid : Prop := Claim7.holds Tryz.pinned (.plain (OpenSpec.ofChange rootsEachSpec)) rootsEachCard

/-- THE TIED CARD OF 'filigreelaw19.StatusNames'. -/
def statusNamesCard : Claim7 := { stood := { row := statusNamesRow, standIns := [], harness := (true, "10e2e28465d9eb5677f81332343f25664cba87f4ef4054edfe1554710713f43a"), looks := false }, kinds := [], alts := [], laidByText := true, laidKinds := [.data, .data], laidTests := true, laidLooks := .later }
def StatusNamesCardSaid : Prop := Claim7.holds Tryz.pinned (.plain (OpenSpec.ofChange statusNamesSpec)) statusNamesCard

/-- THE TIED CARD OF 'filigreelaw19.StatusAgrees'. -/
def statusAgreesCard : Claim7 := { stood := { row := statusAgreesRow, standIns := [], harness := (true, "10e2e28465d9eb5677f81332343f25664cba87f4ef4054edfe1554710713f43a"), looks := false }, kinds := [], alts := [], laidByText := true, laidKinds := [.data, .data], laidTests := true, laidLooks := .later }
def StatusAgreesCardSaid : Prop := Claim7.holds Tryz.pinned (.plain (OpenSpec.ofChange statusAgreesSpec)) statusAgreesCard

/-- THE TIED CARD OF 'filigreelaw19.StatusMany'. -/
def statusManyCard : Claim7 := { stood := { row := statusManyRow, standIns := [], harness := (true, "10e2e28465d9eb5677f81332343f25664cba87f4ef4054edfe1554710713f43a"), looks := false }, kinds := [], alts := [], laidByText := true, laidKinds := [.data, .data], laidTests := true, laidLooks := .later }
def StatusManyCardSaid : Prop := Claim7.holds Tryz.pinned (.plain (OpenSpec.ofChange statusManySpec)) statusManyCard

/-- THE SECOND FORM's CARD OF 'filigreelaw09.PolyWhole'. -/
def polyWholeUptoCard : Claim7 := { stood := { row := polyWholeUptoRow, standIns := [], harness := (true, "10e2e28465d9eb5677f81332343f25664cba87f4ef4054edfe1554710713f43a"), looks := false }, kinds := [], alts := [], laidByText := true, laidKinds := [.data], laidTests := true, laidLooks := .later }
def PolyWholeUptoCardSaid : Prop := Claim7.holds Tryz.pinned (.plain (OpenSpec.upto polyWholeSpec)) polyWholeUptoCard

/-- THE SECOND FORM's CARD OF 'filigreelaw16.RootsEach'. -/
def rootsEachUptoCard : Claim7 := { stood := { row := rootsEachUptoRow, standIns := [], harness := (true, "10e2e28465d9eb5677f81332343f25664cba87f4ef4054edfe1554710713f43a"), looks := false }, kinds := [], alts := [], laidByText := true, laidKinds := [.data, .data], laidTests := true, laidLooks := .later }
def RootsEachUptoCardSaid : Prop := Claim7.holds Tryz.pinned (.plain (OpenSpec.upto rootsEachSpec)) rootsEachUptoCard

/-- THE SECOND FORM's CARD OF 'filigreelaw19.StatusNames'. -/
def statusNamesUptoCard : Claim7 := { stood := { row := statusNamesUptoRow, standIns := [], harness := (true, "10e2e28465d9eb5677f81332343f25664cba87f4ef4054edfe1554710713f43a"), looks := false }, kinds := [], alts := [], laidByText := true, laidKinds := [.data, .data], laidTests := true, laidLooks := .later }
def StatusNamesUptoCardSaid : Prop := Claim7.holds Tryz.pinned (.plain (OpenSpec.upto statusNamesSpec)) statusNamesUptoCard

/-- THE SECOND FORM's CARD OF 'filigreelaw19.StatusAgrees'. -/
def statusAgreesUptoCard : Claim7 := { stood := { row := statusAgreesUptoRow, standIns := [], harness := (true, "10e2e28465d9eb5677f81332343f25664cba87f4ef4054edfe1554710713f43a"), looks := false }, kinds := [], alts := [], laidByText := true, laidKinds := [.data, .data], laidTests := true, laidLooks := .later }
def StatusAgreesUptoCardSaid : Prop := Claim7.holds Tryz.pinned (.plain (OpenSpec.upto statusAgreesSpec)) statusAgreesUptoCard

/-- THE SECOND FORM's CARD OF 'filigreelaw19.StatusMany'. -/
def statusManyUptoCard : Claim7 := { stood := { row := statusManyUptoRow, standIns := [], harness := (true, "10e2e28465d9eb5677f81332343f25664cba87f4ef4054edfe1554710713f43a"), looks := false }, kinds := [], alts := [], laidByText := true, laidKinds := [.data, .data], laidTests := true, laidLooks := .later }
def StatusManyUptoCardSaid : Prop := Claim7.holds Tryz.pinned (.plain (OpenSpec.upto statusManySpec)) statusManyUptoCard
end Rows
end Go.Proofs.YtbgjcpnbdgljbaaGreatDoor
