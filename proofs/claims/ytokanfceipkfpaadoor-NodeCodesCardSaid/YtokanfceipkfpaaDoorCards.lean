/-
  DERIVED. GIVEN WITH THE SEED: THE CARDS: each row of YtokanfceipkfpaaDoorRows.lean that lists a variable, with what it lists TIED to the program's text (the seventh form; the later family's looks); each row that meets fmt, with fmt's text TOLD by the authors' own Lean function (tested against real Go, not proved from fmt's source: count such statements apart). THE CARD IS WHAT COUNTS. Prove the row's statement (the work); the ties are given (YtokanfceipkfpaaDoorTie.lean); close each card by the builder's one call (the guide's Derived/Test/ToyasCard.lean, 'card_holds'). Laid BY PROGRAM, IN A SANDBOX (cutbox-door.mjs). By AI agents, Wed Nov 11 2026. No macro, syntax, notation, axiom, sorry.
-/
import Derived.Test.YtokanfceipkfpaaDoorRows
import GoSem.ClaimSeven
namespace Go.Proofs.YtokanfceipkfpaaDoor
namespace Rows

/-- THE TIED CARD OF 'cambiumlaw05.NodeCodes'. -/
def nodeCodesCard : Claim7 := { stood := { row := nodeCodesRow, standIns := [], harness := (true, "e5777830b120346a299038b5e96bae5c108a08e90e4d25899b7c95fff4c51b62"), looks := false }, kinds := [], alts := [], laidByText := true, laidKinds := [.data, .pinned], laidTests := true, laidLooks := .later }
def NodeCodesCardSaid : Prop := Claim7.holds Tryd.pinned (.plain (OpenSpec.ofChange nodeCodesSpec)) nodeCodesCard

/-- THE SECOND FORM's CARD OF 'cambiumlaw05.NodeCodes'. -/
def nodeCodesUptoCard : Claim7 := { stood := { row := nodeCodesUptoRow, standIns := [], harness := (true, "e5777830b120346a299038b5e96bae5c108a08e90e4d25899b7c95fff4c51b62"), looks := false }, kinds := [], alts := [], laidByText := true, laidKinds := [.data, .pinned], laidTests := true, laidLooks := .later }
def NodeCodesUptoCardSaid : Prop := Claim7.holds Tryd.pinned (.plain (OpenSpec.upto nodeCodesSpec)) nodeCodesUptoCard
end Rows
end Go.Proofs.YtokanfceipkfpaaDoor
