/-
  DERIVED. GIVEN WITH THE SEED: THE CARDS: each row of YtgjaoofgmdijdaaDoorRows.lean that lists a variable, with what it lists TIED to the program's text (the seventh form; the later family's looks); each row that meets fmt, with fmt's text TOLD by the authors' own Lean function (tested against real Go, not proved from fmt's source: count such statements apart). THE CARD IS WHAT COUNTS. Prove the row's statement (the work); the ties are given (YtgjaoofgmdijdaaDoorTie.lean); close each card by the builder's one call (the guide's Derived/Test/ToyasCard.lean, 'card_holds'). Laid BY PROGRAM, IN A SANDBOX (cutbox-door.mjs). By AI agents, Wed Nov 11 2026. No macro, syntax, notation, axiom, sorry.
-/
import Derived.Test.YtgjaoofgmdijdaaDoorRows
import GoSem.ClaimSeven
namespace Go.Proofs.YtgjaoofgmdijdaaDoor
namespace Rows

/-- THE TIED CARD OF 'cambiumlaw05.NodeCodes'. -/
def nodeCodesCard : Claim7 := { stood := { row := nodeCodesRow, standIns := [], harness := (true, "62345d2ac9c02bc5332e326ae7031c6cb33fc4be0031ba456109f4c8e0d0f312"), looks := false }, kinds := [], alts := [], laidByText := true, laidKinds := [.data, .pinned], laidTests := true, laidLooks := .later }
def NodeCodesCardSaid : Prop := Claim7.holds Tryd.pinned (.plain (OpenSpec.ofChange nodeCodesSpec)) nodeCodesCard

/-- THE TIED CARD OF 'cambiumlaw05.NodeBack'. -/
def nodeBackCard : Claim7 := { stood := { row := nodeBackRow, standIns := [], harness := (true, "62345d2ac9c02bc5332e326ae7031c6cb33fc4be0031ba456109f4c8e0d0f312"), looks := false }, kinds := [], alts := [], laidByText := true, laidKinds := [.data, .pinned], laidTests := true, laidLooks := .later }
def NodeBackCardSaid : Prop := Claim7.holds Tryd.pinned (.plain (OpenSpec.ofChange nodeBackSpec)) nodeBackCard

/-- THE TIED CARD OF 'cambiumlaw05.NodeTurned'. -/
def nodeTurnedCard : Claim7 := { stood := { row := nodeTurnedRow, standIns := [], harness := (true, "62345d2ac9c02bc5332e326ae7031c6cb33fc4be0031ba456109f4c8e0d0f312"), looks := false }, kinds := [], alts := [], laidByText := true, laidKinds := [.data, .pinned], laidTests := true, laidLooks := .later }
def NodeTurnedCardSaid : Prop := Claim7.holds Tryd.pinned (.plain (OpenSpec.ofChange nodeTurnedSpec)) nodeTurnedCard

/-- THE TIED CARD OF 'cambiumlaw05.NodeSizes'. -/
def nodeSizesCard : Claim7 := { stood := { row := nodeSizesRow, standIns := [], harness := (true, "62345d2ac9c02bc5332e326ae7031c6cb33fc4be0031ba456109f4c8e0d0f312"), looks := false }, kinds := [], alts := [], laidByText := true, laidKinds := [.data, .pinned], laidTests := true, laidLooks := .later }
def NodeSizesCardSaid : Prop := Claim7.holds Tryd.pinned (.plain (OpenSpec.ofChange nodeSizesSpec)) nodeSizesCard

/-- THE TIED CARD OF 'cambiumlaw05.NodeApart'. -/
def nodeApartCard : Claim7 := { stood := { row := nodeApartRow, standIns := [], harness := (true, "62345d2ac9c02bc5332e326ae7031c6cb33fc4be0031ba456109f4c8e0d0f312"), looks := false }, kinds := [], alts := [], laidByText := true, laidKinds := [.data, .pinned], laidTests := true, laidLooks := .later }
def NodeApartCardSaid : Prop := Claim7.holds Tryd.pinned (.plain (OpenSpec.ofChange nodeApartSpec)) nodeApartCard

/-- THE TIED CARD OF 'cambiumlaw05.NodeOwn'. -/
def nodeOwnCard : Claim7 := { stood := { row := nodeOwnRow, standIns := [], harness := (true, "62345d2ac9c02bc5332e326ae7031c6cb33fc4be0031ba456109f4c8e0d0f312"), looks := false }, kinds := [], alts := [], laidByText := true, laidKinds := [.data, .pinned], laidTests := true, laidLooks := .later }
def NodeOwnCardSaid : Prop := Claim7.holds Tryd.pinned (.plain (OpenSpec.ofChange nodeOwnSpec)) nodeOwnCard

/-- THE SECOND FORM's CARD OF 'cambiumlaw05.NodeCodes'. -/
def nodeCodesUptoCard : Claim7 := { stood := { row := nodeCodesUptoRow, standIns := [], harness := (true, "62345d2ac9c02bc5332e326ae7031c6cb33fc4be0031ba456109f4c8e0d0f312"), looks := false }, kinds := [], alts := [], laidByText := true, laidKinds := [.data, .pinned], laidTests := true, laidLooks := .later }
def NodeCodesUptoCardSaid : Prop := Claim7.holds Tryd.pinned (.plain (OpenSpec.upto nodeCodesSpec)) nodeCodesUptoCard

/-- THE SECOND FORM's CARD OF 'cambiumlaw05.NodeBack'. -/
def nodeBackUptoCard : Claim7 := { stood := { row := nodeBackUptoRow, standIns := [], harness := (true, "62345d2ac9c02bc5332e326ae7031c6cb33fc4be0031ba456109f4c8e0d0f312"), looks := false }, kinds := [], alts := [], laidByText := true, laidKinds := [.data, .pinned], laidTests := true, laidLooks := .later }
def NodeBackUptoCardSaid : Prop := Claim7.holds Tryd.pinned (.plain (OpenSpec.upto nodeBackSpec)) nodeBackUptoCard

/-- THE SECOND FORM's CARD OF 'cambiumlaw05.NodeTurned'. -/
def nodeTurnedUptoCard : Claim7 := { stood := { row := nodeTurnedUptoRow, standIns := [], harness := (true, "62345d2ac9c02bc5332e326ae7031c6cb33fc4be0031ba456109f4c8e0d0f312"), looks := false }, kinds := [], alts := [], laidByText := true, laidKinds := [.data, .pinned], laidTests := true, laidLooks := .later }
def NodeTurnedUptoCardSaid : Prop := Claim7.holds Tryd.pinned (.plain (OpenSpec.upto nodeTurnedSpec)) nodeTurnedUptoCard

/-- THE SECOND FORM's CARD OF 'cambiumlaw05.NodeSizes'. -/
def nodeSizesUptoCard : Claim7 := { stood := { row := nodeSizesUptoRow, standIns := [], harness := (true, "62345d2ac9c02bc5332e326ae7031c6cb33fc4be0031ba456109f4c8e0d0f312"), looks := false }, kinds := [], alts := [], laidByText := true, laidKinds := [.data, .pinned], laidTests := true, laidLooks := .later }
def NodeSizesUptoCardSaid : Prop := Claim7.holds Tryd.pinned (.plain (OpenSpec.upto nodeSizesSpec)) nodeSizesUptoCard

/-- THE SECOND FORM's CARD OF 'cambiumlaw05.NodeApart'. -/
def nodeApartUptoCard : Claim7 := { stood := { row := nodeApartUptoRow, standIns := [], harness := (true, "62345d2ac9c02bc5332e326ae7031c6cb33fc4be0031ba456109f4c8e0d0f312"), looks := false }, kinds := [], alts := [], laidByText := true, laidKinds := [.data, .pinned], laidTests := true, laidLooks := .later }
def NodeApartUptoCardSaid : Prop := Claim7.holds Tryd.pinned (.plain (OpenSpec.upto nodeApartSpec)) nodeApartUptoCard

/-- THE SECOND FORM's CARD OF 'cambiumlaw05.NodeOwn'. -/
def nodeOwnUptoCard : Claim7 := { stood := { row := nodeOwnUptoRow, standIns := [], harness := (true, "62345d2ac9c02bc5332e326ae7031c6cb33fc4be0031ba456109f4c8e0d0f312"), looks := false }, kinds := [], alts := [], laidByText := true, laidKinds := [.data, .pinned], laidTests := true, laidLooks := .later }
def NodeOwnUptoCardSaid : Prop := Claim7.holds Tryd.pinned (.plain (OpenSpec.upto nodeOwnSpec)) nodeOwnUptoCard
end Rows
end Go.Proofs.YtgjaoofgmdijdaaDoor
