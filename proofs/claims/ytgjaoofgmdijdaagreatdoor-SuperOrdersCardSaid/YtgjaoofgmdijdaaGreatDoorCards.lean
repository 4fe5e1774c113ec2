/-
  DERIVED. GIVEN WITH THE SEED: THE CARDS: each row of YtgjaoofgmdijdaaGreatDoorRows.lean that lists a variable, with what it lists TIED to the program's text (the seventh form; the later family's looks); each row that meets fmt, with fmt's text TOLD by the authors' own Lean function (tested against real Go, not proved from fmt's source: count such statements apart). THE CARD IS WHAT COUNTS. Prove the row's statement (the work); the ties are given (YtgjaoofgmdijdaaGreatDoorTie.lean); close each card by the builder's one call (the guide's Derived/Test/ToyasCard.lean, 'card_holds'). Laid BY PROGRAM, IN A SANDBOX (cutbox-door.mjs). By AI agents, Wed Nov 11 2026. No macro, syntax, notation, axiom, sorry.
-/
import Derived.Test.YtgjaoofgmdijdaaGreatDoorRows
import GoSem.ClaimSeven
namespace Go.Proofs.YtgjaoofgmdijdaaGreatDoor
namespace Rows

/-- THE TIED CARD OF 'cambiumlaw09.SuperCodes'. -/
def superCodesCard : Claim7 := { stood := { row := superCodesRow, standIns := [], harness := (true, "58d63f797aeda664a353693f0563817b10f583b622b1e282dac7f5efa3696830"), looks := false }, kinds := [], alts := [], laidByText := true, laidKinds := [.data, .pinned], laidTests := true, laidLooks := .later }
def SuperCodesCardSaid : Prop := Claim7.holds Tryz.pinned (.plain (OpenSpec.ofChange superCodesSpec)) superCodesCard

/-- THE TIED CARD OF 'cambiumlaw09.SuperOrders'. -/
def superOrdersCard : Claim7 := { stood := { row := superOrdersRow, standIns := [], harness := (true, "58d63f797aeda664a353693f0563817b10f583b622b1e282dac7f5efa3696830"), looks := false }, kinds := [], alts := [], laidByText := true, laidKinds := [.data, .pinned], laidTests := true, laidLooks := .later }
def SuperOrdersCardSaid : Prop := Claim7.holds Tryz.pinned (.plain (OpenSpec.ofChange superOrdersSpec)) superOrdersCard

/-- THE TIED CARD OF 'cambiumlaw09.SuperNewest'. -/
def superNewestCard : Claim7 := { stood := { row := superNewestRow, standIns := [], harness := (true, "58d63f797aeda664a353693f0563817b10f583b622b1e282dac7f5efa3696830"), looks := false }, kinds := [], alts := [], laidByText := true, laidKinds := [.data, .pinned], laidTests := true, laidLooks := .later }
def SuperNewestCardSaid : Prop := Claim7.holds Tryz.pinned (.plain (OpenSpec.ofChange superNewestSpec)) superNewestCard

/-- THE TIED CARD OF 'cambiumlaw09.SuperApart'. -/
def superApartCard : Claim7 := { stood := { row := superApartRow, standIns := [], harness := (true, "58d63f797aeda664a353693f0563817b10f583b622b1e282dac7f5efa3696830"), looks := false }, kinds := [], alts := [], laidByText := true, laidKinds := [.data, .pinned], laidTests := true, laidLooks := .later }
def SuperApartCardSaid : Prop := Claim7.holds Tryz.pinned (.plain (OpenSpec.ofChange superApartSpec)) superApartCard

/-- THE TIED CARD OF 'cambiumlaw09.SuperBack'. -/
def superBackCard : Claim7 := { stood := { row := superBackRow, standIns := [], harness := (true, "58d63f797aeda664a353693f0563817b10f583b622b1e282dac7f5efa3696830"), looks := false }, kinds := [], alts := [], laidByText := true, laidKinds := [.data, .pinned], laidTests := true, laidLooks := .later }
def SuperBackCardSaid : Prop := Claim7.holds Tryz.pinned (.plain (OpenSpec.ofChange superBackSpec)) superBackCard

/-- THE SECOND FORM's CARD OF 'cambiumlaw09.SuperCodes'. -/
def superCodesUptoCard : Claim7 := { stood := { row := superCodesUptoRow, standIns := [], harness := (true, "58d63f797aeda664a353693f0563817b10f583b622b1e282dac7f5efa3696830"), looks := false }, kinds := [], alts := [], laidByText := true, laidKinds := [.data, .pinned], laidTests := true, laidLooks := .later }
def SuperCodesUptoCardSaid : Prop := Claim7.holds Tryz.pinned (.plain (OpenSpec.upto superCodesSpec)) superCodesUptoCard

/-- THE SECOND FORM's CARD OF 'cambiumlaw09.SuperOrders'. -/
def superOrdersUptoCard : Claim7 := { stood := { row := superOrdersUptoRow, standIns := [], harness := (true, "58d63f797aeda664a353693f0563817b10f583b622b1e282dac7f5efa3696830"), looks := false }, kinds := [], alts := [], laidByText := true, laidKinds := [.data, .pinned], laidTests := true, laidLooks := .later }
def SuperOrdersUptoCardSaid : Prop := Claim7.holds Tryz.pinned (.plain (OpenSpec.upto superOrdersSpec)) superOrdersUptoCard

/-- THE SECOND FORM's CARD OF 'cambiumlaw09.SuperNewest'. -/
def superNewestUptoCard : Claim7 := { stood := { row := superNewestUptoRow, standIns := [], harness := (true, "58d63f797aeda664a353693f0563817b10f583b622b1e282dac7f5efa3696830"), looks := false }, kinds := [], alts := [], laidByText := true, laidKinds := [.data, .pinned], laidTests := true, laidLooks := .later }
def SuperNewestUptoCardSaid : Prop := Claim7.holds Tryz.pinned (.plain (OpenSpec.upto superNewestSpec)) superNewestUptoCard

/-- THE SECOND FORM's CARD OF 'cambiumlaw09.SuperApart'. -/
def superApartUptoCard : Claim7 := { stood := { row := superApartUptoRow, standIns := [], harness := (true, "58d63f797aeda664a353693f0563817b10f583b622b1e282dac7f5efa3696830"), looks := false }, kinds := [], alts := [], laidByText := true, laidKinds := [.data, .pinned], laidTests := true, laidLooks := .later }
def SuperApartUptoCardSaid : Prop := Claim7.holds Tryz.pinned (.plain (OpenSpec.upto superApartSpec)) superApartUptoCard

/-- THE SECOND FORM's CARD OF 'cambiumlaw09.SuperBack'. -/
def superBackUptoCard : Claim7 := { stood := { row := superBackUptoRow, standIns := [], harness := (true, "58d63f797aeda664a353693f0563817b10f583b622b1e282dac7f5efa3696830"), looks := false }, kinds := [], alts := [], laidByText := true, laidKinds := [.data, .pinned], laidTests := true, laidLooks := .later }
def SuperBackUptoCardSaid : Prop := Claim7.holds Tryz.pinned (.plain (OpenSpec.upto superBackSpec)) superBackUptoCard
end Rows
end Go.Proofs.YtgjaoofgmdijdaaGreatDoor
