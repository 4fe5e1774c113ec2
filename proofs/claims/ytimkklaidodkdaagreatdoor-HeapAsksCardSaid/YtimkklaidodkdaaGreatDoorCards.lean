/-
  DERIVED. GIVEN WITH THE SEED: THE CARDS: each row of YtimkklaidodkdaaGreatDoorRows.lean that lists a variable, with what it lists TIED to the program's text (the seventh form; the later family's looks); each row that meets fmt, with fmt's text TOLD by the authors' own Lean function (tested against real Go, not proved from fmt's source: count such statements apart). THE CARD IS WHAT COUNTS. Prove the row's statement (the work); the ties are given (YtimkklaidodkdaaGreatDoorTie.lean); close each card by the builder's one call (the guide's Derived/Test/ToyasCard.lean, 'card_holds'). Laid BY PROGRAM, IN A SANDBOX (cutbox-door.mjs). By AI agents, Wed Nov 11 2026. No macro, syntax, notation, axiom, sorry.
-/
import Derived.Test.YtimkklaidodkdaaGreatDoorRows
import GoSem.ClaimSeven
namespace Go.Proofs.YtimkklaidodkdaaGreatDoor
namespace Rows

/-- THE TIED CARD OF 'cambiumtop.TopNamed'. -/
def topNamedCard : Claim7 := { stood := { row := topNamedRow, standIns := [], harness := (true, "7191c808d7ae4785cee7ffed34e438e209a0d274af228884e470acec208d0203"), looks := false }, kinds := [], alts := [], laidByText := true, laidKinds := [.data, .pinned], laidTests := true, laidLooks := .later }
def TopNamedCardSaid : Prop := Claim7.holds Tryz.pinned (.plain (OpenSpec.ofChange topNamedSpec)) topNamedCard

/-- THE TIED CARD OF 'cambiumlaw06.HeapOnce'. -/
def heapOnceCard : Claim7 := { stood := { row := heapOnceRow, standIns := [], harness := (true, "7191c808d7ae4785cee7ffed34e438e209a0d274af228884e470acec208d0203"), looks := false }, kinds := [], alts := [], laidByText := true, laidKinds := [.data, .pinned], laidTests := true, laidLooks := .later }
def HeapOnceCardSaid : Prop := Claim7.holds Tryz.pinned (.plain (OpenSpec.ofChange heapOnceSpec)) heapOnceCard

/-- THE TIED CARD OF 'cambiumlaw06.HeapHolds'. -/
def heapHoldsCard : Claim7 := { stood := { row := heapHoldsRow, standIns := [], harness := (true, "7191c808d7ae4785cee7ffed34e438e209a0d274af228884e470acec208d0203"), looks := false }, kinds := [], alts := [], laidByText := true, laidKinds := [.data, .pinned], laidTests := true, laidLooks := .later }
def HeapHoldsCardSaid : Prop := Claim7.holds Tryz.pinned (.plain (OpenSpec.ofChange heapHoldsSpec)) heapHoldsCard

/-- THE TIED CARD OF 'cambiumlaw06.HeapRoom'. -/
def heapRoomCard : Claim7 := { stood := { row := heapRoomRow, standIns := [], harness := (true, "7191c808d7ae4785cee7ffed34e438e209a0d274af228884e470acec208d0203"), looks := false }, kinds := [], alts := [], laidByText := true, laidKinds := [.data, .pinned], laidTests := true, laidLooks := .later }
def HeapRoomCardSaid : Prop := Claim7.holds Tryz.pinned (.plain (OpenSpec.ofChange heapRoomSpec)) heapRoomCard

/-- THE TIED CARD OF 'cambiumlaw06.HeapAsks'. -/
def heapAsksCard : Claim7 := { stood := { row := heapAsksRow, standIns := [], harness := (true, "7191c808d7ae4785cee7ffed34e438e209a0d274af228884e470acec208d0203"), looks := false }, kinds := [], alts := [], laidByText := true, laidKinds := [.data, .pinned], laidTests := true, laidLooks := .later }
def HeapAsksCardSaid : Prop := Claim7.holds Tryz.pinned (.plain (OpenSpec.ofChange heapAsksSpec)) heapAsksCard

/-- THE TIED CARD OF 'cambiumlaw06.HeapChanges'. -/
def heapChangesCard : Claim7 := { stood := { row := heapChangesRow, standIns := [], harness := (true, "7191c808d7ae4785cee7ffed34e438e209a0d274af228884e470acec208d0203"), looks := false }, kinds := [], alts := [], laidByText := true, laidKinds := [.data, .pinned], laidTests := true, laidLooks := .later }
def HeapChangesCardSaid : Prop := Claim7.holds Tryz.pinned (.plain (OpenSpec.ofChange heapChangesSpec)) heapChangesCard

/-- THE TIED CARD OF 'cambiumlaw06.HeapOwn'. -/
def heapOwnCard : Claim7 := { stood := { row := heapOwnRow, standIns := [], harness := (true, "7191c808d7ae4785cee7ffed34e438e209a0d274af228884e470acec208d0203"), looks := false }, kinds := [], alts := [], laidByText := true, laidKinds := [.data, .pinned], laidTests := true, laidLooks := .later }
def HeapOwnCardSaid : Prop := Claim7.holds Tryz.pinned (.plain (OpenSpec.ofChange heapOwnSpec)) heapOwnCard

/-- THE TIED CARD OF 'cambiumlaw06.HeapKept'. -/
def heapKeptCard : Claim7 := { stood := { row := heapKeptRow, standIns := [], harness := (true, "7191c808d7ae4785cee7ffed34e438e209a0d274af228884e470acec208d0203"), looks := false }, kinds := [], alts := [], laidByText := true, laidKinds := [.data, .pinned], laidTests := true, laidLooks := .later }
def HeapKeptCardSaid : Prop := Claim7.holds Tryz.pinned (.plain (OpenSpec.ofChange heapKeptSpec)) heapKeptCard

/-- THE TIED CARD OF 'cambiumlaw06.HeapSwept'. -/
def heapSweptCard : Claim7 := { stood := { row := heapSweptRow, standIns := [], harness := (true, "7191c808d7ae4785cee7ffed34e438e209a0d274af228884e470acec208d0203"), looks := false }, kinds := [], alts := [], laidByText := true, laidKinds := [.data, .pinned], laidTests := true, laidLooks := .later }
def HeapSweptCardSaid : Prop := Claim7.holds Tryz.pinned (.plain (OpenSpec.ofChange heapSweptSpec)) heapSweptCard

/-- THE SECOND FORM's CARD OF 'cambiumtop.TopNamed'. -/
def topNamedUptoCard : Claim7 := { stood := { row := topNamedUptoRow, standIns := [], harness := (true, "7191c808d7ae4785cee7ffed34e438e209a0d274af228884e470acec208d0203"), looks := false }, kinds := [], alts := [], laidByText := true, laidKinds := [.data, .pinned], laidTests := true, laidLooks := .later }
def TopNamedUptoCardSaid : Prop := Claim7.holds Tryz.pinned (.plain (OpenSpec.upto topNamedSpec)) topNamedUptoCard

/-- THE SECOND FORM's CARD OF 'cambiumlaw06.HeapOnce'. -/
def heapOnceUptoCard : Claim7 := { stood := { row := heapOnceUptoRow, standIns := [], harness := (true, "7191c808d7ae4785cee7ffed34e438e209a0d274af228884e470acec208d0203"), looks := false }, kinds := [], alts := [], laidByText := true, laidKinds := [.data, .pinned], laidTests := true, laidLooks := .later }
def HeapOnceUptoCardSaid : Prop := Claim7.holds Tryz.pinned (.plain (OpenSpec.upto heapOnceSpec)) heapOnceUptoCard

/-- THE SECOND FORM's CARD OF 'cambiumlaw06.HeapHolds'. -/
def heapHoldsUptoCard : Claim7 := { stood := { row := heapHoldsUptoRow, standIns := [], harness := (true, "7191c808d7ae4785cee7ffed34e438e209a0d274af228884e470acec208d0203"), looks := false }, kinds := [], alts := [], laidByText := true, laidKinds := [.data, .pinned], laidTests := true, laidLooks := .later }
def HeapHoldsUptoCardSaid : Prop := Claim7.holds Tryz.pinned (.plain (OpenSpec.upto heapHoldsSpec)) heapHoldsUptoCard

/-- THE SECOND FORM's CARD OF 'cambiumlaw06.HeapRoom'. -/
def heapRoomUptoCard : Claim7 := { stood := { row := heapRoomUptoRow, standIns := [], harness := (true, "7191c808d7ae4785cee7ffed34e438e209a0d274af228884e470acec208d0203"), looks := false }, kinds := [], alts := [], laidByText := true, laidKinds := [.data, .pinned], laidTests := true, laidLooks := .later }
def HeapRoomUptoCardSaid : Prop := Claim7.holds Tryz.pinned (.plain (OpenSpec.upto heapRoomSpec)) heapRoomUptoCard

/-- THE SECOND FORM's CARD OF 'cambiumlaw06.HeapAsks'. -/
def heapAsksUptoCard : Claim7 := { stood := { row := heapAsksUptoRow, standIns := [], harness := (true, "7191c808d7ae4785cee7ffed34e438e209a0d274af228884e470acec208d0203"), looks := false }, kinds := [], alts := [], laidByText := true, laidKinds := [.data, .pinned], laidTests := true, laidLooks := .later }
def HeapAsksUptoCardSaid : Prop := Claim7.holds Tryz.pinned (.plain (OpenSpec.upto heapAsksSpec)) heapAsksUptoCard

/-- THE SECOND FORM's CARD OF 'cambiumlaw06.HeapChanges'. -/
def heapChangesUptoCard : Claim7 := { stood := { row := heapChangesUptoRow, standIns := [], harness := (true, "7191c808d7ae4785cee7ffed34e438e209a0d274af228884e470acec208d0203"), looks := false }, kinds := [], alts := [], laidByText := true, laidKinds := [.data, .pinned], laidTests := true, laidLooks := .later }
def HeapChangesUptoCardSaid : Prop := Claim7.holds Tryz.pinned (.plain (OpenSpec.upto heapChangesSpec)) heapChangesUptoCard

/-- THE SECOND FORM's CARD OF 'cambiumlaw06.HeapOwn'. -/
def heapOwnUptoCard : Claim7 := { stood := { row := heapOwnUptoRow, standIns := [], harness := (true, "7191c808d7ae4785cee7ffed34e438e209a0d274af228884e470acec208d0203"), looks := false }, kinds := [], alts := [], laidByText := true, laidKinds := [.data, .pinned], laidTests := true, laidLooks := .later }
def HeapOwnUptoCardSaid : Prop := Claim7.holds Tryz.pinned (.plain (OpenSpec.upto heapOwnSpec)) heapOwnUptoCard

/-- THE SECOND FORM's CARD OF 'cambiumlaw06.HeapKept'. -/
def heapKeptUptoCard : Claim7 := { stood := { row := heapKeptUptoRow, standIns := [], harness := (true, "7191c808d7ae4785cee7ffed34e438e209a0d274af228884e470acec208d0203"), looks := false }, kinds := [], alts := [], laidByText := true, laidKinds := [.data, .pinned], laidTests := true, laidLooks := .later }
def HeapKeptUptoCardSaid : Prop := Claim7.holds Tryz.pinned (.plain (OpenSpec.upto heapKeptSpec)) heapKeptUptoCard

/-- THE SECOND FORM's CARD OF 'cambiumlaw06.HeapSwept'. -/
def heapSweptUptoCard : Claim7 := { stood := { row := heapSweptUptoRow, standIns := [], harness := (true, "7191c808d7ae4785cee7ffed34e438e209a0d274af228884e470acec208d0203"), looks := false }, kinds := [], alts := [], laidByText := true, laidKinds := [.data, .pinned], laidTests := true, laidLooks := .later }
def HeapSweptUptoCardSaid : Prop := Claim7.holds Tryz.pinned (.plain (OpenSpec.upto heapSweptSpec)) heapSweptUptoCard
end Rows
end Go.Proofs.YtimkklaidodkdaaGreatDoor
