/-
  NARROWER THAN 'FOR EVERY INPUT', by the rows' own cells (each row's printed sentence says how): TopNamed: laid · HeapOnce: laid · HeapHolds: laid · HeapRoom: laid · HeapAsks: laid · HeapChanges: laid · HeapOwn: laid · HeapKept: laid · HeapSwept: laid.
  DERIVED. THE GIVEN ROWS OF THIS SEAT. 9 by the template 'for every input the law returns true; each argument reads behind the call as it read before'; 0 by the template 'total and deterministic' (their statements: YtimkklaidodkdaaGreatDoorTotals.lean).
  GIVEN WITH THE SEED: the statements are not yours to turn. If you find one false, say at which input.
  Laid BY PROGRAM, IN A SANDBOX (cutbox-rows.mjs): the forced cells as the released guide's own fill.sh prints them over the translation 66957775514e96c5… (all of the seat's roots in one cut). By AI agents, Wed Nov 11 2026. No macro, syntax, notation, axiom, sorry.
-/
import Derived.Test.YtimkklaidodkdaaGreatDoorChecked
import GoSem.PinnedTables
import GoSem.Claim
import GoSem.ClaimJoined
import GoSem.ClaimMapViews
import Derived.JoinedTies
import Derived.KernelRfl
namespace Go.Proofs.YtimkklaidodkdaaGreatDoor
/- THE CELL 'sum', in the pinned program and in every row, IS THE sha256 OF THE DUMP (.gsa) THAT YtimkklaidodkdaaGreatDoorProg.lean LOADS. Nothing in Lean hashes anything: it is a label: what it is worth is what the hold of that sum in a sandbox is worth. -/
noncomputable def Tryz.pinned : Pinned := { name := "ytimkklaidodkdaagreatdoor", sum := "66957775514e96c57dded35e37ea037a5901bc95340f36d500a49e2d29a99c83", checked := Tryz.checked }
namespace Rows
def none {H : Type} : Left H := { results := [], args := [] }

/- WHAT THE LISTED PACKAGE-LEVEL VARIABLES READ AS WHEN THE CALL BEGINS. Each datum BY PROGRAM (the guide's laid-datum.mjs) off the statement by which the dump's own 'gosem.cut.vars' lays the variable. In a bare row this is a premise. The card (YtimkklaidodkdaaGreatDoorCards.lean) ties it to the program's text. -/
def laid_unicode_utf8_acceptRanges {H : Type} : DataW H := .agg [.agg [.lit (.int .u8 128), .lit (.int .u8 191)], .agg [.lit (.int .u8 160), .lit (.int .u8 191)], .agg [.lit (.int .u8 128), .lit (.int .u8 159)], .agg [.lit (.int .u8 144), .lit (.int .u8 191)], .agg [.lit (.int .u8 128), .lit (.int .u8 143)], .agg [.lit (.int .u8 0), .lit (.int .u8 0)], .agg [.lit (.int .u8 0), .lit (.int .u8 0)], .agg [.lit (.int .u8 0), .lit (.int .u8 0)], .agg [.lit (.int .u8 0), .lit (.int .u8 0)], .agg [.lit (.int .u8 0), .lit (.int .u8 0)], .agg [.lit (.int .u8 0), .lit (.int .u8 0)], .agg [.lit (.int .u8 0), .lit (.int .u8 0)], .agg [.lit (.int .u8 0), .lit (.int .u8 0)], .agg [.lit (.int .u8 0), .lit (.int .u8 0)], .agg [.lit (.int .u8 0), .lit (.int .u8 0)], .agg [.lit (.int .u8 0), .lit (.int .u8 0)]]
/-- One of Go's own tables, pinned by name: the form's constant. -/
def laid_unicode_utf8_first : DataW Unit := Go.Pinned.utf8First

/-- 'cambiumtop.TopNamed': WHATEVER THE INPUT: true; the input reads as it did. -/
def topNamedSpec : ChangeSpec := { name := "topNamed", fn := fun _ => fun
  | [d1, d2] => { results := [.lit (.bool true)], args := [d1, d2] }
  | _ => none }
def topNamedRow : OpenClaim := { program := "ytimkklaidodkdaagreatdoor", sum := "66957775514e96c57dded35e37ea037a5901bc95340f36d500a49e2d29a99c83", func := "cambium/cambiumtop.TopNamed", spec := "topNamed", inPlace := ["sync/atomic.AddUint64", "internal/abi.NoEscape", "internal/bytealg.MakeNoZero", "internal/bytealg.IndexByteString", "internal/bytealg.IndexString", "sync/atomic.AddInt64", "slices.overlaps[*cambium/heap.cell]"], unfollowed := true, recurses := true, named := ["unicode/utf8.first", "unicode/utf8.acceptRanges", "internal/bytealg.MaxLen"], apart := false, laid := [("unicode/utf8.acceptRanges", laid_unicode_utf8_acceptRanges), ("unicode/utf8.first", laid_unicode_utf8_first)] }
def TopNamedSaid : Prop := topNamedRow.holds Tryz.pinned (OpenSpec.ofChange topNamedSpec)

/-- ITS FALSE NEIGHBOUR: 'it returns false'. Refute it at one input. -/
def topNamedWrong : ChangeSpec := { name := "topNamed", fn := fun _ => fun
  | [d1, d2] => { results := [.lit (.bool false)], args := [d1, d2] }
  | _ => none }
def TopNamedWrongFalsely : Prop := topNamedRow.holds Tryz.pinned (OpenSpec.ofChange topNamedWrong)

/-- 'cambiumlaw06.HeapOnce': WHATEVER THE INPUT: true; the input reads as it did. -/
def heapOnceSpec : ChangeSpec := { name := "heapOnce", fn := fun _ => fun
  | [d1, d2] => { results := [.lit (.bool true)], args := [d1, d2] }
  | _ => none }
def heapOnceRow : OpenClaim := { program := "ytimkklaidodkdaagreatdoor", sum := "66957775514e96c57dded35e37ea037a5901bc95340f36d500a49e2d29a99c83", func := "cambium/cambiumlaw06.HeapOnce", spec := "heapOnce", inPlace := ["internal/abi.NoEscape", "internal/bytealg.MakeNoZero", "sync/atomic.AddUint64", "internal/bytealg.IndexByteString", "internal/bytealg.IndexString", "sync/atomic.AddInt64", "slices.overlaps[*cambium/heap.cell]"], unfollowed := true, recurses := true, named := ["unicode/utf8.first", "unicode/utf8.acceptRanges", "internal/bytealg.MaxLen"], apart := false, laid := [("unicode/utf8.acceptRanges", laid_unicode_utf8_acceptRanges), ("unicode/utf8.first", laid_unicode_utf8_first)] }
def HeapOnceSaid : Prop := heapOnceRow.holds Tryz.pinned (OpenSpec.ofChange heapOnceSpec)

/-- ITS FALSE NEIGHBOUR: 'it returns false'. Refute it at one input. -/
def heapOnceWrong : ChangeSpec := { name := "heapOnce", fn := fun _ => fun
  | [d1, d2] => { results := [.lit (.bool false)], args := [d1, d2] }
  | _ => none }
def HeapOnceWrongFalsely : Prop := heapOnceRow.holds Tryz.pinned (OpenSpec.ofChange heapOnceWrong)

/-- 'cambiumlaw06.HeapHolds': WHATEVER THE INPUT: true; the input reads as it did. -/
def heapHoldsSpec : ChangeSpec := { name := "heapHolds", fn := fun _ => fun
  | [d1, d2] => { results := [.lit (.bool true)], args := [d1, d2] }
  | _ => none }
def heapHoldsRow : OpenClaim := { program := "ytimkklaidodkdaagreatdoor", sum := "66957775514e96c57dded35e37ea037a5901bc95340f36d500a49e2d29a99c83", func := "cambium/cambiumlaw06.HeapHolds", spec := "heapHolds", inPlace := ["internal/abi.NoEscape", "internal/bytealg.MakeNoZero", "sync/atomic.AddUint64", "internal/bytealg.IndexByteString", "internal/bytealg.IndexString", "sync/atomic.AddInt64", "slices.overlaps[*cambium/heap.cell]"], unfollowed := true, recurses := true, named := ["unicode/utf8.first", "unicode/utf8.acceptRanges", "internal/bytealg.MaxLen"], apart := false, laid := [("unicode/utf8.acceptRanges", laid_unicode_utf8_acceptRanges), ("unicode/utf8.first", laid_unicode_utf8_first)] }
def HeapHoldsSaid : Prop := heapHoldsRow.holds Tryz.pinned (OpenSpec.ofChange heapHoldsSpec)

/-- ITS FALSE NEIGHBOUR: 'it returns false'. Refute it at one input. -/
def heapHoldsWrong : ChangeSpec := { name := "heapHolds", fn := fun _ => fun
  | [d1, d2] => { results := [.lit (.bool false)], args := [d1, d2] }
  | _ => none }
def HeapHoldsWrongFalsely : Prop := heapHoldsRow.holds Tryz.pinned (OpenSpec.ofChange heapHoldsWrong)

/-- 'cambiumlaw06.HeapRoom': WHATEVER THE INPUT: true; the input reads as it did. -/
def heapRoomSpec : ChangeSpec := { name := "heapRoom", fn := fun _ => fun
  | [d1, d2] => { results := [.lit (.bool true)], args := [d1, d2] }
  | _ => none }
def heapRoomRow : OpenClaim := { program := "ytimkklaidodkdaagreatdoor", sum := "66957775514e96c57dded35e37ea037a5901bc95340f36d500a49e2d29a99c83", func := "cambium/cambiumlaw06.HeapRoom", spec := "heapRoom", inPlace := ["internal/abi.NoEscape", "internal/bytealg.MakeNoZero", "sync/atomic.AddUint64", "internal/bytealg.IndexByteString", "internal/bytealg.IndexString", "sync/atomic.AddInt64", "slices.overlaps[*cambium/heap.cell]"], unfollowed := true, recurses := true, named := ["unicode/utf8.first", "unicode/utf8.acceptRanges", "internal/bytealg.MaxLen"], apart := false, laid := [("unicode/utf8.acceptRanges", laid_unicode_utf8_acceptRanges), ("unicode/utf8.first", laid_unicode_utf8_first)] }
def HeapRoomSaid : Prop := heapRoomRow.holds Tryz.pinned (OpenSpec.ofChange heapRoomSpec)

/-- ITS FALSE NEIGHBOUR: 'it returns false'. Refute it at one input. -/
def heapRoomWrong : ChangeSpec := { name := "heapRoom", fn := fun _ => fun
  | [d1, d2] => { results := [.lit (.bool false)], args := [d1, d2] }
  | _ => none }
def HeapRoomWrongFalsely : Prop := heapRoomRow.holds Tryz.pinned (OpenSpec.ofChange heapRoomWrong)

/-- 'cambiumlaw06.HeapAsks': WHATEVER THE INPUT: true; the input reads as it did. -/
def heapAsksSpec : ChangeSpec := { name := "heapAsks", fn := fun _ => fun
  | [d1, d2] => { results := [.lit (.bool true)], args := [d1, d2] }
  | _ => none }
def heapAsksRow : OpenClaim := { program := "ytimkklaidodkdaagreatdoor", sum := "66957775514e96c57dded35e37ea037a5901bc95340f36d500a49e2d29a99c83", func := "cambium/cambiumlaw06.HeapAsks", spec := "heapAsks", inPlace := ["internal/abi.NoEscape", "internal/bytealg.MakeNoZero", "sync/atomic.AddUint64", "internal/bytealg.IndexByteString", "internal/bytealg.IndexString", "sync/atomic.AddInt64", "slices.overlaps[*cambium/heap.cell]"], unfollowed := true, recurses := true, named := ["unicode/utf8.first", "unicode/utf8.acceptRanges", "internal/bytealg.MaxLen"], apart := false, laid := [("unicode/utf8.acceptRanges", laid_unicode_utf8_acceptRanges), ("unicode/utf8.first", laid_unicode_utf8_first)] }
def HeapAsksSaid : Prop := heapAsksRow.holds Tryz.pinned (OpenSpec.ofChange heapAsksSpec)

/-- ITS FALSE NEIGHBOUR: 'it returns false'. Refute it at one input. -/
def heapAsksWrong : ChangeSpec := { name := "heapAsks", fn := fun _ => fun
  | [d1, d2] => { results := [.lit (.bool false)], args := [d1, d2] }
  | _ => none }
def HeapAsksWrongFalsely : Prop := heapAsksRow.holds Tryz.pinned (OpenSpec.ofChange heapAsksWrong)

/-- 'cambiumlaw06.HeapChanges': WHATEVER THE INPUT: true; the input reads as it did. -/
def heapChangesSpec : ChangeSpec := { name := "heapChanges", fn := fun _ => fun
  | [d1, d2, d3] => { results := [.lit (.bool true)], args := [d1, d2, d3] }
  | _ => none }
def heapChangesRow : OpenClaim := { program := "ytimkklaidodkdaagreatdoor", sum := "66957775514e96c57dded35e37ea037a5901bc95340f36d500a49e2d29a99c83", func := "cambium/cambiumlaw06.HeapChanges", spec := "heapChanges", inPlace := ["internal/abi.NoEscape", "internal/bytealg.MakeNoZero", "sync/atomic.AddUint64", "internal/bytealg.IndexByteString", "internal/bytealg.IndexString", "sync/atomic.AddInt64", "slices.overlaps[*cambium/heap.cell]"], unfollowed := true, recurses := true, named := ["unicode/utf8.first", "unicode/utf8.acceptRanges", "internal/bytealg.MaxLen"], apart := false, laid := [("unicode/utf8.acceptRanges", laid_unicode_utf8_acceptRanges), ("unicode/utf8.first", laid_unicode_utf8_first)] }
def HeapChangesSaid : Prop := heapChangesRow.holds Tryz.pinned (OpenSpec.ofChange heapChangesSpec)

/-- ITS FALSE NEIGHBOUR: 'it returns false'. Refute it at one input. -/
def heapChangesWrong : ChangeSpec := { name := "heapChanges", fn := fun _ => fun
  | [d1, d2, d3] => { results := [.lit (.bool false)], args := [d1, d2, d3] }
  | _ => none }
def HeapChangesWrongFalsely : Prop := heapChangesRow.holds Tryz.pinned (OpenSpec.ofChange heapChangesWrong)

/-- 'cambiumlaw06.HeapOwn': WHATEVER THE INPUT: true; the input reads as it did. -/
def heapOwnSpec : ChangeSpec := { name := "heapOwn", fn := fun _ => fun
  | [d1, d2, d3] => { results := [.lit (.bool true)], args := [d1, d2, d3] }
  | _ => none }
def heapOwnRow : OpenClaim := { program := "ytimkklaidodkdaagreatdoor", sum := "66957775514e96c57dded35e37ea037a5901bc95340f36d500a49e2d29a99c83", func := "cambium/cambiumlaw06.HeapOwn", spec := "heapOwn", inPlace := ["internal/abi.NoEscape", "internal/bytealg.MakeNoZero", "sync/atomic.AddUint64", "internal/bytealg.IndexByteString", "internal/bytealg.IndexString", "sync/atomic.AddInt64", "slices.overlaps[*cambium/heap.cell]"], unfollowed := true, recurses := true, named := ["unicode/utf8.first", "unicode/utf8.acceptRanges", "internal/bytealg.MaxLen"], apart := false, laid := [("unicode/utf8.acceptRanges", laid_unicode_utf8_acceptRanges), ("unicode/utf8.first", laid_unicode_utf8_first)] }
def HeapOwnSaid : Prop := heapOwnRow.holds Tryz.pinned (OpenSpec.ofChange heapOwnSpec)

/-- ITS FALSE NEIGHBOUR: 'it returns false'. Refute it at one input. -/
def heapOwnWrong : ChangeSpec := { name := "heapOwn", fn := fun _ => fun
  | [d1, d2, d3] => { results := [.lit (.bool false)], args := [d1, d2, d3] }
  | _ => none }
def HeapOwnWrongFalsely : Prop := heapOwnRow.holds Tryz.pinned (OpenSpec.ofChange heapOwnWrong)

/-- 'cambiumlaw06.HeapKept': WHATEVER THE INPUT: true; the input reads as it did. -/
def heapKeptSpec : ChangeSpec := { name := "heapKept", fn := fun _ => fun
  | [d1, d2, d3] => { results := [.lit (.bool true)], args := [d1, d2, d3] }
  | _ => none }
def heapKeptRow : OpenClaim := { program := "ytimkklaidodkdaagreatdoor", sum := "66957775514e96c57dded35e37ea037a5901bc95340f36d500a49e2d29a99c83", func := "cambium/cambiumlaw06.HeapKept", spec := "heapKept", inPlace := ["internal/abi.NoEscape", "internal/bytealg.MakeNoZero", "sync/atomic.AddUint64", "internal/bytealg.IndexByteString", "internal/bytealg.IndexString", "sync/atomic.AddInt64", "slices.overlaps[*cambium/heap.cell]"], unfollowed := true, recurses := true, named := ["unicode/utf8.first", "unicode/utf8.acceptRanges", "internal/bytealg.MaxLen"], apart := false, laid := [("unicode/utf8.acceptRanges", laid_unicode_utf8_acceptRanges), ("unicode/utf8.first", laid_unicode_utf8_first)] }
def HeapKeptSaid : Prop := heapKeptRow.holds Tryz.pinned (OpenSpec.ofChange heapKeptSpec)

/-- ITS FALSE NEIGHBOUR: 'it returns false'. Refute it at one input. -/
def heapKeptWrong : ChangeSpec := { name := "heapKept", fn := fun _ => fun
  | [d1, d2, d3] => { results := [.lit (.bool false)], args := [d1, d2, d3] }
  | _ => none }
def HeapKeptWrongFalsely : Prop := heapKeptRow.holds Tryz.pinned (OpenSpec.ofChange heapKeptWrong)

/-- 'cambiumlaw06.HeapSwept': WHATEVER THE INPUT: true; the input reads as it did. -/
def heapSweptSpec : ChangeSpec := { name := "heapSwept", fn := fun _ => fun
  | [d] => { results := [.lit (.bool true)], args := [d] }
  | _ => none }
def heapSweptRow : OpenClaim := { program := "ytimkklaidodkdaagreatdoor", sum := "66957775514e96c57dded35e37ea037a5901bc95340f36d500a49e2d29a99c83", func := "cambium/cambiumlaw06.HeapSwept", spec := "heapSwept", inPlace := ["internal/abi.NoEscape", "internal/bytealg.MakeNoZero", "sync/atomic.AddUint64", "internal/bytealg.IndexByteString", "internal/bytealg.IndexString", "sync/atomic.AddInt64", "slices.overlaps[*cambium/heap.cell]"], unfollowed := true, recurses := true, named := ["unicode/utf8.first", "unicode/utf8.acceptRanges", "internal/bytealg.MaxLen"], apart := false, laid := [("unicode/utf8.acceptRanges", laid_unicode_utf8_acceptRanges), ("unicode/utf8.first", laid_unicode_utf8_first)] }
def HeapSweptSaid : Prop := heapSweptRow.holds Tryz.pinned (OpenSpec.ofChange heapSweptSpec)

/-- ITS FALSE NEIGHBOUR: 'it returns false'. Refute it at one input. -/
def heapSweptWrong : ChangeSpec := { name := "heapSwept", fn := fun _ => fun
  | [d] => { results := [.lit (.bool false)], args := [d] }
  | _ => none }
def HeapSweptWrongFalsely : Prop := heapSweptRow.holds Tryz.pinned (OpenSpec.ofChange heapSweptWrong)

/- THE SECOND FORM. 'bulk': how many values and letters a reading holds, each counted each time it is reached (what is shared counts as often as it is met; a slice's spare places count too). A statement '..UptoSaid' is the law's where the arguments, and the package variables that the reading takes, are together of bulk at most 1048576: NARROWER than '..Said'. Prove '..Said' where nothing that the law and all that it calls make is longer than what came in: it says more and counts as full. Else prove '..UptoSaid'. A law counts once. -/
mutual
def uptoBulk {H : Type} : DataW H → Nat
  | .lit (.string bytes) => bytes.length + 1
  | .lit _ => 1
  | .nil => 1
  | .ptr d => uptoBulk d + 1
  | .slice elems spare => uptoBulkAll elems + uptoBulkAll spare + 1
  | .agg parts => uptoBulkAll parts + 1
  | .iface _ d => uptoBulk d + 1
  | .map entries => uptoBulkEntries entries + 1
  | .held _ => 1
def uptoBulkAll {H : Type} : List (DataW H) → Nat
  | [] => 0
  | d :: r => uptoBulk d + uptoBulkAll r
def uptoBulkEntries {H : Type} : List (Lit × DataW H) → Nat
  | [] => 0
  | x :: r => uptoBulkEntry x + uptoBulkEntries r
def uptoBulkEntry {H : Type} : Lit × DataW H → Nat
  | (.string bytes, d) => bytes.length + uptoBulk d + 1
  | (_, d) => uptoBulk d + 1
 end
def uptoSmall : (H : Type) → List (DataW H) → Bool := fun _ ds => decide (uptoBulkAll ds ≤ 1048576)
def OpenSpec.upto (s : _root_.Go.ChangeSpec) : _root_.Go.OpenSpec := { _root_.Go.OpenSpec.ofChange s with cond := some uptoSmall }

/-- 'cambiumtop.TopNamed', WHERE WHAT IT READS IS OF BULK AT MOST 1048576: true; the input reads as it did. -/
def topNamedUptoRow : OpenClaim := { program := "ytimkklaidodkdaagreatdoor", sum := "66957775514e96c57dded35e37ea037a5901bc95340f36d500a49e2d29a99c83", func := "cambium/cambiumtop.TopNamed", spec := "topNamed", inPlace := ["sync/atomic.AddUint64", "internal/abi.NoEscape", "internal/bytealg.MakeNoZero", "internal/bytealg.IndexByteString", "internal/bytealg.IndexString", "sync/atomic.AddInt64", "slices.overlaps[*cambium/heap.cell]"], unfollowed := true, recurses := true, named := ["unicode/utf8.first", "unicode/utf8.acceptRanges", "internal/bytealg.MaxLen"], apart := false, laid := [("unicode/utf8.acceptRanges", laid_unicode_utf8_acceptRanges), ("unicode/utf8.first", laid_unicode_utf8_first)], narrowed := true }
def TopNamedUptoSaid : Prop := topNamedUptoRow.holds Tryz.pinned (OpenSpec.upto topNamedSpec)

/-- 'cambiumlaw06.HeapOnce', WHERE WHAT IT READS IS OF BULK AT MOST 1048576: true; the input reads as it did. -/
def heapOnceUptoRow : OpenClaim := { program := "ytimkklaidodkdaagreatdoor", sum := "66957775514e96c57dded35e37ea037a5901bc95340f36d500a49e2d29a99c83", func := "cambium/cambiumlaw06.HeapOnce", spec := "heapOnce", inPlace := ["internal/abi.NoEscape", "internal/bytealg.MakeNoZero", "sync/atomic.AddUint64", "internal/bytealg.IndexByteString", "internal/bytealg.IndexString", "sync/atomic.AddInt64", "slices.overlaps[*cambium/heap.cell]"], unfollowed := true, recurses := true, named := ["unicode/utf8.first", "unicode/utf8.acceptRanges", "internal/bytealg.MaxLen"], apart := false, laid := [("unicode/utf8.acceptRanges", laid_unicode_utf8_acceptRanges), ("unicode/utf8.first", laid_unicode_utf8_first)], narrowed := true }
def HeapOnceUptoSaid : Prop := heapOnceUptoRow.holds Tryz.pinned (OpenSpec.upto heapOnceSpec)

/-- 'cambiumlaw06.HeapHolds', WHERE WHAT IT READS IS OF BULK AT MOST 1048576: true; the input reads as it did. -/
def heapHoldsUptoRow : OpenClaim := { program := "ytimkklaidodkdaagreatdoor", sum := "66957775514e96c57dded35e37ea037a5901bc95340f36d500a49e2d29a99c83", func := "cambium/cambiumlaw06.HeapHolds", spec := "heapHolds", inPlace := ["internal/abi.NoEscape", "internal/bytealg.MakeNoZero", "sync/atomic.AddUint64", "internal/bytealg.IndexByteString", "internal/bytealg.IndexString", "sync/atomic.AddInt64", "slices.overlaps[*cambium/heap.cell]"], unfollowed := true, recurses := true, named := ["unicode/utf8.first", "unicode/utf8.acceptRanges", "internal/bytealg.MaxLen"], apart := false, laid := [("unicode/utf8.acceptRanges", laid_unicode_utf8_acceptRanges), ("unicode/utf8.first", laid_unicode_utf8_first)], narrowed := true }
def HeapHoldsUptoSaid : Prop := heapHoldsUptoRow.holds Tryz.pinned (OpenSpec.upto heapHoldsSpec)

/-- 'cambiumlaw06.HeapRoom', WHERE WHAT IT READS IS OF BULK AT MOST 1048576: true; the input reads as it did. -/
def heapRoomUptoRow : OpenClaim := { program := "ytimkklaidodkdaagreatdoor", sum := "66957775514e96c57dded35e37ea037a5901bc95340f36d500a49e2d29a99c83", func := "cambium/cambiumlaw06.HeapRoom", spec := "heapRoom", inPlace := ["internal/abi.NoEscape", "internal/bytealg.MakeNoZero", "sync/atomic.AddUint64", "internal/bytealg.IndexByteString", "internal/bytealg.IndexString", "sync/atomic.AddInt64", "slices.overlaps[*cambium/heap.cell]"], unfollowed := true, recurses := true, named := ["unicode/utf8.first", "unicode/utf8.acceptRanges", "internal/bytealg.MaxLen"], apart := false, laid := [("unicode/utf8.acceptRanges", laid_unicode_utf8_acceptRanges), ("unicode/utf8.first", laid_unicode_utf8_first)], narrowed := true }
def HeapRoomUptoSaid : Prop := heapRoomUptoRow.holds Tryz.pinned (OpenSpec.upto heapRoomSpec)

/-- 'cambiumlaw06.HeapAsks', WHERE WHAT IT READS IS OF BULK AT MOST 1048576: true; the input reads as it did. -/
def heapAsksUptoRow : OpenClaim := { program := "ytimkklaidodkdaagreatdoor", sum := "66957775514e96c57dded35e37ea037a5901bc95340f36d500a49e2d29a99c83", func := "cambium/cambiumlaw06.HeapAsks", spec := "heapAsks", inPlace := ["internal/abi.NoEscape", "internal/bytealg.MakeNoZero", "sync/atomic.AddUint64", "internal/bytealg.IndexByteString", "internal/bytealg.IndexString", "sync/atomic.AddInt64", "slices.overlaps[*cambium/heap.cell]"], unfollowed := true, recurses := true, named := ["unicode/utf8.first", "unicode/utf8.acceptRanges", "internal/bytealg.MaxLen"], apart := false, laid := [("unicode/utf8.acceptRanges", laid_unicode_utf8_acceptRanges), ("unicode/utf8.first", laid_unicode_utf8_first)], narrowed := true }
def HeapAsksUptoSaid : Prop := heapAsksUptoRow.holds Tryz.pinned (OpenSpec.upto heapAsksSpec)

/-- 'cambiumlaw06.HeapChanges', WHERE WHAT IT READS IS OF BULK AT MOST 1048576: true; the input reads as it did. -/
def heapChangesUptoRow : OpenClaim := { program := "ytimkklaidodkdaagreatdoor", sum := "66957775514e96c57dded35e37ea037a5901bc95340f36d500a49e2d29a99c83", func := "cambium/cambiumlaw06.HeapChanges", spec := "heapChanges", inPlace := ["internal/abi.NoEscape", "internal/bytealg.MakeNoZero", "sync/atomic.AddUint64", "internal/bytealg.IndexByteString", "internal/bytealg.IndexString", "sync/atomic.AddInt64", "slices.overlaps[*cambium/heap.cell]"], unfollowed := true, recurses := true, named := ["unicode/utf8.first", "unicode/utf8.acceptRanges", "internal/bytealg.MaxLen"], apart := false, laid := [("unicode/utf8.acceptRanges", laid_unicode_utf8_acceptRanges), ("unicode/utf8.first", laid_unicode_utf8_first)], narrowed := true }
def HeapChangesUptoSaid : Prop := heapChangesUptoRow.holds Tryz.pinned (OpenSpec.upto heapChangesSpec)

/-- 'cambiumlaw06.HeapOwn', WHERE WHAT IT READS IS OF BULK AT MOST 1048576: true; the input reads as it did. -/
def heapOwnUptoRow : OpenClaim := { program := "ytimkklaidodkdaagreatdoor", sum := "66957775514e96c57dded35e37ea037a5901bc95340f36d500a49e2d29a99c83", func := "cambium/cambiumlaw06.HeapOwn", spec := "heapOwn", inPlace := ["internal/abi.NoEscape", "internal/bytealg.MakeNoZero", "sync/atomic.AddUint64", "internal/bytealg.IndexByteString", "internal/bytealg.IndexString", "sync/atomic.AddInt64", "slices.overlaps[*cambium/heap.cell]"], unfollowed := true, recurses := true, named := ["unicode/utf8.first", "unicode/utf8.acceptRanges", "internal/bytealg.MaxLen"], apart := false, laid := [("unicode/utf8.acceptRanges", laid_unicode_utf8_acceptRanges), ("unicode/utf8.first", laid_unicode_utf8_first)], narrowed := true }
def HeapOwnUptoSaid : Prop := heapOwnUptoRow.holds Tryz.pinned (OpenSpec.upto heapOwnSpec)

/-- 'cambiumlaw06.HeapKept', WHERE WHAT IT READS IS OF BULK AT MOST 1048576: true; the input reads as it did. -/
def heapKeptUptoRow : OpenClaim := { program := "ytimkklaidodkdaagreatdoor", sum := "66957775514e96c57dded35e37ea037a5901bc95340f36d500a49e2d29a99c83", func := "cambium/cambiumlaw06.HeapKept", spec := "heapKept", inPlace := ["internal/abi.NoEscape", "internal/bytealg.MakeNoZero", "sync/atomic.AddUint64", "internal/bytealg.IndexByteString", "internal/bytealg.IndexString", "sync/atomic.AddInt64", "slices.overlaps[*cambium/heap.cell]"], unfollowed := true, recurses := true, named := ["unicode/utf8.first", "unicode/utf8.acceptRanges", "internal/bytealg.MaxLen"], apart := false, laid := [("unicode/utf8.acceptRanges", laid_unicode_utf8_acceptRanges), ("unicode/utf8.first", laid_unicode_utf8_first)], narrowed := true }
def HeapKeptUptoSaid : Prop := heapKeptUptoRow.holds Tryz.pinned (OpenSpec.upto heapKeptSpec)

/-- 'cambiumlaw06.HeapSwept', WHERE WHAT IT READS IS OF BULK AT MOST 1048576: true; the input reads as it did. -/
def heapSweptUptoRow : OpenClaim := { program := "ytimkklaidodkdaagreatdoor", sum := "66957775514e96c57dded35e37ea037a5901bc95340f36d500a49e2d29a99c83", func := "cambium/cambiumlaw06.HeapSwept", spec := "heapSwept", inPlace := ["internal/abi.NoEscape", "internal/bytealg.MakeNoZero", "sync/atomic.AddUint64", "internal/bytealg.IndexByteString", "internal/bytealg.IndexString", "sync/atomic.AddInt64", "slices.overlaps[*cambium/heap.cell]"], unfollowed := true, recurses := true, named := ["unicode/utf8.first", "unicode/utf8.acceptRanges", "internal/bytealg.MaxLen"], apart := false, laid := [("unicode/utf8.acceptRanges", laid_unicode_utf8_acceptRanges), ("unicode/utf8.first", laid_unicode_utf8_first)], narrowed := true }
def HeapSweptUptoSaid : Prop := heapSweptUptoRow.holds Tryz.pinned (OpenSpec.upto heapSweptSpec)

end Rows
end Go.Proofs.YtimkklaidodkdaaGreatDoor
