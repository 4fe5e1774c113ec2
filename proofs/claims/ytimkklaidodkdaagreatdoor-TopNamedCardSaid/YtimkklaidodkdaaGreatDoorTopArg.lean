/- A slice of items as an argument. -/
import Derived.Test.YtimkklaidodkdaaGreatDoorHeapArg
import Derived.Test.YtimkklaidodkdaaGreatDoorTopNamedP
namespace Go.Proofs.YtimkklaidodkdaaGreatDoor
open Go.RowKit Go.ChangeShapes Go.WideShapes Go.Deep

section
variable {H : Type} {enc : TypeId × Value → H} {W : World} {base : Nat} {spare : Nat → Bool} {held : Bool}
set_option maxRecDepth 20000 in
theorem open_items {base2 : Nat} {v : Value} {d : DataW H} {ps : List MemPlace} (hv : Value.okWide Tryz.prog W .any base2 22 v) (h : DataW.Trod enc Tryz.prog W base spare held 22 v d ps) (hw : Weighs 22 d) (hlt : ∀ q ∈ ps, q.block < W.heap.size) :
    ∃ l : List ItemD, ItemsAt W.heap.size W v l ∧ fitN (leafI l) := by
  obtain ⟨fuel, hf⟩ := h
  have hslice : ∃ a n c, v = .slice a n c := okWide_slice Tryz.underlying22 hv
  obtain ⟨a, n, c, rfl⟩ := hslice
  obtain ⟨v', l, e, hs, hq, hn⟩ := open_sl (f := itemV) (z := 2) (by_ := 32) Tryz.underlying22 (by kernel_rfl) (by kernel_rfl) (by decide) elem_item (x := (d, ps)) hf hw hlt
  obtain rfl : v' = .slice a n c := by simpa [Value.cells] using e.symm
  refine ⟨l, hs, ⟨⟨?_, by show (0 : Nat) ≤ _; omega, by show (0 : Nat) ≤ _; omega⟩, fun a ha => hq a ha, by simp [leafI], by simp [leafI]⟩⟩
  unfold reachBytes at hn
  show l.length ≤ _
  omega
end

end Go.Proofs.YtimkklaidodkdaaGreatDoor
