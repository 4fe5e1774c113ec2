/- What is held once more, and dropped, is as it was: plainly. -/
import Derived.Test.YtimkklaidodkdaaGreatDoorHeapPut
namespace Go.Proofs.YtimkklaidodkdaaGreatDoor

theorem inc_find {h : HeapD} {k : Nat} {c : CellD} (r : RightH h) (hf : findC h.cells k = some c) : findC (incC h.cells k) k = some { c with refs := c.refs + 1 } := by
  obtain ⟨hc, hn⟩ := find_mem hf
  have hm : ({ c with refs := c.refs + 1 } : CellD) ∈ incC h.cells k := List.mem_map.2 ⟨c, hc, by rw [if_pos hn]⟩
  subst hn
  exact find_of (inc_asc _ r.asc) hm
theorem inc_dec (l : List CellD) (k : Nat) : decC (incC l k) k = l := by
  unfold decC incC
  rw [List.map_map]
  conv => rhs; rw [← List.map_id l]
  refine List.map_congr_left fun c _ => ?_
  simp only [Function.comp, id]
  by_cases h : c.num = k
  · rw [if_pos h, if_pos (show ({ c with refs := c.refs + 1 } : CellD).num = k from h)]
    simp only [Int.add_sub_cancel]
  · rw [if_neg h, if_neg h]
theorem hold_some {h : HeapD} {k : Nat} (he : holdE h k = 0) : ∃ c, findC h.cells k = some c ∧ c.refs ≠ 16777216 := by
  unfold holdE at he
  cases hf : findC h.cells k with
  | none => rw [hf] at he; cases he
  | some c =>
    rw [hf] at he
    refine ⟨c, rfl, fun q => ?_⟩
    simp only [q, if_true] at he
    cases he
theorem hold_heap {h : HeapD} {k : Nat} (he : holdE h k = 0) : holdH h k = ⟨h.size, incC h.cells k⟩ := by rw [holdH, if_pos he]
theorem hold_held {h : HeapD} {k : Nat} {c : CellD} (he : holdE h k = 0) : heldC (holdH h k) { c with refs := c.refs + 1 } = heldC h c + 1 := by
  rw [hold_heap he]
  show c.refs + 1 - (ledC (incC h.cells k) c.num : Int) = c.refs - (ledC h.cells c.num : Int) + 1
  rw [inc_led]; omega
theorem hold_drop {h : HeapD} {k : Nat} {c : CellD} (r : RightH h) (he : holdE h k = 0) (hf : findC h.cells k = some c) : dropE (holdH h k) k = 0 ∧ (c.refs ≠ 0 → dropH (holdH h k) k = h) := by
  rw [hold_heap he]
  have hfi := inc_find r hf
  have hl := r.led c (find_mem hf).1
  have hd : dropE ⟨h.size, incC h.cells k⟩ k = 0 := by
    rw [dropE]
    show (match findC (incC h.cells k) k with | none => (5 : Int) | some c => if c.refs = (ledC (incC h.cells k) c.num : Int) then 7 else 0) = 0
    rw [hfi]
    show (if c.refs + 1 = (ledC (incC h.cells k) c.num : Int) then (7 : Int) else 0) = 0
    rw [inc_led, if_neg (by omega)]
  refine ⟨hd, fun h0 => ?_⟩
  rw [dropH, if_pos hd]
  show (⟨h.size, letF ((incC h.cells k).length + 1) (incC h.cells k) k⟩ : HeapD) = h
  rw [letF, hfi]
  show (⟨h.size, if c.refs + 1 - 1 = 0 then _ else decC (incC h.cells k) k⟩ : HeapD) = h
  rw [if_neg (by omega), inc_dec]

end Go.Proofs.YtimkklaidodkdaaGreatDoor
