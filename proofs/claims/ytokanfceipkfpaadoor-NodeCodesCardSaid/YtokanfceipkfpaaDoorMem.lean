/- Rows of bytes in memory: what a conversion makes, what a store turns, what is read back. Small lemmas over the program. -/
import Derived.Test.YtokanfceipkfpaaDoorProg
import Derived.WalkKit
import Derived.ProofKit
import Derived.Below
import Derived.OneCell
import Derived.Lib.Hide
import Derived.Lib.ConvBytes
import Derived.Laws.IdiomStrings
import Derived.Laws.MakeOwn
import Derived.WalkSpells
import Derived.OpenShut
namespace Go.Proofs.YtokanfceipkfpaaDoor
open Go.RowKit

theorem block_setCell {w : World} {b : Nat} {c : Array Value} {t : TypeId} {z : Nat × Nat} (h : w.heap[b]? = some (.cells c t z)) (i : Nat) (v : Value) :
    (w.setCell ⟨b, i, none⟩ v).heap[b]? = some (.cells (c.setIfInBounds i v) t z) := by
  have hlt := lt_of_block h
  have h' : w.heap[b] = .cells c t z := by simpa [Array.getElem?_eq_getElem hlt] using h
  show (w.heap.modify b _)[b]? = _
  rw [Array.getElem?_eq_getElem (by simpa using hlt), Array.getElem_modify_self, h']
  rfl

/-- Block b begins with the bytes l, each of which may be written. -/
structure ByteRow (w : World) (b : Nat) (l : List UInt8) : Prop where
  cell : ∀ j (h : j < l.length), w.cell? ⟨b, j, none⟩ = some (.int .u8 (l[j].toNat : Int))
  free : ∀ j, j < l.length → w.frozen? ⟨b, j, none⟩ = false

theorem ByteRow.below {w w' : World} {b B : Nat} {l : List UInt8} (h : ByteRow w b l) (hb : Below B w w') (hB : b < B) : ByteRow w' b l :=
  ⟨fun j hj => (hb.cell (p := ⟨b, j, none⟩) hB).trans (h.cell j hj), fun j hj => (hb.frozen (p := ⟨b, j, none⟩) hB).trans (h.free j hj)⟩

theorem ByteRow.drew {w : World} {b : Nat} {l : List UInt8} (h : ByteRow w b l) : ByteRow w.drew b l := ⟨h.cell, h.free⟩

theorem ByteRow.set {w : World} {b : Nat} {l : List UInt8} (h : ByteRow w b l) (i : Nat) (c : UInt8) (x : Int) (hx : x = (c.toNat : Int)) (hi : i < l.length) : ByteRow (w.setCell ⟨b, i, none⟩ (.int .u8 x)) b (l.set i c) := by
  subst hx
  refine ⟨fun j hj => ?_, fun j hj => ?_⟩
  · rw [List.length_set] at hj
    by_cases e : i = j
    · subst e
      rw [World.cell?_setCell_same _ _ _ (h.cell i hi)]
      simp
    · have e' : (⟨b, i, none⟩ : Addr) ≠ ⟨b, j, none⟩ := fun x => e (congrArg Addr.off x)
      rw [World.cell?_setCell_other _ _ _ _ e', h.cell j hj, List.getElem_set_ne e]
  · rw [List.length_set] at hj
    have := h.free j hj
    simp only [World.frozen?] at this ⊢
    rcases hbk : w.heap[b]? with _ | o
    · simp [World.setCell, Array.getElem?_modify, hbk]
    · cases o <;> simp_all [World.setCell, Array.getElem?_modify]

theorem ByteRow.same {w : World} {b : Nat} {l m : List UInt8} (h : ByteRow w b l) (e : l = m) : ByteRow w b m := e ▸ h

theorem size_data (s : ByteArray) : s.data.toList.length = s.size := Array.length_toList

theorem data_getElem (s : ByteArray) (j : Nat) (hj : j < s.data.toList.length) : s.data.toList.getD j 0 = s.data.toList[j] := by
  simp [List.getD, List.getElem?_eq_getElem hj]

theorem conv_bytes (w : World) (s : ByteArray) : ∃ cap W2, (convert 9 43 (.string s)).run Tryd.prog w = .ok (.slice (some ⟨w.heap.size, 0, none⟩) s.size cap) W2 ∧ s.size ≤ cap ∧
    ByteRow W2 w.heap.size s.data.toList ∧ Below w.heap.size w W2 ∧ w.heap.size < W2.heap.size := by
  refine ⟨_, _, Lib.run_convert_string_bytes w 9 43 5 s Tryd.underlying9 Tryd.underlying43 Tryd.underlying5, ?_, ?_, ?_, ?_⟩
  · exact grownCap_ge _ _ _ _
  · have hz := size_data s
    refine ⟨fun j hj => ?_, fun j hj => ?_⟩
    · rw [Lib.bytesWorld_cell w _ s j (by omega), data_getElem s j hj]
    · rw [hz] at hj
      have hc : s.size ≤ (Lib.bytesCells w 5 s).size := by
        unfold Lib.bytesCells; rw [Array.size_append, Array.size_map]
        simp only [ByteArray.size]; exact Nat.le_add_right _ _
      unfold World.frozen?
      rw [Lib.bytesWorld_at_new]
      generalize (Lib.bytesCells w 5 s).size = z at hc
      show (decide (z ≤ j) && decide (j < z + 1)) = false
      rw [decide_eq_false (show ¬ z ≤ j by omega)]; rfl
  · exact ⟨rfl, rfl, rfl, by rw [Lib.bytesWorld_size]; omega, fun k hk => Lib.bytesWorld_at_old w _ s k hk⟩
  · rw [Lib.bytesWorld_size]; omega

theorem conv_back (w : World) (b n cap : Nat) (l : List UInt8) (hl : n = l.length) (h : ByteRow w b l) :
    (convert 43 9 (.slice (some ⟨b, 0, none⟩) n cap)).run Tryd.prog w = .ok (.string ⟨l.toArray⟩) w := by
  subst hl
  exact run_convert_bytes_back w _ _ _ ⟨b, 0, none⟩ cap l Tryd.underlying43 Tryd.underlying5 Tryd.underlying9 fun j hj => by
    have : (⟨b, 0, none⟩ : Addr).add j = ⟨b, j, none⟩ := by cases j <;> simp [Addr.add]
    rw [this]; exact h.cell j hj

theorem info_u8 : (Tryd.prog.info? 5).map (fun i => (i.zero, i.size, i.bytes)) = some (some (.int .u8 0), 1, 1) := by kernel_rfl

theorem make_bytes (w : World) (k : IntKind) (n : Nat) (hn : n ≤ 281474976710656) : ∃ W2, (Instr.makeSlice 43 (.int k (n : Int)) (.int k (n : Int))).run Tryd.prog w = .ok (.slice (some ⟨w.heap.size, 0, none⟩) n n) W2 ∧
    ByteRow W2 w.heap.size (List.replicate n 0) ∧ Below w.heap.size w W2 ∧ w.heap.size < W2.heap.size := by
  obtain ⟨i0, hi, hz0, hz1, hz2⟩ := info_parts info_u8
  have hr := run_make (P := Tryd.prog) w 43 5 i0 (.int .u8 0) Tryd.underlying43 hi hz0 k k n n (by omega) (by omega) (by rw [hz2]; omega) (by omega)
  rw [Int.toNat_natCast, hz1, Nat.mul_one] at hr
  refine ⟨_, hr, ?_, (Below.refl _ _).alloc (Nat.le_refl _) _, by simp⟩
  have hb := heap_alloc_new w (.cells (madeCells (Value.int .u8 0).cells n) 5)
  refine ⟨fun j hj => ?_, fun j hj => ?_⟩
  · rw [List.length_replicate] at hj
    simp only [World.cell?, hb, Option.isSome_none, Bool.false_eq_true, if_false]
    simp [madeCells, Value.cells, hj, Nat.mod_one]
  · unfold World.frozen?
    rw [hb]
    show (decide (0 ≤ j) && decide (j < 0)) = false
    simp

theorem conv_one (w : World) (x : Int) (c : UInt8) (hx : x = (c.toNat : Int)) : (convert 43 9 (.slice (some ⟨w.heap.size, 0, none⟩) 1 1)).run Tryd.prog (w.alloc (.cells #[.int .u8 x] 5)) =
    .ok (.string ⟨#[c]⟩) (w.alloc (.cells #[.int .u8 x] 5)) := by
  subst hx
  have hb := heap_alloc_new w (.cells #[.int .u8 (c.toNat : Int)] 5)
  refine conv_back _ _ 1 1 [c] rfl ⟨fun j hj => ?_, fun j hj => ?_⟩
  · have : j = 0 := by simpa using hj
    subst this
    simp only [World.cell?, hb]
    rfl
  · unfold World.frozen?
    rw [hb]
    show (decide (0 ≤ j) && decide (j < 0)) = false
    simp

theorem u8_of {x : Int} (h : (Lit.int .u8 x).wf = true) : ∃ c : UInt8, x = (c.toNat : Int) := by
  have hb := bounds_u8 h
  refine ⟨UInt8.ofNat x.toNat, ?_⟩
  rw [UInt8.toNat_ofNat', Nat.mod_eq_of_lt (by omega)]
  omega
theorem u64_of {x : Int} (h : (Lit.int .u64 x).wf = true) : ∃ n : Nat, x = (n : Int) ∧ n < 18446744073709551616 := by
  have hb := bounds_u64 h
  exact ⟨x.toNat, by omega, by omega⟩
theorem reach {n : Nat} (h : n ≤ 140737488351232) : n ≤ maxLen := by unfold maxLen; omega

theorem take_snoc (s : ByteArray) (k : Nat) (h : k < s.size) : s.data.toList.take (k + 1) = s.data.toList.take k ++ [s[k]] := by
  rw [List.take_succ_eq_append_getElem (by simpa using h)]; rfl

theorem ret_int {k : IntKind} {a b : Int} (h : a = b) : Ending.returned (.int k a) = .returned (.int k b) := by rw [h]
theorem ret_bool {a b : Bool} (h : a = b) : Ending.returned (.bool a) = .returned (.bool b) := by rw [h]

theorem bytes_eta (s : ByteArray) : (⟨s.data.toList.toArray⟩ : ByteArray) = s := by cases s; simp

end Go.Proofs.YtokanfceipkfpaaDoor
