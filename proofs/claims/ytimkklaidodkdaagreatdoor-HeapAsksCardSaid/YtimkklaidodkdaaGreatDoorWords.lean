/- Rows of bytes in memory: what a conversion makes, what a store turns, what is read back. Small lemmas over the program. -/
/- Rows of words and of bytes in a block of their own; whole arrays loaded, stored, indexed. -/
import Derived.Test.YtimkklaidodkdaaGreatDoorProg
import Derived.WalkKit
import Derived.ProofKit
import Derived.Below
import Derived.OneCell
import Derived.Lib.Hide
import Derived.Lib.ConvBytes
import Derived.Laws.IdiomStrings
import Derived.Laws.MakeOwn
import Derived.WalkSpells
import Derived.OpenShut
import Derived.Test.YtimkklaidodkdaaGreatDoorHeapPut
import Derived.Deep.MidRow
namespace Go.Proofs.YtimkklaidodkdaaGreatDoor
open Go.RowKit

theorem block_setCell {w : World} {b : Nat} {c : Array Value} {t : TypeId} {z : Nat × Nat} (h : w.heap[b]? = some (.cells c t z)) (i : Nat) (v : Value) :
  (w.setCell ⟨b, i, none⟩ v).heap[b]? = some (.cells (c.setIfInBounds i v) t z) := by
 have hlt := lt_of_block h
 have h' : w.heap[b] = .cells c t z := by simpa [Array.getElem?_eq_getElem hlt] using h
 show (w.heap.modify b _)[b]? = _
 rw [Array.getElem?_eq_getElem (by simpa using hlt), Array.getElem_modify_self, h']
 rfl

/-- Block b begins with the bytes l, each of which may be written. -/
structure ByteRow (w : World) (b : Nat) (l : List UInt8) : Prop where
 cell : ∀ j (h : j < l.length), w.cell? ⟨b, j, none⟩ = some (.int .u8 (l[j].toNat : Int))
 free : ∀ j, j < l.length → w.frozen? ⟨b, j, none⟩ = false

theorem ByteRow.below {w w' : World} {b B : Nat} {l : List UInt8} (h : ByteRow w b l) (hb : Below B w w') (hB : b < B) : ByteRow w' b l :=
 ⟨fun j hj => (hb.cell (p := ⟨b, j, none⟩) hB).trans (h.cell j hj), fun j hj => (hb.frozen (p := ⟨b, j, none⟩) hB).trans (h.free j hj)⟩

theorem ByteRow.drew {w : World} {b : Nat} {l : List UInt8} (h : ByteRow w b l) : ByteRow w.drew b l := ⟨h.cell, h.free⟩

theorem ByteRow.set {w : World} {b : Nat} {l : List UInt8} (h : ByteRow w b l) (i : Nat) (c : UInt8) (x : Int) (hx : x = (c.toNat : Int)) (hi : i < l.length) : ByteRow (w.setCell ⟨b, i, none⟩ (.int .u8 x)) b (l.set i c) := by
 subst hx
 refine ⟨fun j hj => ?_, fun j hj => ?_⟩
 ·rw [List.length_set] at hj
  by_cases e : i = j
  ·subst e
   rw [World.cell?_setCell_same _ _ _ (h.cell i hi)]
   simp
  ·have e' : (⟨b, i, none⟩ : Addr) ≠ ⟨b, j, none⟩ := fun x => e (congrArg Addr.off x)
   rw [World.cell?_setCell_other _ _ _ _ e', h.cell j hj, List.getElem_set_ne e]
 ·rw [List.length_set] at hj
  have := h.free j hj
  simp only [World.frozen?] at this ⊢
  rcases hbk : w.heap[b]? with _ | o
  ·simp [World.setCell, Array.getElem?_modify, hbk]
  ·cases o <;> simp_all [World.setCell, Array.getElem?_modify]

theorem ByteRow.same {w : World} {b : Nat} {l m : List UInt8} (h : ByteRow w b l) (e : l = m) : ByteRow w b m := e ▸ h

theorem size_data (s : ByteArray) : s.data.toList.length = s.size := Array.length_toList

theorem data_getElem (s : ByteArray) (j : Nat) (hj : j < s.data.toList.length) : s.data.toList.getD j 0 = s.data.toList[j] := by
 simp [List.getD, List.getElem?_eq_getElem hj]

theorem conv_bytes (w : World) (s : ByteArray) : ∃ cap W2, (convert 9 75 (.string s)).run Tryz.prog w = .ok (.slice (some ⟨w.heap.size, 0, none⟩) s.size cap) W2 ∧ s.size ≤ cap ∧
  ByteRow W2 w.heap.size s.data.toList ∧ Below w.heap.size w W2 ∧ w.heap.size < W2.heap.size := by
 refine ⟨_, _, Lib.run_convert_string_bytes w 9 75 5 s Tryz.underlying9 Tryz.underlying75 Tryz.underlying5, ?_, ?_, ?_, ?_⟩
 ·exact grownCap_ge _ _ _ _
 ·have hz := size_data s
  refine ⟨fun j hj => ?_, fun j hj => ?_⟩
  ·rw [Lib.bytesWorld_cell w _ s j (by omega), data_getElem s j hj]
  ·rw [hz] at hj
   have hc : s.size ≤ (Lib.bytesCells w 5 s).size := by
    unfold Lib.bytesCells; rw [Array.size_append, Array.size_map]
    simp only [ByteArray.size]; exact Nat.le_add_right _ _
   unfold World.frozen?
   rw [Lib.bytesWorld_at_new]
   generalize (Lib.bytesCells w 5 s).size = z at hc
   show (decide (z ≤ j) && decide (j < z + 1)) = false
   rw [decide_eq_false (show ¬ z ≤ j by omega)]; rfl
 ·exact ⟨rfl, rfl, rfl, by rw [Lib.bytesWorld_size]; omega, fun k hk => Lib.bytesWorld_at_old w _ s k hk⟩
 ·rw [Lib.bytesWorld_size]; omega

theorem conv_back (w : World) (b n cap : Nat) (l : List UInt8) (hl : n = l.length) (h : ByteRow w b l) :
  (convert 75 9 (.slice (some ⟨b, 0, none⟩) n cap)).run Tryz.prog w = .ok (.string ⟨l.toArray⟩) w := by
 subst hl
 exact run_convert_bytes_back w _ _ _ ⟨b, 0, none⟩ cap l Tryz.underlying75 Tryz.underlying5 Tryz.underlying9 fun j hj => by
  have : (⟨b, 0, none⟩ : Addr).add j = ⟨b, j, none⟩ := by cases j <;> simp [Addr.add]
  rw [this]; exact h.cell j hj

theorem info_u8 : (Tryz.prog.info? 5).map (fun i => (i.zero, i.size, i.bytes)) = some (some (.int .u8 0), 1, 1) := by kernel_rfl

theorem make_bytes (w : World) (k : IntKind) (n : Nat) (hn : n ≤ 281474976710656) : ∃ W2, (Instr.makeSlice 75 (.int k (n : Int)) (.int k (n : Int))).run Tryz.prog w = .ok (.slice (some ⟨w.heap.size, 0, none⟩) n n) W2 ∧
  ByteRow W2 w.heap.size (List.replicate n 0) ∧ Below w.heap.size w W2 ∧ w.heap.size < W2.heap.size := by
 obtain ⟨i0, hi, hz0, hz1, hz2⟩ := info_parts info_u8
 have hr := run_make (P := Tryz.prog) w 75 5 i0 (.int .u8 0) Tryz.underlying75 hi hz0 k k n n (by omega) (by omega) (by rw [hz2]; omega) (by omega)
 rw [Int.toNat_natCast, hz1, Nat.mul_one] at hr
 refine ⟨_, hr, ?_, (Below.refl _ _).alloc (Nat.le_refl _) _, by simp⟩
 have hb := heap_alloc_new w (.cells (madeCells (Value.int .u8 0).cells n) 5)
 refine ⟨fun j hj => ?_, fun j hj => ?_⟩
 ·rw [List.length_replicate] at hj
  simp only [World.cell?, hb, Option.isSome_none, Bool.false_eq_true, if_false]
  simp [madeCells, Value.cells, hj, Nat.mod_one]
 ·unfold World.frozen?
  rw [hb]
  show (decide (0 ≤ j) && decide (j < 0)) = false
  simp

theorem conv_one (w : World) (x : Int) (c : UInt8) (hx : x = (c.toNat : Int)) : (convert 75 9 (.slice (some ⟨w.heap.size, 0, none⟩) 1 1)).run Tryz.prog (w.alloc (.cells #[.int .u8 x] 5)) =
  .ok (.string ⟨#[c]⟩) (w.alloc (.cells #[.int .u8 x] 5)) := by
 subst hx
 have hb := heap_alloc_new w (.cells #[.int .u8 (c.toNat : Int)] 5)
 refine conv_back _ _ 1 1 [c] rfl ⟨fun j hj => ?_, fun j hj => ?_⟩
 ·have : j = 0 := by simpa using hj
  subst this
  simp only [World.cell?, hb]
  rfl
 ·unfold World.frozen?
  rw [hb]
  show (decide (0 ≤ j) && decide (j < 0)) = false
  simp

theorem u8_of {x : Int} (h : (Lit.int .u8 x).wf = true) : ∃ c : UInt8, x = (c.toNat : Int) := by
 have hb := bounds_u8 h
 refine ⟨UInt8.ofNat x.toNat, ?_⟩
 rw [UInt8.toNat_ofNat', Nat.mod_eq_of_lt (by omega)]
 omega
theorem u64_of {x : Int} (h : (Lit.int .u64 x).wf = true) : ∃ n : Nat, x = (n : Int) ∧ n < 18446744073709551616 := by
 have hb := bounds_u64 h
 exact ⟨x.toNat, by omega, by omega⟩
theorem reach {n : Nat} (h : n ≤ 140737488351232) : n ≤ maxLen := by unfold maxLen; omega

theorem take_snoc (s : ByteArray) (k : Nat) (h : k < s.size) : s.data.toList.take (k + 1) = s.data.toList.take k ++ [s[k]] := by
 rw [List.take_succ_eq_append_getElem (by simpa using h)]; rfl

theorem ret_int {k : IntKind} {a b : Int} (h : a = b) : Ending.returned (.int k a) = .returned (.int k b) := by rw [h]
theorem ret_bool {a b : Bool} (h : a = b) : Ending.returned (.bool a) = .returned (.bool b) := by rw [h]

theorem bytes_eta (s : ByteArray) : (⟨s.data.toList.toArray⟩ : ByteArray) = s := by cases s; simp

end Go.Proofs.YtimkklaidodkdaaGreatDoor

namespace Go.Proofs.YtimkklaidodkdaaGreatDoor
open Go.RowKit

def wordCells (l : List (BitVec 32)) : Array Value := (l.map fun x => Value.int .u32 (uw x)).toArray
def byteCells (l : List UInt8) : Array Value := (l.map fun c => Value.int .u8 (c.toNat : Int)).toArray
theorem wordCells_size (l : List (BitVec 32)) : (wordCells l).size = l.length := by simp [wordCells]
theorem byteCells_size (l : List UInt8) : (byteCells l).size = l.length := by simp [byteCells]
theorem wordCells_toList (l : List (BitVec 32)) : (wordCells l).toList = l.map fun x => Value.int .u32 (uw x) := rfl
theorem byteCells_toList (l : List UInt8) : (byteCells l).toList = l.map fun c => Value.int .u8 (c.toNat : Int) := rfl
theorem wordCells_get (l : List (BitVec 32)) (j : Nat) (h : j < l.length) : (wordCells l)[j]? = some (.int .u32 (uw l[j])) := by simp [wordCells, h]
theorem byteCells_get (l : List UInt8) (j : Nat) (h : j < l.length) : (byteCells l)[j]? = some (.int .u8 (l[j].toNat : Int)) := by simp [byteCells, h]
theorem wordCells_set (l : List (BitVec 32)) (j : Nat) (x : BitVec 32) : (wordCells l).setIfInBounds j (.int .u32 (uw x)) = wordCells (l.set j x) := by
 apply Array.ext'; simp [wordCells, List.map_set]
theorem byteCells_set (l : List UInt8) (j : Nat) (x : UInt8) : (byteCells l).setIfInBounds j (.int .u8 (x.toNat : Int)) = byteCells (l.set j x) := by
 apply Array.ext'; simp [byteCells, List.map_set]
theorem byteCells_inj {l m : List UInt8} (h : byteCells l = byteCells m) : l = m := by
 have h' : (byteCells l).toList = (byteCells m).toList := by rw [h]
 rw [byteCells_toList, byteCells_toList] at h'
 have : Function.Injective (fun c : UInt8 => Value.int .u8 (c.toNat : Int)) := fun a b e => by
  injection e with _ e2
  exact UInt8.toNat_inj.1 (by omega)
 exact (List.map_inj_right (f := fun c : UInt8 => Value.int .u8 (c.toNat : Int)) (fun a b e => this e)).1 h'
theorem wordCells_one (l : List (BitVec 32)) : (wordCells l).all (·.oneCell') = true := by
 rw [Array.all_eq_true_iff_forall_mem]
 intro v hv
 simp only [wordCells, List.mem_toArray, List.mem_map] at hv
 obtain ⟨x, _, rfl⟩ := hv
 rfl
theorem byteCells_one (l : List UInt8) : (byteCells l).all (·.oneCell') = true := by
 rw [Array.all_eq_true_iff_forall_mem]
 intro v hv
 simp only [byteCells, List.mem_toArray, List.mem_map] at hv
 obtain ⟨x, _, rfl⟩ := hv
 rfl

/-- Block b is the row of cells C, of element type t, free to be written. -/
def RowIs (w : World) (b : Nat) (t : TypeId) (C : Array Value) : Prop := w.heap[b]? = some (.cells C t (0, 0))

theorem RowIs.cell {w : World} {b : Nat} {t : TypeId} {C : Array Value} (h : RowIs w b t C) (j : Nat) : w.cell? ⟨b, j, none⟩ = C[j]? := cell_of_row w b j C t _ h
theorem RowIs.free {w : World} {b : Nat} {t : TypeId} {C : Array Value} (h : RowIs w b t C) (j : Nat) : w.frozen? ⟨b, j, none⟩ = false := frozen_of_row w b j C t h
theorem RowIs.set {w : World} {b : Nat} {t : TypeId} {C : Array Value} (h : RowIs w b t C) (j : Nat) (v : Value) : RowIs (w.setCell ⟨b, j, none⟩ v) b t (C.setIfInBounds j v) := block_setCell h j v
theorem RowIs.other {w : World} {b : Nat} {t : TypeId} {C : Array Value} (h : RowIs w b t C) (a : Addr) (v : Value) (ha : b ≠ a.block) : RowIs (w.setCell a v) b t C := (heap_setCell_other w a b v ha).trans h
theorem RowIs.drew {w : World} {b : Nat} {t : TypeId} {C : Array Value} (h : RowIs w b t C) : RowIs w.drew b t C := h
theorem RowIs.below {w w' : World} {b B : Nat} {t : TypeId} {C : Array Value} (h : RowIs w b t C) (hb : Below B w w') (hB : b < B) : RowIs w' b t C := (hb.block b hB).trans h
theorem RowIs.alloc {w : World} {b : Nat} {t : TypeId} {C : Array Value} (h : RowIs w b t C) (o : Obj) : RowIs (w.alloc o) b t C := (Below.heap_alloc w o b (lt_of_block h)).trans h
theorem RowIs.new (w : World) (t : TypeId) (C : Array Value) : RowIs (w.alloc (.cells C t)) w.heap.size t C := heap_alloc_new w _
theorem RowIs.lt {w : World} {b : Nat} {t : TypeId} {C : Array Value} (h : RowIs w b t C) : b < w.heap.size := lt_of_block h
theorem RowIs.word {w : World} {b : Nat} {t : TypeId} {l : List (BitVec 32)} (h : RowIs w b t (wordCells l)) (j : Nat) (hj : j < l.length) : w.cell? ⟨b, j, none⟩ = some (.int .u32 (uw l[j])) := by rw [h.cell, wordCells_get l j hj]
theorem RowIs.byte {w : World} {b : Nat} {t : TypeId} {l : List UInt8} (h : RowIs w b t (byteCells l)) (j : Nat) (hj : j < l.length) : w.cell? ⟨b, j, none⟩ = some (.int .u8 (l[j].toNat : Int)) := by rw [h.cell, byteCells_get l j hj]
theorem RowIs.setWord {w : World} {b : Nat} {t : TypeId} {l : List (BitVec 32)} (h : RowIs w b t (wordCells l)) (j : Nat) (x : BitVec 32) : RowIs (w.setCell ⟨b, j, none⟩ (.int .u32 (uw x))) b t (wordCells (l.set j x)) := by
 have := h.set j (.int .u32 (uw x)); rwa [wordCells_set] at this
theorem RowIs.setByte {w : World} {b : Nat} {t : TypeId} {l : List UInt8} (h : RowIs w b t (byteCells l)) (j : Nat) (c : UInt8) (x : Int) (hx : x = (c.toNat : Int)) : RowIs (w.setCell ⟨b, j, none⟩ (.int .u8 x)) b t (byteCells (l.set j c)) := by
 subst hx; have := h.set j (.int .u8 (c.toNat : Int)); rwa [byteCells_set] at this
theorem RowIs.there {w : World} {b : Nat} {t : TypeId} {C : Array Value} (h : RowIs w b t C) (o n : Nat) (hn : o + n ≤ C.size) : w.there b o n := fun j hj => by
 refine ⟨?_, h.free _⟩
 rw [h.cell]
 rw [Array.getElem?_eq_getElem (by omega : o + j < C.size)]
 rfl

/-- A whole row stored over a row of the same length. -/
theorem setCells_row (b : Nat) (t : TypeId) : ∀ (vs : List Value) (o : Nat) (w : World) (C : Array Value), RowIs w b t C → o + vs.length ≤ C.size →
  RowIs (w.setCells b o vs) b t (C.toList.take o ++ vs ++ C.toList.drop (o + vs.length)).toArray
 | [], o, w, C, h, _ => by
  have : (C.toList.take o ++ [] ++ C.toList.drop (o + ([] : List Value).length)).toArray = C := by simp
  rw [this]; exact h
 | v :: r, o, w, C, h, hl => by
  simp only [List.length_cons] at hl
  have ih := setCells_row b t r (o + 1) (w.setCell ⟨b, o, none⟩ v) _ (h.set o v) (by rw [Array.size_setIfInBounds]; omega)
  rw [World.setCells]
  have e : ((C.setIfInBounds o v).toList.take (o + 1) ++ r ++ (C.setIfInBounds o v).toList.drop (o + 1 + r.length)) = (C.toList.take o ++ (v :: r) ++ C.toList.drop (o + (v :: r).length)) := by
   have ho : o < C.toList.length := by rw [Array.length_toList]; omega
   rw [Array.toList_setIfInBounds, List.drop_set_of_lt (by omega), List.take_succ_eq_append_getElem (by simpa using ho), List.getElem_set_self, List.take_set_of_le (Nat.le_refl _)]
   simp only [List.length_cons, List.append_assoc, List.cons_append, List.nil_append]
   congr 4
   omega
  rw [e] at ih
  exact ih
theorem store_row {w : World} {b : Nat} {t : TypeId} {C D : Array Value} (h : RowIs w b t C) (hs : D.size = C.size) : RowIs (w.setCells b 0 D.toList) b t D := by
 have := setCells_row b t D.toList 0 w C h (by simp [hs])
 have e : (C.toList.take 0 ++ D.toList ++ C.toList.drop (0 + D.toList.length)).toArray = D := by
  rw [List.drop_eq_nil_of_le (by simp [hs])]; simp
 rwa [e] at this
theorem setCells_below (b B : Nat) (hB : B ≤ b) : ∀ (vs : List Value) (o : Nat) (a w : World), Below B a w → Below B a (w.setCells b o vs)
 | [], _, _, _, h => h
 | _ :: r, o, a, w, h => by rw [World.setCells]; exact setCells_below b B hB r (o + 1) a _ (h.setCell (p := ⟨b, o, none⟩) hB _)
theorem setCells_other (b k : Nat) (hk : k ≠ b) : ∀ (vs : List Value) (o : Nat) (w : World), (w.setCells b o vs).heap[k]? = w.heap[k]?
 | [], _, _ => rfl
 | v :: r, o, w => by rw [World.setCells, setCells_other b k hk r (o + 1)]; exact heap_setCell_other w ⟨b, o, none⟩ k v hk
theorem setCells_size (b : Nat) : ∀ (vs : List Value) (o : Nat) (w : World), (w.setCells b o vs).heap.size = w.heap.size
 | [], _, _ => rfl
 | v :: r, o, w => by rw [World.setCells, setCells_size b r (o + 1)]; simp [World.setCell]

theorem index_word {T : TypeId} {n : Nat} (hu : Tryz.prog.underlying T = some (.array n 32)) (l : List (BitVec 32)) (k : Nat) (hk : k < l.length) (hn : l.length = n) (w : World) :
  (Instr.index T (.agg (wordCells l)) (.int .i64 (k : Int))).run Tryz.prog w = .ok (.int .u32 (uw l[k])) w := by
 have h1 : ¬ n ≤ k := by omega
 have h2 := wordCells_get l k hk
 simp [Instr.index, asIntOf, run_underlying hu, part, Tryz.isAgg32, Tryz.sizeOf32, h1, h2]
theorem index_byte {T : TypeId} {n : Nat} (hu : Tryz.prog.underlying T = some (.array n 5)) (l : List UInt8) (k : Nat) (hk : k < l.length) (hn : l.length = n) (w : World) :
  (Instr.index T (.agg (byteCells l)) (.int .i64 (k : Int))).run Tryz.prog w = .ok (.int .u8 (l[k].toNat : Int)) w := by
 have h1 : ¬ n ≤ k := by omega
 have h2 := byteCells_get l k hk
 simp [Instr.index, asIntOf, run_underlying hu, part, Tryz.isAgg5, Tryz.sizeOf5, h1, h2]

/-- All blocks that were there, but b, are as they were. -/
structure But (b : Nat) (w w' : World) : Prop where
 os : w'.os = w.os
 tape : w'.tape = w.tape
 output : w'.output = w.output
 size : w.heap.size ≤ w'.heap.size
 block : ∀ k, k < w.heap.size → k ≠ b → w'.heap[k]? = w.heap[k]?
theorem But.refl (b : Nat) (w : World) : But b w w := ⟨rfl, rfl, rfl, Nat.le_refl _, fun _ _ _ => rfl⟩
theorem But.trans {b : Nat} {u v w : World} (h : But b u v) (k : But b v w) : But b u w :=
 ⟨k.os.trans h.os, k.tape.trans h.tape, k.output.trans h.output, Nat.le_trans h.size k.size, fun i hi hb => (k.block i (Nat.lt_of_lt_of_le hi h.size) hb).trans (h.block i hi hb)⟩
theorem But.of {b : Nat} {w w' : World} (h : Below w.heap.size w w') : But b w w' := ⟨h.os, h.tape, h.output, h.size, fun k hk _ => h.block k hk⟩
theorem But.setCell {b : Nat} {u w : World} (h : But b u w) (i : Nat) (v : Value) : But b u (w.setCell ⟨b, i, none⟩ v) :=
 h.trans ⟨rfl, rfl, rfl, by simp [World.setCell], fun k _ hb => Below.heap_setCell w ⟨b, i, none⟩ v k hb⟩
theorem But.drew {b : Nat} {u w : World} (h : But b u w) : But b u w.drew := ⟨h.os, h.tape, h.output, h.size, h.block⟩
theorem But.alloc {b : Nat} {u w : World} (h : But b u w) (o : Obj) : But b u (w.alloc o) := h.trans (But.of ((Below.refl _ _).alloc (Nat.le_refl _) o))
theorem But.below {b B : Nat} {w w' : World} (h : But b w w') (hB : B ≤ b) (hs : B ≤ w.heap.size) : Below B w w' := ⟨h.os, h.tape, h.output, h.size, fun k hk => h.block k (by omega) (by omega)⟩
theorem RowIs.but {w w' : World} {b c : Nat} {t : TypeId} {C : Array Value} (h : RowIs w b t C) (hb : But c w w') (hne : b ≠ c) : RowIs w' b t C := (hb.block b h.lt hne).trans h

end Go.Proofs.YtimkklaidodkdaaGreatDoor
