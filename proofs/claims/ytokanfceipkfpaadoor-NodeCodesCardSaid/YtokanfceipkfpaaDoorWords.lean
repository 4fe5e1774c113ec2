/- Rows of words and of bytes in a block of their own; whole arrays loaded, stored, indexed. -/
import Derived.Test.YtokanfceipkfpaaDoorBits
import Derived.Test.YtokanfceipkfpaaDoorMem
import Derived.Deep.MidRow
namespace Go.Proofs.YtokanfceipkfpaaDoor
open Go.RowKit

def wordCells (l : List (BitVec 32)) : Array Value := (l.map fun x => Value.int .u32 (uw x)).toArray
def byteCells (l : List UInt8) : Array Value := (l.map fun c => Value.int .u8 (c.toNat : Int)).toArray
theorem wordCells_size (l : List (BitVec 32)) : (wordCells l).size = l.length := by simp [wordCells]
theorem byteCells_size (l : List UInt8) : (byteCells l).size = l.length := by simp [byteCells]
theorem wordCells_toList (l : List (BitVec 32)) : (wordCells l).toList = l.map fun x => Value.int .u32 (uw x) := rfl
theorem byteCells_toList (l : List UInt8) : (byteCells l).toList = l.map fun c => Value.int .u8 (c.toNat : Int) := rfl
theorem wordCells_get (l : List (BitVec 32)) (j : Nat) (h : j < l.length) : (wordCells l)[j]? = some (.int .u32 (uw l[j])) := by simp [wordCells, h]
theorem byteCells_get (l : List UInt8) (j : Nat) (h : j < l.length) : (byteCells l)[j]? = some (.int .u8 (l[j].toNat : Int)) := by simp [byteCells, h]
theorem wordCells_set (l : List (BitVec 32)) (j : Nat) (x : BitVec 32) : (wordCells l).setIfInBounds j (.int .u32 (uw x)) = wordCells (l.set j x) := by
  apply Array.ext'; simp [wordCells, List.map_set]
theorem byteCells_set (l : List UInt8) (j : Nat) (x : UInt8) : (byteCells l).setIfInBounds j (.int .u8 (x.toNat : Int)) = byteCells (l.set j x) := by
  apply Array.ext'; simp [byteCells, List.map_set]
theorem byteCells_inj {l m : List UInt8} (h : byteCells l = byteCells m) : l = m := by
  have h' : (byteCells l).toList = (byteCells m).toList := by rw [h]
  rw [byteCells_toList, byteCells_toList] at h'
  have : Function.Injective (fun c : UInt8 => Value.int .u8 (c.toNat : Int)) := fun a b e => by
    injection e with _ e2
    exact UInt8.toNat_inj.1 (by omega)
  exact (List.map_inj_right (f := fun c : UInt8 => Value.int .u8 (c.toNat : Int)) (fun a b e => this e)).1 h'
theorem wordCells_one (l : List (BitVec 32)) : (wordCells l).all (·.oneCell') = true := by
  rw [Array.all_eq_true_iff_forall_mem]
  intro v hv
  simp only [wordCells, List.mem_toArray, List.mem_map] at hv
  obtain ⟨x, _, rfl⟩ := hv
  rfl
theorem byteCells_one (l : List UInt8) : (byteCells l).all (·.oneCell') = true := by
  rw [Array.all_eq_true_iff_forall_mem]
  intro v hv
  simp only [byteCells, List.mem_toArray, List.mem_map] at hv
  obtain ⟨x, _, rfl⟩ := hv
  rfl

/-- Block b is the row of cells C, of element type t, free to be written. -/
def RowIs (w : World) (b : Nat) (t : TypeId) (C : Array Value) : Prop := w.heap[b]? = some (.cells C t (0, 0))

theorem RowIs.cell {w : World} {b : Nat} {t : TypeId} {C : Array Value} (h : RowIs w b t C) (j : Nat) : w.cell? ⟨b, j, none⟩ = C[j]? := cell_of_row w b j C t _ h
theorem RowIs.free {w : World} {b : Nat} {t : TypeId} {C : Array Value} (h : RowIs w b t C) (j : Nat) : w.frozen? ⟨b, j, none⟩ = false := frozen_of_row w b j C t h
theorem RowIs.set {w : World} {b : Nat} {t : TypeId} {C : Array Value} (h : RowIs w b t C) (j : Nat) (v : Value) : RowIs (w.setCell ⟨b, j, none⟩ v) b t (C.setIfInBounds j v) := block_setCell h j v
theorem RowIs.other {w : World} {b : Nat} {t : TypeId} {C : Array Value} (h : RowIs w b t C) (a : Addr) (v : Value) (ha : b ≠ a.block) : RowIs (w.setCell a v) b t C := (heap_setCell_other w a b v ha).trans h
theorem RowIs.drew {w : World} {b : Nat} {t : TypeId} {C : Array Value} (h : RowIs w b t C) : RowIs w.drew b t C := h
theorem RowIs.below {w w' : World} {b B : Nat} {t : TypeId} {C : Array Value} (h : RowIs w b t C) (hb : Below B w w') (hB : b < B) : RowIs w' b t C := (hb.block b hB).trans h
theorem RowIs.alloc {w : World} {b : Nat} {t : TypeId} {C : Array Value} (h : RowIs w b t C) (o : Obj) : RowIs (w.alloc o) b t C := (Below.heap_alloc w o b (lt_of_block h)).trans h
theorem RowIs.new (w : World) (t : TypeId) (C : Array Value) : RowIs (w.alloc (.cells C t)) w.heap.size t C := heap_alloc_new w _
theorem RowIs.lt {w : World} {b : Nat} {t : TypeId} {C : Array Value} (h : RowIs w b t C) : b < w.heap.size := lt_of_block h
theorem RowIs.word {w : World} {b : Nat} {t : TypeId} {l : List (BitVec 32)} (h : RowIs w b t (wordCells l)) (j : Nat) (hj : j < l.length) : w.cell? ⟨b, j, none⟩ = some (.int .u32 (uw l[j])) := by rw [h.cell, wordCells_get l j hj]
theorem RowIs.byte {w : World} {b : Nat} {t : TypeId} {l : List UInt8} (h : RowIs w b t (byteCells l)) (j : Nat) (hj : j < l.length) : w.cell? ⟨b, j, none⟩ = some (.int .u8 (l[j].toNat : Int)) := by rw [h.cell, byteCells_get l j hj]
theorem RowIs.setWord {w : World} {b : Nat} {t : TypeId} {l : List (BitVec 32)} (h : RowIs w b t (wordCells l)) (j : Nat) (x : BitVec 32) : RowIs (w.setCell ⟨b, j, none⟩ (.int .u32 (uw x))) b t (wordCells (l.set j x)) := by
  have := h.set j (.int .u32 (uw x)); rwa [wordCells_set] at this
theorem RowIs.setByte {w : World} {b : Nat} {t : TypeId} {l : List UInt8} (h : RowIs w b t (byteCells l)) (j : Nat) (c : UInt8) (x : Int) (hx : x = (c.toNat : Int)) : RowIs (w.setCell ⟨b, j, none⟩ (.int .u8 x)) b t (byteCells (l.set j c)) := by
  subst hx; have := h.set j (.int .u8 (c.toNat : Int)); rwa [byteCells_set] at this
theorem RowIs.there {w : World} {b : Nat} {t : TypeId} {C : Array Value} (h : RowIs w b t C) (o n : Nat) (hn : o + n ≤ C.size) : w.there b o n := fun j hj => by
  refine ⟨?_, h.free _⟩
  rw [h.cell]
  rw [Array.getElem?_eq_getElem (by omega : o + j < C.size)]
  rfl

/-- A whole row stored over a row of the same length. -/
theorem setCells_row (b : Nat) (t : TypeId) : ∀ (vs : List Value) (o : Nat) (w : World) (C : Array Value), RowIs w b t C → o + vs.length ≤ C.size →
    RowIs (w.setCells b o vs) b t (C.toList.take o ++ vs ++ C.toList.drop (o + vs.length)).toArray
  | [], o, w, C, h, _ => by
    have : (C.toList.take o ++ [] ++ C.toList.drop (o + ([] : List Value).length)).toArray = C := by simp
    rw [this]; exact h
  | v :: r, o, w, C, h, hl => by
    simp only [List.length_cons] at hl
    have ih := setCells_row b t r (o + 1) (w.setCell ⟨b, o, none⟩ v) _ (h.set o v) (by rw [Array.size_setIfInBounds]; omega)
    rw [World.setCells]
    have e : ((C.setIfInBounds o v).toList.take (o + 1) ++ r ++ (C.setIfInBounds o v).toList.drop (o + 1 + r.length)) = (C.toList.take o ++ (v :: r) ++ C.toList.drop (o + (v :: r).length)) := by
      have ho : o < C.toList.length := by rw [Array.length_toList]; omega
      rw [Array.toList_setIfInBounds, List.drop_set_of_lt (by omega), List.take_succ_eq_append_getElem (by simpa using ho), List.getElem_set_self, List.take_set_of_le (Nat.le_refl _)]
      simp only [List.length_cons, List.append_assoc, List.cons_append, List.nil_append]
      congr 4
      omega
    rw [e] at ih
    exact ih
theorem store_row {w : World} {b : Nat} {t : TypeId} {C D : Array Value} (h : RowIs w b t C) (hs : D.size = C.size) : RowIs (w.setCells b 0 D.toList) b t D := by
  have := setCells_row b t D.toList 0 w C h (by simp [hs])
  have e : (C.toList.take 0 ++ D.toList ++ C.toList.drop (0 + D.toList.length)).toArray = D := by
    rw [List.drop_eq_nil_of_le (by simp [hs])]; simp
  rwa [e] at this
theorem setCells_below (b B : Nat) (hB : B ≤ b) : ∀ (vs : List Value) (o : Nat) (a w : World), Below B a w → Below B a (w.setCells b o vs)
  | [], _, _, _, h => h
  | _ :: r, o, a, w, h => by rw [World.setCells]; exact setCells_below b B hB r (o + 1) a _ (h.setCell (p := ⟨b, o, none⟩) hB _)
theorem setCells_other (b k : Nat) (hk : k ≠ b) : ∀ (vs : List Value) (o : Nat) (w : World), (w.setCells b o vs).heap[k]? = w.heap[k]?
  | [], _, _ => rfl
  | v :: r, o, w => by rw [World.setCells, setCells_other b k hk r (o + 1)]; exact heap_setCell_other w ⟨b, o, none⟩ k v hk
theorem setCells_size (b : Nat) : ∀ (vs : List Value) (o : Nat) (w : World), (w.setCells b o vs).heap.size = w.heap.size
  | [], _, _ => rfl
  | v :: r, o, w => by rw [World.setCells, setCells_size b r (o + 1)]; simp [World.setCell]

theorem index_word {T : TypeId} {n : Nat} (hu : Tryd.prog.underlying T = some (.array n 39)) (l : List (BitVec 32)) (k : Nat) (hk : k < l.length) (hn : l.length = n) (w : World) :
    (Instr.index T (.agg (wordCells l)) (.int .i64 (k : Int))).run Tryd.prog w = .ok (.int .u32 (uw l[k])) w := by
  have h1 : ¬ n ≤ k := by omega
  have h2 := wordCells_get l k hk
  simp [Instr.index, asIntOf, run_underlying hu, part, Tryd.isAgg39, Tryd.sizeOf39, h1, h2]
theorem index_byte {T : TypeId} {n : Nat} (hu : Tryd.prog.underlying T = some (.array n 5)) (l : List UInt8) (k : Nat) (hk : k < l.length) (hn : l.length = n) (w : World) :
    (Instr.index T (.agg (byteCells l)) (.int .i64 (k : Int))).run Tryd.prog w = .ok (.int .u8 (l[k].toNat : Int)) w := by
  have h1 : ¬ n ≤ k := by omega
  have h2 := byteCells_get l k hk
  simp [Instr.index, asIntOf, run_underlying hu, part, Tryd.isAgg5, Tryd.sizeOf5, h1, h2]

/-- All blocks that were there, but b, are as they were. -/
structure But (b : Nat) (w w' : World) : Prop where
  os : w'.os = w.os
  tape : w'.tape = w.tape
  output : w'.output = w.output
  size : w.heap.size ≤ w'.heap.size
  block : ∀ k, k < w.heap.size → k ≠ b → w'.heap[k]? = w.heap[k]?
theorem But.refl (b : Nat) (w : World) : But b w w := ⟨rfl, rfl, rfl, Nat.le_refl _, fun _ _ _ => rfl⟩
theorem But.trans {b : Nat} {u v w : World} (h : But b u v) (k : But b v w) : But b u w :=
  ⟨k.os.trans h.os, k.tape.trans h.tape, k.output.trans h.output, Nat.le_trans h.size k.size, fun i hi hb => (k.block i (Nat.lt_of_lt_of_le hi h.size) hb).trans (h.block i hi hb)⟩
theorem But.of {b : Nat} {w w' : World} (h : Below w.heap.size w w') : But b w w' := ⟨h.os, h.tape, h.output, h.size, fun k hk _ => h.block k hk⟩
theorem But.setCell {b : Nat} {u w : World} (h : But b u w) (i : Nat) (v : Value) : But b u (w.setCell ⟨b, i, none⟩ v) :=
  h.trans ⟨rfl, rfl, rfl, by simp [World.setCell], fun k _ hb => Below.heap_setCell w ⟨b, i, none⟩ v k hb⟩
theorem But.drew {b : Nat} {u w : World} (h : But b u w) : But b u w.drew := ⟨h.os, h.tape, h.output, h.size, h.block⟩
theorem But.alloc {b : Nat} {u w : World} (h : But b u w) (o : Obj) : But b u (w.alloc o) := h.trans (But.of ((Below.refl _ _).alloc (Nat.le_refl _) o))
theorem But.below {b B : Nat} {w w' : World} (h : But b w w') (hB : B ≤ b) (hs : B ≤ w.heap.size) : Below B w w' := ⟨h.os, h.tape, h.output, h.size, fun k hk => h.block k (by omega) (by omega)⟩
theorem RowIs.but {w w' : World} {b c : Nat} {t : TypeId} {C : Array Value} (h : RowIs w b t C) (hb : But c w w') (hne : b ≠ c) : RowIs w' b t C := (hb.block b h.lt hne).trans h

end Go.Proofs.YtokanfceipkfpaaDoor
