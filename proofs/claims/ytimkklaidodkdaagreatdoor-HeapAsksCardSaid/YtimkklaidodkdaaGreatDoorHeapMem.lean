/- A heap at work, in memory: the store, its cells, their nodes; what its steps leave as it was. -/
import Derived.Test.YtimkklaidodkdaaGreatDoorHeapPut
import Derived.Test.YtimkklaidodkdaaGreatDoorDecode
namespace Go.Proofs.YtimkklaidodkdaaGreatDoor
open Go.RowKit

/-- The types of a store's own blocks. -/
def heapT (t : TypeId) : Bool := t == 118 || (t == 109 || t == 106)
/-- What is kept: all below B, and each block that is no store's. -/
structure Keep (B : Nat) (w w' : World) : Prop where
 os : w'.os = w.os
 tape : w'.tape = w.tape
 output : w'.output = w.output
 size : w.heap.size ≤ w'.heap.size
 block : ∀ k, k < w.heap.size → (k < B ∨ ∀ c t z, w.heap[k]? = some (.cells c t z) → heapT t = false) → w'.heap[k]? = w.heap[k]?
theorem Keep.refl (B : Nat) (w : World) : Keep B w w := ⟨rfl, rfl, rfl, Nat.le_refl _, fun _ _ _ => rfl⟩
theorem Keep.trans {B : Nat} {a b c : World} (h : Keep B a b) (k : Keep B b c) : Keep B a c :=
 ⟨k.os.trans h.os, k.tape.trans h.tape, k.output.trans h.output, Nat.le_trans h.size k.size, fun i hi hk => by
  have h1 := h.block i hi hk
  exact (k.block i (Nat.lt_of_lt_of_le hi h.size) (by rw [h1]; exact hk)).trans h1⟩
theorem Keep.of {B : Nat} {w w' : World} (h : Below w.heap.size w w') : Keep B w w' := ⟨h.os, h.tape, h.output, h.size, fun k hk _ => h.block k hk⟩
theorem Keep.below {B : Nat} {w w' : World} (h : Keep B w w') (hB : B ≤ w.heap.size) : Below B w w' := ⟨h.os, h.tape, h.output, h.size, fun k hk => h.block k (by omega) (.inl hk)⟩
theorem Keep.mono {B C : Nat} {w w' : World} (h : Keep B w w') (hC : C ≤ B) : Keep C w w' := ⟨h.os, h.tape, h.output, h.size, fun k hk hq => h.block k hk (hq.elim (fun q => .inl (by omega)) .inr)⟩
theorem Keep.row {B : Nat} {w w' : World} {b : Nat} {t : TypeId} {C : Array Value} (h : Keep B w w') (hr : RowIs w b t C) (ht : b < B ∨ heapT t = false) : RowIs w' b t C :=
 (h.block b hr.lt (ht.elim .inl fun ht => .inr fun c t' z hx => by
  unfold RowIs at hr
  rw [hr] at hx
  injection hx with hx
  injection hx with _ h2 _
  rw [← h2]; exact ht)).trans hr
theorem Keep.owns {B : Nat} {w w' : World} {base : Nat} {e : TypeId} {size : Nat} {v : Value} {n : Nat} {xs : List Value} (h : Keep B w w') (ho : w.ownsRow base e size v n xs) (ht : heapT e = false) : w'.ownsRow base e size v n xs := by
 refine ⟨ho.1, ?_⟩
 rcases ho.2 with h2 | ⟨g, cap, cur, hv, hg, hh, r⟩
 ·exact .inl h2
 ·exact .inr ⟨g, cap, cur, hv, hg, h.row hh (.inr ht), r⟩
theorem Keep.own {B C : Nat} {w w' : World} {v : Value} {n : NodeD} (h : Keep B w w') (ho : OwnAt C w v n) : OwnAt C w' v n := by
 obtain ⟨hw, vi, vk, vv, hv, h1, h2, h3⟩ := ho
 exact ⟨hw, vi, vk, vv, hv, h.owns h1 (by decide), h.owns h2 (by decide), h.owns h3 (by decide)⟩
theorem Keep.set {B : Nat} {w : World} {b : Nat} {t : TypeId} {C : Array Value} (hr : RowIs w b t C) (ht : heapT t = true) (hB : B ≤ b) (j : Nat) (v : Value) : Keep B w (w.setCell ⟨b, j, none⟩ v) :=
 ⟨rfl, rfl, rfl, by simp [World.setCell], fun k hk hq => by
  refine Below.heap_setCell w ⟨b, j, none⟩ v k (fun e => ?_)
  simp only [] at e
  subst e
  rcases hq with q | q
  ·omega
  ·have := q C t (0, 0) hr
   rw [ht] at this; cases this⟩
theorem Keep.sets {B : Nat} {w : World} {b : Nat} {t : TypeId} {C : Array Value} (hr : RowIs w b t C) (ht : heapT t = true) (hB : B ≤ b) (vs : List Value) (o : Nat) : Keep B w (w.setCells b o vs) := by
 have hb := setCells_below b 0 (Nat.zero_le _) vs o w w (Below.refl 0 w)
 exact ⟨hb.os, hb.tape, hb.output, by rw [setCells_size]; exact Nat.le_refl _, fun k hk hq => by
  refine setCells_other b k (fun e => ?_) vs o w
  subst e
  rcases hq with q | q
  ·omega
  ·have := q C t (0, 0) hr
   rw [ht] at this; cases this⟩
theorem Keep.grown {B : Nat} {w w' : World} {g : Option Nat} (h : w.grownBy w' g) (hg : ∀ k, g = some k → B ≤ k ∧ ∃ C t, RowIs w k t C ∧ heapT t = true) : Keep B w w' :=
 ⟨h.os, h.tape, h.output, h.size, fun k hk hq => h.block k hk (fun e => by
  obtain ⟨h1, C, t, hr, ht⟩ := hg k e.symm
  rcases hq with q | q
  ·omega
  ·have := q C t (0, 0) hr
   rw [ht] at this; cases this)⟩

/-- A node that a cell has: its own, or one that lay there ahead of the store. -/
def NodeOk (B : Nat) (w : World) (v : Value) (n : NodeD) : Prop := OwnAt 0 w v n ∨ NodeAt B w v n
theorem NodeAt.monoB {B C : Nat} {w : World} {v : Value} {n : NodeD} (h : NodeAt B w v n) (hBC : B ≤ C) : NodeAt C w v n := by
 obtain ⟨hw, vi, vk, vv, hv, h1, h2, h3⟩ := h
 have m : ∀ {v : Value} {n z : Nat} {cs : Nat → List Value}, SlAt B w v n cs z → SlAt C w v n cs z := fun h => by
  obtain ⟨a, cap, hv, hn, hr⟩ := h
  refine ⟨a, cap, hv, hn, fun h0 => ?_⟩
  obtain ⟨b, o, ha, hb, hc⟩ := hr h0
  exact ⟨b, o, ha, by omega, hc⟩
 exact ⟨hw, vi, vk, vv, hv, m h1, m h2, m h3⟩
theorem NodeOk.at {B : Nat} {w : World} {v : Value} {n : NodeD} (h : NodeOk B w v n) (hB : B ≤ w.heap.size) : NodeAt w.heap.size w v n := h.elim OwnAt.node (fun h => h.monoB hB)
theorem NodeOk.keep {B : Nat} {w w' : World} {v : Value} {n : NodeD} (h : NodeOk B w v n) (k : Keep B w w') (hB : B ≤ w.heap.size) : NodeOk B w' v n := h.elim (fun h => .inl (k.own h)) (fun h => .inr (h.below (k.below hB) (Nat.le_refl _)))

structure CellM where
 ptr : Nat
 d : CellD
 nv : List Value
 hash : List UInt8
 led : Int
def CellM.row (c : CellM) : List Value := [.int .u32 (c.d.num : Int), .string c.d.data, .int .i64 c.d.refs] ++ (c.nv ++ (bytesV c.hash ++ [.int .i64 c.led]))
theorem CellM.row_length (c : CellM) (h1 : c.nv.length = 4) (h2 : c.hash.length = 32) : c.row.length = 40 := by simp [CellM.row, bytesV, h1, h2]
def CellM.p (c : CellM) : Value := .pointer (some ⟨c.ptr, 0, none⟩)
structure CellAt (B : Nat) (w : World) (c : CellM) : Prop where
 row : RowIs w c.ptr 109 c.row.toArray
 ge : B ≤ c.ptr
 nv : c.nv.length = 4
 hash : c.hash.length = 32
 node : NodeOk B w (.agg c.nv.toArray) c.d.node
theorem CellAt.keep {B : Nat} {w w' : World} {c : CellM} (h : CellAt B w c) (k : Keep B w w') (hB : B ≤ w.heap.size) (hr : w'.heap[c.ptr]? = w.heap[c.ptr]?) : CellAt B w' c :=
 ⟨hr.trans h.row, h.ge, h.nv, h.hash, h.node.keep k hB⟩

structure StoreAt (B : Nat) (w : World) (S size : Nat) (vs : Value) (L : List CellM) : Prop where
 hB : B ≤ w.heap.size
 row : ∃ ask, RowIs w S 118 #[.int .u32 (size : Int), vs, .int .i64 ask] ∧ w.ownsRow B 106 1 vs L.length (L.map CellM.p)
 ge : B ≤ S
 cells : ∀ c ∈ L, CellAt B w c
 nodup : (L.map CellM.ptr).Nodup
theorem StoreAt.below {B C : Nat} {w w' : World} {S size : Nat} {vs : Value} {L : List CellM} (h : StoreAt B w S size vs L) (hb : Below C w w') (hC : w.heap.size ≤ C) : StoreAt B w' S size vs L := by
 have hb' := hb.mono hC
 obtain ⟨ask, hr, ho⟩ := h.row
 exact ⟨Nat.le_trans h.hB hb.size, ⟨ask, hr.below hb' hr.lt, ownsRow_below ho hb'⟩, h.ge, fun c hc => (h.cells c hc).keep (Keep.of hb') h.hB (hb'.block _ (h.cells c hc).row.lt), h.nodup⟩

end Go.Proofs.YtimkklaidodkdaaGreatDoor
