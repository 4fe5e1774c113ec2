/- A heap as it comes in, in memory; what open asks of it, plainly; a cell's literal. -/
/- A cell of the store is turned: what the store is then. -/
/- How many lead to a cell, plainly: bounds and steps. -/
import Derived.Test.YtimkklaidodkdaaGreatDoorHeapLeads
import Derived.Test.YtimkklaidodkdaaGreatDoorGate2
import Derived.Test.YtimkklaidodkdaaGreatDoorSha4
namespace Go.Proofs.YtimkklaidodkdaaGreatDoor
open Go.RowKit

def cellV (c : CellD) : List Value := [.int .u32 (c.num : Int), .string c.data, .int .i64 c.refs]
structure HeapAt (B : Nat) (w : World) (v : Value) (h : HeapD) : Prop where
 size : h.size < 4294967296
 nums : ∀ c ∈ h.cells, c.num < 4294967296 ∧ c.data.size ≤ 140737488351232
 many : h.cells.length ≤ 4398046511104
 at_ : ∃ sl, v = .agg #[.int .u32 (h.size : Int), sl] ∧ SlAt B w sl h.cells.length (fun i => (h.cells[i]?.map cellV).getD []) 3
theorem HeapAt.below {B C : Nat} {w w' : World} {v : Value} {h : HeapD} (a : HeapAt B w v h) (hb : Below C w w') (hC : B ≤ C) : HeapAt B w' v h := by
 obtain ⟨h1, h2, h3, sl, hv, hs⟩ := a
 exact ⟨h1, h2, h3, sl, hv, hs.below hb hC⟩

def okAt (size : Nat) (l : List CellD) (t : Nat) : Bool := match l[t]? with
 | none => true
 | some c => decide (decOk c.d) && (decide (2 ≤ c.num) && (decide (c.num < size) && (decide (t = 0) || match l[t - 1]? with | some p => decide (p.num < c.num) | none => true)))
def okT (size : Nat) (l : List CellD) : Nat → Bool
 | 0 => decide (16 ≤ size) && decide (size ≤ 65536)
 | t + 1 => okT size l t && okAt size l t
theorem okT_le {size : Nat} {l : List CellD} : ∀ {t : Nat}, okT size l t = true → (16 ≤ size ∧ size ≤ 65536) ∧ ∀ i, i < t → okAt size l i = true
 | 0, h => by
  rw [okT, Bool.and_eq_true, decide_eq_true_eq, decide_eq_true_eq] at h
  exact ⟨h, fun i hi => by omega⟩
 | t + 1, h => by
  rw [okT, Bool.and_eq_true] at h
  obtain ⟨a, b⟩ := okT_le h.1
  refine ⟨a, fun i hi => ?_⟩
  rcases Nat.lt_or_ge i t with h2 | h2
  ·exact b i h2
  ·have : i = t := by omega
   subst this; exact h.2
theorem okT_of {size : Nat} {l : List CellD} (hs : 16 ≤ size ∧ size ≤ 65536) : ∀ {t : Nat}, (∀ i, i < t → okAt size l i = true) → okT size l t = true
 | 0, _ => by rw [okT, decide_eq_true hs.1, decide_eq_true hs.2]; rfl
 | t + 1, h => by rw [okT, okT_of hs (fun i hi => h i (by omega)), h t (by omega)]; rfl
structure OkH (h : HeapD) : Prop where
 lo : 16 ≤ h.size
 hi : h.size ≤ 65536
 ok : ∀ c ∈ h.cells, decOk c.d ∧ 2 ≤ c.num ∧ c.num < h.size
 asc : h.cells.Pairwise (fun a b => a.num < b.num)
theorem okT_iff (h : HeapD) : okT h.size h.cells h.cells.length = true ↔ OkH h := by
 constructor
 ·intro hk
  obtain ⟨hs, ha⟩ := okT_le hk
  have hc : ∀ i (hi : i < h.cells.length), decOk h.cells[i].d ∧ 2 ≤ h.cells[i].num ∧ h.cells[i].num < h.size ∧ (i = 0 ∨ ∀ (h2 : i - 1 < h.cells.length), h.cells[i - 1].num < h.cells[i].num) := by
   intro i hi
   have := ha i hi
   rw [okAt, List.getElem?_eq_getElem hi] at this
   simp only [Bool.and_eq_true, Bool.or_eq_true, decide_eq_true_eq] at this
   refine ⟨this.1, this.2.1, this.2.2.1, this.2.2.2.imp id (fun q h2 => ?_)⟩
   rw [List.getElem?_eq_getElem h2] at q
   simpa using q
  refine ⟨hs.1, hs.2, fun c hm => ?_, ?_⟩
  ·obtain ⟨i, hi, rfl⟩ := List.getElem_of_mem hm
   exact ⟨(hc i hi).1, (hc i hi).2.1, (hc i hi).2.2.1⟩
  ·rw [List.pairwise_iff_getElem]
   intro i j hi hj hij
   induction j with
   | zero => omega
   | succ j ih =>
    have h1 := (hc (j + 1) hj).2.2.2
    rcases h1 with h1 | h1
    ·omega
    ·have h2 := h1 (by omega)
     simp only [Nat.add_sub_cancel] at h2
     rcases Nat.lt_or_ge i j with h3 | h3
     ·have := ih (by omega) h3; omega
     ·have : i = j := by omega
      subst this; exact h2
 ·intro o
  refine okT_of ⟨o.lo, o.hi⟩ (fun i hi => ?_)
  rw [okAt, List.getElem?_eq_getElem hi]
  obtain ⟨h1, h2, h3⟩ := o.ok _ (List.getElem_mem hi)
  simp only [Bool.and_eq_true, Bool.or_eq_true, decide_eq_true_eq]
  refine ⟨h1, h2, h3, ?_⟩
  by_cases h0 : i = 0
  ·exact .inl h0
  ·refine .inr ?_
   rw [List.getElem?_eq_getElem (show i - 1 < h.cells.length by omega)]
   simp only [decide_eq_true_eq]
   exact (List.pairwise_iff_getElem.1 o.asc) (i - 1) i (by omega) hi (by omega)
theorem RightH.okH {h : HeapD} (r : RightH h) : OkH h := ⟨r.lo, r.hi, r.ok, r.asc⟩

def zeroH : List UInt8 := List.replicate 32 0
theorem built_cell (n : Int) (s : ByteArray) (r k : Int) (p1 p2 p3 : Option Addr) (n1 n2 n3 c1 c2 c3 : Nat) :
  Tryz.prog.built 109 [(0, .agg #[.int .u32 n, .string s, .int .i64 r]), (1, .agg #[.int .u8 k, .slice p1 n1 c1, .slice p2 n2 c2, .slice p3 n3 c3])] =
   some (([Value.int .u32 n, Value.string s, Value.int .i64 r, Value.int .u8 k, Value.slice p1 n1 c1, Value.slice p2 n2 c2, Value.slice p3 n3 c3] ++ (bytesV zeroH ++ [Value.int .i64 0])).toArray) := by kernel_rfl
theorem built_store (n : Int) : Tryz.prog.built 118 [(0, .int .u32 n)] = some #[.int .u32 n, .slice none 0 0, .int .i64 0] := by kernel_rfl
theorem info_ptr : (Tryz.prog.info? 106).map (fun i => (i.zero, i.size, i.bytes)) = some (some (.pointer none), 1, 8) := by kernel_rfl
theorem run_box_agg {P : Program} (t : TypeId) (C : Array Value) (w : World) : (Instr.box t (.agg C)).run P w = .ok (.pointer (some ⟨w.heap.size, 0, none⟩)) (w.alloc (.cells C t)) := by
 simp [Instr.box, newVar, newRow, Value.cells]

end Go.Proofs.YtimkklaidodkdaaGreatDoor

namespace Go.Proofs.YtimkklaidodkdaaGreatDoor
open Go.RowKit

theorem Keep.but {B b : Nat} {w w' : World} {t : TypeId} {C : Array Value} (hr : RowIs w b t C) (ht : heapT t = true) (hB : B ≤ b) (hb : But b w w') : Keep B w w' :=
 ⟨hb.os, hb.tape, hb.output, hb.size, fun k hk hq => hb.block k hk (fun e => by
  subst e
  rcases hq with q | q
  ·omega
  ·have := q C t (0, 0) hr
   rw [ht] at this; cases this)⟩
theorem StoreAt.upd {B : Nat} {w w' : World} {S size : Nat} {vs : Value} {L : List CellM} (h : StoreAt B w S size vs L) (t : Nat) (ht : t < L.length) (c : CellM) (hp : c.ptr = L[t].ptr) (hn : c.d.node = L[t].d.node) (hv : c.nv = L[t].nv) (hh : c.hash.length = 32)
  (hr : RowIs w' c.ptr 109 c.row.toArray) (hb : But c.ptr w w') : StoreAt B w' S size vs (L.set t c) ∧ Keep B w w' := by
 have hc := h.cells _ (List.getElem_mem ht)
 have hc' := hc.row
 rw [← hp] at hc'
 have hk : Keep B w w' := Keep.but hc' (by decide) (by rw [hp]; exact hc.ge) hb
 obtain ⟨ask, hS, ho⟩ := h.row
 have hps : (L.set t c).map CellM.ptr = L.map CellM.ptr := by
  rw [List.map_set, hp]
  have : L[t].ptr = (L.map CellM.ptr)[t]'(by simpa using ht) := by rw [List.getElem_map]
  rw [this, List.set_getElem_self]
 have hpp : (L.set t c).map CellM.p = L.map CellM.p := by
  have e : ∀ M : List CellM, M.map CellM.p = (M.map CellM.ptr).map (fun q => .pointer (some ⟨q, 0, none⟩)) := fun M => by rw [List.map_map]; rfl
  rw [e, e, hps]
 refine ⟨⟨Nat.le_trans h.hB hb.size, ⟨ask, hS.but hb (fun e => ?_), ?_⟩, h.ge, fun d hd => ?_, by rw [hps]; exact h.nodup⟩, hk⟩
 ·rw [e] at hS
  have := row_type hS hc'
  revert this; decide
 ·rw [hpp, List.length_set]
  exact ownsRow_but ho hb (fun q hx => by have := row_type hc' hx; revert this; decide)
 ·obtain ⟨j, hj, rfl⟩ := List.getElem_of_mem hd
  rw [List.length_set] at hj
  by_cases hjt : t = j
  ·subst hjt
   rw [List.getElem_set_self]
   exact ⟨hr, by rw [hp]; exact hc.ge, by rw [hv]; exact hc.nv, hh, by rw [hn, hv]; exact hc.node.keep hk h.hB⟩
  ·rw [List.getElem_set_ne hjt]
   have hcd := h.cells L[j] (List.getElem_mem hj)
   refine hcd.keep hk h.hB (hb.block _ hcd.row.lt (fun hq => hjt ?_))
   have h1 : (L.map CellM.ptr)[j]'(by simpa using hj) = (L.map CellM.ptr)[t]'(by simpa using ht) := by
    rw [List.getElem_map, List.getElem_map, hq, hp]
   exact ((List.getElem_inj h.nodup).1 h1).symm
theorem set_map {L : List CellM} {t : Nat} (ht : t < L.length) {c : CellM} (h : c.d = L[t].d) : (L.set t c).map CellM.d = L.map CellM.d := by
 rw [List.map_set, h]
 have : L[t].d = (L.map CellM.d)[t]'(by simpa using ht) := by rw [List.getElem_map]
 rw [this, List.set_getElem_self]

theorem row_parts (c : CellM) (h1 : c.nv.length = 4) (h2 : c.hash.length = 32) : c.row.take 7 = [.int .u32 (c.d.num : Int), .string c.d.data, .int .i64 c.d.refs] ++ c.nv ∧ c.row.drop 39 = [.int .i64 c.led] := by
 have hb : (bytesV c.hash).length = 32 := by simp [bytesV, h2]
 constructor
 ·rw [CellM.row, ← List.append_assoc, List.take_append_of_le_length (by simp [h1]), List.take_of_length_le (by simp [h1])]
 ·rw [CellM.row, ← List.append_assoc, ← List.append_assoc, List.drop_append_of_le_length (by simp [h1, hb]), List.drop_eq_nil_of_le (by simp [h1, hb]), List.nil_append]
theorem upd_hash {B : Nat} {w : World} {S size : Nat} {vs : Value} {L : List CellM} (h : StoreAt B w S size vs L) (t : Nat) (ht : t < L.length) (x : List UInt8) (hx : x.length = 32) :
  StoreAt B (w.setCells L[t].ptr 7 (bytesV x)) S size vs (L.set t { L[t] with hash := x }) ∧ Keep B w (w.setCells L[t].ptr 7 (bytesV x)) := by
 have hc := h.cells _ (List.getElem_mem ht)
 have hl := L[t].row_length hc.nv hc.hash
 obtain ⟨e1, e2⟩ := row_parts L[t] hc.nv hc.hash
 have hb : (bytesV x).length = 32 := by simp [bytesV, hx]
 refine h.upd t ht _ rfl rfl rfl hx ?_ ((But.refl _ w).setCells _ _)
 have hr := setCells_row L[t].ptr _ (bytesV x) 7 w _ hc.row (by rw [hb, List.size_toArray, hl]; decide)
 have e : ((L[t].row.toArray.toList.take 7 ++ bytesV x ++ L[t].row.toArray.toList.drop (7 + (bytesV x).length)).toArray) = ({ L[t] with hash := x } : CellM).row.toArray := by
  rw [hb]
  show (L[t].row.take 7 ++ bytesV x ++ L[t].row.drop 39).toArray = _
  rw [e1, e2, CellM.row]
  simp
 rwa [e] at hr
theorem upd_led {B : Nat} {w : World} {S size : Nat} {vs : Value} {L : List CellM} (h : StoreAt B w S size vs L) (t : Nat) (ht : t < L.length) (x : Int) :
  StoreAt B (w.setCell ⟨L[t].ptr, 39, none⟩ (.int .i64 x)) S size vs (L.set t { L[t] with led := x }) ∧ Keep B w (w.setCell ⟨L[t].ptr, 39, none⟩ (.int .i64 x)) := by
 have hc := h.cells _ (List.getElem_mem ht)
 have hl := L[t].row_length hc.nv hc.hash
 have hb : (bytesV L[t].hash).length = 32 := by simp [bytesV, hc.hash]
 refine h.upd t ht _ rfl rfl rfl hc.hash ?_ ((But.refl _ w).setCell _ _)
 have hr := hc.row.set 39 (.int .i64 x)
 have e : L[t].row.toArray.setIfInBounds 39 (.int .i64 x) = ({ L[t] with led := x } : CellM).row.toArray := by
  rw [List.setIfInBounds_toArray]
  congr 1
  rw [CellM.row, CellM.row, List.set_append_right _ _ (by simp), List.set_append_right _ _ (by simp [hc.nv]), List.set_append_right _ _ (by simp [hc.nv, hb])]
  simp [hc.nv, hb]
 rwa [e] at hr
theorem upd_refs {B : Nat} {w : World} {S size : Nat} {vs : Value} {L : List CellM} (h : StoreAt B w S size vs L) (t : Nat) (ht : t < L.length) (x : Int) :
  StoreAt B (w.setCell ⟨L[t].ptr, 2, none⟩ (.int .i64 x)) S size vs (L.set t { L[t] with d := { L[t].d with refs := x } }) ∧ Keep B w (w.setCell ⟨L[t].ptr, 2, none⟩ (.int .i64 x)) := by
 have hc := h.cells _ (List.getElem_mem ht)
 refine h.upd t ht _ rfl rfl rfl hc.hash ?_ ((But.refl _ w).setCell _ _)
 have hr := hc.row.set 2 (.int .i64 x)
 have e : L[t].row.toArray.setIfInBounds 2 (.int .i64 x) = ({ L[t] with d := { L[t].d with refs := x } } : CellM).row.toArray := by
  rw [List.setIfInBounds_toArray]; rfl
 rwa [e] at hr
theorem row_led {B : Nat} {w : World} {c : CellM} (h : CellAt B w c) : w.cell? ⟨c.ptr, 39, none⟩ = some (.int .i64 c.led) := by
 have hb : (bytesV c.hash).length = 32 := by simp [bytesV, h.hash]
 rw [h.row.cell, List.getElem?_toArray, CellM.row, List.getElem?_append_right (by simp), List.getElem?_append_right (by simp [h.nv]), List.getElem?_append_right (by simp [h.nv, hb])]
 simp [h.nv, hb]
theorem row_node {B : Nat} {w : World} {c : CellM} (h : CellAt B w c) : w.rangeAt c.ptr 3 c.nv := fun j u hj => by
 have hjl := (List.getElem?_eq_some_iff.1 hj).1
 rw [h.row.cell, List.getElem?_toArray, CellM.row, List.getElem?_append_right (by simp <;> omega), List.getElem?_append_left (by simp <;> omega)]
 rw [← hj]; congr 1; simp <;> omega
theorem asc_idx {l : List CellD} (h : l.Pairwise (fun a b => a.num < b.num)) : ∀ i (hi : i < l.length), i ≤ l[i].num
 | 0, _ => Nat.zero_le _
 | i + 1, hi => by
  have := asc_idx h i (by omega)
  have := (List.pairwise_iff_getElem.1 h) i (i + 1) (by omega) hi (Nat.lt_succ_self _)
  omega
theorem OkH.len {h : HeapD} (o : OkH h) : h.cells.length ≤ 65536 := by
 rcases Nat.lt_or_ge 65536 h.cells.length with hl | hl
 ·have h1 := asc_idx o.asc 65536 hl
  have h2 := o.ok _ (List.getElem_mem hl)
  have := o.hi
  omega
 ·exact hl

end Go.Proofs.YtimkklaidodkdaaGreatDoor

namespace Go.Proofs.YtimkklaidodkdaaGreatDoor
open Go.RowKit

theorem nodeL_small (d : List UInt8) : (nodeL d).kids.length ≤ 255 ∧ (nodeL d).vols.length ≤ 255 ∧ (nodeL d).kids.length + (nodeL d).vols.length ≤ 255 := by
 unfold nodeL
 split
 ·have hc : countT (startT d) ≤ 255 := by have := numT_lt (tkNext (startT d) 1) 1; unfold countT; omega
  show (takeN (startT d)).kids.length ≤ 255 ∧ (takeN (startT d)).vols.length ≤ 255 ∧ (takeN (startT d)).kids.length + (takeN (startT d)).vols.length ≤ 255
  unfold takeN
  split
  ·simp
  ·split
   ·have := manyT_length (f := kidT) (g := kidN) (countT (startT d)) (bodyT (startT d))
    simp; omega
   ·split
    ·have := manyT_length (f := volT) (g := volN) (countT (startT d)) (bodyT (startT d))
     simp; omega
    ·simp
 ·simp
theorem nodeL_fitH (d : List UInt8) : fitN (nodeL d) := by
 unfold nodeL
 split
 ·exact takeN_fit _
 ·exact ⟨⟨by simp, by simp, by simp⟩, by simp, by simp, by simp⟩
theorem kidNums_small (d : List UInt8) : (kidNums (nodeL d)).length ≤ 255 := by
 have h := nodeL_small d
 unfold kidNums
 split
 ·rw [List.length_map]; omega
 ·split
  ·rw [List.length_map]
   have := List.length_filter_le (fun v : VolD => decide (v.root ≠ 0)) (nodeL d).vols
   omega
  ·simp
theorem led_le (l : List CellD) (k : Nat) : ledC l k ≤ l.length * 255 := by
 unfold ledC
 refine Nat.le_trans List.count_le_length ?_
 induction l with
 | nil => simp
 | cons c l ih =>
  rw [List.flatMap_cons, List.length_append, List.length_cons]
  have := kidNums_small c.d
  unfold CellD.kids CellD.node
  unfold CellD.kids CellD.node at ih
  omega
theorem led_take (l : List CellD) (t k : Nat) (h : t < l.length) : ledC (l.take (t + 1)) k = ledC (l.take t) k + (kidNums l[t].node).count k := by
 unfold ledC
 rw [List.take_succ_eq_append_getElem h, List.flatMap_append, List.count_append]
 simp [CellD.kids]
theorem count_take (l : List Nat) (j a : Nat) (h : j < l.length) : (l.take (j + 1)).count a = (l.take j).count a + (if l[j] = a then 1 else 0) := by
 rw [List.take_succ_eq_append_getElem h, List.count_append, List.count_singleton]
 simp [beq_iff_eq]
theorem kid_there {cells : List CellD} (ha : cells.Pairwise (fun a b => a.num < b.num)) {n : NodeD} (hs : shapedN n = true) (ht : toldN cells n = 0) {k : Nat} (hk : k ∈ kidNums n) : ∃ c ∈ cells, c.num = k := by
 rw [← shaped_named n hs] at hk
 obtain ⟨x, hx, rfl⟩ := List.mem_map.1 hk
 obtain ⟨c, hc, hn, _⟩ := (toldN_zero ha n).1 ht x hx
 exact ⟨c, hc, hn⟩
theorem atM_idx {L : List CellM} {cells : List CellD} (hLd : L.map CellM.d = cells) (ha : cells.Pairwise (fun a b => a.num < b.num)) {k : Nat} (hk : ∃ c ∈ cells, c.num = k) : ∃ q, ∃ hq : q < L.length, atM L k = some L[q] ∧ L[q].d.num = k ∧ ∀ i (hi : i < L.length), i ≠ q → L[i].d.num ≠ k := by
 obtain ⟨c, hc, hn⟩ := hk
 rw [← hLd] at hc ha
 obtain ⟨m, hm, rfl⟩ := List.mem_map.1 hc
 have hsome : (atM L k).isSome = true := by
  unfold atM
  rw [List.find?_isSome]
  exact ⟨m, hm, by simpa using hn⟩
 obtain ⟨e, he⟩ := Option.isSome_iff_exists.1 hsome
 obtain ⟨hem, hen⟩ := atM_mem he
 obtain ⟨q, hq, rfl⟩ := List.getElem_of_mem hem
 refine ⟨q, hq, he, hen, fun i hi hne hik => hne ?_⟩
 rcases Nat.lt_trichotomy i q with h | h | h
 ·have := (List.pairwise_iff_getElem.1 ha) i q (by simpa using hi) (by simpa using hq) h
  rw [List.getElem_map, List.getElem_map] at this; omega
 ·exact h
 ·have := (List.pairwise_iff_getElem.1 ha) q i (by simpa using hq) (by simpa using hi) h
  rw [List.getElem_map, List.getElem_map] at this; omega

theorem own_one {w : World} {B : Nat} {e : TypeId} {v : Value} {n : Nat} {xs : List Value} (h : w.ownsRow B e 1 v n xs) : ∃ p cap, v = .slice p n cap ∧ ∀ i, i < n → ∃ R, p = some ⟨R, 0, none⟩ ∧ w.cell? ⟨R, i, none⟩ = xs[i]? := by
 obtain ⟨_, ⟨hv, hn⟩ | ⟨g, cap, cur, hv, hg, hh, hnc, hcm, hcs, hxs⟩⟩ := h
 ·exact ⟨none, 0, by rw [hv, hn], fun i hi => absurd hi (by omega)⟩
 ·refine ⟨_, cap, hv, fun i hi => ⟨g, rfl, ?_⟩⟩
  rw [← hxs, List.getElem?_take, if_pos (by omega), Array.getElem?_toList]
  simp only [World.cell?, hh]
  simp

end Go.Proofs.YtimkklaidodkdaaGreatDoor
