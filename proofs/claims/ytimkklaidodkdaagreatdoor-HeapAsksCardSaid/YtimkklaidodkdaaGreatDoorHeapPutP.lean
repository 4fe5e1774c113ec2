/- cmp.Or at two, slices.IndexFunc with put's own closure: walked. -/
/- What store.put's walk wants, plainly: literals, a node's shape, what it hands back. -/
import Derived.Test.YtimkklaidodkdaaGreatDoorHeapDrop
namespace Go.Proofs.YtimkklaidodkdaaGreatDoor
open Go.RowKit

set_option maxRecDepth 100000 in
set_option maxHeartbeats 1600000 in
theorem or2_calls (X : Nat) (a b : Int) (w : World) (h : RowIs w X 29 #[.int .i64 a, .int .i64 b]) :
  Calls Tryz.prog 75 #[.slice (some ⟨X, 0, none⟩) 2 2] w fun e w' => e = .returned (.int .i64 (if a ≠ 0 then a else b)) ∧ w' = w := by
 have ca : w.cell? ⟨X, 0, none⟩ = some (.int .i64 a) := by rw [h.cell]; rfl
 have cb : w.cell? ⟨X, 1, none⟩ = some (.int .i64 b) := by rw [h.cell]; rfl
 clear h
 go_enter Tryz.func75, Tryz.ntmps75
 go_wp2_with fail
 go_loopg [8] 2 (fun g s8 wx => ∃ t : Nat, t ≤ 2 ∧ g = 2 - t ∧ s8 = .int .i64 t ∧ (0 < t → a = 0) ∧ (1 < t → b = 0) ∧ wx = w)
 case atStart => exact ⟨0, by omega, by omega, rfl, by omega, by omega, rfl⟩
 case round =>
  obtain ⟨t, ht, rfl, rfl, h0, h1, rfl⟩ := hrel
  have H := Lib.hid (And.intro h0 h1)
  clear h0 h1
  by_cases h2 : t = 2
  ·subst h2
   have ha : a = 0 := H.out.1 (by omega)
   have hb : b = 0 := H.out.2 (by omega)
   subst ha; subst hb
   go_wp2_with fail
   go_ret
   exact ⟨rfl, rfl⟩
  ·by_cases h3 : t = 1
   ·subst h3
    have ha : a = 0 := H.out.1 (by omega)
    subst ha
    by_cases hb : b = 0
    ·subst hb
     go_wp2_with fail
     go_roundg 0
     case measure => omega
     case rel => exact ⟨2, by omega, rfl, rfl, by simp, by simp, rfl⟩
    ·have hb1 : (b == 0) = false := by simpa using hb
     have hb2 : (b != 0) = true := by simpa using hb
     go_wp2_with fail
     go_ret
     exact ⟨rfl, rfl⟩
   ·obtain rfl : t = 0 := by omega
    by_cases ha : a = 0
    ·subst ha
     go_wp2_with fail
     go_roundg 1
     case measure => omega
     case rel => exact ⟨1, by omega, rfl, rfl, by simp, by omega, rfl⟩
    ·have hb1 : (a == 0) = false := by simpa using ha
     have hb2 : (a != 0) = true := by simpa using ha
     go_wp2_with fail
     go_ret
     exact ⟨rfl, rfl⟩

theorem str_list {a b : ByteArray} (h : a.data.toList = b.data.toList) : a = b := by
 obtain ⟨⟨a⟩⟩ := a
 obtain ⟨⟨b⟩⟩ := b
 simp only [] at h
 rw [h]
theorem toList_dataI (s : ByteArray) : s.toList = s.data.toList := Lib.toList_data s

set_option maxRecDepth 100000 in
theorem putf_calls (P D : Nat) (C : Array Value) (s d : ByteArray) (w : World) (h : RowIs w P 109 C) (hC : C[1]? = some (.string s)) (hD : RowIs w D 9 #[.string d]) :
  Calls Tryz.prog 77 #[.pointer (some ⟨P, 0, none⟩), .pointer (some ⟨D, 0, none⟩)] w fun e w' => e = .returned (.bool (decide (s = d))) ∧ ∃ n, w' = w.drewN n := by
 have c1 : w.cell? ⟨P, 1, none⟩ = some (.string s) := by rw [h.cell]; exact hC
 have c2 : w.cell? ⟨D, 0, none⟩ = some (.string d) := by rw [hD.cell]; rfl
 clear h hC hD
 have he : (s.toList == d.toList) = decide (s = d) := by
  rw [Bool.eq_iff_iff, beq_iff_eq, decide_eq_true_eq]
  exact ⟨fun h => str_list (by rwa [toList_dataI, toList_dataI] at h), fun h => by rw [h]⟩
 have HE := Lib.hid he
 clear he
 go_enter Tryz.func77, Tryz.ntmps77
 go_wp2_with fail
 go_quiet (fail)
 go_wp2_with fail
 go_ret
 exact ⟨by rw [← HE.out]; rfl, nq, rfl⟩

/-- What slices.IndexFunc hands back. -/
def IdxPost (l : List CellD) (d : List UInt8) (w : World) (e : Ending) (w' : World) : Prop := ∃ r : Int, e = .returned (.int .i64 r) ∧ ((r = -1 ∧ sameC l d = none) ∨ ∃ i, ∃ h : i < l.length, r = (i : Int) ∧ sameC l d = some l[i]) ∧ ∃ n, w' = w.drewN n
theorem same_at {l : List CellD} {d : List UInt8} {t : Nat} (ht : t < l.length) (h0 : l[t].d = d) (hb : ∀ q (hq : q < l.length), q < t → l[q].d ≠ d) : sameC l d = some l[t] := by
 unfold sameC
 rw [List.find?_eq_some_iff_getElem]
 exact ⟨by simpa using h0, t, ht, rfl, fun j hj => by simpa using hb j (by omega) hj⟩
theorem same_end {l : List CellD} {d : List UInt8} (hb : ∀ q (hq : q < l.length), l[q].d ≠ d) : sameC l d = none := by
 unfold sameC
 rw [List.find?_eq_none]
 intro c hc
 obtain ⟨q, hq, rfl⟩ := List.getElem_of_mem hc
 simpa using hb q hq
theorem drewN_drewN (w : World) (a b : Nat) : (w.drewN a).drewN b = w.drewN (a + b) := by
 simp only [World.drewN, Nat.add_assoc]

set_option maxRecDepth 100000 in
set_option maxHeartbeats 1600000 in
theorem indexf_calls (L : List CellM) (v : Value) (D : Nat) (d : ByteArray) (w : World) (hv : PtrsAt w v L) (hc : ∀ c ∈ L, RowIs w c.ptr 109 c.row.toArray) (hD : RowIs w D 9 #[.string d]) (hl : L.length ≤ 65536) :
  Calls Tryz.prog 76 #[v, .func (.func 77) #[] #[.pointer (some ⟨D, 0, none⟩)]] w (IdxPost (L.map CellM.d) d.data.toList w) := by
 obtain ⟨p, cap, rfl, hp⟩ := hv
 have HC := Lib.hid (And.intro hp (And.intro hc hD))
 clear hp hc hD
 obtain ⟨n, hn⟩ : ∃ n, n = L.length := ⟨_, rfl⟩
 rw [← hn] at hl ⊢
 have HN := Lib.hid hn
 clear hn
 go_enter Tryz.func76, Tryz.ntmps76
 go_wp2_with fail
 go_loopg [8] n (fun g s8 wx => ∃ t : Nat, t ≤ n ∧ g = n - t ∧ s8 = .int .i64 t ∧ (∀ q (hq : q < L.length), q < t → L[q].d.d ≠ d.data.toList) ∧ ∃ k, wx = w.drewN k)
 case atStart => exact ⟨0, by omega, by omega, rfl, fun q _ h => by omega, 0, rfl⟩
 case round =>
  obtain ⟨t, ht, rfl, rfl, hb, k, hwx⟩ := hrel
  have HW := Lib.hid hwx
  have hn := HN.out
  by_cases hlt : t < n
  ·have i1 : (t : Int) < (n : Int) := by omega
   have htL : t < L.length := by omega
   obtain ⟨R, hpR, hcell⟩ := HC.out.1 t htL
   subst hpR
   rw [CellM.p] at hcell
   have hcr : wr.cell? ⟨R, t, none⟩ = some (.pointer (some ⟨L[t].ptr, 0, none⟩)) := by rw [hwx]; exact hcell
   have hrow : RowIs wr L[t].ptr 109 L[t].row.toArray := by rw [hwx]; exact HC.out.2.1 _ (List.getElem_mem htL)
   have hDr : RowIs wr D 9 #[.string d] := by rw [hwx]; exact HC.out.2.2
   have hcall := putf_calls L[t].ptr D _ L[t].d.data d wr hrow rfl hDr
   have hde : (L[t].d.data = d) ↔ L[t].d.d = d.data.toList := ⟨fun h => by rw [← h]; rfl, fun h => str_list h⟩
   have HB := Lib.hid (And.intro hb hde)
   have hmt : (L.map CellM.d)[t]'(by simpa using htL) = L[t].d := List.getElem_map _
   have HM := Lib.hid hmt
   clear hb hde hcell hrow hDr hwx hn hmt
   generalize L[t].ptr = P at *
   by_cases hs : L[t].d.data = d
   ·rw [decide_eq_true hs] at hcall
    have HS := Lib.hid hs
    clear hs
    go_wp2_with fail
    refine hcall.mono ?_
    rintro e w2 ⟨rfl, m, hm⟩
    have HM2 := Lib.hid hm
    clear hm hcall
    go_wp2_with fail
    go_ret
    refine ⟨_, rfl, .inr ⟨t, by simpa using htL, rfl, same_at (by simpa using htL) (by rw [HM.out]; exact HB.out.2.1 HS.out) (fun q hq hqt => ?_)⟩, k + m, by rw [HM2.out, HW.out, drewN_drewN]⟩
    rw [List.length_map] at hq
    rw [List.getElem_map]
    exact HB.out.1 q hq hqt
   ·rw [decide_eq_false hs] at hcall
    have HS := Lib.hid hs
    clear hs
    go_wp2_with fail
    refine hcall.mono ?_
    rintro e w2 ⟨rfl, m, hm⟩
    have HM2 := Lib.hid hm
    clear hm hcall
    go_wp2_with fail
    go_roundg (n - (t + 1))
    case measure => omega
    case rel =>
     refine ⟨t + 1, by omega, rfl, by go_num, fun q hq hqt => ?_, k + m, by rw [HM2.out, HW.out, drewN_drewN]⟩
     rcases Nat.lt_or_ge q t with h9 | h9
     ·exact HB.out.1 q hq h9
     ·have : q = t := by omega
      subst this
      exact fun h => HS.out (HB.out.2.2 h)
  ·obtain rfl : t = n := by omega
   have HB := Lib.hid hb
   clear hb hwx
   go_wp2_with fail
   go_ret
   refine ⟨_, rfl, .inl ⟨rfl, same_end fun q hq => ?_⟩, k, HW.out⟩
   rw [List.length_map] at hq
   rw [List.getElem_map]
   exact HB.out q hq (by have := HN.out; omega)

end Go.Proofs.YtimkklaidodkdaaGreatDoor

namespace Go.Proofs.YtimkklaidodkdaaGreatDoor
open Go.RowKit

def emptyS : ByteArray := ⟨#[]⟩
def kidH (n : Nat) (x : List UInt8) : KidD := ⟨⟨#[]⟩, n, x⟩
theorem built_kid0 : Tryz.prog.built 38 [] = some (kidV (kidH 0 zeroH)).toArray := by kernel_rfl
theorem built_kidH (R : List UInt8) (hR : R.length = 32) : Tryz.prog.built 38 [(2, .agg (byteCells R))] = some (kidV (kidH 0 R)).toArray := by
 have h : Tryz.prog.built 38 [(2, .agg (byteCells R))] = Instr.fill ((#[(0, 1), (1, 1), (2, 32)] : Array (Nat × Nat))[·]?) kidZ [(2, .agg (byteCells R))] := by kernel_rfl
 have hz : kidZ.size = 34 := rfl
 rw [h, fill_last (off := 2) (size := 32) rfl (by simp [Value.cells, byteCells_size, hR]) (by simp [hz])]
 rfl
theorem kidH_set (n : Nat) (x : List UInt8) : (kidV (kidH 0 x)).toArray.setIfInBounds 1 (.int .u32 (n : Int)) = (kidV (kidH n x)).toArray := by
 rw [List.setIfInBounds_toArray]; rfl
theorem built_cell2 (n : Int) (s : ByteArray) : Tryz.prog.built 57 [(0, .int .u32 n), (1, .string s)] = some #[.int .u32 n, .string s, .int .i64 0] := by kernel_rfl
theorem built_cellX (n : Int) (s : ByteArray) (r k : Int) (p1 p2 p3 : Option Addr) (n1 n2 n3 c1 c2 c3 : Nat) (x : List UInt8) (hx : x.length = 32) :
  Tryz.prog.built 109 [(0, .agg #[.int .u32 n, .string s, .int .i64 r]), (1, .agg #[.int .u8 k, .slice p1 n1 c1, .slice p2 n2 c2, .slice p3 n3 c3]), (2, .agg (byteCells x))] =
   some (([Value.int .u32 n, Value.string s, Value.int .i64 r, Value.int .u8 k, Value.slice p1 n1 c1, Value.slice p2 n2 c2, Value.slice p3 n3 c3] ++ (bytesV x ++ [Value.int .i64 0])).toArray) := by
 have h : Tryz.prog.built 109 [(0, .agg #[.int .u32 n, .string s, .int .i64 r]), (1, .agg #[.int .u8 k, .slice p1 n1 c1, .slice p2 n2 c2, .slice p3 n3 c3]), (2, .agg (byteCells x))] =
   Instr.fill ((#[(0, 3), (3, 4), (7, 32), (39, 1)] : Array (Nat × Nat))[·]?) (([Value.int .u32 n, Value.string s, Value.int .i64 r, Value.int .u8 k, Value.slice p1 n1 c1, Value.slice p2 n2 c2, Value.slice p3 n3 c3] ++ (bytesV zeroH ++ [Value.int .i64 0])).toArray) [(2, .agg (byteCells x))] := by kernel_rfl
 rw [h, fill_cons (off := 7) (size := 32) rfl (by simp [Value.cells, byteCells_size, hx]) (by simp [bytesV, zeroH]), Instr.fill]
 congr 1
theorem bytesV_len (x : List UInt8) : (bytesV x).length = x.length := by simp [bytesV]
theorem NodeAt.shapeN {B : Nat} {w : World} {v : Value} {n : NodeD} (h : NodeAt B w v n) : ∃ p1 c1 p2 c2 p3 c3, v = .agg #[.int .u8 (n.kind : Int), .slice p1 n.items.length c1, .slice p2 n.kids.length c2, .slice p3 n.vols.length c3] := by
 obtain ⟨_, vi, vk, vv, rfl, ⟨p1, c1, rfl, _⟩, ⟨p2, c2, rfl, _⟩, ⟨p3, c3, rfl, _⟩⟩ := h
 exact ⟨p1, c1, p2, c2, p3, c3, rfl⟩
/-- What store.put leaves. -/
def PutPost (B S : Nat) (h : HeapD) (n : NodeD) (w : World) (e : Ending) (w' : World) : Prop := ∃ vs L, e = .returned (.tuple #[.agg (kidV (kidH (putN h n) (putS h n))).toArray, .int .i64 (putE h n)]) ∧ L.map CellM.d = (putH h n).cells ∧ (∀ c ∈ L, c.hash = c.d.hash) ∧ StoreAt B w' S h.size vs L ∧ Keep B w w'
theorem put_err {h : HeapD} {n : NodeD} {x : Int} (hx : putE h n = x) (h0 : x ≠ 0) : putN h n = 0 ∧ putS h n = zeroH ∧ putH h n = h := by
 have : ¬ putE h n = 0 := by rw [hx]; exact h0
 exact ⟨by rw [putN, if_neg this], by rw [putS, if_neg this]; rfl, by rw [putH, if_neg (fun q => this q.1)]⟩
def firstE (h : HeapD) (n : NodeD) : Int := if checkN n ≠ 0 then checkN n else toldN h.cells n
theorem put_first {h : HeapD} {n : NodeD} (hE : firstE h n ≠ 0) : putE h n = firstE h n := by
 unfold firstE at hE ⊢
 unfold putE
 by_cases h1 : checkN n ≠ 0
 ·rw [if_pos h1, if_pos h1]
 ·rw [if_neg h1] at hE ⊢
  rw [if_neg h1, if_pos hE]
theorem first_zero {h : HeapD} {n : NodeD} (hE : firstE h n = 0) : checkN n = 0 ∧ toldN h.cells n = 0 := by
 unfold firstE at hE
 by_cases h1 : checkN n ≠ 0
 ·rw [if_pos h1] at hE; exact absurd hE h1
 ·rw [if_neg h1] at hE; exact ⟨by simpa using h1, hE⟩
theorem put_same {h : HeapD} {n : NodeD} (hE : firstE h n = 0) {c : CellD} (hs : sameC h.cells (encN n) = some c) : putE h n = 0 ∧ putN h n = c.num ∧ putS h n = sha (encN n) ∧ putH h n = h := by
 obtain ⟨h1, h2⟩ := first_zero hE
 have e : putE h n = 0 := by
  unfold putE
  rw [if_neg (by simp [h1]), if_neg (by simp [h2]), hs]; rfl
 exact ⟨e, by rw [putN, if_pos e, hs], by rw [putS, if_pos e], by rw [putH, if_neg (by rw [hs]; simp)]⟩
theorem put_full {h : HeapD} {n : NodeD} (hE : firstE h n = 0) (hs : sameC h.cells (encN n) = none) (hf : ¬ freeC h.cells < h.size) : putE h n = 8 := by
 obtain ⟨h1, h2⟩ := first_zero hE
 unfold putE
 rw [if_neg (by simp [h1]), if_neg (by simp [h2]), hs, if_neg (by simp), if_pos (by omega)]
theorem put_range {h : HeapD} {n : NodeD} (hE : firstE h n = 0) (hs : sameC h.cells (encN n) = none) (hf : freeC h.cells < h.size) (hx : fullC h.cells (kidNums n) = true) : putE h n = 1 := by
 obtain ⟨h1, h2⟩ := first_zero hE
 unfold putE
 rw [if_neg (by simp [h1]), if_neg (by simp [h2]), hs, if_neg (by simp), if_neg (by omega), if_pos hx]
theorem put_new {h : HeapD} {n : NodeD} (hE : firstE h n = 0) (hs : sameC h.cells (encN n) = none) (hf : freeC h.cells < h.size) (hx : fullC h.cells (kidNums n) = false) : putE h n = 0 ∧ putN h n = freeC h.cells ∧ putS h n = sha (encN n) ∧ putH h n = ⟨h.size, putL h.cells n⟩ := by
 obtain ⟨h1, h2⟩ := first_zero hE
 have e : putE h n = 0 := by
  unfold putE
  rw [if_neg (by simp [h1]), if_neg (by simp [h2]), hs, if_neg (by simp), if_neg (by omega), hx]; rfl
 exact ⟨e, by rw [putN, if_pos e, hs], by rw [putS, if_pos e], by rw [putH, if_pos ⟨e, hs⟩]⟩
/-- A block that came later is written. -/
theorem Keep.newer {B b : Nat} {w w5 w6 : World} (hk : Keep B w w5) (hb : But b w5 w6) (hA : w.heap.size ≤ b) : Keep B w w6 :=
 ⟨hb.os.trans hk.os, hb.tape.trans hk.tape, hb.output.trans hk.output, Nat.le_trans hk.size hb.size, fun k hk1 hq => (hb.block k (Nat.lt_of_lt_of_le hk1 hk.size) (by omega)).trans (hk.block k hk1 hq)⟩
theorem StoreAt.later {B b : Nat} {w w5 w6 : World} {S size : Nat} {vs : Value} {L : List CellM} {t : TypeId} {C : Array Value} (h0 : ∀ c ∈ L, NodeOk B w (.agg c.nv.toArray) c.d.node) (hB : B ≤ w.heap.size) (h : StoreAt B w5 S size vs L) (hk : Keep B w w6) (hr : RowIs w5 b t C) (ht : heapT t = false) (hb : But b w5 w6) : StoreAt B w6 S size vs L := by
 obtain ⟨ask, hS, ho⟩ := h.row
 have ne : ∀ {c : Nat} {t' : TypeId} {D : Array Value}, RowIs w5 c t' D → heapT t' = true → c ≠ b := fun hr' ht' e => by
  subst e
  rw [row_type hr' hr, ht] at ht'
  cases ht'
 refine ⟨Nat.le_trans h.hB hb.size, ⟨ask, hS.but hb (ne hS (by decide)), ownsRow_but ho hb (fun c hx => ?_)⟩, h.ge, fun c hc => ?_, h.nodup⟩
 ·have := row_type hr hx
  rw [this] at ht
  revert ht; decide
 ·have hcc := h.cells c hc
  exact ⟨hcc.row.but hb (ne hcc.row (by decide)), hcc.ge, hcc.nv, hcc.hash, (h0 c hc).keep hk hB⟩
def fullK (l : List CellD) (ks : List Nat) (k : Nat) : Bool := match findC l k with
 | some c => decide (16777216 - (ks.count k : Int) < c.refs)
 | none => false
theorem full_true {l : List CellD} {ks : List Nat} {t : Nat} (ht : t < ks.length) (h : fullK l ks ks[t] = true) : fullC l ks = true := by
 show (ks.any fun k => fullK l ks k) = true
 rw [List.any_eq_true]
 exact ⟨ks[t], List.getElem_mem ht, h⟩
theorem full_false {l : List CellD} {ks : List Nat} (h : ∀ i (hi : i < ks.length), fullK l ks ks[i] = false) : fullC l ks = false := by
 show (ks.any fun k => fullK l ks k) = false
 rw [List.any_eq_false]
 intro k hk
 obtain ⟨i, hi, rfl⟩ := List.getElem_of_mem hk
 rw [h i hi]; decide
theorem kid_hashP {w : World} {b k : Nat} {x : List UInt8} (h : RowIs w b 38 (kidV (kidH k x)).toArray) : w.rangeAt b 2 (bytesV x) := fun j u hj => by
 rw [h.cell, List.getElem?_toArray, kidV, List.getElem?_append_right (by simp)]
 rw [← hj]; congr 1; simp
theorem own_of_store {B : Nat} {w : World} {S size : Nat} {vs : Value} {L : List CellM} (h : StoreAt B w S size vs L) : w.ownsRow B 106 1 vs L.length (L.map CellM.p) := by
 obtain ⟨_, _, ho⟩ := h.row
 exact ho
def bothM (L : List CellM) (q : Nat) (hq : q < L.length) (r x : Int) : List CellM := L.set q { L[q] with d := { L[q].d with refs := r }, led := x }
theorem two_refs {B : Nat} {w : World} {S size : Nat} {vs : Value} {L : List CellM} (h : StoreAt B w S size vs L) (q : Nat) (hq : q < L.length) (r x : Int) :
  StoreAt B ((w.setCell ⟨L[q].ptr, 2, none⟩ (.int .i64 r)).setCell ⟨L[q].ptr, 39, none⟩ (.int .i64 x)) S size vs (bothM L q hq r x) ∧ Keep B w ((w.setCell ⟨L[q].ptr, 2, none⟩ (.int .i64 r)).setCell ⟨L[q].ptr, 39, none⟩ (.int .i64 x)) := by
 obtain ⟨h1, k1⟩ := upd_refs h q hq r
 have hq' : q < (L.set q { L[q] with d := { L[q].d with refs := r } }).length := by rw [List.length_set]; exact hq
 obtain ⟨h2, k2⟩ := upd_led h1 q hq' x
 simp only [List.getElem_set_self, List.set_set] at h2 k2
 exact ⟨h2, k1.trans k2⟩
theorem two_led {B : Nat} {w : World} {S size : Nat} {vs : Value} {L : List CellM} (h : StoreAt B w S size vs L) (q : Nat) (hq : q < L.length) (r x : Int) :
  StoreAt B ((w.setCell ⟨L[q].ptr, 39, none⟩ (.int .i64 x)).setCell ⟨L[q].ptr, 2, none⟩ (.int .i64 r)) S size vs (bothM L q hq r x) ∧ Keep B w ((w.setCell ⟨L[q].ptr, 39, none⟩ (.int .i64 x)).setCell ⟨L[q].ptr, 2, none⟩ (.int .i64 r)) := by
 obtain ⟨h1, k1⟩ := upd_led h q hq x
 have hq' : q < (L.set q { L[q] with led := x }).length := by rw [List.length_set]; exact hq
 obtain ⟨h2, k2⟩ := upd_refs h1 q hq' r
 simp only [List.getElem_set_self, List.set_set] at h2 k2
 exact ⟨h2, k1.trans k2⟩
theorem set_both {B : Nat} {w : World} {L : List CellM} {q : Nat} (hq : q < L.length) (x : Int) {M : List CellD} (hd : (L.set q { L[q] with d := { L[q].d with refs := L[q].d.refs + 1 } }).map CellM.d = M) (hh : ∀ c ∈ L, c.hash = c.d.hash) (ho : ∀ c ∈ L, NodeOk B w (.agg c.nv.toArray) c.d.node) :
  (bothM L q hq (L[q].d.refs + 1) x).map CellM.d = M ∧ (∀ c ∈ bothM L q hq (L[q].d.refs + 1) x, c.hash = c.d.hash) ∧ ∀ c ∈ bothM L q hq (L[q].d.refs + 1) x, NodeOk B w (.agg c.nv.toArray) c.d.node := by
 refine ⟨?_, fun c hc => ?_, fun c hc => ?_⟩
 ·rw [← hd, bothM, List.map_set, List.map_set]
 ·rcases List.mem_or_eq_of_mem_set hc with hc | rfl
  ·exact hh c hc
  ·exact hh L[q] (List.getElem_mem hq)
 ·rcases List.mem_or_eq_of_mem_set hc with hc | rfl
  ·exact ho c hc
  ·exact ho L[q] (List.getElem_mem hq)

end Go.Proofs.YtimkklaidodkdaaGreatDoor
