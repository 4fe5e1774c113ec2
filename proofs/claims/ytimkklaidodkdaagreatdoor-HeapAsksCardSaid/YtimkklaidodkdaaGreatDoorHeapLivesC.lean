/- What lives asks of a heap, plainly. -/
/- The law's leaf: walked. -/
/- What lives calls, at its own heaps. -/
import Derived.Test.YtimkklaidodkdaaGreatDoorHeapPut3
namespace Go.Proofs.YtimkklaidodkdaaGreatDoor
open Go.RowKit

def aS : ByteArray := ⟨#[97]⟩
def leafA : NodeD := ⟨1, [⟨aS, ⟨#[]⟩⟩], [], []⟩
def dA : List UInt8 := encN leafA
def kidA : KidD := ⟨aS, 2, sha dA⟩
def topA : NodeD := ⟨2, [], [kidA], []⟩
def dB : List UInt8 := encN topA
def cA (r : Int) : CellD := ⟨2, strOf dA, r⟩
def cB (r : Int) : CellD := ⟨3, strOf dB, r⟩
def hv0 : HeapD := ⟨16, []⟩
def hv1 : HeapD := ⟨16, [cA 0]⟩
def hv3 : HeapD := ⟨16, [cA 1, cB 0]⟩
def hv4 : HeapD := ⟨16, [cA 1, cB 1]⟩
theorem leaf_ok : checkN leafA = 0 := by decide
theorem top_ok : checkN topA = 0 := rfl
theorem leaf_wf : leafA.wf := ⟨by decide, by simp [leafA], by simp [leafA]⟩
theorem top_wf : topA.wf := ⟨by decide, by simp [topA, kidA, KidD.wf, sha_length], by simp [topA]⟩
theorem leaf_fit : fitN leafA := ⟨⟨show (1 : Nat) ≤ 4398046511104 by omega, show (0 : Nat) ≤ _ by omega, show (0 : Nat) ≤ _ by omega⟩, fun x hx => by
 obtain rfl : x = ⟨aS, ⟨#[]⟩⟩ := by simpa [leafA] using hx
 exact ⟨show (1 : Nat) ≤ 140737488355328 by omega, show (0 : Nat) ≤ 140737488355328 by omega⟩, by simp [leafA], by simp [leafA]⟩
theorem top_fit : fitN topA := ⟨⟨show (0 : Nat) ≤ _ by omega, show (1 : Nat) ≤ 2513169434916 by omega, show (0 : Nat) ≤ _ by omega⟩, by simp [topA], fun x hx => by
 obtain rfl : x = kidA := by simpa [topA] using hx
 exact show (1 : Nat) ≤ 140737488355328 by omega, by simp [topA]⟩
theorem node_enc (n : NodeD) (hw : n.wf) (hc : checkN n = 0) : nodeL (encN n) = n := (newC_node [] n hw hc).2
theorem cell_kids (k : Nat) (d : List UInt8) (r : Int) : (⟨k, strOf d, r⟩ : CellD).kids = kidNums (nodeL d) := rfl
theorem cell_d (k : Nat) (d : List UInt8) (r : Int) : (⟨k, strOf d, r⟩ : CellD).d = d := rfl
theorem cell_hash (k : Nat) (d : List UInt8) (r : Int) : (⟨k, strOf d, r⟩ : CellD).hash = sha d := rfl
theorem same_one (c : CellD) (d : List UInt8) (h : c.d = d) : sameC [c] d = some c := by
 unfold sameC
 rw [List.find?_cons, decide_eq_true h]
theorem same_not (c : CellD) (d : List UInt8) (h : c.d ≠ d) : sameC [c] d = none := by
 unfold sameC
 rw [List.find?_cons, decide_eq_false h]; rfl
theorem told_one (c : CellD) (k : Nat) (x : List UInt8) (hk : c.num = k) (hx : c.hash = x) : toldC [c] 0 [(k, x)] = 0 := by
 have hf : findC [c] k = some c := by
  unfold findC
  rw [List.find?_cons, show (c.num == k) = true by simpa using hk]
 rw [toldC]
 simp only [hf]
 rw [if_pos hx]; rfl
theorem nodeA : nodeL dA = leafA := by
 unfold dA
 exact node_enc leafA leaf_wf leaf_ok
theorem nodeB : nodeL dB = topA := by
 unfold dB
 exact node_enc topA top_wf top_ok
theorem dA_ne : dA ≠ dB := fun h => by
 have := enc_inj leafA topA leaf_wf top_wf leaf_ok top_ok h
 have h2 : (1 : Nat) = 2 := congrArg NodeD.kind this
 omega
theorem kidsAA (r : Int) : (cA r).kids = [] := by
 unfold cA
 rw [cell_kids, nodeA]; rfl
theorem kidsBB (r : Int) : (cB r).kids = [2] := by
 unfold cB
 rw [cell_kids, nodeB]; rfl
theorem right0 : RightH hv0 := ⟨by decide, by decide, by simp [hv0], by simp [hv0], by simp [hv0], by simp [hv0], by simp [hv0]⟩
theorem first0 : firstE hv0 leafA = 0 := by
 unfold firstE
 rw [leaf_ok]; rfl
theorem put0 : putE hv0 leafA = 0 ∧ putN hv0 leafA = 2 ∧ putS hv0 leafA = sha dA ∧ putH hv0 leafA = hv1 := put_new first0 rfl (by decide) rfl
theorem right1 : RightH hv1 := by rw [← put0.2.2.2]; exact putH_right right0 leaf_wf
theorem first1 : firstE hv1 leafA = 0 := by
 unfold firstE
 rw [leaf_ok]; rfl
theorem dAA (r : Int) : (cA r).d = dA := by
 unfold cA
 rw [cell_d]
theorem put1 : putE hv1 leafA = 0 ∧ putN hv1 leafA = 2 ∧ putS hv1 leafA = sha dA ∧ putH hv1 leafA = hv1 :=
 put_same first1 (c := cA 0) (same_one (cA 0) _ (by rw [dAA]; unfold dA; rfl))
theorem first2 : firstE hv1 topA = 0 := by
 unfold firstE
 rw [top_ok, if_neg (by simp)]
 unfold toldN
 have e : namedN topA = [(2, sha dA)] := by simp [namedN, topA, kidA]
 rw [e]
 exact told_one (cA 0) 2 (sha dA) rfl (by unfold cA; rw [cell_hash])
theorem put2 : putE hv1 topA = 0 ∧ putN hv1 topA = 3 ∧ putS hv1 topA = sha dB ∧ putH hv1 topA = hv3 :=
 put_new first2 (same_not (cA 0) _ (by rw [dAA]; exact dA_ne)) (by decide) rfl
theorem right3 : RightH hv3 := by rw [← put2.2.2.2]; exact putH_right right1 top_wf
theorem hold3 : holdE hv3 3 = 0 ∧ holdH hv3 3 = hv4 := by
 have h1 : holdE hv3 3 = 0 := rfl
 exact ⟨h1, by rw [holdH, if_pos h1]; rfl⟩
theorem right4 : RightH hv4 := by rw [← hold3.2]; exact holdH_right right3
theorem led4 (k : Nat) : ledC hv4.cells k = [2].count k := by
 show (([cA 1, cB 1]).flatMap CellD.kids).count k = _
 rw [List.flatMap_cons, List.flatMap_cons, kidsAA, kidsBB]; rfl
theorem find42 : findC hv4.cells 2 = some (cA 1) := rfl
theorem find43 : findC hv4.cells 3 = some (cB 1) := rfl
theorem drop42 : dropE hv4 2 = 7 ∧ dropH hv4 2 = hv4 := by
 have h1 : dropE hv4 2 = 7 := by
  rw [dropE, find42]
  show (if (1 : Int) = (ledC hv4.cells 2 : Int) then (7 : Int) else 0) = 7
  rw [led4]; rfl
 exact ⟨h1, by rw [dropH, h1]; rfl⟩
theorem held43 : heldC hv4 (cB 1) = 1 := by
 show (1 : Int) - (ledC hv4.cells 3 : Int) = 1
 rw [led4]; rfl
theorem drop43 : dropE hv4 3 = 0 ∧ dropH hv4 3 = hv0 := by
 have h1 : dropE hv4 3 = 0 := by
  rw [dropE, find43]
  show (if (1 : Int) = (ledC hv4.cells 3 : Int) then (7 : Int) else 0) = 0
  rw [led4]; rfl
 refine ⟨h1, ?_⟩
 rw [dropH, if_pos h1]
 show (⟨16, letF 3 hv4.cells 3⟩ : HeapD) = ⟨16, []⟩
 have e1 : letF 3 hv4.cells 3 = (cB 1).kids.foldl (letF 2) [cA 1] := by rw [letF, find43]; rfl
 have e2 : letF 2 [cA 1] 2 = (cA 1).kids.foldl (letF 1) [] := by
  rw [letF, show findC [cA 1] 2 = some (cA 1) from rfl]; rfl
 rw [e1, kidsBB, List.foldl_cons, e2, kidsAA]; rfl

end Go.Proofs.YtimkklaidodkdaaGreatDoor

namespace Go.Proofs.YtimkklaidodkdaaGreatDoor
open Go.RowKit

def leafS (s : ByteArray) : NodeD := ⟨1, [⟨s, ⟨#[]⟩⟩], [], []⟩
theorem built_item1 (s : ByteArray) : Tryz.prog.built 44 [(0, .string s)] = some #[.string s, .string ⟨#[]⟩] := by kernel_rfl
theorem built_leaf (p : Option Addr) (n c : Nat) : Tryz.prog.built 28 [(0, .int .u8 1), (1, .slice p n c)] = some #[.int .u8 1, .slice p n c, .slice none 0 0, .slice none 0 0] := by kernel_rfl
theorem info_itemH : (Tryz.prog.info? 44).map (fun i => (i.zero, i.size, i.bytes)) = some (some (.agg #[.string ⟨#[]⟩, .string ⟨#[]⟩]), 2, 32) := by kernel_rfl
theorem sl_nil (B : Nat) (w : World) (cs : Nat → List Value) (z : Nat) : SlAt B w (.slice none 0 0) 0 cs z := ⟨none, 0, rfl, Nat.zero_le _, fun h => absurd h (Nat.lt_irrefl 0)⟩

set_option maxRecDepth 100000 in
set_option maxHeartbeats 1600000 in
theorem leaf_calls (s : ByteArray) (w : World) : Calls Tryz.prog 52 #[.string s] w fun e w' => ∃ r, e = .returned r ∧ NodeAt w'.heap.size w' r (leafS s) ∧ Below w.heap.size w w' := by
 obtain ⟨iI0, hI, hIz0, hIz1, hIz2⟩ := info_parts info_itemH
 obtain ⟨W0, hW0⟩ : ∃ W0, W0 = w.alloc (.cells zeroNd 28) := ⟨_, rfl⟩
 obtain ⟨W1, hW1⟩ : ∃ W1, W1 = W0.alloc (.cells #[.string s, .string ⟨#[]⟩] 44) := ⟨_, rfl⟩
 have hA0 : RowIs W0 w.heap.size 28 zeroNd := by rw [hW0]; exact RowIs.new w _ _
 have hA1 : RowIs W1 w.heap.size 28 zeroNd := by rw [hW1]; exact hA0.alloc _
 have hI1 : RowIs W1 W0.heap.size 44 #[.string s, .string ⟨#[]⟩] := by rw [hW1]; exact RowIs.new W0 _ _
 have hb1 : Below w.heap.size w W1 := by rw [hW1, hW0]; exact ((Below.refl _ _).alloc (Nat.le_refl _) _).alloc (by simp) _
 have hlt := hA0.lt
 have hth := hA1.there 0 4 (by decide)
 have hszN : (Tryz.prog.info? 28).map (·.size) = some (#[.int .u8 1, .slice (some ⟨W0.heap.size, 0, none⟩) 1 1, .slice none 0 0, .slice none 0 0] : Array Value).size := by kernel_rfl
 have hone : (#[.int .u8 1, .slice (some ⟨W0.heap.size, 0, none⟩) 1 1, .slice none 0 0, .slice none 0 0] : Array Value).all (·.oneCell') = true := all_oneCell_toArray (cs := [.int .u8 1, .slice (some ⟨W0.heap.size, 0, none⟩) 1 1, .slice none 0 0, .slice none 0 0]) fun v hv => by
  simp only [List.mem_cons, List.not_mem_nil, or_false] at hv
  rcases hv with rfl | rfl | rfl | rfl <;> rfl
 have hst := store_row hA1 (D := #[.int .u8 1, .slice (some ⟨W0.heap.size, 0, none⟩) 1 1, .slice none 0 0, .slice none 0 0]) rfl
 have hbu := (But.refl w.heap.size W1).setCells [.int .u8 1, .slice (some ⟨W0.heap.size, 0, none⟩) 1 1, .slice none 0 0, .slice none 0 0] 0
 have hI2 := hI1.but hbu (by omega)
 have hb2 := setCells_below w.heap.size w.heap.size (Nat.le_refl _) [.int .u8 1, .slice (some ⟨W0.heap.size, 0, none⟩) 1 1, .slice none 0 0, .slice none 0 0] 0 _ _ hb1
 have HW0 := Lib.hid (show W0 = w.alloc (.cells #[.int .u8 0, .slice none 0 0, .slice none 0 0, .slice none 0 0] 28) from hW0)
 have HW1 := Lib.hid hW1
 have HF := Lib.hid (And.intro hst (And.intro hI2 hb2))
 clear hW0 hW1 hA0 hA1 hI1 hb1 hst hbu hI2 hb2 hlt
 generalize hX : W0.heap.size = X at *
 generalize hA : w.heap.size = A at *
 have HBI := Lib.hid (built_item1 s)
 have HBL := Lib.hid (built_leaf (some ⟨X, 0, none⟩) 1 1)
 go_enter Tryz.func52, Tryz.ntmps52
 go_wp2_with (first | (refine wpList_world HW0.out ?_) | (refine wpList_build_eqH rfl 44 [(0, .tmp 3)] rfl #[.string s, .string ⟨#[]⟩] (by exact HBI.out) ?_) | (refine wpList_buildSlice_oneH rfl 22 44 _ rfl Tryz.underlying22 iI0 hI _ hIz0 2 hIz1 #[.string s, .string ⟨#[]⟩] rfl rfl (by omega) (by omega) ?_; refine wpList_world HW1.out ?_) | (refine wpList_build_eqH rfl 28 [(0, .const (.int .u8 1)), (1, .tmp 5)] rfl #[.int .u8 1, .slice (some ⟨X, 0, none⟩) 1 1, .slice none 0 0, .slice none 0 0] (by exact HBL.out) ?_) | (refine wpList_store_mid rfl 28 _ _ rfl A 0 #[.int .u8 1, .slice (some ⟨X, 0, none⟩) 1 1, .slice none 0 0, .slice none 0 0] rfl rfl hth hszN hone ?_))
 refine bodyPost_ret (v := .agg #[.int .u8 1, .slice (some ⟨X, 0, none⟩) 1 1, .slice none 0 0, .slice none 0 0]) (results_cell_row (p := 2) (ty := 28) (by rfl) _ _ A 28 #[.int .u8 1, .slice (some ⟨X, 0, none⟩) 1 1, .slice none 0 0, .slice none 0 0] (0, 0) _ (by rfl) HF.out.1 Tryz.underlying28 (by rfl) hszN) (by rfl) ?_
 refine ⟨_, rfl, ⟨⟨show (1 : Nat) < 256 by omega, by simp [leafS], by simp [leafS]⟩, _, _, _, rfl, ?_, sl_nil _ _ _ _, sl_nil _ _ _ _⟩, HF.out.2.2⟩
 refine ⟨_, 1, rfl, show (1 : Nat) ≤ maxLen by (unfold maxLen; omega), fun _ => ⟨X, 0, rfl, HF.out.2.1.lt, fun i hi => ?_⟩⟩
 obtain rfl : i = 0 := by
  have : i < 1 := hi
  omega
 intro j u hj
 have hj2 : ([Value.string s, Value.string ⟨#[]⟩] : List Value)[j]? = some u := hj
 rw [HF.out.2.1.cell]
 simpa using hj2

end Go.Proofs.YtimkklaidodkdaaGreatDoor

namespace Go.Proofs.YtimkklaidodkdaaGreatDoor
open Go.RowKit

theorem OwnH.shape {B : Nat} {w : World} {v : Value} {h : HeapD} (a : OwnH B w v h) : ∃ p c, v = .agg #[.int .u32 (h.size : Int), .slice p h.cells.length c] := by
 obtain ⟨sl, rfl, ho⟩ := a
 obtain ⟨p, c, rfl⟩ := own_shape ho
 exact ⟨p, c, rfl⟩
theorem OwnH.heap {B : Nat} {w : World} {v : Value} {h : HeapD} (a : OwnH B w v h) (r : RightH h) : HeapAt w.heap.size w v h := a.at r.nums.1 r.nums.2.1 r.nums.2.2
theorem heap_nil (B : Nat) (w : World) : HeapAt B w (.agg #[.int .u32 16, .slice none 0 0]) hv0 := ⟨by decide, by simp [hv0], by decide, _, rfl, sl_nil _ _ _ _⟩
/-- A node is put, and it went well. -/
def PutOk (num : Nat) (x : List UInt8) (H : HeapD) (w : World) (e : Ending) (w' : World) : Prop :=
 ∃ p c, e = .returned (.tuple #[.agg #[.int .u32 (H.size : Int), .slice p H.cells.length c], .agg (kidV (kidH num x)).toArray, .int .i64 0]) ∧ OwnH w.heap.size w' (.agg #[.int .u32 (H.size : Int), .slice p H.cells.length c]) H ∧ Below w.heap.size w w'
theorem put_well (v : Value) (h : HeapD) (vn : Value) (n : NodeD) (w : World) (a : HeapAt w.heap.size w v h) (an : NodeAt w.heap.size w vn n) (hfit : fitN n) (hz : n.kids.length + n.vols.length ≤ 1048576) (hr : RightH h) {num : Nat} {x : List UInt8} {H : HeapD} (hp : putE h n = 0 ∧ putN h n = num ∧ putS h n = x ∧ putH h n = H) :
  Calls Tryz.prog 14 #[v, vn] w (PutOk num x H w) := (hput_calls v h vn n w a an hfit hz).mono (by
 rintro e w' ⟨⟨r, ⟨_, rfl, ho⟩ | ⟨hno, _⟩⟩, hb⟩
 ·rw [hp.2.2.2] at ho
  obtain ⟨p, c, rfl⟩ := ho.shape
  exact ⟨p, c, by rw [hp.1, hp.2.1, hp.2.2.1], ho, hb⟩
 ·exact absurd hr hno)
/-- A step that hands back a heap, and how it went. -/
def StepOk (x : Int) (H : HeapD) (w : World) (e : Ending) (w' : World) : Prop :=
 ∃ p c, e = .returned (.tuple #[.agg #[.int .u32 (H.size : Int), .slice p H.cells.length c], .int .i64 x]) ∧ OwnH w.heap.size w' (.agg #[.int .u32 (H.size : Int), .slice p H.cells.length c]) H ∧ Below w.heap.size w w'
theorem hold_well (v : Value) (h : HeapD) (k : Nat) (w : World) (a : HeapAt w.heap.size w v h) (hr : RightH h) {x : Int} {H : HeapD} (hp : holdE h k = x ∧ holdH h k = H) : Calls Tryz.prog 22 #[v, .int .u32 (k : Int)] w (StepOk x H w) := (hold_calls v h k w a).mono (by
 rintro e w' ⟨⟨r, ⟨_, rfl, ho⟩ | ⟨hno, _⟩⟩, hb⟩
 ·rw [hp.2] at ho
  obtain ⟨p, c, rfl⟩ := ho.shape
  exact ⟨p, c, by rw [hp.1], ho, hb⟩
 ·exact absurd hr hno)
theorem drop_well (v : Value) (h : HeapD) (k : Nat) (w : World) (a : HeapAt w.heap.size w v h) (hr : RightH h) {x : Int} {H : HeapD} (hp : dropE h k = x ∧ dropH h k = H) : Calls Tryz.prog 24 #[v, .int .u32 (k : Int)] w (StepOk x H w) := (drop_calls v h k w a).mono (by
 rintro e w' ⟨⟨r, ⟨_, rfl, ho⟩ | ⟨hno, _⟩⟩, hb⟩
 ·rw [hp.2] at ho
  obtain ⟨p, c, rfl⟩ := ho.shape
  exact ⟨p, c, by rw [hp.1], ho, hb⟩
 ·exact absurd hr hno)
theorem free_well (v : Value) (h : HeapD) (w : World) (a : HeapAt w.heap.size w v h) (hr : RightH h) : Calls Tryz.prog 20 #[v] w fun e w' => e = .returned (.tuple #[.int .i64 ((h.size : Int) - 2 - (h.cells.length : Int)), .int .i64 0]) ∧ Below w.heap.size w w' := (free2_calls v h w a).mono (by
 rintro e w' ⟨⟨_, he⟩ | ⟨hno, _⟩, hb⟩
 ·exact ⟨he, hb⟩
 ·exact absurd hr hno)
theorem held_well (v : Value) (h : HeapD) (k : Nat) (w : World) (a : HeapAt w.heap.size w v h) (hr : RightH h) {c : CellD} (hf : findC h.cells k = some c) : Calls Tryz.prog 23 #[v, .int .u32 (k : Int)] w fun e w' => e = .returned (.tuple #[.int .i64 (heldC h c), .int .i64 0]) ∧ Below w.heap.size w w' := (held_calls v h k w a).mono (by
 rintro e w' ⟨⟨_, ⟨c', hc, he⟩ | ⟨hn, _⟩⟩ | ⟨hno, _⟩, hb⟩
 ·rw [hf] at hc
  injection hc with hc
  subst hc
  exact ⟨he, hb⟩
 ·rw [hf] at hn; cases hn
 ·exact absurd hr hno)
theorem get_well (v : Value) (h : HeapD) (k : Nat) (w : World) (a : HeapAt w.heap.size w v h) (hr : RightH h) {c : CellD} (hf : findC h.cells k = some c) : Calls Tryz.prog 17 #[v, .int .u32 (k : Int)] w fun e w' => ∃ r, e = .returned (.tuple #[r, .int .i64 0]) ∧ NodeAt w'.heap.size w' r c.node ∧ Below w.heap.size w w' := (get_calls v h k w a).mono (by
 rintro e w' ⟨⟨r, ⟨_, ⟨c', hc, he, hn⟩ | ⟨hn, _⟩⟩ | ⟨hno, _⟩⟩, hb⟩
 ·rw [hf] at hc
  injection hc with hc
  subst hc
  exact ⟨r, he, hn, hb⟩
 ·rw [hf] at hn; cases hn
 ·exact absurd hr hno)

end Go.Proofs.YtimkklaidodkdaaGreatDoor
