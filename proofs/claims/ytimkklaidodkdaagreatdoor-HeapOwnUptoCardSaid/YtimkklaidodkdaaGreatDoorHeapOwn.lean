/- The law HeapOwn: walked. -/
import Derived.Test.YtimkklaidodkdaaGreatDoorHeapEnv
import Derived.Test.YtimkklaidodkdaaGreatDoorHeapSweep
import Derived.Test.YtimkklaidodkdaaGreatDoorHeapLivesC
import Derived.Test.YtimkklaidodkdaaGreatDoorHeapCopy
import Derived.Test.YtimkklaidodkdaaGreatDoorHeapLives
import Derived.Test.YtimkklaidodkdaaGreatDoorHeapSame
namespace Go.Proofs.YtimkklaidodkdaaGreatDoor
open Go.RowKit

/-- Cells that may be spoilt: they lie from B on. -/
def SpoilAt (B : Nat) (w : World) (p : Option Addr) (n : Nat) : Prop := 0 < n → ∃ g C, p = some ⟨g, 0, none⟩ ∧ B ≤ g ∧ RowIs w g 57 C ∧ n * 3 ≤ C.size ∧ ∀ i, i < n → ∃ r : Int, C[i * 3 + 2]? = some (.int .i64 r)
theorem SpoilAt.below {B C : Nat} {w w' : World} {p : Option Addr} {n : Nat} (h : SpoilAt B w p n) (hb : Below C w w') (hC : w.heap.size ≤ C) : SpoilAt B w' p n := fun h0 => by
  obtain ⟨g, D, hp, hB, hr, hs, hc⟩ := h h0
  exact ⟨g, D, hp, hB, hr.below hb (by have := hr.lt; omega), hs, hc⟩
theorem SpoilAt.mono {B C : Nat} {w : World} {p : Option Addr} {n : Nat} (h : SpoilAt B w p n) (hC : C ≤ B) : SpoilAt C w p n := fun h0 => by
  obtain ⟨g, D, hp, hB, hr⟩ := h h0
  exact ⟨g, D, hp, by omega, hr⟩
theorem row_inj {w : World} {b : Nat} {t t' : TypeId} {C D : Array Value} (h : RowIs w b t C) (k : RowIs w b t' D) : C = D := by
  unfold RowIs at h k
  rw [h] at k
  injection k with k
  injection k
theorem SpoilAt.set {B : Nat} {w : World} {p : Option Addr} {n : Nat} (h : SpoilAt B w p n) (g k : Nat) (v : Value) (hk : k % 3 = 2 → ∃ x : Int, v = .int .i64 x) : SpoilAt B (w.setCell ⟨g, k, none⟩ v) p n := fun h0 => by
  obtain ⟨g', D, hp, hB, hr, hs, hc⟩ := h h0
  by_cases e : g' = g
  · subst e
    refine ⟨g', _, hp, hB, hr.set k v, by rw [Array.size_setIfInBounds]; exact hs, fun i hi => ?_⟩
    rw [Array.getElem?_setIfInBounds]
    by_cases q : k = i * 3 + 2
    · rw [if_pos q, if_pos (by omega)]
      obtain ⟨x, rfl⟩ := hk (by omega)
      exact ⟨x, rfl⟩
    · rw [if_neg q]
      exact hc i hi
  · exact ⟨g', D, hp, hB, hr.other _ _ e, hs, hc⟩
theorem own_spoil {B : Nat} {w : World} {r : Value} {g : HeapD} (ho : OwnH B w r g) (hg : RightH g ∨ g = zeroHp) : ∃ (z : Int) (p : Option Addr) (n c : Nat), r = .agg #[.int .u32 z, .slice p n c] ∧ n ≤ 65536 ∧ SpoilAt B w p n := by
  have hlen : g.cells.length ≤ 65536 := by
    rcases hg with hg | rfl
    · exact hg.okH.len
    · decide
  obtain ⟨sl, rfl, hx, ⟨rfl, h0⟩ | ⟨b, cap, cur, rfl, hb, hr, hnc, hcm, hcs, hxs⟩⟩ := ho
  · exact ⟨_, none, 0, 0, rfl, by decide, fun q => absurd q (by decide)⟩
  · refine ⟨_, _, _, cap, rfl, hlen, fun _ => ⟨b, cur, rfl, hb, hr, by rw [hcs]; exact Nat.mul_le_mul_right 3 hnc, fun i hi => ⟨g.cells[i].refs, ?_⟩⟩⟩
    have h1 : cur[i * 3 + 2]? = (g.cells.flatMap cellV)[i * 3 + 2]? := by
      rw [← hxs, List.getElem?_take, if_pos (by omega), Array.getElem?_toList]
    rw [h1, flat_get g.cells (z := 3) (fun x _ => rfl) i 2 (by decide), List.getElem?_eq_getElem hi]
    rfl
def OwnPost (w : World) (r : Value) (w' : World) : Prop := ∃ (z : Int) (p : Option Addr) (n c : Nat), r = .agg #[.int .u32 z, .slice p n c] ∧ n ≤ 65536 ∧ SpoilAt w.heap.size w' p n ∧ Below w.heap.size w w'
theorem own_post {h g0 : HeapD} {w w' : World} {r : Value} (hr : RightH h → RightH g0) (hh : (RightH h ∧ OwnH w.heap.size w' r g0) ∨ (¬ RightH h ∧ OwnH w.heap.size w' r zeroHp)) (hb : Below w.heap.size w w') : OwnPost w r w' := by
  rcases hh with ⟨h1, ho⟩ | ⟨h1, ho⟩
  · obtain ⟨z, p, n, c, hv, hn, hs⟩ := own_spoil ho (.inl (hr h1))
    exact ⟨z, p, n, c, hv, hn, hs, hb⟩
  · obtain ⟨z, p, n, c, hv, hn, hs⟩ := own_spoil ho (.inr rfl)
    exact ⟨z, p, n, c, hv, hn, hs, hb⟩
theorem put_own (v : Value) (h : HeapD) (vn : Value) (n : NodeD) (w : World) (a : HeapAt w.heap.size w v h) (an : NodeAt w.heap.size w vn n) (hfit : fitN n) (hz : n.kids.length + n.vols.length ≤ 1048576) :
    Calls Tryz.prog 14 #[v, vn] w fun e w' => ∃ r kd x, e = .returned (.tuple #[r, .agg (kidV kd).toArray, .int .i64 x]) ∧ kd.hash.length = 32 ∧ OwnPost w r w' := (hput_calls v h vn n w a an hfit hz).mono (by
  rintro e w' ⟨⟨r, ⟨hr, rfl, ho⟩ | ⟨hno, rfl, ho⟩⟩, hb⟩
  · exact ⟨r, _, _, rfl, putS_len h n, own_post (fun q => putH_right q an.wf) (.inl ⟨hr, ho⟩) hb⟩
  · exact ⟨r, _, _, rfl, by simp [kidH, zeroH], own_post (fun q => putH_right q an.wf (n := n)) (.inr ⟨hno, ho⟩) hb⟩)
theorem hold_own (v : Value) (h : HeapD) (k : Nat) (w : World) (a : HeapAt w.heap.size w v h) : Calls Tryz.prog 22 #[v, .int .u32 (k : Int)] w fun e w' => ∃ r x, e = .returned (.tuple #[r, .int .i64 x]) ∧ OwnPost w r w' := (hold_calls v h k w a).mono (by
  rintro e w' ⟨⟨r, ⟨hr, rfl, ho⟩ | ⟨hno, rfl, ho⟩⟩, hb⟩
  · exact ⟨r, _, rfl, own_post (fun q => holdH_right q (k := k)) (.inl ⟨hr, ho⟩) hb⟩
  · exact ⟨r, _, rfl, own_post (fun q => holdH_right q (k := k)) (.inr ⟨hno, ho⟩) hb⟩)
theorem drop_own (v : Value) (h : HeapD) (k : Nat) (w : World) (a : HeapAt w.heap.size w v h) : Calls Tryz.prog 24 #[v, .int .u32 (k : Int)] w fun e w' => ∃ r x, e = .returned (.tuple #[r, .int .i64 x]) ∧ OwnPost w r w' := (drop_calls v h k w a).mono (by
  rintro e w' ⟨⟨r, ⟨hr, rfl, ho⟩ | ⟨hno, rfl, ho⟩⟩, hb⟩
  · exact ⟨r, _, rfl, own_post (fun q => dropH_right q (k := k)) (.inl ⟨hr, ho⟩) hb⟩
  · exact ⟨r, _, rfl, own_post (fun q => dropH_right q (k := k)) (.inr ⟨hno, ho⟩) hb⟩)
theorem sweep_own (v : Value) (h : HeapD) (w : World) (a : HeapAt w.heap.size w v h) : Calls Tryz.prog 35 #[v] w fun e w' => ∃ r x, e = .returned (.tuple #[r, .int .i64 x]) ∧ OwnPost w r w' := (sweep_calls v h w a).mono (by
  rintro e w' ⟨⟨r, ⟨hr, rfl, ho⟩ | ⟨hno, rfl, ho⟩⟩, hb⟩
  · exact ⟨r, _, rfl, own_post (fun q => sweepH_right q) (.inl ⟨hr, ho⟩) hb⟩
  · exact ⟨r, _, rfl, own_post (fun q => sweepH_right q) (.inr ⟨hno, ho⟩) hb⟩)
theorem run_buildSlice_4 {P : Program} (t e : TypeId) (hu : P.underlying t = some (.slice e)) (i : TypeInfo) (hi : P.info? e = some i) (hz : i.zero = some (.agg #[.int .u32 0, .slice none 0 0])) (hs2 : i.size = 2) (a0 a1 a2 a3 b0 b1 b2 b3 : Value) (w : World) :
    (Instr.buildSlice t 4 #[(0, .agg #[a0, b0]), (1, .agg #[a1, b1]), (2, .agg #[a2, b2]), (3, .agg #[a3, b3])]).run P w = .ok (.slice (some ⟨w.heap.size, 0, none⟩) 4 4) (w.alloc (.cells #[a0, b0, a1, b1, a2, b2, a3, b3] e)) := by
  have hfill : Instr.fill (fun k => some (k * 2, 2)) ((Array.range 8).map ((Value.agg #[.int .u32 0, .slice none 0 0]).cells[· % (Value.agg #[.int .u32 0, .slice none 0 0]).cells.size]!)) [(0, .agg #[a0, b0]), (1, .agg #[a1, b1]), (2, .agg #[a2, b2]), (3, .agg #[a3, b3])] = some #[a0, b0, a1, b1, a2, b2, a3, b3] := by kernel_rfl
  have hs : (sizeOf e).run P w = .ok 2 w := by simp [sizeOf, typeInfo, hi, hs2]
  have hzv : (zeroValue e).run P w = .ok (.agg #[.int .u32 0, .slice none 0 0]) w := by simp [zeroValue, typeInfo, hi, hz]
  unfold Instr.buildSlice
  simp only [Sem.run_bind, run_underlying hu, Result.andThen_ok, hs]
  rw [if_neg (by decide), if_neg (by decide)]
  simp only [Sem.run_bind, hzv, Result.andThen_ok, Sem.run_pure]
  rw [show (4 * 2 : Nat) = 8 from rfl]
  simp only [hfill]
  simp [newRow]
theorem wpList_buildSlice_4 {P : Program} {ops : Array Oper} {rest : List Oper} {o : Oper} {a : Act} {w : World} {Q : Exit → Act → World → Prop} (hgd : o.guard = none) (t e : TypeId) {x0 x1 x2 x3 : Operand} (ho : o.op = .buildSlice t 4 #[(0, x0), (1, x1), (2, x2), (3, x3)]) (hu : P.underlying t = some (.slice e)) (i : TypeInfo) (hi : P.info? e = some i) (hz : i.zero = some (.agg #[.int .u32 0, .slice none 0 0])) (hs2 : i.size = 2)
    (a0 a1 a2 a3 b0 b1 b2 b3 : Value) (h0 : a.eval x0 = .agg #[a0, b0]) (h1 : a.eval x1 = .agg #[a1, b1]) (h2 : a.eval x2 = .agg #[a2, b2]) (h3 : a.eval x3 = .agg #[a3, b3])
    (k : wpList P ops Q rest (a.put o.dst (.slice (some ⟨w.heap.size, 0, none⟩) 4 4)) (w.alloc (.cells #[a0, b0, a1, b1, a2, b2, a3, b3] e))) : wpList P ops Q (o :: rest) a w :=
  wpList_plain hgd fun _ hK => by
    have hr := run_buildSlice_4 (P := P) t e hu i hi hz hs2 a0 a1 a2 a3 b0 b1 b2 b3 w
    unfold Oper.wp execOp
    simp only [ho, List.map_toArray, List.map_cons, List.map_nil, h0, h1, h2, h3, Sem.run_bind, hr, Result.andThen_ok]
    exact hK _ _ k
theorem info_heapO : (Tryz.prog.info? 35).map (fun i => (i.zero, i.size, i.bytes)) = some (some (.agg #[.int .u32 0, .slice none 0 0]), 2, 32) := by kernel_rfl
structure HV where
  z : Int
  p : Option Addr
  n : Nat
  c : Nat
def HV.cells (q : HV) : List Value := [.int .u32 q.z, .slice q.p q.n q.c]
/-- What holds while the four are spoilt. -/
structure Spoils (Bo S : Nat) (WB wx : World) (S4 : List HV) : Prop where
  below : Below Bo WB wx
  row : RowIs wx S 35 (S4.flatMap HV.cells).toArray
  all : ∀ q ∈ S4, q.n ≤ 65536 ∧ SpoilAt Bo wx q.p q.n
theorem Spoils.cellsAt {Bo S : Nat} {WB wx : World} {S4 : List HV} (h : Spoils Bo S WB wx S4) (t : Nat) (ht : t < S4.length) : wx.cell? ⟨S, t * 2, none⟩ = some (.int .u32 S4[t].z) ∧ wx.cell? ⟨S, t * 2 + 1, none⟩ = some (.slice S4[t].p S4[t].n S4[t].c) := by
  have h0 := flat_get S4 (f := HV.cells) (z := 2) (fun x _ => rfl) t 0 (by decide)
  have h1 := flat_get S4 (f := HV.cells) (z := 2) (fun x _ => rfl) t 1 (by decide)
  rw [List.getElem?_eq_getElem ht] at h0 h1
  constructor
  · rw [h.row.cell, List.getElem?_toArray]; exact h0
  · rw [h.row.cell, List.getElem?_toArray]; exact h1
theorem Spoils.call {Bo S : Nat} {WB wx wy : World} {S4 : List HV} (h : Spoils Bo S WB wx S4) (hq : Below wx.heap.size wx wy) (hB : Bo ≤ wx.heap.size) : Spoils Bo S WB wy S4 :=
  ⟨h.below.trans (hq.mono hB), h.row.below hq h.row.lt, fun q hm => ⟨(h.all q hm).1, (h.all q hm).2.below hq (Nat.le_refl _)⟩⟩
theorem Spoils.set {Bo S : Nat} {WB wx : World} {S4 : List HV} (h : Spoils Bo S WB wx S4) {g : Nat} {C : Array Value} (hr : RowIs wx g 57 C) (hg : Bo ≤ g) (k : Nat) (v : Value) (hk : k % 3 = 2 → ∃ x : Int, v = .int .i64 x) : Spoils Bo S WB (wx.setCell ⟨g, k, none⟩ v) S4 :=
  ⟨h.below.setCell (p := ⟨g, k, none⟩) hg v, h.row.other _ _ (row_ne h.row hr (by decide)), fun q hm => ⟨(h.all q hm).1, (h.all q hm).2.set g k v hk⟩⟩

set_option maxRecDepth 100000 in
set_option maxHeartbeats 12800000 in
theorem own_calls (v vn : Value) (h : HeapD) (n : NodeD) (k : Nat) (w : World) (a : HeapAt w.heap.size w v h) (an : NodeAt w.heap.size w vn n) (hfit : fitN n) (hbulk : n.kids.length + n.vols.length ≤ 1048576) :
    Calls Tryz.prog 9 #[v, vn, .int .u32 (k : Int)] w fun e w' => e = .returned (.bool true) ∧ Below w.heap.size w w' := by
  obtain ⟨iH, hiH, hiHz, hiHs, _⟩ := info_parts info_heapO
  obtain ⟨p, cap, rfl⟩ := a.shape
  obtain ⟨q1, d1, q2, d2, q3, d3, rfl⟩ := an.shapeN
  obtain ⟨W0, hW0⟩ : ∃ W0, W0 = w.alloc (.cells #[.int .u32 (h.size : Int), .slice p h.cells.length cap] 35) := ⟨_, rfl⟩
  obtain ⟨W1, hW1⟩ : ∃ W1, W1 = W0.alloc (.cells #[.int .u8 (n.kind : Int), .slice q1 n.items.length d1, .slice q2 n.kids.length d2, .slice q3 n.vols.length d3] 28) := ⟨_, rfl⟩
  have E0 := ((Env.start (hs := [(.agg #[.int .u32 (h.size : Int), .slice p h.cells.length cap], h)]) (ns := [(.agg #[.int .u8 (n.kind : Int), .slice q1 n.items.length d1, .slice q2 n.kids.length d2, .slice q3 n.vols.length d3], n)]) (by simpa using a) (by simpa using an)).alloc hW0).alloc hW1
  have hlv := hlives_calls W1
  have hszH : ∀ x y : Value, (Tryz.prog.info? 35).map (·.size) = some (#[x, y] : Array Value).size := fun x y => by kernel_rfl
  have hszN : ∀ x y z u : Value, (Tryz.prog.info? 28).map (·.size) = some (#[x, y, z, u] : Array Value).size := fun x y z u => by kernel_rfl
  have hszK : ∀ C : Array Value, C.size = 34 → (Tryz.prog.info? 38).map (·.size) = some C.size := fun C hC => by rw [hC]; kernel_rfl
  have hsz := hszH (.int .u32 (h.size : Int)) (.slice p h.cells.length cap)
  have hsn := hszN (.int .u8 (n.kind : Int)) (.slice q1 n.items.length d1) (.slice q2 n.kids.length d2) (.slice q3 n.vols.length d3)
  have HSZ := Lib.hid (And.intro hszH (And.intro hszN hszK))
  have HW0 := Lib.hid hW0
  have HW1 := Lib.hid hW1
  have HE0 := Lib.hid E0
  have HFIT := Lib.hid (And.intro hfit hbulk)
  clear hW0 hW1 a an E0 hszH hszN hszK hfit hbulk
  generalize hXg : w.heap.size = X at *
  generalize hYg : W0.heap.size = Y at *
  go_enter Tryz.func9, Tryz.ntmps9
  go_wp2_with (first | (refine wpList_world HW0.out ?_) | (refine wpList_world HW1.out ?_))
  refine hlv.mono ?_
  rintro e w1 ⟨rfl, hq⟩
  have E1 := HE0.out.call hq
  have hx := E1.rowAt 1 rfl
  have hcall := copy06_calls _ _ h w1 (E1.heap 0 rfl) (Nat.le_refl _)
  have HE1 := Lib.hid E1
  clear hlv hq E1 HE0
  go_wp2_with (refine wpList_load_row rfl 35 _ rfl X rfl 35 #[.int .u32 (h.size : Int), .slice p h.cells.length cap] (0, 0) _ hx Tryz.underlying35 rfl hsz ?_)
  refine hcall.mono ?_
  rintro e w2 ⟨r, rfl, hor, hq⟩
  have hat := (HE1.out.heap 0 rfl)
  have hhr : HeapAt w2.heap.size w2 r h := hor.at hat.size hat.nums hat.many
  obtain ⟨p7, c7, rfl⟩ := hhr.shape
  have E := (HE1.out.call hq).addH hhr
  obtain ⟨W2, hW2⟩ : ∃ W2, W2 = w2.alloc (.cells #[.int .u32 0, .slice none 0 0] 35) := ⟨_, rfl⟩
  obtain ⟨WB, hWB⟩ : ∃ WB, WB = W2.setCells w2.heap.size 0 [.int .u32 (h.size : Int), .slice p7 h.cells.length c7] := ⟨_, rfl⟩
  have hth7 : W2.there w2.heap.size 0 2 := ((E.alloc hW2).rowAt 0 rfl).there 0 2 (by simp)
  have hone7 := oneH (h.size : Int) p7 h.cells.length c7
  have hsz7 := HSZ.out.1 (.int .u32 (h.size : Int)) (.slice p7 h.cells.length c7)
  have EB := (E.var (D := #[.int .u32 (h.size : Int), .slice p7 h.cells.length c7]) hW2 hWB rfl).up
  have hx := EB.rowAt 2 rfl
  have hy := EB.rowAt 1 rfl
  have hcall := put_own _ h _ n WB (EB.heap 1 rfl) (EB.node 0 rfl) HFIT.out.1 HFIT.out.2
  have F0 : Env WB.heap.size WB.heap.size WB WB [] [] [] := Env.start (by simp) (by simp)
  have HW2 := Lib.hid hW2
  have HWB := Lib.hid hWB
  have HEB := Lib.hid EB
  have HF0 := Lib.hid F0
  clear hq E EB F0 hW2 hWB HE1 hat hhr hor
  generalize hT7 : w2.heap.size = T7 at *
  generalize hBo : WB.heap.size = Bo at *
  go_wp2_with (first | (refine wpList_world HW2.out ?_) | (refine wpList_store_mid rfl 35 _ _ rfl T7 0 #[.int .u32 (h.size : Int), .slice p7 h.cells.length c7] rfl rfl hth7 hsz7 hone7 ?_; refine wpList_world HWB.out ?_) | (refine wpList_load_row rfl 35 _ rfl X rfl 35 #[.int .u32 (h.size : Int), .slice p h.cells.length cap] (0, 0) _ hx Tryz.underlying35 rfl hsz ?_) | (refine wpList_load_row rfl 28 _ rfl Y rfl 28 #[.int .u8 (n.kind : Int), .slice q1 n.items.length d1, .slice q2 n.kids.length d2, .slice q3 n.vols.length d3] (0, 0) _ hy Tryz.underlying28 rfl hsn ?_))
  refine hcall.mono ?_
  rintro e w3 ⟨r, kd, x3, rfl, hkh, z8, p8, n8, c8, rfl, hn8, hs8, hq⟩
  rw [hBo] at hs8 hq
  obtain ⟨KA, hKA⟩ : ∃ KA, KA = kidV kd := ⟨_, rfl⟩
  have hkl : KA.length = 34 := by rw [hKA]; exact kidV_length hkh
  have hkone : KA.toArray.all (·.oneCell') = true := by rw [hKA]; exact kidV_one kd
  have hszA := HSZ.out.2.2 KA.toArray (by rw [List.size_toArray, hkl])
  have hD2 : KA.toArray.size = ((kidV (kidH 0 zeroH)).toArray : Array Value).size := by rw [List.size_toArray, hkl]; rfl
  rw [← hKA]
  clear hKA hkh
  obtain ⟨W3, hW3⟩ : ∃ W3, W3 = w3.alloc (.cells #[.int .u32 0, .slice none 0 0] 35) := ⟨_, rfl⟩
  obtain ⟨W4, hW4⟩ : ∃ W4, W4 = W3.alloc (.cells (kidV (kidH 0 zeroH)).toArray 38) := ⟨_, rfl⟩
  obtain ⟨W5, hW5⟩ : ∃ W5, W5 = W4.setCells w3.heap.size 0 [.int .u32 z8, .slice p8 n8 c8] := ⟨_, rfl⟩
  obtain ⟨W6, hW6⟩ : ∃ W6, W6 = W5.setCells W3.heap.size 0 KA := ⟨_, rfl⟩
  have F3 := HF0.out.call (by rw [hBo]; exact hq)
  obtain ⟨F6, hth8, hth9⟩ := F3.var2 (D1 := #[.int .u32 z8, .slice p8 n8 c8]) (D2 := KA.toArray) hW3 hW4 hW5 hW6 rfl hD2
  have hq6 : Below w3.heap.size w3 W6 := ((Env.start (w := w3) (hs := []) (ns := []) (by simp) (by simp)).var2 (D1 := #[.int .u32 z8, .slice p8 n8 c8]) (D2 := KA.toArray) hW3 hW4 hW5 hW6 rfl hD2).1.below
  have hs8' := hs8.below hq6 (Nat.le_refl _)
  have hone8 := oneH z8 p8 n8 c8
  have hsz8 := HSZ.out.1 (.int .u32 z8) (.slice p8 n8 c8)
  have E6 := HEB.out.call (by rw [hBo]; exact F6.below)
  have hx := E6.rowAt 2 rfl
  have hcall := hold_own _ h k W6 (E6.heap 1 rfl)
  have HW3 := Lib.hid hW3
  have HW4 := Lib.hid hW4
  have HW5 := Lib.hid hW5
  have HW6 := Lib.hid hW6
  have HF6 := Lib.hid (And.intro F6 hs8')
  clear hq F3 F6 E6 hW3 hW4 hW5 hW6 HF0 hs8 hs8' hq6 hy hth7 HW2 HWB
  generalize hT8 : w3.heap.size = T8 at *
  generalize hT9 : W3.heap.size = T9 at *
  go_wp2_with (first | (refine wpList_world HW3.out ?_) | (refine wpList_world HW4.out ?_) | (refine wpList_store_mid rfl 35 _ _ rfl T8 0 #[.int .u32 z8, .slice p8 n8 c8] rfl rfl hth8 hsz8 hone8 ?_; refine wpList_world HW5.out ?_) | (refine wpList_store_mid rfl 38 _ _ rfl T9 0 KA.toArray rfl rfl hth9 hszA hkone ?_; refine wpList_world HW6.out ?_) | (refine wpList_load_row rfl 35 _ rfl X rfl 35 #[.int .u32 (h.size : Int), .slice p h.cells.length cap] (0, 0) _ hx Tryz.underlying35 rfl hsz ?_))
  refine hcall.mono ?_
  rintro e w4 ⟨r, x11, rfl, z11, p11, n11, c11, rfl, hn11, hs11, hq⟩
  have F := HF6.out.1.call hq
  have hBw : Bo ≤ w4.heap.size := by have := F.below.size; have := HF6.out.1.hB; omega
  obtain ⟨W7, hW7⟩ : ∃ W7, W7 = w4.alloc (.cells #[.int .u32 0, .slice none 0 0] 35) := ⟨_, rfl⟩
  obtain ⟨W8, hW8⟩ : ∃ W8, W8 = W7.setCells w4.heap.size 0 [.int .u32 z11, .slice p11 n11 c11] := ⟨_, rfl⟩
  have F2 := F.var (D := #[.int .u32 z11, .slice p11 n11 c11]) hW7 hW8 rfl
  have hth11 : W7.there w4.heap.size 0 2 := ((F.alloc hW7).rowAt 0 rfl).there 0 2 (by simp)
  have hq2 : Below w4.heap.size w4 W8 := ((Env.start (w := w4) (hs := []) (ns := []) (by simp) (by simp)).var (D := #[.int .u32 z11, .slice p11 n11 c11]) hW7 hW8 rfl).below
  have hs11' : SpoilAt Bo W8 p11 n11 := (hs11.mono (by have := HF6.out.1.hX; have := HF6.out.1.hB; omega)).below hq2 (Nat.le_refl _)
  have hone11 := oneH z11 p11 n11 c11
  have hsz11 := HSZ.out.1 (.int .u32 z11) (.slice p11 n11 c11)
  have E2 := HEB.out.call (by rw [hBo]; exact F2.below)
  have hx := E2.rowAt 2 rfl
  have hs8' := ((HF6.out.2).below hq (Nat.le_refl _)).below hq2 (Nat.le_refl _)
  have hcall := drop_own _ h k W8 (E2.heap 1 rfl)
  have HW7 := Lib.hid hW7
  have HW8 := Lib.hid hW8
  have HF8 := Lib.hid (And.intro F2 (And.intro hs11' (hs8')))
  clear hq hq2 F F2 E2 hW7 hW8 hs11' hs8' hs11
  generalize hT11 : w4.heap.size = T11 at *
  clear HF6
  go_wp2_with (first | (refine wpList_world HW7.out ?_) | (refine wpList_store_mid rfl 35 _ _ rfl T11 0 #[.int .u32 z11, .slice p11 n11 c11] rfl rfl hth11 hsz11 hone11 ?_; refine wpList_world HW8.out ?_) | (refine wpList_load_row rfl 35 _ rfl X rfl 35 #[.int .u32 (h.size : Int), .slice p h.cells.length cap] (0, 0) _ hx Tryz.underlying35 rfl hsz ?_))
  refine hcall.mono ?_
  rintro e w5 ⟨r, x13, rfl, z13, p13, n13, c13, rfl, hn13, hs13, hq⟩
  have F := HF8.out.1.call hq
  have hBw : Bo ≤ w5.heap.size := by have := F.below.size; have := HF8.out.1.hB; omega
  obtain ⟨W9, hW9⟩ : ∃ W9, W9 = w5.alloc (.cells #[.int .u32 0, .slice none 0 0] 35) := ⟨_, rfl⟩
  obtain ⟨WA, hWA⟩ : ∃ WA, WA = W9.setCells w5.heap.size 0 [.int .u32 z13, .slice p13 n13 c13] := ⟨_, rfl⟩
  have F2 := F.var (D := #[.int .u32 z13, .slice p13 n13 c13]) hW9 hWA rfl
  have hth13 : W9.there w5.heap.size 0 2 := ((F.alloc hW9).rowAt 0 rfl).there 0 2 (by simp)
  have hq2 : Below w5.heap.size w5 WA := ((Env.start (w := w5) (hs := []) (ns := []) (by simp) (by simp)).var (D := #[.int .u32 z13, .slice p13 n13 c13]) hW9 hWA rfl).below
  have hs13' : SpoilAt Bo WA p13 n13 := (hs13.mono (by have := HF8.out.1.hX; have := HF8.out.1.hB; omega)).below hq2 (Nat.le_refl _)
  have hone13 := oneH z13 p13 n13 c13
  have hsz13 := HSZ.out.1 (.int .u32 z13) (.slice p13 n13 c13)
  have E2 := HEB.out.call (by rw [hBo]; exact F2.below)
  have hx := E2.rowAt 2 rfl
  have hs11' := ((HF8.out.2.1).below hq (Nat.le_refl _)).below hq2 (Nat.le_refl _)
  have hs8' := ((HF8.out.2.2).below hq (Nat.le_refl _)).below hq2 (Nat.le_refl _)
  have hcall := sweep_own _ h WA (E2.heap 1 rfl)
  have HW9 := Lib.hid hW9
  have HWA := Lib.hid hWA
  have HFA := Lib.hid (And.intro F2 (And.intro hs13' (And.intro hs11' (hs8'))))
  clear hq hq2 F F2 E2 hW9 hWA hs13' hs11' hs8' hs13
  generalize hT13 : w5.heap.size = T13 at *
  clear HF8
  go_wp2_with (first | (refine wpList_world HW9.out ?_) | (refine wpList_store_mid rfl 35 _ _ rfl T13 0 #[.int .u32 z13, .slice p13 n13 c13] rfl rfl hth13 hsz13 hone13 ?_; refine wpList_world HWA.out ?_) | (refine wpList_load_row rfl 35 _ rfl X rfl 35 #[.int .u32 (h.size : Int), .slice p h.cells.length cap] (0, 0) _ hx Tryz.underlying35 rfl hsz ?_))
  refine hcall.mono ?_
  rintro e w6 ⟨r, x15, rfl, z15, p15, n15, c15, rfl, hn15, hs15, hq⟩
  have F := HFA.out.1.call hq
  have hBw : Bo ≤ w6.heap.size := by have := F.below.size; have := HFA.out.1.hB; omega
  obtain ⟨WC, hWC⟩ : ∃ WC, WC = w6.alloc (.cells #[.int .u32 0, .slice none 0 0] 35) := ⟨_, rfl⟩
  obtain ⟨WD, hWD⟩ : ∃ WD, WD = WC.setCells w6.heap.size 0 [.int .u32 z15, .slice p15 n15 c15] := ⟨_, rfl⟩
  have F2 := F.var (D := #[.int .u32 z15, .slice p15 n15 c15]) hWC hWD rfl
  have hth15 : WC.there w6.heap.size 0 2 := ((F.alloc hWC).rowAt 0 rfl).there 0 2 (by simp)
  have hq2 : Below w6.heap.size w6 WD := ((Env.start (w := w6) (hs := []) (ns := []) (by simp) (by simp)).var (D := #[.int .u32 z15, .slice p15 n15 c15]) hWC hWD rfl).below
  have hs15' : SpoilAt Bo WD p15 n15 := (hs15.mono (by have := HFA.out.1.hX; have := HFA.out.1.hB; omega)).below hq2 (Nat.le_refl _)
  have hone15 := oneH z15 p15 n15 c15
  have hsz15 := HSZ.out.1 (.int .u32 z15) (.slice p15 n15 c15)
  have E2 := HEB.out.call (by rw [hBo]; exact F2.below)
  have hx := E2.rowAt 2 rfl
  have hs13' := ((HFA.out.2.1).below hq (Nat.le_refl _)).below hq2 (Nat.le_refl _)
  have hs11' := ((HFA.out.2.2.1).below hq (Nat.le_refl _)).below hq2 (Nat.le_refl _)
  have hs8' := ((HFA.out.2.2.2).below hq (Nat.le_refl _)).below hq2 (Nat.le_refl _)
  clear hx
  have h8 := F2.rowAt 4 rfl
  have h11 := F2.rowAt 2 rfl
  have h13 := F2.rowAt 1 rfl
  have h15 := F2.rowAt 0 rfl
  obtain ⟨WS, hWS⟩ : ∃ WS, WS = WD.alloc (.cells #[.int .u32 z8, .slice p8 n8 c8, .int .u32 z11, .slice p11 n11 c11, .int .u32 z13, .slice p13 n13 c13, .int .u32 z15, .slice p15 n15 c15] 35) := ⟨_, rfl⟩
  have hqS : Below WD.heap.size WD WS := by rw [hWS]; exact (Below.refl _ _).alloc (Nat.le_refl _) _
  have hBD : Bo ≤ WD.heap.size := by have := F2.hX; have := F2.hB; omega
  obtain ⟨S4, hS4⟩ : ∃ S4 : List HV, S4 = [⟨z8, p8, n8, c8⟩, ⟨z11, p11, n11, c11⟩, ⟨z13, p13, n13, c13⟩, ⟨z15, p15, n15, c15⟩] := ⟨_, rfl⟩
  have hlen4 : S4.length = 4 := by rw [hS4]; rfl
  have hsp : Spoils Bo WD.heap.size WB WS S4 := ⟨F2.below.trans (hqS.mono hBD), by rw [hWS, hS4]; exact RowIs.new _ _ _, fun q hm => by
    rw [hS4] at hm
    simp only [List.mem_cons, List.not_mem_nil, or_false] at hm
    rcases hm with rfl | rfl | rfl | rfl
    · exact ⟨hn8, hs8'.below hqS (Nat.le_refl _)⟩
    · exact ⟨hn11, hs11'.below hqS (Nat.le_refl _)⟩
    · exact ⟨hn13, hs13'.below hqS (Nat.le_refl _)⟩
    · exact ⟨hn15, hs15'.below hqS (Nat.le_refl _)⟩⟩
  have HWC := Lib.hid hWC
  have HWD := Lib.hid hWD
  have HWS := Lib.hid hWS
  have HSP := Lib.hid hsp
  have HL4 := Lib.hid hlen4
  clear hq hq2 F F2 E2 hWC hWD hWS hsp hqS hS4 hlen4 hs8' hs11' hs13' hs15' hs15 HFA hn8 hn11 hn13 hn15 hBD hBw
  generalize hT15 : w6.heap.size = T15 at *
  generalize hSg : WD.heap.size = S at *
  go_wp2_with (first | (refine wpList_world HWC.out ?_) | (refine wpList_store_mid rfl 35 _ _ rfl T15 0 #[.int .u32 z15, .slice p15 n15 c15] rfl rfl hth15 hsz15 hone15 ?_; refine wpList_world HWD.out ?_) | (refine wpList_load_row rfl 35 _ rfl T8 rfl 35 #[.int .u32 z8, .slice p8 n8 c8] (0, 0) _ h8 Tryz.underlying35 rfl hsz8 ?_) | (refine wpList_load_row rfl 35 _ rfl T11 rfl 35 #[.int .u32 z11, .slice p11 n11 c11] (0, 0) _ h11 Tryz.underlying35 rfl hsz11 ?_) | (refine wpList_load_row rfl 35 _ rfl T13 rfl 35 #[.int .u32 z13, .slice p13 n13 c13] (0, 0) _ h13 Tryz.underlying35 rfl hsz13 ?_) | (refine wpList_load_row rfl 35 _ rfl T15 rfl 35 #[.int .u32 z15, .slice p15 n15 c15] (0, 0) _ h15 Tryz.underlying35 rfl hsz15 ?_) | (refine wpList_buildSlice_4 rfl 64 35 rfl Tryz.underlying64 iH hiH hiHz hiHs (.int .u32 z8) (.int .u32 z11) (.int .u32 z13) (.int .u32 z15) (.slice p8 n8 c8) (.slice p11 n11 c11) (.slice p13 n13 c13) (.slice p15 n15 c15) rfl rfl rfl rfl ?_; refine wpList_world HWS.out ?_))
  clear h8 h11 h13 h15 hth8 hth9 hth11 hth13 hth15
  go_loopg [54] 4 (fun g s54 wx => ∃ t : Nat, t ≤ 4 ∧ g = 4 - t ∧ s54 = .int .i64 t ∧ Spoils Bo S WB wx S4)
  case atStart => exact ⟨0, by omega, by omega, rfl, HSP.out⟩
  case round =>
    clear HSP
    obtain ⟨t, ht, rfl, rfl, hsp⟩ := hrel
    by_cases hlt : t < 4
    · have i1 : (t : Int) < 4 := by omega
      have hl4 : t < S4.length := by rw [HL4.out]; exact hlt
      obtain ⟨c0, c1⟩ := hsp.cellsAt t hl4
      obtain ⟨hqn, hqs⟩ := hsp.all S4[t] (List.getElem_mem hl4)
      have hBr : Bo ≤ wr.heap.size := by have := hsp.below.size; omega
      have HQ := Lib.hid (show S4[t] ∈ S4 from List.getElem_mem hl4)
      clear hqs
      generalize S4[t] = Q at *
      obtain ⟨z, pq, nq, cq⟩ := Q
      simp only [] at c0 c1 hqn
      obtain ⟨W57, hW57⟩ : ∃ W57, W57 = wr.alloc (.cells #[.int .u32 z, .slice pq nq cq] 35) := ⟨_, rfl⟩
      have hN : RowIs W57 wr.heap.size 35 #[.int .u32 z, .slice pq nq cq] := by rw [hW57]; exact RowIs.new _ _ _
      have cn : W57.cell? ⟨wr.heap.size, 1, none⟩ = some (.slice pq nq cq) := by rw [hN.cell]; rfl
      have hq57 : Below wr.heap.size wr W57 := by rw [hW57]; exact (Below.refl _ _).alloc (Nat.le_refl _) _
      have HW57 := Lib.hid hW57
      have HSP := Lib.hid (And.intro (hsp.call hq57 hBr) hN)
      clear hW57 hN hq57 hsp
      generalize hT18 : wr.heap.size = T18 at *
      go_wp2_with (refine wpList_world HW57.out ?_)
      go_loopg [61] nq (fun g s61 wx => ∃ i : Nat, i ≤ nq ∧ g = nq - i ∧ s61 = .int .i64 i ∧ Spoils Bo S WB wx S4 ∧ RowIs wx T18 35 #[.int .u32 z, .slice pq nq cq])
      case atStart => exact ⟨0, by omega, by omega, rfl, HSP.out.1, HSP.out.2⟩
      case round =>
        clear HSP cn c0 c1
        obtain ⟨i, hi, rfl, rfl, hsp, hN⟩ := hrel
        by_cases hli : i < nq
        · have i2 : (i : Int) < (nq : Int) := by omega
          obtain ⟨g, C, hpg, hBg, hr, hCs, hcr⟩ := (hsp.all _ HQ.out).2 (show 0 < nq by omega)
          have hpg : pq = some ⟨g, 0, none⟩ := hpg
          subst hpg
          obtain ⟨rf, hrf⟩ := hcr i hli
          have hCs : nq * 3 ≤ C.size := hCs
          obtain ⟨u, hu⟩ : ∃ u, C[i * 3 + 1]? = some u := ⟨_, Array.getElem?_eq_getElem (by omega)⟩
          have cN : wr.cell? ⟨T18, 1, none⟩ = some (.slice (some ⟨g, 0, none⟩) nq cq) := by rw [hN.cell]; rfl
          have cR : wr.cell? ⟨g, i * 3 + 2, none⟩ = some (.int .i64 rf) := by rw [hr.cell]; exact hrf
          have fR := hr.free (i * 3 + 2)
          obtain ⟨W58, hW58⟩ : ∃ W58, W58 = wr.setCell ⟨g, i * 3 + 2, none⟩ (.int .i64 (wrap64 (rf + 5))) := ⟨_, rfl⟩
          have hr58 : RowIs W58 g 57 (C.setIfInBounds (i * 3 + 2) (.int .i64 (wrap64 (rf + 5)))) := by rw [hW58]; exact hr.set _ _
          have hN58 : RowIs W58 T18 35 #[.int .u32 z, .slice (some ⟨g, 0, none⟩) nq cq] := by rw [hW58]; exact hN.other _ _ (row_ne hN hr (by decide))
          have hsp58 : Spoils Bo S WB W58 S4 := by rw [hW58]; exact hsp.set hr hBg _ _ (fun _ => ⟨_, rfl⟩)
          have cN58 : W58.cell? ⟨T18, 1, none⟩ = some (.slice (some ⟨g, 0, none⟩) nq cq) := by rw [hN58.cell]; rfl
          have cD : W58.cell? ⟨g, i * 3 + 1, none⟩ = some u := by rw [hr58.cell, Array.getElem?_setIfInBounds, if_neg (by omega)]; exact hu
          have fD := hr58.free (i * 3 + 1)
          obtain ⟨W59, hW59⟩ : ∃ W59, W59 = W58.setCell ⟨g, i * 3 + 1, none⟩ (.string ⟨#[115, 112, 111, 105, 108, 116]⟩) := ⟨_, rfl⟩
          have hN59 : RowIs W59 T18 35 #[.int .u32 z, .slice (some ⟨g, 0, none⟩) nq cq] := by rw [hW59]; exact hN58.other _ _ (row_ne hN58 hr58 (by decide))
          have hsp59 : Spoils Bo S WB W59 S4 := by rw [hW59]; exact hsp58.set hr58 hBg _ _ (fun q => absurd q (by omega))
          have HW58 := Lib.hid hW58
          have HW59 := Lib.hid hW59
          have HF := Lib.hid (And.intro hsp59 hN59)
          clear hW58 hW59 hsp hN hr hcr hrf hu hr58 hN58 hsp58 hN59 hsp59 hCs
          go_wp2_with (first | (refine wpList_world HW58.out ?_) | (refine wpList_world HW59.out ?_))
          go_roundg (nq - (i + 1))
          case measure => omega
          case rel => exact ⟨i + 1, by omega, rfl, by go_num, HF.out.1, HF.out.2⟩
        · obtain rfl : i = nq := by omega
          have i2 : ¬ (i : Int) < (i : Int) := by omega
          have HF := Lib.hid hsp
          clear hsp hN
          go_wp2_with fail
          go_roundg (4 - (t + 1))
          case measure => omega
          case rel => exact ⟨t + 1, by omega, rfl, by go_num, HF.out⟩
    · obtain rfl : t = 4 := by omega
      have E := HEB.out.call (by rw [hBo]; exact hsp.below)
      have hx := E.rowAt 2 rfl
      have h7 := E.rowAt 0 rfl
      have hsame := same06_calls _ _ _ h wr (E.heap 1 rfl) (E.heap 0 rfl) (Nat.le_refl _)
      have HE := Lib.hid E
      clear E hsp
      go_wp2_with (first | (refine wpList_load_row rfl 35 _ rfl X rfl 35 #[.int .u32 (h.size : Int), .slice p h.cells.length cap] (0, 0) _ hx Tryz.underlying35 rfl hsz ?_) | (refine wpList_load_row rfl 35 _ rfl T7 rfl 35 #[.int .u32 (h.size : Int), .slice p7 h.cells.length c7] (0, 0) _ h7 Tryz.underlying35 rfl hsz7 ?_))
      refine hsame.mono ?_
      rintro e w9 ⟨rfl, hq⟩
      have HF := Lib.hid (HE.out.call hq).below
      clear hsame hq HE hx h7
      go_wp2_with fail
      go_ret
      exact ⟨rfl, HF.out⟩

end Go.Proofs.YtimkklaidodkdaaGreatDoor
