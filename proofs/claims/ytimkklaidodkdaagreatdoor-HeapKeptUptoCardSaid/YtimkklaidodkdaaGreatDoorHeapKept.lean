/- The law HeapKept: walked. -/
import Derived.Test.YtimkklaidodkdaaGreatDoorHeapDone
import Derived.Test.YtimkklaidodkdaaGreatDoorHeapLives
namespace Go.Proofs.YtimkklaidodkdaaGreatDoor
open Go.RowKit

/-- heap.Held, however it went. -/
theorem held_gen (v : Value) (h : HeapD) (k : Nat) (w : World) (a : HeapAt w.heap.size w v h) : Calls Tryz.prog 23 #[v, .int .u32 (k : Int)] w fun e w' => ∃ x y : Int, e = .returned (.tuple #[.int .i64 x, .int .i64 y]) ∧ (y = 0 → ∃ c, RightH h ∧ findC h.cells k = some c ∧ x = heldC h c) ∧ 0 ≤ x ∧ x ≤ 16777216 ∧ Below w.heap.size w w' := (held_calls v h k w a).mono (by
  rintro e w' ⟨⟨hr, ⟨c, hc, he⟩ | ⟨hn, he⟩⟩ | ⟨hno, he⟩, hb⟩
  · have hm := hr.led c (find_mem hc).1
    have hM := hr.most c (find_mem hc).1
    exact ⟨_, _, he, fun _ => ⟨c, hr, hc, rfl⟩, by unfold heldC; omega, by unfold heldC; omega, hb⟩
  · exact ⟨_, _, he, fun q => (by cases q), by decide, by decide, hb⟩
  · exact ⟨_, _, he, fun q => (by cases q), by decide, by decide, hb⟩)
def zeroND : NodeD := ⟨0, [], [], []⟩
theorem zero_node (B : Nat) (w : World) : NodeAt B w (.agg zeroNd) zeroND := ⟨⟨by decide, by simp [zeroND], by simp [zeroND]⟩, _, _, _, rfl, sl_nil _ _ _ _, sl_nil _ _ _ _, sl_nil _ _ _ _⟩
/-- heap.Get, however it went. -/
theorem get_gen (v : Value) (h : HeapD) (k : Nat) (w : World) (a : HeapAt w.heap.size w v h) : Calls Tryz.prog 17 #[v, .int .u32 (k : Int)] w fun e w' => ∃ (r : Value) (nd : NodeD) (x : Int), e = .returned (.tuple #[r, .int .i64 x]) ∧ NodeAt w'.heap.size w' r nd ∧ (∀ c, RightH h → findC h.cells k = some c → nd = c.node ∧ x = 0) ∧ Below w.heap.size w w' := (get_calls v h k w a).mono (by
  rintro e w' ⟨⟨r, ⟨hr, ⟨c, hc, rfl, hn⟩ | ⟨hc, rfl, rfl⟩⟩ | ⟨hno, rfl, rfl⟩⟩, hb⟩
  · exact ⟨r, c.node, 0, rfl, hn, fun c' _ hc' => by rw [hc] at hc'; injection hc' with hc'; rw [hc']; exact ⟨rfl, rfl⟩, hb⟩
  · exact ⟨_, zeroND, 5, rfl, zero_node _ _, fun c' _ hc' => absurd (hc.symm.trans hc') (by simp), hb⟩
  · exact ⟨_, zeroND, 7, rfl, zero_node _ _, fun _ q _ => absurd q hno, hb⟩)
/-- heap.Check, however it went. -/
theorem check_gen (v : Value) (h : HeapD) (w : World) (a : HeapAt w.heap.size w v h) : Calls Tryz.prog 29 #[v] w fun e w' => ∃ x : Int, e = .returned (.int .i64 x) ∧ (x = 0 ↔ RightH h) ∧ Below w.heap.size w w' := (check2_calls v h w a).mono (by
  rintro e w' ⟨⟨hr, rfl⟩ | ⟨hno, rfl⟩, hb⟩
  · exact ⟨0, rfl, ⟨fun _ => hr, fun _ => rfl⟩, hb⟩
  · exact ⟨7, rfl, ⟨fun q => (by cases q), fun q => absurd q hno⟩, hb⟩)
/-- A step, as it lies in memory. -/
structure StepAt (B : Nat) (w : World) (s : StepM) : Prop where
  node : NodeAt B w (.agg s.nv.toArray) s.node
  fit : fitN s.node
  bulk : s.node.kids.length + s.node.vols.length ≤ 1048576
def GoodK (x y : Int) (k : Nat) (dat : ByteArray) (H : HeapD) : Prop := y = 0 → 1 ≤ x → RightH H ∧ HeldIn H k dat

set_option maxRecDepth 100000 in
set_option maxHeartbeats 12800000 in
theorem kept_calls (v vs : Value) (h : HeapD) (L : List StepM) (k : Nat) (w : World) (a : HeapAt w.heap.size w v h) (hsl : SlAt w.heap.size w vs L.length (fun i => (L[i]?.map StepM.cells).getD []) 6) (hL : ∀ s ∈ L, StepAt w.heap.size w s) :
    Calls Tryz.prog 10 #[v, vs, .int .u32 (k : Int)] w fun e w' => e = .returned (.bool true) ∧ Below w.heap.size w w' := by
  obtain ⟨p, cap, rfl⟩ := a.shape
  obtain ⟨ps, cs, rfl, hn0, hr0⟩ := hsl
  obtain ⟨W0, hW0⟩ : ∃ W0, W0 = w.alloc (.cells #[.int .u32 (h.size : Int), .slice p h.cells.length cap] 35) := ⟨_, rfl⟩
  have E0 := (Env.start (hs := [(.agg #[.int .u32 (h.size : Int), .slice p h.cells.length cap], h)]) (ns := []) (by simpa using a) (by simp)).alloc hW0
  have hlv := hlives_calls W0
  have hszH : ∀ x y : Value, (Tryz.prog.info? 35).map (·.size) = some (#[x, y] : Array Value).size := fun x y => by kernel_rfl
  have hszN : ∀ x y z u : Value, (Tryz.prog.info? 28).map (·.size) = some (#[x, y, z, u] : Array Value).size := fun x y z u => by kernel_rfl
  have hszS : ∀ x y z u r s : Value, (Tryz.prog.info? 67).map (·.size) = some [x, y, z, u, r, s].length := fun x y z u r s => by kernel_rfl
  have hszS2 : ∀ x y z u r s : Value, (Tryz.prog.info? 67).map (·.size) = some (#[x, y, z, u, r, s] : Array Value).size := fun x y z u r s => by kernel_rfl
  have hsz := hszH (.int .u32 (h.size : Int)) (.slice p h.cells.length cap)
  have HSZ := Lib.hid (And.intro hszH (And.intro hszN (And.intro hszS hszS2)))
  have HW0 := Lib.hid hW0
  have HE0 := Lib.hid E0
  have HR0 := Lib.hid (And.intro hr0 hL)
  clear hW0 a E0 hszH hszN hszS hszS2 hr0 hL
  generalize hXg : w.heap.size = X at *
  go_enter Tryz.func10, Tryz.ntmps10
  go_wp2_with (refine wpList_world HW0.out ?_)
  refine hlv.mono ?_
  rintro e w1 ⟨rfl, hq⟩
  have E1 := HE0.out.call hq
  have hx := E1.rowAt 0 rfl
  have hcall := held_gen _ h k w1 (E1.heap 0 rfl)
  have HE1 := Lib.hid E1
  clear hlv hq E1 HE0
  go_wp2_with (refine wpList_load_row rfl 35 _ rfl X rfl 35 #[.int .u32 (h.size : Int), .slice p h.cells.length cap] (0, 0) _ hx Tryz.underlying35 rfl hsz ?_)
  refine hcall.mono ?_
  rintro e w2 ⟨x, y, rfl, hxy, hx0, hx1, hq⟩
  have E2 := HE1.out.call hq
  have hx := E2.rowAt 0 rfl
  have hcall2 := get_gen _ h k w2 (E2.heap 0 rfl)
  have HE2 := Lib.hid E2
  have HXY := Lib.hid hxy
  clear hcall hq E2 HE1 hxy
  go_wp2_with (refine wpList_load_row rfl 35 _ rfl X rfl 35 #[.int .u32 (h.size : Int), .slice p h.cells.length cap] (0, 0) _ hx Tryz.underlying35 rfl hsz ?_)
  refine hcall2.mono ?_
  rintro e w3 ⟨r, nd, z, rfl, hnr, hnd, hq⟩
  obtain ⟨q1, d1, q2, d2, q3, d3, rfl⟩ := hnr.shapeN
  have E := (HE2.out.call hq).addN hnr
  obtain ⟨W2, hW2⟩ : ∃ W2, W2 = w3.alloc (.cells #[.int .u8 0, .slice none 0 0, .slice none 0 0, .slice none 0 0] 28) := ⟨_, rfl⟩
  obtain ⟨W3, hW3⟩ : ∃ W3, W3 = W2.setCells w3.heap.size 0 [.int .u8 (nd.kind : Int), .slice q1 nd.items.length d1, .slice q2 nd.kids.length d2, .slice q3 nd.vols.length d3] := ⟨_, rfl⟩
  have hth9 : W2.there w3.heap.size 0 4 := ((E.alloc hW2).rowAt 0 rfl).there 0 4 (by simp)
  have hone9 : (#[.int .u8 (nd.kind : Int), .slice q1 nd.items.length d1, .slice q2 nd.kids.length d2, .slice q3 nd.vols.length d3] : Array Value).all (·.oneCell') = true := all_oneCell_toArray (cs := [.int .u8 (nd.kind : Int), .slice q1 nd.items.length d1, .slice q2 nd.kids.length d2, .slice q3 nd.vols.length d3]) fun v hv => by
    simp only [List.mem_cons, List.not_mem_nil, or_false] at hv
    rcases hv with rfl | rfl | rfl | rfl <;> rfl
  have hsz9 := HSZ.out.2.1 (.int .u8 (nd.kind : Int)) (.slice q1 nd.items.length d1) (.slice q2 nd.kids.length d2) (.slice q3 nd.vols.length d3)
  have E3 := E.var (D := #[.int .u8 (nd.kind : Int), .slice q1 nd.items.length d1, .slice q2 nd.kids.length d2, .slice q3 nd.vols.length d3]) hW2 hW3 rfl
  obtain ⟨dat, hgood⟩ : ∃ dat, GoodK x y k dat h ∧ (y = 0 → ∃ c : CellD, c.data = dat ∧ nd = c.node) := by
    by_cases hy : y = 0
    · obtain ⟨c, hr, hc, hxc⟩ := HXY.out hy
      exact ⟨c.data, fun _ h1 => ⟨hr, find_held hc (by omega)⟩, fun _ => ⟨c, rfl, (hnd c hr hc).1⟩⟩
    · exact ⟨⟨#[]⟩, fun q => absurd q hy, fun q => absurd q hy⟩
  have HW2 := Lib.hid hW2
  have HW3 := Lib.hid hW3
  have HG := Lib.hid hgood
  have HE3 := Lib.hid E3
  clear hcall2 hq E E3 hW2 hW3 HE2 hx hgood HXY hnd hnr
  generalize hT9 : w3.heap.size = T9 at *
  unfold maxLen at hn0
  generalize hng : L.length = n at *
  go_wp2_with (first | (refine wpList_world HW2.out ?_) | (refine wpList_store_mid rfl 28 _ _ rfl T9 0 #[.int .u8 (nd.kind : Int), .slice q1 nd.items.length d1, .slice q2 nd.kids.length d2, .slice q3 nd.vols.length d3] rfl rfl hth9 hsz9 hone9 ?_; refine wpList_world HW3.out ?_))
  go_loopg [32] n (fun g s32 wx => ∃ (t : Nat) (Hc : HeapD) (pc : Option Addr) (cc Bx : Nat), t ≤ n ∧ g = n - t ∧ s32 = .int .i64 t ∧ GoodK x y k dat Hc ∧ Env X Bx w wx [⟨T9, 28, #[.int .u8 (nd.kind : Int), .slice q1 nd.items.length d1, .slice q2 nd.kids.length d2, .slice q3 nd.vols.length d3]⟩, ⟨X, 35, #[.int .u32 (Hc.size : Int), .slice pc Hc.cells.length cc]⟩] [(.agg #[.int .u32 (Hc.size : Int), .slice pc Hc.cells.length cc], Hc)] [(.agg #[.int .u8 (nd.kind : Int), .slice q1 nd.items.length d1, .slice q2 nd.kids.length d2, .slice q3 nd.vols.length d3], nd)])
  case atStart =>
    have E := HE3.out
    exact ⟨0, h, p, cap, _, by omega, by omega, rfl, HG.out.1, ⟨E.below, E.hX, E.hB, E.rowsI, E.nd, E.heaps, E.nodes⟩⟩
  case round =>
    clear HE3 HW2 HW3 hth9
    obtain ⟨t, Hc, pc, cc, Bx, ht, rfl, rfl, hgk, E⟩ := hrel
    by_cases hlt : t < n
    · have i1 : (t : Int) < (n : Int) := by omega
      have hltc : t < L.length := by omega
      obtain ⟨b, o, hpb, hbX, hc⟩ := HR0.out.1 (by omega)
      subst hpb
      have hci : wr.rangeAt b (o + t * 6) L[t].cells := by
        have h2 : w.rangeAt b (o + t * 6) ((L[t]?.map StepM.cells).getD []) := hc t hlt
        rw [List.getElem?_eq_getElem hltc] at h2
        exact rangeAt_below h2 E.below hbX
      have hso := HR0.out.2 L[t] (List.getElem_mem hltc)
      have hXs : X ≤ wr.heap.size := Nat.le_trans E.hX E.hB
      generalize L[t] = S at *
      obtain ⟨skind, sn, snv, snum⟩ := S
      obtain ⟨han, hsf, hsb⟩ := hso
      obtain ⟨r1, g1, r2, g2, r3, g3, hnv⟩ := han.shapeN
      injection hnv with hnv
      have hnv : snv = [.int .u8 (sn.kind : Int), .slice r1 sn.items.length g1, .slice r2 sn.kids.length g2, .slice r3 sn.vols.length g3] := by simpa using hnv
      subst hnv
      replace hci : wr.rangeAt b (o + t * 6) [.int .u8 (skind : Int), .int .u8 (sn.kind : Int), .slice r1 sn.items.length g1, .slice r2 sn.kids.length g2, .slice r3 sn.vols.length g3, .int .u32 (snum : Int)] := hci
      simp only [] at han hsf hsb
      have hszs := HSZ.out.2.2.1 (.int .u8 (skind : Int)) (.int .u8 (sn.kind : Int)) (.slice r1 sn.items.length g1) (.slice r2 sn.kids.length g2) (.slice r3 sn.vols.length g3) (.int .u32 (snum : Int))
      have hszs2 := HSZ.out.2.2.2 (.int .u8 (skind : Int)) (.int .u8 (sn.kind : Int)) (.slice r1 sn.items.length g1) (.slice r2 sn.kids.length g2) (.slice r3 sn.vols.length g3) (.int .u32 (snum : Int))
      obtain ⟨W4, hW4⟩ : ∃ W4, W4 = wr.alloc (.cells #[.int .u8 0, .int .u8 0, .slice none 0 0, .slice none 0 0, .slice none 0 0, .int .u32 0] 67) := ⟨_, rfl⟩
      obtain ⟨W5, hW5⟩ : ∃ W5, W5 = W4.setCells wr.heap.size 0 [.int .u8 (skind : Int), .int .u8 (sn.kind : Int), .slice r1 sn.items.length g1, .slice r2 sn.kids.length g2, .slice r3 sn.vols.length g3, .int .u32 (snum : Int)] := ⟨_, rfl⟩
      have E4 := E.addN ((han.below E.below (by omega)).monoB hXs)
      have hth12 : W4.there wr.heap.size 0 6 := ((E4.alloc hW4).rowAt 0 rfl).there 0 6 (by simp)
      have hone12 : (#[.int .u8 (skind : Int), .int .u8 (sn.kind : Int), .slice r1 sn.items.length g1, .slice r2 sn.kids.length g2, .slice r3 sn.vols.length g3, .int .u32 (snum : Int)] : Array Value).all (·.oneCell') = true := all_oneCell_toArray (cs := [.int .u8 (skind : Int), .int .u8 (sn.kind : Int), .slice r1 sn.items.length g1, .slice r2 sn.kids.length g2, .slice r3 sn.vols.length g3, .int .u32 (snum : Int)]) fun v hv => by
        simp only [List.mem_cons, List.not_mem_nil, or_false] at hv
        rcases hv with rfl | rfl | rfl | rfl | rfl | rfl <;> rfl
      have E5 := E4.var (D := #[.int .u8 (skind : Int), .int .u8 (sn.kind : Int), .slice r1 sn.items.length g1, .slice r2 sn.kids.length g2, .slice r3 sn.vols.length g3, .int .u32 (snum : Int)]) hW4 hW5 rfl
      have c12 : W5.cell? ⟨wr.heap.size, 0, none⟩ = some (.int .u8 (skind : Int)) := by rw [(E5.rowAt 0 rfl).cell]; rfl
      have c12n : W5.cell? ⟨wr.heap.size, 5, none⟩ = some (.int .u32 (snum : Int)) := by rw [(E5.rowAt 0 rfl).cell]; rfl
      have hx := E5.rowAt 2 rfl
      have hs := E5.rowAt 0 rfl
      have hcall := done_calls _ Hc ⟨skind, sn, [.int .u8 (sn.kind : Int), .slice r1 sn.items.length g1, .slice r2 sn.kids.length g2, .slice r3 sn.vols.length g3], snum⟩ W5 (E5.heap 0 rfl) (E5.node 0 rfl) hsf hsb
      rw [show (StepM.cells ⟨skind, sn, [.int .u8 (sn.kind : Int), .slice r1 sn.items.length g1, .slice r2 sn.kids.length g2, .slice r3 sn.vols.length g3], snum⟩).toArray = #[.int .u8 (skind : Int), .int .u8 (sn.kind : Int), .slice r1 sn.items.length g1, .slice r2 sn.kids.length g2, .slice r3 sn.vols.length g3, .int .u32 (snum : Int)] from rfl] at hcall
      have hwf := han.wf
      have hszc := HSZ.out.1 (.int .u32 (Hc.size : Int)) (.slice pc Hc.cells.length cc)
      have HW4 := Lib.hid hW4
      have HW5 := Lib.hid hW5
      have HE5 := Lib.hid E5
      have HGK := Lib.hid hgk
      have HWF := Lib.hid hwf
      clear hW4 hW5 E4 E5 hc hbX han hsf hsb hgk hwf
      generalize hT12 : wr.heap.size = T12 at *
      obtain ⟨skm, hskm⟩ : ∃ skm, skm = skind % 4 := ⟨_, rfl⟩
      have hint : (skind : Int).tmod 4 = (skm : Int) := by rw [Int.tmod_eq_emod_of_nonneg (by omega)]; omega
      have HSK := Lib.hid hskm
      clear hskm
      by_cases ht20 : t = 20
      · subst ht20
        clear hcall hx hs hint HSK c12 c12n
        clear E
        have E : Env X _ w W5 [⟨T9, 28, #[.int .u8 (nd.kind : Int), .slice q1 nd.items.length d1, .slice q2 nd.kids.length d2, .slice q3 nd.vols.length d3]⟩, ⟨X, 35, #[.int .u32 (Hc.size : Int), .slice pc Hc.cells.length cc]⟩] [(.agg #[.int .u32 (Hc.size : Int), .slice pc Hc.cells.length cc], Hc)] [(.agg #[.int .u8 (nd.kind : Int), .slice q1 nd.items.length d1, .slice q2 nd.kids.length d2, .slice q3 nd.vols.length d3], nd)] := ⟨HE5.out.below, HE5.out.hX, HE5.out.hB, fun r hr => HE5.out.rowsI r (List.mem_cons_of_mem _ hr), (List.nodup_cons.1 HE5.out.nd).2, HE5.out.heaps, fun a ha => HE5.out.nodes a (List.mem_cons_of_mem _ ha)⟩
        have hgk := HGK.out
        clear HE5 HGK
        have hx := E.rowAt 1 rfl
        by_cases hy : y = 0
        · subst hy
          by_cases hxp : x < 1
          · have HF := Lib.hid E.below
            clear E hx hgk
            go_wp2_with (first | (refine wpList_world HW4.out ?_) | (refine wpList_load_mid rfl 67 _ rfl b (o + 20 * 6) rfl [.int .u8 (skind : Int), .int .u8 (sn.kind : Int), .slice r1 sn.items.length g1, .slice r2 sn.kids.length g2, .slice r3 sn.vols.length g3, .int .u32 (snum : Int)] _ hci Tryz.underlying67 rfl hszs ?_) | (refine wpList_store_mid rfl 67 _ _ rfl T12 0 #[.int .u8 (skind : Int), .int .u8 (sn.kind : Int), .slice r1 sn.items.length g1, .slice r2 sn.kids.length g2, .slice r3 sn.vols.length g3, .int .u32 (snum : Int)] rfl rfl hth12 hszs2 hone12 ?_; refine wpList_world HW5.out ?_))
            go_ret
            exact ⟨rfl, HF.out⟩
          · obtain ⟨hrc, hin⟩ := hgk rfl (by omega)
            obtain ⟨c2, hf2, hd2⟩ := held_find hrc hin
            obtain ⟨c1, hd1, hn1⟩ := HG.out.2 rfl
            have hnn : c2.node = nd := by rw [hn1]; exact (data_eq (hd2.trans hd1.symm)).1
            have hcall := get_well _ Hc k W5 (E.heap 0 rfl) hrc hf2
            rw [hnn] at hcall
            have hszc := HSZ.out.1 (.int .u32 (Hc.size : Int)) (.slice pc Hc.cells.length cc)
            have HE := Lib.hid E
            clear E hgk hrc hin hf2 hnn hn1 hd1 hd2
            go_wp2_with (first | (refine wpList_world HW4.out ?_) | (refine wpList_load_mid rfl 67 _ rfl b (o + 20 * 6) rfl [.int .u8 (skind : Int), .int .u8 (sn.kind : Int), .slice r1 sn.items.length g1, .slice r2 sn.kids.length g2, .slice r3 sn.vols.length g3, .int .u32 (snum : Int)] _ hci Tryz.underlying67 rfl hszs ?_) | (refine wpList_store_mid rfl 67 _ _ rfl T12 0 #[.int .u8 (skind : Int), .int .u8 (sn.kind : Int), .slice r1 sn.items.length g1, .slice r2 sn.kids.length g2, .slice r3 sn.vols.length g3, .int .u32 (snum : Int)] rfl rfl hth12 hszs2 hone12 ?_; refine wpList_world HW5.out ?_) | (refine wpList_load_row rfl 35 _ rfl X rfl 35 #[.int .u32 (Hc.size : Int), .slice pc Hc.cells.length cc] (0, 0) _ hx Tryz.underlying35 rfl hszc ?_))
            refine hcall.mono ?_
            rintro e w7 ⟨r, rfl, hnr, hq⟩
            obtain ⟨s1, f1, s2, f2, s3, f3, rfl⟩ := hnr.shapeN
            have E := (HE.out.call hq).addN hnr
            obtain ⟨W5, hW5⟩ : ∃ W5, W5 = w7.alloc (.cells #[.int .u8 0, .slice none 0 0, .slice none 0 0, .slice none 0 0] 28) := ⟨_, rfl⟩
            obtain ⟨W6, hW6⟩ : ∃ W6, W6 = W5.setCells w7.heap.size 0 [.int .u8 (nd.kind : Int), .slice s1 nd.items.length f1, .slice s2 nd.kids.length f2, .slice s3 nd.vols.length f3] := ⟨_, rfl⟩
            have hth14 : W5.there w7.heap.size 0 4 := ((E.alloc hW5).rowAt 0 rfl).there 0 4 (by simp)
            have hone14 : (#[.int .u8 (nd.kind : Int), .slice s1 nd.items.length f1, .slice s2 nd.kids.length f2, .slice s3 nd.vols.length f3] : Array Value).all (·.oneCell') = true := all_oneCell_toArray (cs := [.int .u8 (nd.kind : Int), .slice s1 nd.items.length f1, .slice s2 nd.kids.length f2, .slice s3 nd.vols.length f3]) fun v hv => by
              simp only [List.mem_cons, List.not_mem_nil, or_false] at hv
              rcases hv with rfl | rfl | rfl | rfl <;> rfl
            have hsz14 := HSZ.out.2.1 (.int .u8 (nd.kind : Int)) (.slice s1 nd.items.length f1) (.slice s2 nd.kids.length f2) (.slice s3 nd.vols.length f3)
            have E6 := E.var (D := #[.int .u8 (nd.kind : Int), .slice s1 nd.items.length f1, .slice s2 nd.kids.length f2, .slice s3 nd.vols.length f3]) hW5 hW6 rfl
            have h14 := E6.rowAt 0 rfl
            have h9 := E6.rowAt 1 rfl
            have hsame := same_calls W6.heap.size _ _ nd nd W6 (E6.node 1 rfl) (E6.node 0 rfl) (Nat.le_refl _)
            rw [(sameN_iff nd nd).2 rfl] at hsame
            have HW5 := Lib.hid hW5
            have HW6 := Lib.hid hW6
            have HE6 := Lib.hid E6
            clear hcall hq E E6 hW5 hW6 HE hx hnr
            generalize hT14 : w7.heap.size = T14 at *
            go_wp2_with (first | (refine wpList_world HW5.out ?_) | (refine wpList_store_mid rfl 28 _ _ rfl T14 0 #[.int .u8 (nd.kind : Int), .slice s1 nd.items.length f1, .slice s2 nd.kids.length f2, .slice s3 nd.vols.length f3] rfl rfl hth14 hsz14 hone14 ?_; refine wpList_world HW6.out ?_) | (refine wpList_load_rowG 28 _ rfl T9 rfl (by rfl) 28 #[.int .u8 (nd.kind : Int), .slice q1 nd.items.length d1, .slice q2 nd.kids.length d2, .slice q3 nd.vols.length d3] (0, 0) _ h9 Tryz.underlying28 rfl hsz9 ?_) | (refine wpList_load_rowG 28 _ rfl T14 rfl (by rfl) 28 #[.int .u8 (nd.kind : Int), .slice s1 nd.items.length f1, .slice s2 nd.kids.length f2, .slice s3 nd.vols.length f3] (0, 0) _ h14 Tryz.underlying28 rfl hsz14 ?_))
            refine hsame.mono ?_
            rintro e w8 ⟨rfl, hq⟩
            have HF := Lib.hid (HE6.out.call hq).below
            clear hsame hq HE6 h9 h14 hth14
            go_wp2_with fail
            go_ret
            exact ⟨rfl, HF.out⟩
        · have e1 : (y == 0) = false := by simpa using hy
          have e2 : (y != 0) = true := by simpa using hy
          have HF := Lib.hid E.below
          clear E hx hgk
          go_wp2_with (first | (refine wpList_world HW4.out ?_) | (refine wpList_load_mid rfl 67 _ rfl b (o + 20 * 6) rfl [.int .u8 (skind : Int), .int .u8 (sn.kind : Int), .slice r1 sn.items.length g1, .slice r2 sn.kids.length g2, .slice r3 sn.vols.length g3, .int .u32 (snum : Int)] _ hci Tryz.underlying67 rfl hszs ?_) | (refine wpList_store_mid rfl 67 _ _ rfl T12 0 #[.int .u8 (skind : Int), .int .u8 (sn.kind : Int), .slice r1 sn.items.length g1, .slice r2 sn.kids.length g2, .slice r3 sn.vols.length g3, .int .u32 (snum : Int)] rfl rfl hth12 hszs2 hone12 ?_; refine wpList_world HW5.out ?_))
          go_ret
          exact ⟨rfl, HF.out⟩
      · have hne20 : ((t : Int) == 20) = false := by simpa using (show ¬ (t : Int) = 20 by omega)
        by_cases hskip : skm = 2 ∧ snum = k
        · obtain ⟨rfl, rfl⟩ := hskip
          have HF := Lib.hid (show GoodK x y snum dat Hc from HGK.out)
          have E : Env X _ w W5 [⟨T9, 28, #[.int .u8 (nd.kind : Int), .slice q1 nd.items.length d1, .slice q2 nd.kids.length d2, .slice q3 nd.vols.length d3]⟩, ⟨X, 35, #[.int .u32 (Hc.size : Int), .slice pc Hc.cells.length cc]⟩] [(.agg #[.int .u32 (Hc.size : Int), .slice pc Hc.cells.length cc], Hc)] [(.agg #[.int .u8 (nd.kind : Int), .slice q1 nd.items.length d1, .slice q2 nd.kids.length d2, .slice q3 nd.vols.length d3], nd)] := ⟨HE5.out.below, HE5.out.hX, HE5.out.hB, fun r hr => HE5.out.rowsI r (List.mem_cons_of_mem _ hr), (List.nodup_cons.1 HE5.out.nd).2, HE5.out.heaps, fun a ha => HE5.out.nodes a (List.mem_cons_of_mem _ ha)⟩
          have HF2 := Lib.hid E
          clear E hcall hx hs HGK HSK
          go_wp2_with (first | (refine wpList_world HW4.out ?_) | (refine wpList_load_mid rfl 67 _ rfl b (o + t * 6) rfl [.int .u8 (skind : Int), .int .u8 (sn.kind : Int), .slice r1 sn.items.length g1, .slice r2 sn.kids.length g2, .slice r3 sn.vols.length g3, .int .u32 (snum : Int)] _ hci Tryz.underlying67 rfl hszs ?_) | (refine wpList_store_mid rfl 67 _ _ rfl T12 0 #[.int .u8 (skind : Int), .int .u8 (sn.kind : Int), .slice r1 sn.items.length g1, .slice r2 sn.kids.length g2, .slice r3 sn.vols.length g3, .int .u32 (snum : Int)] rfl rfl hth12 hszs2 hone12 ?_; refine wpList_world HW5.out ?_))
          go_roundg (n - (t + 1))
          case measure => omega
          case rel => exact ⟨t + 1, Hc, pc, cc, _, by omega, rfl, by go_num, HF.out, HF2.out⟩
        · have hno : ¬ (skm = 2 ∧ snum = k) := hskip
          have hdone : GoodK x y k dat Hc → RightH Hc → GoodK x y k dat (stepH Hc ⟨skind, sn, [.int .u8 (sn.kind : Int), .slice r1 sn.items.length g1, .slice r2 sn.kids.length g2, .slice r3 sn.vols.length g3], snum⟩) := fun hg hr h1 h2 => ⟨stepH_right hr HWF.out, kept_step hr HWF.out (by rw [← HSK.out]; exact hno) (hg h1 h2).2⟩
          have HD := Lib.hid hdone
          clear hdone E
          by_cases hk2 : skm = 2
          · have hnk : ((snum : Int) == (k : Int)) = false := by simpa using fun e => hno ⟨hk2, by omega⟩
            subst hk2
            clear hno hskip
            go_wp2_with (first | (refine wpList_world HW4.out ?_) | (refine wpList_load_mid rfl 67 _ rfl b (o + t * 6) rfl [.int .u8 (skind : Int), .int .u8 (sn.kind : Int), .slice r1 sn.items.length g1, .slice r2 sn.kids.length g2, .slice r3 sn.vols.length g3, .int .u32 (snum : Int)] _ hci Tryz.underlying67 rfl hszs ?_) | (refine wpList_store_mid rfl 67 _ _ rfl T12 0 #[.int .u8 (skind : Int), .int .u8 (sn.kind : Int), .slice r1 sn.items.length g1, .slice r2 sn.kids.length g2, .slice r3 sn.vols.length g3, .int .u32 (snum : Int)] rfl rfl hth12 hszs2 hone12 ?_; refine wpList_world HW5.out ?_) | (refine wpList_load_row rfl 35 _ rfl X rfl 35 #[.int .u32 (Hc.size : Int), .slice pc Hc.cells.length cc] (0, 0) _ hx Tryz.underlying35 rfl hszc ?_) | (refine wpList_load_row rfl 67 _ rfl T12 rfl 67 #[.int .u8 (skind : Int), .int .u8 (sn.kind : Int), .slice r1 sn.items.length g1, .slice r2 sn.kids.length g2, .slice r3 sn.vols.length g3, .int .u32 (snum : Int)] (0, 0) _ hs Tryz.underlying67 rfl hszs2 ?_))
            refine hcall.mono ?_
            rintro e w6 ⟨r, rfl, pg, cg, g, rfl, hat, hy1, hy2, hq⟩
            have E := (HE5.out.call hq).addH hat
            obtain ⟨W6, hW6⟩ : ∃ W6, W6 = w6.alloc (.cells #[.int .u32 0, .slice none 0 0] 35) := ⟨_, rfl⟩
            obtain ⟨W7, hW7⟩ : ∃ W7, W7 = W6.setCells w6.heap.size 0 [.int .u32 (g.size : Int), .slice pg g.cells.length cg] := ⟨_, rfl⟩
            have hth13 : W6.there w6.heap.size 0 2 := ((E.alloc hW6).rowAt 0 rfl).there 0 2 (by simp)
            have hone13 := oneH (g.size : Int) pg g.cells.length cg
            have hsz13 := HSZ.out.1 (.int .u32 (g.size : Int)) (.slice pg g.cells.length cg)
            have E7 := E.var (D := #[.int .u32 (g.size : Int), .slice pg g.cells.length cg]) hW6 hW7 rfl
            have hx := E7.rowAt 3 rfl
            have hcall2 := check_gen _ Hc W7 (E7.heap 1 rfl)
            have HW6 := Lib.hid hW6
            have HW7 := Lib.hid hW7
            have HE7 := Lib.hid E7
            have HY := Lib.hid (And.intro hy1 hy2)
            clear hcall hq E E7 hW6 hW7 HE5 hat hy1 hy2 hs c12 c12n hci HW4 HW5 hth12 hint
            generalize hT13 : w6.heap.size = T13 at *
            go_wp2_with (first | (refine wpList_world HW6.out ?_) | (refine wpList_store_mid rfl 35 _ _ rfl T13 0 #[.int .u32 (g.size : Int), .slice pg g.cells.length cg] rfl rfl hth13 hsz13 hone13 ?_; refine wpList_world HW7.out ?_) | (refine wpList_load_row rfl 35 _ rfl X rfl 35 #[.int .u32 (Hc.size : Int), .slice pc Hc.cells.length cc] (0, 0) _ hx Tryz.underlying35 rfl hszc ?_))
            refine hcall2.mono ?_
            rintro e w8 ⟨xc, rfl, hxc, hq⟩
            have E8 := HE7.out.call hq
            have hg8 := E8.rowAt 0 rfl
            have hcall3 := check_gen _ g w8 (E8.heap 0 rfl)
            have HE8 := Lib.hid E8
            clear hcall2 hq HE7 HW6 HW7 hth13 hx
            by_cases hrc : RightH Hc
            · obtain rfl := hxc.2 hrc
              clear hxc
              go_wp2_with (refine wpList_load_rowG 35 _ rfl T13 rfl (by rfl) 35 #[.int .u32 (g.size : Int), .slice pg g.cells.length cg] (0, 0) _ hg8 Tryz.underlying35 rfl hsz13 ?_)
              refine hcall3.mono ?_
              rintro e w9 ⟨xg, rfl, hxg, hq⟩
              have hge := HY.out.1 hrc
              have hrg : RightH g := by rw [hge]; exact stepH_right hrc HWF.out
              obtain rfl := hxg.2 hrg
              have E := HE8.out.call hq
              clear hcall3 hq HE8 hg8 hxg
              obtain ⟨W9, hW9⟩ : ∃ W9, W9 = w9.setCells X 0 [.int .u32 (g.size : Int), .slice pg g.cells.length cg] := ⟨_, rfl⟩
              have hgX := E.rowAt 0 rfl
              have hthX : w9.there X 0 2 := (E.rowAt 3 rfl).there 0 2 (by simp)
              have E9 := E.storeAny (D := #[.int .u32 (g.size : Int), .slice pg g.cells.length cg]) 3 rfl rfl (no_text2 _ _ _ _) hW9
              have hgn : GoodK x y k dat g := by
                rw [hge]
                exact HD.out HGK.out hrc
              have HW9 := Lib.hid hW9
              have HF := Lib.hid (And.intro hgn (show Env X _ w W9 [⟨T9, 28, #[.int .u8 (nd.kind : Int), .slice q1 nd.items.length d1, .slice q2 nd.kids.length d2, .slice q3 nd.vols.length d3]⟩, ⟨X, 35, #[.int .u32 (g.size : Int), .slice pg g.cells.length cg]⟩] [(.agg #[.int .u32 (g.size : Int), .slice pg g.cells.length cg], g)] [(.agg #[.int .u8 (nd.kind : Int), .slice q1 nd.items.length d1, .slice q2 nd.kids.length d2, .slice q3 nd.vols.length d3], nd)] from ⟨E9.below, E9.hX, E9.hB, fun r hr => E9.rowsI r (List.mem_cons_of_mem _ (List.mem_cons_of_mem _ hr)), (List.nodup_cons.1 (List.nodup_cons.1 E9.nd).2).2, fun a ha => E9.heaps a (by simp at ha; simp [ha]), fun a ha => E9.nodes a (List.mem_cons_of_mem _ ha)⟩))
              clear hW9 E9 hgn
              clear E hge hrg hrc HGK HD HY
              go_wp2_with (first | (refine wpList_load_row rfl 35 _ rfl T13 rfl 35 #[.int .u32 (g.size : Int), .slice pg g.cells.length cg] (0, 0) _ hgX Tryz.underlying35 rfl hsz13 ?_) | (refine wpList_store_mid rfl 35 _ _ rfl X 0 #[.int .u32 (g.size : Int), .slice pg g.cells.length cg] rfl rfl hthX hsz13 hone13 ?_; refine wpList_world HW9.out ?_))
              go_roundg (n - (t + 1))
              case measure => omega
              case rel => exact ⟨t + 1, g, pg, cg, _, by omega, rfl, by go_num, HF.out.1, HF.out.2⟩
            · have hxc0 : xc ≠ 0 := fun q => hrc (hxc.1 q)
              have e1 : (xc == 0) = false := by simpa using hxc0
              have E := HE8.out
              clear hxc hcall3 HE8 hg8
              obtain ⟨W9, hW9⟩ : ∃ W9, W9 = w8.setCells X 0 [.int .u32 (g.size : Int), .slice pg g.cells.length cg] := ⟨_, rfl⟩
              have hgX := E.rowAt 0 rfl
              have hthX : w8.there X 0 2 := (E.rowAt 3 rfl).there 0 2 (by simp)
              have E9 := E.storeAny (D := #[.int .u32 (g.size : Int), .slice pg g.cells.length cg]) 3 rfl rfl (no_text2 _ _ _ _) hW9
              have hgn : GoodK x y k dat g := by
                intro h1 h2
                exact absurd (HGK.out h1 h2).1 hrc
              have HW9 := Lib.hid hW9
              have HF := Lib.hid (And.intro hgn (show Env X _ w W9 [⟨T9, 28, #[.int .u8 (nd.kind : Int), .slice q1 nd.items.length d1, .slice q2 nd.kids.length d2, .slice q3 nd.vols.length d3]⟩, ⟨X, 35, #[.int .u32 (g.size : Int), .slice pg g.cells.length cg]⟩] [(.agg #[.int .u32 (g.size : Int), .slice pg g.cells.length cg], g)] [(.agg #[.int .u8 (nd.kind : Int), .slice q1 nd.items.length d1, .slice q2 nd.kids.length d2, .slice q3 nd.vols.length d3], nd)] from ⟨E9.below, E9.hX, E9.hB, fun r hr => E9.rowsI r (List.mem_cons_of_mem _ (List.mem_cons_of_mem _ hr)), (List.nodup_cons.1 (List.nodup_cons.1 E9.nd).2).2, fun a ha => E9.heaps a (by simp at ha; simp [ha]), fun a ha => E9.nodes a (List.mem_cons_of_mem _ ha)⟩))
              clear hW9 E9 hgn
              clear E HGK HD HY hrc
              go_wp2_with (first | (refine wpList_load_row rfl 35 _ rfl T13 rfl 35 #[.int .u32 (g.size : Int), .slice pg g.cells.length cg] (0, 0) _ hgX Tryz.underlying35 rfl hsz13 ?_) | (refine wpList_store_mid rfl 35 _ _ rfl X 0 #[.int .u32 (g.size : Int), .slice pg g.cells.length cg] rfl rfl hthX hsz13 hone13 ?_; refine wpList_world HW9.out ?_))
              go_roundg (n - (t + 1))
              case measure => omega
              case rel => exact ⟨t + 1, g, pg, cg, _, by omega, rfl, by go_num, HF.out.1, HF.out.2⟩
          · have hne2 : ((skm : Int) == 2) = false := by simpa using fun e => hk2 (by omega)
            clear hno hskip
            go_wp2_with (first | (refine wpList_world HW4.out ?_) | (refine wpList_load_mid rfl 67 _ rfl b (o + t * 6) rfl [.int .u8 (skind : Int), .int .u8 (sn.kind : Int), .slice r1 sn.items.length g1, .slice r2 sn.kids.length g2, .slice r3 sn.vols.length g3, .int .u32 (snum : Int)] _ hci Tryz.underlying67 rfl hszs ?_) | (refine wpList_store_mid rfl 67 _ _ rfl T12 0 #[.int .u8 (skind : Int), .int .u8 (sn.kind : Int), .slice r1 sn.items.length g1, .slice r2 sn.kids.length g2, .slice r3 sn.vols.length g3, .int .u32 (snum : Int)] rfl rfl hth12 hszs2 hone12 ?_; refine wpList_world HW5.out ?_) | (refine wpList_load_row rfl 35 _ rfl X rfl 35 #[.int .u32 (Hc.size : Int), .slice pc Hc.cells.length cc] (0, 0) _ hx Tryz.underlying35 rfl hszc ?_) | (refine wpList_load_row rfl 67 _ rfl T12 rfl 67 #[.int .u8 (skind : Int), .int .u8 (sn.kind : Int), .slice r1 sn.items.length g1, .slice r2 sn.kids.length g2, .slice r3 sn.vols.length g3, .int .u32 (snum : Int)] (0, 0) _ hs Tryz.underlying67 rfl hszs2 ?_))
            refine hcall.mono ?_
            rintro e w6 ⟨r, rfl, pg, cg, g, rfl, hat, hy1, hy2, hq⟩
            have E := (HE5.out.call hq).addH hat
            obtain ⟨W6, hW6⟩ : ∃ W6, W6 = w6.alloc (.cells #[.int .u32 0, .slice none 0 0] 35) := ⟨_, rfl⟩
            obtain ⟨W7, hW7⟩ : ∃ W7, W7 = W6.setCells w6.heap.size 0 [.int .u32 (g.size : Int), .slice pg g.cells.length cg] := ⟨_, rfl⟩
            have hth13 : W6.there w6.heap.size 0 2 := ((E.alloc hW6).rowAt 0 rfl).there 0 2 (by simp)
            have hone13 := oneH (g.size : Int) pg g.cells.length cg
            have hsz13 := HSZ.out.1 (.int .u32 (g.size : Int)) (.slice pg g.cells.length cg)
            have E7 := E.var (D := #[.int .u32 (g.size : Int), .slice pg g.cells.length cg]) hW6 hW7 rfl
            have hx := E7.rowAt 3 rfl
            have hcall2 := check_gen _ Hc W7 (E7.heap 1 rfl)
            have HW6 := Lib.hid hW6
            have HW7 := Lib.hid hW7
            have HE7 := Lib.hid E7
            have HY := Lib.hid (And.intro hy1 hy2)
            clear hcall hq E E7 hW6 hW7 HE5 hat hy1 hy2 hs c12 c12n hci HW4 HW5 hth12 hint
            generalize hT13 : w6.heap.size = T13 at *
            go_wp2_with (first | (refine wpList_world HW6.out ?_) | (refine wpList_store_mid rfl 35 _ _ rfl T13 0 #[.int .u32 (g.size : Int), .slice pg g.cells.length cg] rfl rfl hth13 hsz13 hone13 ?_; refine wpList_world HW7.out ?_) | (refine wpList_load_row rfl 35 _ rfl X rfl 35 #[.int .u32 (Hc.size : Int), .slice pc Hc.cells.length cc] (0, 0) _ hx Tryz.underlying35 rfl hszc ?_))
            refine hcall2.mono ?_
            rintro e w8 ⟨xc, rfl, hxc, hq⟩
            have E8 := HE7.out.call hq
            have hg8 := E8.rowAt 0 rfl
            have hcall3 := check_gen _ g w8 (E8.heap 0 rfl)
            have HE8 := Lib.hid E8
            clear hcall2 hq HE7 HW6 HW7 hth13 hx
            by_cases hrc : RightH Hc
            · obtain rfl := hxc.2 hrc
              clear hxc
              go_wp2_with (refine wpList_load_rowG 35 _ rfl T13 rfl (by rfl) 35 #[.int .u32 (g.size : Int), .slice pg g.cells.length cg] (0, 0) _ hg8 Tryz.underlying35 rfl hsz13 ?_)
              refine hcall3.mono ?_
              rintro e w9 ⟨xg, rfl, hxg, hq⟩
              have hge := HY.out.1 hrc
              have hrg : RightH g := by rw [hge]; exact stepH_right hrc HWF.out
              obtain rfl := hxg.2 hrg
              have E := HE8.out.call hq
              clear hcall3 hq HE8 hg8 hxg
              obtain ⟨W9, hW9⟩ : ∃ W9, W9 = w9.setCells X 0 [.int .u32 (g.size : Int), .slice pg g.cells.length cg] := ⟨_, rfl⟩
              have hgX := E.rowAt 0 rfl
              have hthX : w9.there X 0 2 := (E.rowAt 3 rfl).there 0 2 (by simp)
              have E9 := E.storeAny (D := #[.int .u32 (g.size : Int), .slice pg g.cells.length cg]) 3 rfl rfl (no_text2 _ _ _ _) hW9
              have hgn : GoodK x y k dat g := by
                rw [hge]
                exact HD.out HGK.out hrc
              have HW9 := Lib.hid hW9
              have HF := Lib.hid (And.intro hgn (show Env X _ w W9 [⟨T9, 28, #[.int .u8 (nd.kind : Int), .slice q1 nd.items.length d1, .slice q2 nd.kids.length d2, .slice q3 nd.vols.length d3]⟩, ⟨X, 35, #[.int .u32 (g.size : Int), .slice pg g.cells.length cg]⟩] [(.agg #[.int .u32 (g.size : Int), .slice pg g.cells.length cg], g)] [(.agg #[.int .u8 (nd.kind : Int), .slice q1 nd.items.length d1, .slice q2 nd.kids.length d2, .slice q3 nd.vols.length d3], nd)] from ⟨E9.below, E9.hX, E9.hB, fun r hr => E9.rowsI r (List.mem_cons_of_mem _ (List.mem_cons_of_mem _ hr)), (List.nodup_cons.1 (List.nodup_cons.1 E9.nd).2).2, fun a ha => E9.heaps a (by simp at ha; simp [ha]), fun a ha => E9.nodes a (List.mem_cons_of_mem _ ha)⟩))
              clear hW9 E9 hgn
              clear E hge hrg hrc HGK HD HY
              go_wp2_with (first | (refine wpList_load_row rfl 35 _ rfl T13 rfl 35 #[.int .u32 (g.size : Int), .slice pg g.cells.length cg] (0, 0) _ hgX Tryz.underlying35 rfl hsz13 ?_) | (refine wpList_store_mid rfl 35 _ _ rfl X 0 #[.int .u32 (g.size : Int), .slice pg g.cells.length cg] rfl rfl hthX hsz13 hone13 ?_; refine wpList_world HW9.out ?_))
              go_roundg (n - (t + 1))
              case measure => omega
              case rel => exact ⟨t + 1, g, pg, cg, _, by omega, rfl, by go_num, HF.out.1, HF.out.2⟩
            · have hxc0 : xc ≠ 0 := fun q => hrc (hxc.1 q)
              have e1 : (xc == 0) = false := by simpa using hxc0
              have E := HE8.out
              clear hxc hcall3 HE8 hg8
              obtain ⟨W9, hW9⟩ : ∃ W9, W9 = w8.setCells X 0 [.int .u32 (g.size : Int), .slice pg g.cells.length cg] := ⟨_, rfl⟩
              have hgX := E.rowAt 0 rfl
              have hthX : w8.there X 0 2 := (E.rowAt 3 rfl).there 0 2 (by simp)
              have E9 := E.storeAny (D := #[.int .u32 (g.size : Int), .slice pg g.cells.length cg]) 3 rfl rfl (no_text2 _ _ _ _) hW9
              have hgn : GoodK x y k dat g := by
                intro h1 h2
                exact absurd (HGK.out h1 h2).1 hrc
              have HW9 := Lib.hid hW9
              have HF := Lib.hid (And.intro hgn (show Env X _ w W9 [⟨T9, 28, #[.int .u8 (nd.kind : Int), .slice q1 nd.items.length d1, .slice q2 nd.kids.length d2, .slice q3 nd.vols.length d3]⟩, ⟨X, 35, #[.int .u32 (g.size : Int), .slice pg g.cells.length cg]⟩] [(.agg #[.int .u32 (g.size : Int), .slice pg g.cells.length cg], g)] [(.agg #[.int .u8 (nd.kind : Int), .slice q1 nd.items.length d1, .slice q2 nd.kids.length d2, .slice q3 nd.vols.length d3], nd)] from ⟨E9.below, E9.hX, E9.hB, fun r hr => E9.rowsI r (List.mem_cons_of_mem _ (List.mem_cons_of_mem _ hr)), (List.nodup_cons.1 (List.nodup_cons.1 E9.nd).2).2, fun a ha => E9.heaps a (by simp at ha; simp [ha]), fun a ha => E9.nodes a (List.mem_cons_of_mem _ ha)⟩))
              clear hW9 E9 hgn
              clear E HGK HD HY hrc
              go_wp2_with (first | (refine wpList_load_row rfl 35 _ rfl T13 rfl 35 #[.int .u32 (g.size : Int), .slice pg g.cells.length cg] (0, 0) _ hgX Tryz.underlying35 rfl hsz13 ?_) | (refine wpList_store_mid rfl 35 _ _ rfl X 0 #[.int .u32 (g.size : Int), .slice pg g.cells.length cg] rfl rfl hthX hsz13 hone13 ?_; refine wpList_world HW9.out ?_))
              go_roundg (n - (t + 1))
              case measure => omega
              case rel => exact ⟨t + 1, g, pg, cg, _, by omega, rfl, by go_num, HF.out.1, HF.out.2⟩
    · obtain rfl : t = n := by omega
      have i1 : ¬ (t : Int) < (t : Int) := by omega
      have hx := E.rowAt 1 rfl
      by_cases hy : y = 0
      · subst hy
        by_cases hxp : x < 1
        · have HF := Lib.hid E.below
          clear E hx hgk
          go_wp2_with fail
          go_ret
          exact ⟨rfl, HF.out⟩
        · obtain ⟨hrc, hin⟩ := hgk rfl (by omega)
          obtain ⟨c2, hf2, hd2⟩ := held_find hrc hin
          obtain ⟨c1, hd1, hn1⟩ := HG.out.2 rfl
          have hnn : c2.node = nd := by rw [hn1]; exact (data_eq (hd2.trans hd1.symm)).1
          have hcall := get_well _ Hc k wr (E.heap 0 rfl) hrc hf2
          rw [hnn] at hcall
          have hszc := HSZ.out.1 (.int .u32 (Hc.size : Int)) (.slice pc Hc.cells.length cc)
          have HE := Lib.hid E
          clear E hgk hrc hin hf2 hnn hn1 hd1 hd2
          go_wp2_with (refine wpList_load_row rfl 35 _ rfl X rfl 35 #[.int .u32 (Hc.size : Int), .slice pc Hc.cells.length cc] (0, 0) _ hx Tryz.underlying35 rfl hszc ?_)
          refine hcall.mono ?_
          rintro e w7 ⟨r, rfl, hnr, hq⟩
          obtain ⟨s1, f1, s2, f2, s3, f3, rfl⟩ := hnr.shapeN
          have E := (HE.out.call hq).addN hnr
          obtain ⟨W5, hW5⟩ : ∃ W5, W5 = w7.alloc (.cells #[.int .u8 0, .slice none 0 0, .slice none 0 0, .slice none 0 0] 28) := ⟨_, rfl⟩
          obtain ⟨W6, hW6⟩ : ∃ W6, W6 = W5.setCells w7.heap.size 0 [.int .u8 (nd.kind : Int), .slice s1 nd.items.length f1, .slice s2 nd.kids.length f2, .slice s3 nd.vols.length f3] := ⟨_, rfl⟩
          have hth14 : W5.there w7.heap.size 0 4 := ((E.alloc hW5).rowAt 0 rfl).there 0 4 (by simp)
          have hone14 : (#[.int .u8 (nd.kind : Int), .slice s1 nd.items.length f1, .slice s2 nd.kids.length f2, .slice s3 nd.vols.length f3] : Array Value).all (·.oneCell') = true := all_oneCell_toArray (cs := [.int .u8 (nd.kind : Int), .slice s1 nd.items.length f1, .slice s2 nd.kids.length f2, .slice s3 nd.vols.length f3]) fun v hv => by
            simp only [List.mem_cons, List.not_mem_nil, or_false] at hv
            rcases hv with rfl | rfl | rfl | rfl <;> rfl
          have hsz14 := HSZ.out.2.1 (.int .u8 (nd.kind : Int)) (.slice s1 nd.items.length f1) (.slice s2 nd.kids.length f2) (.slice s3 nd.vols.length f3)
          have E6 := E.var (D := #[.int .u8 (nd.kind : Int), .slice s1 nd.items.length f1, .slice s2 nd.kids.length f2, .slice s3 nd.vols.length f3]) hW5 hW6 rfl
          have h14 := E6.rowAt 0 rfl
          have h9 := E6.rowAt 1 rfl
          have hsame := same_calls W6.heap.size _ _ nd nd W6 (E6.node 1 rfl) (E6.node 0 rfl) (Nat.le_refl _)
          rw [(sameN_iff nd nd).2 rfl] at hsame
          have HW5 := Lib.hid hW5
          have HW6 := Lib.hid hW6
          have HE6 := Lib.hid E6
          clear hcall hq E E6 hW5 hW6 HE hx hnr
          generalize hT14 : w7.heap.size = T14 at *
          go_wp2_with (first | (refine wpList_world HW5.out ?_) | (refine wpList_store_mid rfl 28 _ _ rfl T14 0 #[.int .u8 (nd.kind : Int), .slice s1 nd.items.length f1, .slice s2 nd.kids.length f2, .slice s3 nd.vols.length f3] rfl rfl hth14 hsz14 hone14 ?_; refine wpList_world HW6.out ?_) | (refine wpList_load_rowG 28 _ rfl T9 rfl (by rfl) 28 #[.int .u8 (nd.kind : Int), .slice q1 nd.items.length d1, .slice q2 nd.kids.length d2, .slice q3 nd.vols.length d3] (0, 0) _ h9 Tryz.underlying28 rfl hsz9 ?_) | (refine wpList_load_rowG 28 _ rfl T14 rfl (by rfl) 28 #[.int .u8 (nd.kind : Int), .slice s1 nd.items.length f1, .slice s2 nd.kids.length f2, .slice s3 nd.vols.length f3] (0, 0) _ h14 Tryz.underlying28 rfl hsz14 ?_))
          refine hsame.mono ?_
          rintro e w8 ⟨rfl, hq⟩
          have HF := Lib.hid (HE6.out.call hq).below
          clear hsame hq HE6 h9 h14 hth14
          go_wp2_with fail
          go_ret
          exact ⟨rfl, HF.out⟩
      · have e1 : (y == 0) = false := by simpa using hy
        have e2 : (y != 0) = true := by simpa using hy
        have HF := Lib.hid E.below
        clear E hx hgk
        go_wp2_with fail
        go_ret
        exact ⟨rfl, HF.out⟩

end Go.Proofs.YtimkklaidodkdaaGreatDoor
