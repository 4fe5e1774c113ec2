/- The law HeapOnce: walked. -/
import Derived.Test.YtimkklaidodkdaaGreatDoorHeapEnv
import Derived.Test.YtimkklaidodkdaaGreatDoorHeapLawP
import Derived.Test.YtimkklaidodkdaaGreatDoorHeapLives
import Derived.Test.YtimkklaidodkdaaGreatDoorHeapSame
namespace Go.Proofs.YtimkklaidodkdaaGreatDoor
open Go.RowKit

/-- heap.Put, however it went. -/
theorem put_any (v : Value) (h : HeapD) (vn : Value) (n : NodeD) (w : World) (a : HeapAt w.heap.size w v h) (an : NodeAt w.heap.size w vn n) (hfit : fitN n) (hz : n.kids.length + n.vols.length ≤ 1048576) :
    Calls Tryz.prog 14 #[v, vn] w fun e w' => ∃ (z : Int) (p : Option Addr) (m c : Nat) (kd : KidD) (x : Int), e = .returned (.tuple #[.agg #[.int .u32 z, .slice p m c], .agg (kidV kd).toArray, .int .i64 x]) ∧ kd.wf ∧ (RightH h → kd = kidH (putN h n) (putS h n) ∧ x = putE h n ∧ OwnH w.heap.size w' (.agg #[.int .u32 z, .slice p m c]) (putH h n)) ∧ (¬ RightH h → x = 7 ∧ OwnH w.heap.size w' (.agg #[.int .u32 z, .slice p m c]) zeroHp) ∧ Below w.heap.size w w' := (hput_calls v h vn n w a an hfit hz).mono (by
  rintro e w' ⟨⟨r, ⟨hr, rfl, ho⟩ | ⟨hno, rfl, ho⟩⟩, hb⟩
  · obtain ⟨p, c, rfl⟩ := ho.shape
    have hwf : (kidH (putN h n) (putS h n)).wf := ⟨by
      show putN h n < 4294967296
      unfold putN
      split
      · next q =>
        have hrr := putH_right hr an.wf (n := n)
        cases hs : sameC h.cells (encN n) with
        | some c => exact (hr.nums.2.1 c (List.mem_of_find?_eq_some hs)).1
        | none =>
          have := ((put_zero q).2.2 hs).1
          have := hr.hi
          show freeC h.cells < _
          omega
      · omega, putS_len h n⟩
    exact ⟨_, p, _, c, _, _, rfl, hwf, fun _ => ⟨rfl, rfl, ho⟩, fun q => absurd hr q, hb⟩
  · obtain ⟨p, c, rfl⟩ := ho.shape
    exact ⟨_, p, _, c, _, _, rfl, ⟨by show (0 : Nat) < _; omega, by simp [kidH, zeroH]⟩, fun q => absurd q hno, fun _ => ⟨rfl, ho⟩, hb⟩)

set_option maxRecDepth 100000 in
set_option maxHeartbeats 6400000 in
theorem once_calls (v vn : Value) (h : HeapD) (n : NodeD) (w : World) (a : HeapAt w.heap.size w v h) (an : NodeAt w.heap.size w vn n) (hfit : fitN n) (hbulk : n.kids.length + n.vols.length ≤ 1048576) :
    Calls Tryz.prog 4 #[v, vn] w fun e w' => e = .returned (.bool true) ∧ Below w.heap.size w w' := by
  obtain ⟨p, cap, rfl⟩ := a.shape
  obtain ⟨q1, d1, q2, d2, q3, d3, rfl⟩ := an.shapeN
  obtain ⟨W0, hW0⟩ : ∃ W0, W0 = w.alloc (.cells #[.int .u32 (h.size : Int), .slice p h.cells.length cap] 35) := ⟨_, rfl⟩
  obtain ⟨W1, hW1⟩ : ∃ W1, W1 = W0.alloc (.cells #[.int .u8 (n.kind : Int), .slice q1 n.items.length d1, .slice q2 n.kids.length d2, .slice q3 n.vols.length d3] 28) := ⟨_, rfl⟩
  have E0 := ((Env.start (hs := [(.agg #[.int .u32 (h.size : Int), .slice p h.cells.length cap], h)]) (ns := [(.agg #[.int .u8 (n.kind : Int), .slice q1 n.items.length d1, .slice q2 n.kids.length d2, .slice q3 n.vols.length d3], n)]) (by simpa using a) (by simpa using an)).alloc hW0).alloc hW1
  have hlv := hlives_calls W1
  have hszH : ∀ x y : Value, (Tryz.prog.info? 35).map (·.size) = some (#[x, y] : Array Value).size := fun x y => by kernel_rfl
  have hszN : ∀ x y z u : Value, (Tryz.prog.info? 28).map (·.size) = some (#[x, y, z, u] : Array Value).size := fun x y z u => by kernel_rfl
  have hszK : ∀ C : Array Value, C.size = 34 → (Tryz.prog.info? 38).map (·.size) = some C.size := fun C hC => by rw [hC]; kernel_rfl
  have hsz := hszH (.int .u32 (h.size : Int)) (.slice p h.cells.length cap)
  have hsn := hszN (.int .u8 (n.kind : Int)) (.slice q1 n.items.length d1) (.slice q2 n.kids.length d2) (.slice q3 n.vols.length d3)
  have HSZ := Lib.hid (And.intro hszH (And.intro hszN hszK))
  have HW0 := Lib.hid hW0
  have HW1 := Lib.hid hW1
  have HE0 := Lib.hid E0
  have HFIT := Lib.hid (And.intro hfit (And.intro hbulk an.wf))
  clear hW0 hW1 a an E0 hszH hszN hszK hfit hbulk
  generalize hXg : w.heap.size = X at *
  generalize hYg : W0.heap.size = Y at *
  go_enter Tryz.func4, Tryz.ntmps4
  go_wp2_with (first | (refine wpList_world HW0.out ?_) | (refine wpList_world HW1.out ?_))
  refine hlv.mono ?_
  rintro e w1 ⟨rfl, hq⟩
  have E1 := HE0.out.call hq
  have hx := E1.rowAt 1 rfl
  have hy := E1.rowAt 0 rfl
  have hcall := put_any _ h _ n w1 (E1.heap 0 rfl) (E1.node 0 rfl) HFIT.out.1 HFIT.out.2.1
  have HE1 := Lib.hid E1
  clear hlv hq E1 HE0
  go_wp2_with (first | (refine wpList_load_row rfl 35 _ rfl X rfl 35 #[.int .u32 (h.size : Int), .slice p h.cells.length cap] (0, 0) _ hx Tryz.underlying35 rfl hsz ?_) | (refine wpList_load_row rfl 28 _ rfl Y rfl 28 #[.int .u8 (n.kind : Int), .slice q1 n.items.length d1, .slice q2 n.kids.length d2, .slice q3 n.vols.length d3] (0, 0) _ hy Tryz.underlying28 rfl hsn ?_))
  refine hcall.mono ?_
  rintro e w2 ⟨z5, p5, m5, c5, kd, x5, rfl, hkw, hyes, hno, hq⟩
  obtain ⟨KA, hKA⟩ : ∃ KA, KA = kidV kd := ⟨_, rfl⟩
  have hkl : KA.length = 34 := by rw [hKA]; exact kidV_length hkw.2
  have hkone : KA.toArray.all (·.oneCell') = true := by rw [hKA]; exact kidV_one kd
  have hszA := HSZ.out.2.2 KA.toArray (by rw [List.size_toArray, hkl])
  have hKA0 : KA[1]? = some (.int .u32 (kd.num : Int)) := by rw [hKA]; rfl
  rw [← hKA]
  have hD2 : KA.toArray.size = ((kidV (kidH 0 zeroH)).toArray : Array Value).size := by rw [List.size_toArray, hkl]; rfl
  have HKA := Lib.hid (And.intro hKA (And.intro hKA0 hkw))
  clear hKA hKA0 hkw
  by_cases hx0 : x5 = 0
  · subst hx0
    have hr : RightH h := Classical.byContradiction fun q => by have := (hno q).1; cases this
    obtain ⟨hkd, hpe, ho⟩ := hyes hr
    have hpe0 : putE h n = 0 := hpe.symm
    obtain ⟨g1, g2, g3, g4, hfc, hgs, hgl⟩ := once_put hr HFIT.out.2.2 hpe0
    have hrG := putH_right hr HFIT.out.2.2 (n := n)
    have hoG := ho.heap hrG
    obtain ⟨pG, cG, hsh⟩ := ho.shape
    injection hsh with hsh
    have e1 : z5 = ((putH h n).size : Int) := by have := congrArg (fun a => a[0]?) hsh; simpa using this
    have e2 : Value.slice p5 m5 c5 = .slice pG (putH h n).cells.length cG := by have := congrArg (fun a => a[1]?) hsh; simpa using this
    injection e2 with e3 e4 e5
    subst e1 e3 e4 e5
    obtain ⟨G, hG⟩ : ∃ G, G = putH h n := ⟨_, rfl⟩
    have hputG : putE G n = 0 ∧ putN G n = putN h n ∧ putS G n = putS h n ∧ putH G n = G := by rw [hG]; exact ⟨g1, g2, g3, g4⟩
    rw [← hG] at hfc hgs hgl hrG hoG
    simp only [← hG]
    clear hsh ho hG g1 g2 g3 g4 hyes hno hpe hcall
    have E := (HE1.out.call hq).addH hoG
    clear hoG hq HE1 hx hy
    obtain ⟨W2, hW2⟩ : ∃ W2, W2 = w2.alloc (.cells #[.int .u32 0, .slice none 0 0] 35) := ⟨_, rfl⟩
    obtain ⟨W3, hW3⟩ : ∃ W3, W3 = W2.alloc (.cells (kidV (kidH 0 zeroH)).toArray 38) := ⟨_, rfl⟩
    obtain ⟨W4, hW4⟩ : ∃ W4, W4 = W3.setCells w2.heap.size 0 [.int .u32 (G.size : Int), .slice p5 G.cells.length c5] := ⟨_, rfl⟩
    obtain ⟨W5, hW5⟩ : ∃ W5, W5 = W4.setCells W2.heap.size 0 KA := ⟨_, rfl⟩
    obtain ⟨E5, hth5, hth6⟩ := E.var2 (D1 := #[.int .u32 (G.size : Int), .slice p5 G.cells.length c5]) (D2 := KA.toArray) hW2 hW3 hW4 hW5 rfl hD2
    have hone5 := oneH (G.size : Int) p5 G.cells.length c5
    have hsz5 := HSZ.out.1 (.int .u32 (G.size : Int)) (.slice p5 G.cells.length c5)
    have ha := E5.rowAt 1 rfl
    have hy := E5.rowAt 2 rfl
    have hcall := put_well _ G _ n W5 (E5.heap 0 rfl) (E5.node 0 rfl) HFIT.out.1 HFIT.out.2.1 hrG hputG
    have HW2 := Lib.hid hW2
    have HW3 := Lib.hid hW3
    have HW4 := Lib.hid hW4
    have HW5 := Lib.hid hW5
    have HE5 := Lib.hid E5
    have HG := Lib.hid (And.intro hr (And.intro hrG (And.intro hfc (And.intro hgs (And.intro hgl (And.intro hkd hpe0))))))
    clear hW2 hW3 hW4 hW5 E E5 hr hrG hfc hgs hgl hkd hputG hpe0
    generalize hT5 : w2.heap.size = T5 at *
    generalize hT6 : W2.heap.size = T6 at *
    go_wp2_with (first | (refine wpList_world HW2.out ?_) | (refine wpList_world HW3.out ?_) | (refine wpList_store_mid rfl 35 _ _ rfl T5 0 #[.int .u32 (G.size : Int), .slice p5 G.cells.length c5] rfl rfl hth5 hsz5 hone5 ?_; refine wpList_world HW4.out ?_) | (refine wpList_store_mid rfl 38 _ _ rfl T6 0 KA.toArray rfl rfl hth6 hszA hkone ?_; refine wpList_world HW5.out ?_) | (refine wpList_load_row rfl 35 _ rfl T5 rfl 35 #[.int .u32 (G.size : Int), .slice p5 G.cells.length c5] (0, 0) _ ha Tryz.underlying35 rfl hsz5 ?_) | (refine wpList_load_row rfl 28 _ rfl Y rfl 28 #[.int .u8 (n.kind : Int), .slice q1 n.items.length d1, .slice q2 n.kids.length d2, .slice q3 n.vols.length d3] (0, 0) _ hy Tryz.underlying28 rfl hsn ?_))
    refine hcall.mono ?_
    rintro e w6 ⟨p8, c8, rfl, ho8, hq⟩
    rw [← HG.out.2.2.2.2.2.1, ← HKA.out.1]
    have E := (HE5.out.call hq).addH (ho8.heap HG.out.2.1)
    clear hcall ho8 hq HE5 ha hy hth5 hth6 HW2 HW3 HW4 HW5
    obtain ⟨W2, hW2⟩ : ∃ W2, W2 = w6.alloc (.cells #[.int .u32 0, .slice none 0 0] 35) := ⟨_, rfl⟩
    obtain ⟨W3, hW3⟩ : ∃ W3, W3 = W2.alloc (.cells (kidV (kidH 0 zeroH)).toArray 38) := ⟨_, rfl⟩
    obtain ⟨W4, hW4⟩ : ∃ W4, W4 = W3.setCells w6.heap.size 0 [.int .u32 (G.size : Int), .slice p8 G.cells.length c8] := ⟨_, rfl⟩
    obtain ⟨W5, hW5⟩ : ∃ W5, W5 = W4.setCells W2.heap.size 0 KA := ⟨_, rfl⟩
    obtain ⟨E5, hth8, hth9⟩ := E.var2 (D1 := #[.int .u32 (G.size : Int), .slice p8 G.cells.length c8]) (D2 := KA.toArray) hW2 hW3 hW4 hW5 rfl hD2
    have hone8 := oneH (G.size : Int) p8 G.cells.length c8
    have hsz8 := HSZ.out.1 (.int .u32 (G.size : Int)) (.slice p8 G.cells.length c8)
    have hb := E5.rowAt 1 rfl
    have hkr := E5.rowAt 2 rfl
    have ck : W5.cell? ⟨T6, 1, none⟩ = some (.int .u32 (kd.num : Int)) := by rw [hkr.cell, List.getElem?_toArray]; exact HKA.out.2.1
    obtain ⟨c, hfc, hcn⟩ := HG.out.2.2.1
    have hnum : kd.num = putN h n := by rw [HG.out.2.2.2.2.2.1]; rfl
    rw [← hnum] at hfc
    have hcall := get_well _ G kd.num W5 (E5.heap 0 rfl) HG.out.2.1 hfc
    rw [hcn] at hcall
    have HW2 := Lib.hid hW2
    have HW3 := Lib.hid hW3
    have HW4 := Lib.hid hW4
    have HW5 := Lib.hid hW5
    have HE5 := Lib.hid E5
    clear hW2 hW3 hW4 hW5 E E5 hfc hcn hnum hkr
    generalize hT8 : w6.heap.size = T8 at *
    generalize hT9 : W2.heap.size = T9 at *
    go_wp2_with (first | (refine wpList_world HW2.out ?_) | (refine wpList_world HW3.out ?_) | (refine wpList_store_mid rfl 35 _ _ rfl T8 0 #[.int .u32 (G.size : Int), .slice p8 G.cells.length c8] rfl rfl hth8 hsz8 hone8 ?_; refine wpList_world HW4.out ?_) | (refine wpList_store_mid rfl 38 _ _ rfl T9 0 KA.toArray rfl rfl hth9 hszA hkone ?_; refine wpList_world HW5.out ?_) | (refine wpList_load_row rfl 35 _ rfl T8 rfl 35 #[.int .u32 (G.size : Int), .slice p8 G.cells.length c8] (0, 0) _ hb Tryz.underlying35 rfl hsz8 ?_))
    refine hcall.mono ?_
    rintro e w7 ⟨r, rfl, hnr, hq⟩
    obtain ⟨s1, f1, s2, f2, s3, f3, rfl⟩ := hnr.shapeN
    have E := HE5.out.call hq
    clear hcall hnr hq HE5 hb ck hth8 hth9 HW2 HW3 HW4 HW5
    obtain ⟨W2, hW2⟩ : ∃ W2, W2 = w7.alloc (.cells #[.int .u8 0, .slice none 0 0, .slice none 0 0, .slice none 0 0] 28) := ⟨_, rfl⟩
    obtain ⟨W3, hW3⟩ : ∃ W3, W3 = W2.setCells w7.heap.size 0 [.int .u8 (n.kind : Int), .slice s1 n.items.length f1, .slice s2 n.kids.length f2, .slice s3 n.vols.length f3] := ⟨_, rfl⟩
    have hth11 : W2.there w7.heap.size 0 4 := ((E.alloc hW2).rowAt 0 rfl).there 0 4 (by simp)
    have hone11 : (#[.int .u8 (n.kind : Int), .slice s1 n.items.length f1, .slice s2 n.kids.length f2, .slice s3 n.vols.length f3] : Array Value).all (·.oneCell') = true := all_oneCell_toArray (cs := [.int .u8 (n.kind : Int), .slice s1 n.items.length f1, .slice s2 n.kids.length f2, .slice s3 n.vols.length f3]) fun v hv => by
      simp only [List.mem_cons, List.not_mem_nil, or_false] at hv
      rcases hv with rfl | rfl | rfl | rfl <;> rfl
    have hsz11 := HSZ.out.2.1 (.int .u8 (n.kind : Int)) (.slice s1 n.items.length f1) (.slice s2 n.kids.length f2) (.slice s3 n.vols.length f3)
    have E5 := E.var (D := #[.int .u8 (n.kind : Int), .slice s1 n.items.length f1, .slice s2 n.kids.length f2, .slice s3 n.vols.length f3]) hW2 hW3 rfl
    have hx := E5.rowAt 6 rfl
    have hcall := free_well _ h W3 (E5.heap 2 rfl) HG.out.1
    have HW2 := Lib.hid hW2
    have HW3 := Lib.hid hW3
    have HE5 := Lib.hid E5
    clear hW2 hW3 E E5
    generalize hT11 : w7.heap.size = T11 at *
    go_wp2_with (first | (refine wpList_world HW2.out ?_) | (refine wpList_store_mid rfl 28 _ _ rfl T11 0 #[.int .u8 (n.kind : Int), .slice s1 n.items.length f1, .slice s2 n.kids.length f2, .slice s3 n.vols.length f3] rfl rfl hth11 hsz11 hone11 ?_; refine wpList_world HW3.out ?_) | (refine wpList_load_row rfl 35 _ rfl X rfl 35 #[.int .u32 (h.size : Int), .slice p h.cells.length cap] (0, 0) _ hx Tryz.underlying35 rfl hsz ?_))
    refine hcall.mono ?_
    rintro e w8 ⟨rfl, hq⟩
    have E := HE5.out.call hq
    have hb := E.rowAt 2 rfl
    have hcall2 := free_well _ G w8 (E.heap 0 rfl) HG.out.2.1
    have HE8 := Lib.hid E
    clear hcall hq HE5 E hx HW2 HW3 hth11
    go_wp2_with (refine wpList_load_row rfl 35 _ rfl T8 rfl 35 #[.int .u32 (G.size : Int), .slice p8 G.cells.length c8] (0, 0) _ hb Tryz.underlying35 rfl hsz8 ?_)
    refine hcall2.mono ?_
    rintro e w9 ⟨rfl, hq⟩
    have E := HE8.out.call hq
    have hb := E.rowAt 2 rfl
    have hk9 := E.rowAt 1 rfl
    have ha := E.rowAt 4 rfl
    have hk6 := E.rowAt 3 rfl
    have hsame := same06_calls _ _ _ G w9 (E.heap 1 rfl) (E.heap 0 rfl) (Nat.le_refl _)
    have heq := fun w => eql_kid kd kd HKA.out.2.2 HKA.out.2.2 w
    simp only [← HKA.out.1, (kidEq_iff kd kd).2 rfl] at heq
    have HE9 := Lib.hid E
    obtain ⟨A, hA⟩ : ∃ A, A = (h.size : Int) - 2 - (h.cells.length : Int) := ⟨_, rfl⟩
    obtain ⟨A2, hA2⟩ : ∃ A2, A2 = (G.size : Int) - 2 - (G.cells.length : Int) := ⟨_, rfl⟩
    have hAA : A2 = A ∨ A = A2 + 1 := by
      have h1 := HG.out.2.2.2.1
      rcases HG.out.2.2.2.2.1 with h2 | h2
      · left; rw [hA, hA2, h1, h2]
      · right; rw [hA, hA2, h1, h2]; omega
    have hAb : 0 ≤ A ∧ A ≤ 65536 := by
      have h1 := HG.out.1.len2
      have h2 := HG.out.1.hi
      rw [hA]
      omega
    rw [← hA, ← hA2]
    obtain ⟨hAb0, hAb1⟩ := hAb
    clear hA hA2 hcall2 hq HE8 E
    go_wp2_with (first | (refine wpList_load_rowG 38 _ rfl T6 rfl (by rfl) 38 KA.toArray (0, 0) _ hk6 Tryz.underlying38 rfl hszA ?_) | (refine wpList_load_rowG 38 _ rfl T9 rfl (by rfl) 38 KA.toArray (0, 0) _ hk9 Tryz.underlying38 rfl hszA ?_) | (refine wpList_exec (v := .bool true) (by rfl) (exec_eqlH rfl (by rfl) (by rfl) guard_kid (heq _)) ?_) | (refine wpList_load_rowG 35 _ rfl T5 rfl (by rfl) 35 #[.int .u32 (G.size : Int), .slice p5 G.cells.length c5] (0, 0) _ ha Tryz.underlying35 rfl hsz5 ?_) | (refine wpList_load_rowG 35 _ rfl T8 rfl (by rfl) 35 #[.int .u32 (G.size : Int), .slice p8 G.cells.length c8] (0, 0) _ hb Tryz.underlying35 rfl hsz8 ?_))
    refine hsame.mono ?_
    rintro e wa ⟨rfl, hq⟩
    have E := HE9.out.call hq
    have c11 : wa.cell? ⟨T11, 0, none⟩ = some (.int .u8 (n.kind : Int)) := by rw [(E.rowAt 0 rfl).cell]; rfl
    have cy : wa.cell? ⟨Y, 0, none⟩ = some (.int .u8 (n.kind : Int)) := by rw [(E.rowAt 5 rfl).cell]; rfl
    have HF := Lib.hid E.below
    clear hsame hq HE9 E ha hb hk6 hk9 heq
    rcases hAA with rfl | rfl
    · go_wp2_with fail
      go_ret
      exact ⟨rfl, HF.out⟩
    · have hne : (A2 == A2 + 1) = false := by simpa using (show ¬ A2 = A2 + 1 by omega)
      have hw : A2 + 1 - A2 = 1 := by omega
      go_wp2_with fail
      go_ret
      exact ⟨rfl, HF.out⟩
  · have e1 : (x5 == 0) = false := by simpa using hx0
    have e2 : (x5 != 0) = true := by simpa using hx0
    have E := HE1.out.call hq
    clear hyes hno hcall hq HE1 hx hy
    obtain ⟨W2, hW2⟩ : ∃ W2, W2 = w2.alloc (.cells #[.int .u32 0, .slice none 0 0] 35) := ⟨_, rfl⟩
    obtain ⟨W3, hW3⟩ : ∃ W3, W3 = W2.alloc (.cells (kidV (kidH 0 zeroH)).toArray 38) := ⟨_, rfl⟩
    obtain ⟨W4, hW4⟩ : ∃ W4, W4 = W3.setCells w2.heap.size 0 [.int .u32 z5, .slice p5 m5 c5] := ⟨_, rfl⟩
    obtain ⟨W5, hW5⟩ : ∃ W5, W5 = W4.setCells W2.heap.size 0 KA := ⟨_, rfl⟩
    obtain ⟨E5, hth5, hth6⟩ := E.var2 (D1 := #[.int .u32 z5, .slice p5 m5 c5]) (D2 := KA.toArray) hW2 hW3 hW4 hW5 rfl hD2
    have hone5 := oneH z5 p5 m5 c5
    have hsz5 := HSZ.out.1 (.int .u32 z5) (.slice p5 m5 c5)
    have HW2 := Lib.hid hW2
    have HW3 := Lib.hid hW3
    have HW4 := Lib.hid hW4
    have HW5 := Lib.hid hW5
    have HF := Lib.hid E5.below
    clear hW2 hW3 hW4 hW5 E E5
    generalize hT5 : w2.heap.size = T5 at *
    generalize hT6 : W2.heap.size = T6 at *
    go_wp2_with (first | (refine wpList_world HW2.out ?_) | (refine wpList_world HW3.out ?_) | (refine wpList_store_mid rfl 35 _ _ rfl T5 0 #[.int .u32 z5, .slice p5 m5 c5] rfl rfl hth5 hsz5 hone5 ?_; refine wpList_world HW4.out ?_) | (refine wpList_store_mid rfl 38 _ _ rfl T6 0 KA.toArray rfl rfl hth6 hszA hkone ?_; refine wpList_world HW5.out ?_))
    go_ret
    exact ⟨rfl, HF.out⟩

end Go.Proofs.YtimkklaidodkdaaGreatDoor
