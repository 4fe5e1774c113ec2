/- A step that happens to a heap: plainly, and walked. -/
import Derived.Test.YtimkklaidodkdaaGreatDoorHeapEnv
import Derived.Test.YtimkklaidodkdaaGreatDoorHeapLawP
namespace Go.Proofs.YtimkklaidodkdaaGreatDoor
open Go.RowKit

structure StepM where
  kind : Nat
  node : NodeD
  nv : List Value
  num : Nat
def StepM.cells (s : StepM) : List Value := [.int .u8 (s.kind : Int)] ++ (s.nv ++ [.int .u32 (s.num : Int)])
def stepH (h : HeapD) (s : StepM) : HeapD := if s.kind % 4 = 0 then putH h s.node else if s.kind % 4 = 1 then holdH h s.num else if s.kind % 4 = 2 then dropH h s.num else sweepH h
theorem stepH_right {h : HeapD} {s : StepM} (r : RightH h) (hw : s.node.wf) : RightH (stepH h s) := by
  unfold stepH
  split
  · exact putH_right r hw
  · split
    · exact holdH_right r
    · split
      · exact dropH_right r
      · exact sweepH_right r
theorem kept_step {h : HeapD} {s : StepM} (r : RightH h) (hw : s.node.wf) {k : Nat} {d : ByteArray} (hno : ¬ (s.kind % 4 = 2 ∧ s.num = k)) (hi : HeldIn h k d) : HeldIn (stepH h s) k d := by
  unfold stepH
  split
  · exact kept_put r hw hi
  · split
    · exact kept_hold hi
    · split
      · next q => exact kept_drop r (fun e => hno ⟨q, e⟩) hi
      · exact kept_sweep r hi
theorem zero_wrong : ¬ RightH zeroHp := fun r => by have := r.lo; simp [zeroHp] at this
/-- What a step hands back. -/
theorem own_step {B : Nat} {w : World} {r : Value} {g : HeapD} (ho : OwnH B w r g) (hg : RightH g ∨ g = zeroHp) : ∃ p c, r = .agg #[.int .u32 (g.size : Int), .slice p g.cells.length c] ∧ HeapAt w.heap.size w (.agg #[.int .u32 (g.size : Int), .slice p g.cells.length c]) g := by
  obtain ⟨p, c, rfl⟩ := ho.shape
  refine ⟨p, c, rfl, ?_⟩
  rcases hg with hg | rfl
  · exact ho.heap hg
  · exact ho.at (by decide) (by simp [zeroHp]) (by decide)
def StepPost (h g0 : HeapD) (w : World) (r : Value) (w' : World) : Prop := ∃ p c g, r = .agg #[.int .u32 (g.size : Int), .slice p g.cells.length c] ∧ HeapAt w'.heap.size w' (.agg #[.int .u32 (g.size : Int), .slice p g.cells.length c]) g ∧ (RightH h → g = g0) ∧ (¬ RightH h → g = zeroHp) ∧ Below w.heap.size w w'
theorem step_post {h g0 : HeapD} {w w' : World} {r : Value} (hr : RightH h → RightH g0) (hh : (RightH h ∧ OwnH w.heap.size w' r g0) ∨ (¬ RightH h ∧ OwnH w.heap.size w' r zeroHp)) (hb : Below w.heap.size w w') : StepPost h g0 w r w' := by
  rcases hh with ⟨h1, ho⟩ | ⟨h1, ho⟩
  · obtain ⟨p, c, hv, ha⟩ := own_step ho (.inl (hr h1))
    exact ⟨p, c, g0, hv, ha, fun _ => rfl, fun q => absurd h1 q, hb⟩
  · obtain ⟨p, c, hv, ha⟩ := own_step ho (.inr rfl)
    exact ⟨p, c, zeroHp, hv, ha, fun q => absurd q h1, fun _ => rfl, hb⟩
theorem put_step (v : Value) (h : HeapD) (vn : Value) (n : NodeD) (w : World) (a : HeapAt w.heap.size w v h) (an : NodeAt w.heap.size w vn n) (hfit : fitN n) (hz : n.kids.length + n.vols.length ≤ 1048576) :
    Calls Tryz.prog 14 #[v, vn] w fun e w' => ∃ r kd x, e = .returned (.tuple #[r, kd, .int .i64 x]) ∧ StepPost h (putH h n) w r w' := (hput_calls v h vn n w a an hfit hz).mono (by
  rintro e w' ⟨⟨r, ⟨hr, rfl, ho⟩ | ⟨hno, rfl, ho⟩⟩, hb⟩
  · exact ⟨r, _, _, rfl, step_post (fun q => putH_right q an.wf) (.inl ⟨hr, ho⟩) hb⟩
  · exact ⟨r, _, _, rfl, step_post (fun q => putH_right q an.wf) (.inr ⟨hno, ho⟩) hb⟩)
theorem hold_step (v : Value) (h : HeapD) (k : Nat) (w : World) (a : HeapAt w.heap.size w v h) : Calls Tryz.prog 22 #[v, .int .u32 (k : Int)] w fun e w' => ∃ r x, e = .returned (.tuple #[r, .int .i64 x]) ∧ StepPost h (holdH h k) w r w' := (hold_calls v h k w a).mono (by
  rintro e w' ⟨⟨r, ⟨hr, rfl, ho⟩ | ⟨hno, rfl, ho⟩⟩, hb⟩
  · exact ⟨r, _, rfl, step_post (fun q => holdH_right q) (.inl ⟨hr, ho⟩) hb⟩
  · exact ⟨r, _, rfl, step_post (fun q => holdH_right q) (.inr ⟨hno, ho⟩) hb⟩)
theorem drop_step (v : Value) (h : HeapD) (k : Nat) (w : World) (a : HeapAt w.heap.size w v h) : Calls Tryz.prog 24 #[v, .int .u32 (k : Int)] w fun e w' => ∃ r x, e = .returned (.tuple #[r, .int .i64 x]) ∧ StepPost h (dropH h k) w r w' := (drop_calls v h k w a).mono (by
  rintro e w' ⟨⟨r, ⟨hr, rfl, ho⟩ | ⟨hno, rfl, ho⟩⟩, hb⟩
  · exact ⟨r, _, rfl, step_post (fun q => dropH_right q) (.inl ⟨hr, ho⟩) hb⟩
  · exact ⟨r, _, rfl, step_post (fun q => dropH_right q) (.inr ⟨hno, ho⟩) hb⟩)
theorem sweep_step (v : Value) (h : HeapD) (w : World) (a : HeapAt w.heap.size w v h) : Calls Tryz.prog 35 #[v] w fun e w' => ∃ r x, e = .returned (.tuple #[r, .int .i64 x]) ∧ StepPost h (sweepH h) w r w' := (sweep_calls v h w a).mono (by
  rintro e w' ⟨⟨r, ⟨hr, rfl, ho⟩ | ⟨hno, rfl, ho⟩⟩, hb⟩
  · exact ⟨r, _, rfl, step_post (fun q => sweepH_right q) (.inl ⟨hr, ho⟩) hb⟩
  · exact ⟨r, _, rfl, step_post (fun q => sweepH_right q) (.inr ⟨hno, ho⟩) hb⟩)

set_option maxRecDepth 100000 in
set_option maxHeartbeats 6400000 in
theorem done_calls (v : Value) (h : HeapD) (s : StepM) (w : World) (a : HeapAt w.heap.size w v h) (an : NodeAt w.heap.size w (.agg s.nv.toArray) s.node) (hfit : fitN s.node) (hbulk : s.node.kids.length + s.node.vols.length ≤ 1048576) :
    Calls Tryz.prog 37 #[v, .agg s.cells.toArray] w fun e w' => ∃ r, e = .returned r ∧ StepPost h (stepH h s) w r w' := by
  obtain ⟨p, cap, rfl⟩ := a.shape
  obtain ⟨kind, n, nv, num⟩ := s
  obtain ⟨q1, d1, q2, d2, q3, d3, hnv⟩ := an.shapeN
  injection hnv with hnv
  have hnv : nv = [.int .u8 (n.kind : Int), .slice q1 n.items.length d1, .slice q2 n.kids.length d2, .slice q3 n.vols.length d3] := by simpa using hnv
  subst hnv
  simp only [] at an hfit hbulk
  have hcells : (StepM.cells ⟨kind, n, [.int .u8 (n.kind : Int), .slice q1 n.items.length d1, .slice q2 n.kids.length d2, .slice q3 n.vols.length d3], num⟩).toArray = #[.int .u8 (kind : Int), .int .u8 (n.kind : Int), .slice q1 n.items.length d1, .slice q2 n.kids.length d2, .slice q3 n.vols.length d3, .int .u32 (num : Int)] := rfl
  rw [hcells]
  obtain ⟨W0, hW0⟩ : ∃ W0, W0 = w.alloc (.cells #[.int .u32 (h.size : Int), .slice p h.cells.length cap] 35) := ⟨_, rfl⟩
  obtain ⟨W1, hW1⟩ : ∃ W1, W1 = W0.alloc (.cells #[.int .u8 (kind : Int), .int .u8 (n.kind : Int), .slice q1 n.items.length d1, .slice q2 n.kids.length d2, .slice q3 n.vols.length d3, .int .u32 (num : Int)] 67) := ⟨_, rfl⟩
  obtain ⟨W2, hW2⟩ : ∃ W2, W2 = W1.alloc (.cells #[.int .u32 0, .slice none 0 0] 35) := ⟨_, rfl⟩
  have E2 := (((Env.start (hs := [(.agg #[.int .u32 (h.size : Int), .slice p h.cells.length cap], h)]) (ns := [(.agg #[.int .u8 (n.kind : Int), .slice q1 n.items.length d1, .slice q2 n.kids.length d2, .slice q3 n.vols.length d3], n)]) (by simpa using a) (by simpa using an)).alloc hW0).alloc hW1).alloc hW2
  have hszH : ∀ x y : Value, (Tryz.prog.info? 35).map (·.size) = some (#[x, y] : Array Value).size := fun x y => by kernel_rfl
  have hsz := hszH (.int .u32 (h.size : Int)) (.slice p h.cells.length cap)
  have hsn : (Tryz.prog.info? 28).map (·.size) = some ([.int .u8 (n.kind : Int), .slice q1 n.items.length d1, .slice q2 n.kids.length d2, .slice q3 n.vols.length d3] : List Value).length := by kernel_rfl
  have hx := E2.rowAt 2 rfl
  have hy := E2.rowAt 1 rfl
  have cy0 : W2.cell? ⟨W0.heap.size, 0, none⟩ = some (.int .u8 (kind : Int)) := by rw [hy.cell]; rfl
  have cy5 : W2.cell? ⟨W0.heap.size, 5, none⟩ = some (.int .u32 (num : Int)) := by rw [hy.cell]; rfl
  have hyn : W2.rangeAt W0.heap.size 1 [.int .u8 (n.kind : Int), .slice q1 n.items.length d1, .slice q2 n.kids.length d2, .slice q3 n.vols.length d3] := fun j u hj => by
    rw [hy.cell]
    have hj4 : j < 4 := (List.getElem?_eq_some_iff.1 hj).1
    rcases j with _ | _ | _ | _ | j
    all_goals first | exact hj | omega
  have HSZ := Lib.hid hszH
  have HW0 := Lib.hid hW0
  have HW1 := Lib.hid hW1
  have HW2 := Lib.hid hW2
  have HE2 := Lib.hid E2
  clear hW0 hW1 hW2 a an E2 hszH hcells hy
  generalize hXg : w.heap.size = X at *
  generalize hYg : W0.heap.size = Y at *
  generalize hRg : W1.heap.size = R at *
  have hm4 : kind % 4 = 0 ∨ kind % 4 = 1 ∨ kind % 4 = 2 ∨ kind % 4 = 3 := by omega
  have hint : (kind : Int).tmod 4 = ((kind % 4 : Nat) : Int) := by rw [Int.tmod_eq_emod_of_nonneg (by omega)]; omega
  rcases hm4 with hm | hm | hm | hm
  · have hst : stepH h ⟨kind, n, [.int .u8 (n.kind : Int), .slice q1 n.items.length d1, .slice q2 n.kids.length d2, .slice q3 n.vols.length d3], num⟩ = putH h n := by simp [stepH, hm]
    rw [hm] at hint
    rw [hst]
    have hcall := put_step _ h _ n W2 (HE2.out.heap 0 rfl) (HE2.out.node 0 rfl) hfit hbulk
    have HM := Lib.hid hint
    clear hst hm
    have hint2 := HM.out
    go_enter Tryz.func37, Tryz.ntmps37
    go_wp2_with (first | (refine wpList_world HW0.out ?_) | (refine wpList_world HW1.out ?_) | (refine wpList_world HW2.out ?_) | (refine wpList_load_row rfl 35 _ rfl X rfl 35 #[.int .u32 (h.size : Int), .slice p h.cells.length cap] (0, 0) _ hx Tryz.underlying35 rfl hsz ?_) | (refine wpList_load_mid rfl 28 _ rfl Y 1 rfl [.int .u8 (n.kind : Int), .slice q1 n.items.length d1, .slice q2 n.kids.length d2, .slice q3 n.vols.length d3] _ hyn Tryz.underlying28 rfl hsn ?_))
    refine hcall.mono ?_
    rintro e w3 ⟨r, kd, x, rfl, p3, c3, g, rfl, hat, hy1, hy2, hq⟩
    have E3 := (HE2.out.call hq).addH hat
    obtain ⟨W4, hW4⟩ : ∃ W4, W4 = w3.setCells X 0 [.int .u32 (g.size : Int), .slice p3 g.cells.length c3] := ⟨_, rfl⟩
    obtain ⟨W5, hW5⟩ : ∃ W5, W5 = W4.setCells R 0 [.int .u32 (g.size : Int), .slice p3 g.cells.length c3] := ⟨_, rfl⟩
    have E4 := E3.storeAny (D := #[.int .u32 (g.size : Int), .slice p3 g.cells.length c3]) 2 rfl rfl (no_text2 _ _ _ _) hW4
    have E5 := E4.storeAny (D := #[.int .u32 (g.size : Int), .slice p3 g.cells.length c3]) 0 rfl rfl (no_text2 _ _ _ _) hW5
    have hthX : w3.there X 0 2 := (E3.rowAt 2 rfl).there 0 2 (by simp)
    have hthR : W4.there R 0 2 := (E4.rowAt 0 rfl).there 0 2 (by simp)
    have hone := oneH (g.size : Int) p3 g.cells.length c3
    have hszg := HSZ.out (.int .u32 (g.size : Int)) (.slice p3 g.cells.length c3)
    have hx4 := E4.rowAt 2 rfl
    have hR5 := E5.rowAt 0 rfl
    have HW4 := Lib.hid hW4
    have HW5 := Lib.hid hW5
    have HF := Lib.hid (And.intro hR5 (And.intro (E5.heap 0 rfl) (And.intro hy1 (And.intro hy2 E5.below))))
    clear hcall hat hq E3 E4 E5 hW4 hW5 hy1 hy2 hR5 HE2 hx hyn cy0 cy5 HM hint hint2 HW0 HW1 HW2
    go_wp2_with (first | (refine wpList_store_mid rfl 35 _ _ rfl X 0 #[.int .u32 (g.size : Int), .slice p3 g.cells.length c3] rfl rfl hthX hszg hone ?_; refine wpList_world HW4.out ?_) | (refine wpList_load_row rfl 35 _ rfl X rfl 35 #[.int .u32 (g.size : Int), .slice p3 g.cells.length c3] (0, 0) _ hx4 Tryz.underlying35 rfl hszg ?_) | (refine wpList_store_mid rfl 35 _ _ rfl R 0 #[.int .u32 (g.size : Int), .slice p3 g.cells.length c3] rfl rfl hthR hszg hone ?_; refine wpList_world HW5.out ?_))
    refine bodyPost_ret (v := .agg #[.int .u32 (g.size : Int), .slice p3 g.cells.length c3]) (results_cell_row (p := 4) (ty := 35) (by rfl) _ _ R 35 #[.int .u32 (g.size : Int), .slice p3 g.cells.length c3] (0, 0) _ (by rfl) HF.out.1 Tryz.underlying35 (by rfl) hszg) (by rfl) ?_
    refine ⟨_, rfl, p3, c3, g, rfl, HF.out.2.1, HF.out.2.2.1, HF.out.2.2.2.1, ?_⟩
    rw [hXg]
    exact HF.out.2.2.2.2
  · have hst : stepH h ⟨kind, n, [.int .u8 (n.kind : Int), .slice q1 n.items.length d1, .slice q2 n.kids.length d2, .slice q3 n.vols.length d3], num⟩ = holdH h num := by simp [stepH, hm]
    rw [hm] at hint
    rw [hst]
    have hcall := hold_step _ h num W2 (HE2.out.heap 0 rfl)
    have HM := Lib.hid hint
    clear hst hm
    have hint2 := HM.out
    go_enter Tryz.func37, Tryz.ntmps37
    go_wp2_with (first | (refine wpList_world HW0.out ?_) | (refine wpList_world HW1.out ?_) | (refine wpList_world HW2.out ?_) | (refine wpList_load_row rfl 35 _ rfl X rfl 35 #[.int .u32 (h.size : Int), .slice p h.cells.length cap] (0, 0) _ hx Tryz.underlying35 rfl hsz ?_))
    refine hcall.mono ?_
    rintro e w3 ⟨r, x, rfl, p3, c3, g, rfl, hat, hy1, hy2, hq⟩
    have E3 := (HE2.out.call hq).addH hat
    obtain ⟨W4, hW4⟩ : ∃ W4, W4 = w3.setCells X 0 [.int .u32 (g.size : Int), .slice p3 g.cells.length c3] := ⟨_, rfl⟩
    obtain ⟨W5, hW5⟩ : ∃ W5, W5 = W4.setCells R 0 [.int .u32 (g.size : Int), .slice p3 g.cells.length c3] := ⟨_, rfl⟩
    have E4 := E3.storeAny (D := #[.int .u32 (g.size : Int), .slice p3 g.cells.length c3]) 2 rfl rfl (no_text2 _ _ _ _) hW4
    have E5 := E4.storeAny (D := #[.int .u32 (g.size : Int), .slice p3 g.cells.length c3]) 0 rfl rfl (no_text2 _ _ _ _) hW5
    have hthX : w3.there X 0 2 := (E3.rowAt 2 rfl).there 0 2 (by simp)
    have hthR : W4.there R 0 2 := (E4.rowAt 0 rfl).there 0 2 (by simp)
    have hone := oneH (g.size : Int) p3 g.cells.length c3
    have hszg := HSZ.out (.int .u32 (g.size : Int)) (.slice p3 g.cells.length c3)
    have hx4 := E4.rowAt 2 rfl
    have hR5 := E5.rowAt 0 rfl
    have HW4 := Lib.hid hW4
    have HW5 := Lib.hid hW5
    have HF := Lib.hid (And.intro hR5 (And.intro (E5.heap 0 rfl) (And.intro hy1 (And.intro hy2 E5.below))))
    clear hcall hat hq E3 E4 E5 hW4 hW5 hy1 hy2 hR5 HE2 hx hyn cy0 cy5 HM hint hint2 HW0 HW1 HW2
    go_wp2_with (first | (refine wpList_store_mid rfl 35 _ _ rfl X 0 #[.int .u32 (g.size : Int), .slice p3 g.cells.length c3] rfl rfl hthX hszg hone ?_; refine wpList_world HW4.out ?_) | (refine wpList_load_row rfl 35 _ rfl X rfl 35 #[.int .u32 (g.size : Int), .slice p3 g.cells.length c3] (0, 0) _ hx4 Tryz.underlying35 rfl hszg ?_) | (refine wpList_store_mid rfl 35 _ _ rfl R 0 #[.int .u32 (g.size : Int), .slice p3 g.cells.length c3] rfl rfl hthR hszg hone ?_; refine wpList_world HW5.out ?_))
    refine bodyPost_ret (v := .agg #[.int .u32 (g.size : Int), .slice p3 g.cells.length c3]) (results_cell_row (p := 4) (ty := 35) (by rfl) _ _ R 35 #[.int .u32 (g.size : Int), .slice p3 g.cells.length c3] (0, 0) _ (by rfl) HF.out.1 Tryz.underlying35 (by rfl) hszg) (by rfl) ?_
    refine ⟨_, rfl, p3, c3, g, rfl, HF.out.2.1, HF.out.2.2.1, HF.out.2.2.2.1, ?_⟩
    rw [hXg]
    exact HF.out.2.2.2.2
  · have hst : stepH h ⟨kind, n, [.int .u8 (n.kind : Int), .slice q1 n.items.length d1, .slice q2 n.kids.length d2, .slice q3 n.vols.length d3], num⟩ = dropH h num := by simp [stepH, hm]
    rw [hm] at hint
    rw [hst]
    have hcall := drop_step _ h num W2 (HE2.out.heap 0 rfl)
    have HM := Lib.hid hint
    clear hst hm
    have hint2 := HM.out
    go_enter Tryz.func37, Tryz.ntmps37
    go_wp2_with (first | (refine wpList_world HW0.out ?_) | (refine wpList_world HW1.out ?_) | (refine wpList_world HW2.out ?_) | (refine wpList_load_row rfl 35 _ rfl X rfl 35 #[.int .u32 (h.size : Int), .slice p h.cells.length cap] (0, 0) _ hx Tryz.underlying35 rfl hsz ?_))
    refine hcall.mono ?_
    rintro e w3 ⟨r, x, rfl, p3, c3, g, rfl, hat, hy1, hy2, hq⟩
    have E3 := (HE2.out.call hq).addH hat
    obtain ⟨W4, hW4⟩ : ∃ W4, W4 = w3.setCells X 0 [.int .u32 (g.size : Int), .slice p3 g.cells.length c3] := ⟨_, rfl⟩
    obtain ⟨W5, hW5⟩ : ∃ W5, W5 = W4.setCells R 0 [.int .u32 (g.size : Int), .slice p3 g.cells.length c3] := ⟨_, rfl⟩
    have E4 := E3.storeAny (D := #[.int .u32 (g.size : Int), .slice p3 g.cells.length c3]) 2 rfl rfl (no_text2 _ _ _ _) hW4
    have E5 := E4.storeAny (D := #[.int .u32 (g.size : Int), .slice p3 g.cells.length c3]) 0 rfl rfl (no_text2 _ _ _ _) hW5
    have hthX : w3.there X 0 2 := (E3.rowAt 2 rfl).there 0 2 (by simp)
    have hthR : W4.there R 0 2 := (E4.rowAt 0 rfl).there 0 2 (by simp)
    have hone := oneH (g.size : Int) p3 g.cells.length c3
    have hszg := HSZ.out (.int .u32 (g.size : Int)) (.slice p3 g.cells.length c3)
    have hx4 := E4.rowAt 2 rfl
    have hR5 := E5.rowAt 0 rfl
    have HW4 := Lib.hid hW4
    have HW5 := Lib.hid hW5
    have HF := Lib.hid (And.intro hR5 (And.intro (E5.heap 0 rfl) (And.intro hy1 (And.intro hy2 E5.below))))
    clear hcall hat hq E3 E4 E5 hW4 hW5 hy1 hy2 hR5 HE2 hx hyn cy0 cy5 HM hint hint2 HW0 HW1 HW2
    go_wp2_with (first | (refine wpList_store_mid rfl 35 _ _ rfl X 0 #[.int .u32 (g.size : Int), .slice p3 g.cells.length c3] rfl rfl hthX hszg hone ?_; refine wpList_world HW4.out ?_) | (refine wpList_load_row rfl 35 _ rfl X rfl 35 #[.int .u32 (g.size : Int), .slice p3 g.cells.length c3] (0, 0) _ hx4 Tryz.underlying35 rfl hszg ?_) | (refine wpList_store_mid rfl 35 _ _ rfl R 0 #[.int .u32 (g.size : Int), .slice p3 g.cells.length c3] rfl rfl hthR hszg hone ?_; refine wpList_world HW5.out ?_))
    refine bodyPost_ret (v := .agg #[.int .u32 (g.size : Int), .slice p3 g.cells.length c3]) (results_cell_row (p := 4) (ty := 35) (by rfl) _ _ R 35 #[.int .u32 (g.size : Int), .slice p3 g.cells.length c3] (0, 0) _ (by rfl) HF.out.1 Tryz.underlying35 (by rfl) hszg) (by rfl) ?_
    refine ⟨_, rfl, p3, c3, g, rfl, HF.out.2.1, HF.out.2.2.1, HF.out.2.2.2.1, ?_⟩
    rw [hXg]
    exact HF.out.2.2.2.2
  · have hst : stepH h ⟨kind, n, [.int .u8 (n.kind : Int), .slice q1 n.items.length d1, .slice q2 n.kids.length d2, .slice q3 n.vols.length d3], num⟩ = sweepH h := by simp [stepH, hm]
    rw [hm] at hint
    rw [hst]
    have hcall := sweep_step _ h W2 (HE2.out.heap 0 rfl)
    have HM := Lib.hid hint
    clear hst hm
    have hint2 := HM.out
    go_enter Tryz.func37, Tryz.ntmps37
    go_wp2_with (first | (refine wpList_world HW0.out ?_) | (refine wpList_world HW1.out ?_) | (refine wpList_world HW2.out ?_) | (refine wpList_load_row rfl 35 _ rfl X rfl 35 #[.int .u32 (h.size : Int), .slice p h.cells.length cap] (0, 0) _ hx Tryz.underlying35 rfl hsz ?_))
    refine hcall.mono ?_
    rintro e w3 ⟨r, x, rfl, p3, c3, g, rfl, hat, hy1, hy2, hq⟩
    have E3 := (HE2.out.call hq).addH hat
    obtain ⟨W4, hW4⟩ : ∃ W4, W4 = w3.setCells X 0 [.int .u32 (g.size : Int), .slice p3 g.cells.length c3] := ⟨_, rfl⟩
    obtain ⟨W5, hW5⟩ : ∃ W5, W5 = W4.setCells R 0 [.int .u32 (g.size : Int), .slice p3 g.cells.length c3] := ⟨_, rfl⟩
    have E4 := E3.storeAny (D := #[.int .u32 (g.size : Int), .slice p3 g.cells.length c3]) 2 rfl rfl (no_text2 _ _ _ _) hW4
    have E5 := E4.storeAny (D := #[.int .u32 (g.size : Int), .slice p3 g.cells.length c3]) 0 rfl rfl (no_text2 _ _ _ _) hW5
    have hthX : w3.there X 0 2 := (E3.rowAt 2 rfl).there 0 2 (by simp)
    have hthR : W4.there R 0 2 := (E4.rowAt 0 rfl).there 0 2 (by simp)
    have hone := oneH (g.size : Int) p3 g.cells.length c3
    have hszg := HSZ.out (.int .u32 (g.size : Int)) (.slice p3 g.cells.length c3)
    have hx4 := E4.rowAt 2 rfl
    have hR5 := E5.rowAt 0 rfl
    have HW4 := Lib.hid hW4
    have HW5 := Lib.hid hW5
    have HF := Lib.hid (And.intro hR5 (And.intro (E5.heap 0 rfl) (And.intro hy1 (And.intro hy2 E5.below))))
    clear hcall hat hq E3 E4 E5 hW4 hW5 hy1 hy2 hR5 HE2 hx hyn cy0 cy5 HM hint hint2 HW0 HW1 HW2
    go_wp2_with (first | (refine wpList_store_mid rfl 35 _ _ rfl X 0 #[.int .u32 (g.size : Int), .slice p3 g.cells.length c3] rfl rfl hthX hszg hone ?_; refine wpList_world HW4.out ?_) | (refine wpList_load_row rfl 35 _ rfl X rfl 35 #[.int .u32 (g.size : Int), .slice p3 g.cells.length c3] (0, 0) _ hx4 Tryz.underlying35 rfl hszg ?_) | (refine wpList_store_mid rfl 35 _ _ rfl R 0 #[.int .u32 (g.size : Int), .slice p3 g.cells.length c3] rfl rfl hthR hszg hone ?_; refine wpList_world HW5.out ?_))
    refine bodyPost_ret (v := .agg #[.int .u32 (g.size : Int), .slice p3 g.cells.length c3]) (results_cell_row (p := 4) (ty := 35) (by rfl) _ _ R 35 #[.int .u32 (g.size : Int), .slice p3 g.cells.length c3] (0, 0) _ (by rfl) HF.out.1 Tryz.underlying35 (by rfl) hszg) (by rfl) ?_
    refine ⟨_, rfl, p3, c3, g, rfl, HF.out.2.1, HF.out.2.2.1, HF.out.2.2.2.1, ?_⟩
    rw [hXg]
    exact HF.out.2.2.2.2

end Go.Proofs.YtimkklaidodkdaaGreatDoor
