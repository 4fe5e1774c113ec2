/- cambiumref06.Get, Held, Free: walked. -/
import Derived.Test.YtimkklaidodkdaaGreatDoorRef6c
namespace Go.Proofs.YtimkklaidodkdaaGreatDoor
open Go.RowKit

set_option maxRecDepth 100000 in
set_option maxHeartbeats 6400000 in
theorem free06_calls (v : Value) (h : HeapD) (w : World) (a : HeapAt w.heap.size w v h) :
  Calls Tryz.prog 27 #[v] w fun e w' => ((RightH h ∧ e = .returned (.tuple #[.int .i64 ((h.size : Int) - 2 - (h.cells.length : Int)), .int .i64 0])) ∨ (¬ RightH h ∧ e = .returned (.tuple #[.int .i64 0, .int .i64 7]))) ∧ Below w.heap.size w w' := by
 have hck := fun W (hW : HeapAt W.heap.size W v h) => check06_calls v h W hW
 have haw := a
 obtain ⟨p, cap, rfl⟩ := a.shape
 obtain ⟨size, cells⟩ := h
 obtain ⟨hz, hnums, hmany, sl, hv, hs⟩ := a
 simp only [] at hz hnums hmany hv hs
 have hsl : Value.slice p cells.length cap = sl := by
  injection hv with hv
  have := congrArg (fun a => a[1]?) hv
  simpa using this
 subst hsl
 clear hv
 have HSL := Lib.hid hs
 obtain ⟨pa, capa, hpa, hn0, hr0⟩ := hs
 injection hpa with hpa1 hpa2 hpa3
 subst hpa1
 clear hpa2 hpa3
 have HR0 := Lib.hid hr0
 have HDS := Lib.hid (show ∀ c ∈ cells, c.data.size ≤ 140737488351232 from fun c hc => (hnums c hc).2)
 have HAW := Lib.hid haw
 clear hr0 hnums haw
 obtain ⟨W0, hW0⟩ : ∃ W, W = w.alloc (.cells #[.int .u32 (size : Int), .slice p cells.length cap] 35) := ⟨_, rfl⟩
 have hH0 : RowIs W0 w.heap.size 35 #[.int .u32 (size : Int), .slice p cells.length cap] := by rw [hW0]; exact RowIs.new w _ _
 have hb0 : Below w.heap.size w W0 := by rw [hW0]; exact (Below.refl _ _).alloc (Nat.le_refl _) _
 have hszH : (Tryz.prog.info? 35).map (·.size) = some (#[.int .u32 (size : Int), .slice p cells.length cap] : Array Value).size := by kernel_rfl
 have hcall := hck W0 ((HAW.out.below hb0 (Nat.le_refl _)).mono hb0.size)
 have HW0 := Lib.hid hW0
 have HB0 := Lib.hid (And.intro hb0 hH0)
 clear hW0 hb0 hck HAW HR0 HDS HSL
 show Calls Tryz.prog 27 #[.agg #[.int .u32 (size : Int), .slice p cells.length cap]] w _
 go_enter Tryz.func27, Tryz.ntmps27
 go_wp2_with (first | (refine wpList_world HW0.out ?_) | (refine wpList_load_row rfl 35 _ rfl w.heap.size rfl 35 #[.int .u32 (size : Int), .slice p cells.length cap] (0, 0) _ hH0 Tryz.underlying35 rfl hszH ?_))
 refine hcall.mono ?_
 rintro e w1 ⟨⟨hR, rfl⟩ | ⟨hR, rfl⟩, hq⟩
 ·have hb1 := HB0.out.1.trans (hq.mono HB0.out.1.size)
  have hH1 := HB0.out.2.below hq HB0.out.2.lt
  have f0 : w1.cell? ⟨w.heap.size, 0, none⟩ = some (.int .u32 (size : Int)) := by rw [hH1.cell]; rfl
  have f1 : w1.cell? ⟨w.heap.size, 1, none⟩ = some (.slice p cells.length cap) := by rw [hH1.cell]; rfl
  have hln := (right_okH hR).len
  simp only [] at hln
  have hw1 : IntKind.i64.wrap (size : Int) = (size : Int) := by rw [IntKind.wrap_i64]; omega
  have hw2 : IntKind.i64.wrap ((size : Int) - 2) = (size : Int) - 2 := by rw [IntKind.wrap_i64]; omega
  have hw3 : IntKind.i64.wrap ((size : Int) - 2 - (cells.length : Int)) = (size : Int) - 2 - (cells.length : Int) := by rw [IntKind.wrap_i64]; omega
  have HR := Lib.hid hR
  clear hR hcall hH0 hq hH1
  go_wp2_with fail
  go_ret2
  exact ⟨.inl ⟨HR.out, rfl⟩, hb1⟩
 ·have hb1 := HB0.out.1.trans (hq.mono HB0.out.1.size)
  have HR := Lib.hid hR
  clear hR hcall hH0 hq
  go_wp2_with fail
  go_ret2
  exact ⟨.inr ⟨HR.out, rfl⟩, hb1⟩

set_option maxRecDepth 100000 in
set_option maxHeartbeats 6400000 in
theorem held06_calls (v : Value) (h : HeapD) (k : Nat) (w : World) (a : HeapAt w.heap.size w v h) :
  Calls Tryz.prog 26 #[v, .int .u32 (k : Int)] w fun e w' => ((RightH h ∧ ((∃ c, findC h.cells k = some c ∧ e = .returned (.tuple #[.int .i64 (heldC h c), .int .i64 0])) ∨ (findC h.cells k = none ∧ e = .returned (.tuple #[.int .i64 0, .int .i64 5])))) ∨
   (¬ RightH h ∧ e = .returned (.tuple #[.int .i64 0, .int .i64 7]))) ∧ Below w.heap.size w w' := by
 have hck := fun W (hW : HeapAt W.heap.size W v h) => check06_calls v h W hW
 have haw := a
 obtain ⟨p, cap, rfl⟩ := a.shape
 obtain ⟨size, cells⟩ := h
 obtain ⟨hz, hnums, hmany, sl, hv, hs⟩ := a
 simp only [] at hz hnums hmany hv hs
 have hsl : Value.slice p cells.length cap = sl := by
  injection hv with hv
  have := congrArg (fun a => a[1]?) hv
  simpa using this
 subst hsl
 clear hv
 have HSL := Lib.hid hs
 obtain ⟨pa, capa, hpa, hn0, hr0⟩ := hs
 injection hpa with hpa1 hpa2 hpa3
 subst hpa1
 clear hpa2 hpa3
 have HR0 := Lib.hid hr0
 have HDS := Lib.hid (show ∀ c ∈ cells, c.data.size ≤ 140737488351232 from fun c hc => (hnums c hc).2)
 have HAW := Lib.hid haw
 clear hr0 hnums haw
 obtain ⟨W0, hW0⟩ : ∃ W, W = w.alloc (.cells #[.int .u32 (size : Int), .slice p cells.length cap] 35) := ⟨_, rfl⟩
 have hH0 : RowIs W0 w.heap.size 35 #[.int .u32 (size : Int), .slice p cells.length cap] := by rw [hW0]; exact RowIs.new w _ _
 have hb0 : Below w.heap.size w W0 := by rw [hW0]; exact (Below.refl _ _).alloc (Nat.le_refl _) _
 have hszH : (Tryz.prog.info? 35).map (·.size) = some (#[.int .u32 (size : Int), .slice p cells.length cap] : Array Value).size := by kernel_rfl
 have hcall := hck W0 ((HAW.out.below hb0 (Nat.le_refl _)).mono hb0.size)
 have hfd := fun W (hb : Below w.heap.size w W) => find06_calls w.heap.size (.slice p cells.length cap) cells k W (HSL.out.below hb (Nat.le_refl _)) hb.size
 have HW0 := Lib.hid hW0
 have HFD := Lib.hid hfd
 have HB0 := Lib.hid (And.intro hb0 hH0)
 clear hW0 hb0 hck HAW hfd
 show Calls Tryz.prog 26 #[.agg #[.int .u32 (size : Int), .slice p cells.length cap], .int .u32 (k : Int)] w _
 go_enter Tryz.func26, Tryz.ntmps26
 go_wp2_with (first | (refine wpList_world HW0.out ?_) | (refine wpList_load_row rfl 35 _ rfl w.heap.size rfl 35 #[.int .u32 (size : Int), .slice p cells.length cap] (0, 0) _ hH0 Tryz.underlying35 rfl hszH ?_))
 refine hcall.mono ?_
 rintro e w1 ⟨⟨hR, rfl⟩ | ⟨hR, rfl⟩, hq⟩
 ·have hb1 := HB0.out.1.trans (hq.mono HB0.out.1.size)
  have hH1 := HB0.out.2.below hq HB0.out.2.lt
  have f1 : w1.cell? ⟨w.heap.size, 1, none⟩ = some (.slice p cells.length cap) := by rw [hH1.cell]; rfl
  have hln := (right_okH hR).len
  simp only [] at hln
  have hcall2 := HFD.out w1 hb1
  have HR := Lib.hid hR
  have HB1 := Lib.hid (And.intro hb1 hH1)
  clear hR hcall hH0 hq hH1 hb1
  go_wp2_with fail
  refine hcall2.mono ?_
  rintro e w2 ⟨rfl, hq⟩
  have hb2 := HB1.out.1.trans (hq.mono HB1.out.1.size)
  have hH2 := HB1.out.2.below hq HB1.out.2.lt
  clear hcall2 hq f1 HB1
  cases hf : findC cells k with
  | none =>
   have hneg := idx_find.1.2 hf
   have HF := Lib.hid hf
   clear hf hH2
   generalize idxI cells k = ix at *
   go_wp2_with fail
   go_ret2
   exact ⟨.inl ⟨HR.out, .inr ⟨HF.out, rfl⟩⟩, hb2⟩
  | some c =>
   obtain ⟨i, hi, hix, hci⟩ := idx_find.2 c hf
   have hmem := (find_mem hf).1
   rw [hix]
   have hnn : ¬ (i : Int) < 0 := by omega
   have hnn0 : (0 : Int) ≤ (i : Int) := by omega
   have hbnd : (i : Int) < (cells.length : Int) := by omega
   obtain ⟨b2, o2, hap, hb2B, hcl⟩ := HR0.out (by omega)
   subst hap
   have hdata : ∀ W, Below w.heap.size w W → W.cell? ⟨b2, o2 + i * 3 + 2, none⟩ = some (.int .i64 c.refs) := fun W hW => by
    have := rangeAt_below (hcl i hi) hW (by omega)
    rw [List.getElem?_eq_getElem hi, hci] at this
    exact this 2 _ rfl
   have hle : (ledC cells c.num : Int) ≤ c.refs := HR.out.led c hmem
   have hmo : c.refs ≤ 16777216 := HR.out.most c hmem
   have hlc := fun W (hW : Below w.heap.size w W) => led06_calls w.heap.size (.slice (some ⟨b2, o2, none⟩) cells.length cap) cells W (HSL.out.below hW (Nat.le_refl _)) hW.size HDS.out HR.out.asc hln
   have hget : (ledRow cells (cells.flatMap CellD.kids))[i]? = some (.int .i64 (ledC cells c.num : Int)) := by rw [ledRow_get cells _ i hi, hci]; rfl
   generalize ledRow cells (cells.flatMap CellD.kids) = LR at *
   have HHC := Lib.hid (show heldC ⟨size, cells⟩ c = c.refs - (ledC cells c.num : Int) from rfl)
   have hlv0 : (0 : Int) ≤ (ledC cells c.num : Int) := Int.natCast_nonneg _
   generalize (ledC cells c.num : Int) = lv at *
   generalize hrf : c.refs = rf at *
   have hw1 : IntKind.i64.wrap (rf - lv) = rf - lv := by rw [IntKind.wrap_i64]; omega
   have HHC2 := Lib.hid (show heldC ⟨size, cells⟩ c = rf - lv by rw [HHC.out])
   have HF := Lib.hid hf
   have HDT := Lib.hid hdata
   clear hf hix hci hcl hdata hrf HHC HSL HDS HFD HR0 hn0 hmany hz
   go_wp2_with fail
   have hGc : RowIs w2.drew w.heap.size 35 #[.int .u32 (size : Int), .slice (some ⟨b2, o2, none⟩) cells.length cap] ∧ Below w.heap.size w w2.drew := ⟨hH2.drew, Below.drew hb2⟩
   clear hH2 hb2
   refine wp_region_held_drew (S := fun w' => RowIs w' w.heap.size 35 #[.int .u32 (size : Int), .slice (some ⟨b2, o2, none⟩) cells.length cap] ∧ Below w.heap.size w w') (by kernel_rfl) hGc (fun hHeld => ?_)
   generalize w2.drew = wv at *
   refine take_N (i := 0) (v := ?_) (some 16) #[true, false, false, false, false, false, false, false, false, false, false, false, false, false, false] rfl rfl (by kernel_rfl) (by kernel_rfl) (by kernel_rfl) (by kernel_rfl) (fun _ _ _ h => h) hGc (Or.inl ⟨by rfl, ?_⟩) ?_
   rotate_left
   ·intro w_ hSw_; go_simp; try with_reducible rfl
   try simp only [Act.put, List.setIfInBounds_toArray, List.set_cons_zero, List.set_cons_succ]
   refine take_N (i := 1) (v := .slice (some ⟨b2, o2, none⟩) cells.length cap) (some 17) #[true, true, false, false, false, false, false, false, false, false, false, false, false, false, false] rfl rfl (by kernel_rfl) (by kernel_rfl) (by kernel_rfl) (by kernel_rfl) (fun _ _ _ h => h) hGc (Or.inl ⟨by rfl, ?_⟩) ?_
   ·intro w_ hSw_; exact (by have hcc : w_.cell? ⟨w.heap.size, 1, none⟩ = some (.slice (some ⟨b2, o2, none⟩) cells.length cap) := (by rw [RowIs.cell hSw_.1]; rfl); go_simp)
   try simp only [Act.put, List.setIfInBounds_toArray, List.set_cons_zero, List.set_cons_succ]
   refine take_N (i := 2) (v := ?_) (some 18) #[true, true, true, false, false, false, false, false, false, false, false, false, false, false, false] rfl rfl (by kernel_rfl) (by kernel_rfl) (by kernel_rfl) (by kernel_rfl) (fun _ _ _ h => h) hGc (Or.inl ⟨by rfl, ?_⟩) ?_
   rotate_left
   ·intro w_ hSw_; go_simp; try with_reducible rfl
   try simp only [Act.put, List.setIfInBounds_toArray, List.set_cons_zero, List.set_cons_succ]
   refine take_N (i := 3) (v := ?_) (some 19) #[true, true, true, true, false, false, false, false, false, false, false, false, false, false, false] rfl rfl (by kernel_rfl) (by kernel_rfl) (by kernel_rfl) (by kernel_rfl) (fun _ _ _ h => h) hGc (Or.inl ⟨by rfl, ?_⟩) ?_
   rotate_left
   ·intro w_ hSw_; go_simp; try with_reducible rfl
   try simp only [Act.put, List.setIfInBounds_toArray, List.set_cons_zero, List.set_cons_succ]
   refine take_N (i := 4) (v := ?_) (some 20) #[true, true, true, true, true, false, false, false, false, false, false, false, false, false, false] rfl rfl (by kernel_rfl) (by kernel_rfl) (by kernel_rfl) (by kernel_rfl) (fun _ _ _ h => h) hGc (Or.inl ⟨by rfl, ?_⟩) ?_
   rotate_left
   ·intro w_ hSw_; go_simp; try with_reducible rfl
   try simp only [Act.put, List.setIfInBounds_toArray, List.set_cons_zero, List.set_cons_succ]
   refine take_N (i := 5) (v := .int .i64 rf) (some 21) #[true, true, true, true, true, true, false, false, false, false, false, false, false, false, false] rfl rfl (by kernel_rfl) (by kernel_rfl) (by kernel_rfl) (by kernel_rfl) (fun _ _ _ h => h) hGc (Or.inl ⟨by rfl, ?_⟩) ?_
   ·intro w_ hSw_; exact (by have hcc := HDT.out _ hSw_.2; go_simp)
   try simp only [Act.put, List.setIfInBounds_toArray, List.set_cons_zero, List.set_cons_succ]
   refine take_N (i := 6) (v := ?_) (some 22) #[true, true, true, true, true, true, true, false, false, false, false, false, false, false, false] rfl rfl (by kernel_rfl) (by kernel_rfl) (by kernel_rfl) (by kernel_rfl) (fun _ _ _ h => h) hGc (Or.inl ⟨by rfl, ?_⟩) ?_
   rotate_left
   ·intro w_ hSw_; go_simp; try with_reducible rfl
   try simp only [Act.put, List.setIfInBounds_toArray, List.set_cons_zero, List.set_cons_succ]
   refine take_N (i := 7) (v := .slice (some ⟨b2, o2, none⟩) cells.length cap) (some 23) #[true, true, true, true, true, true, true, true, false, false, false, false, false, false, false] rfl rfl (by kernel_rfl) (by kernel_rfl) (by kernel_rfl) (by kernel_rfl) (fun _ _ _ h => h) hGc (Or.inl ⟨by rfl, ?_⟩) ?_
   ·intro w_ hSw_; exact (by have hcc : w_.cell? ⟨w.heap.size, 1, none⟩ = some (.slice (some ⟨b2, o2, none⟩) cells.length cap) := (by rw [RowIs.cell hSw_.1]; rfl); go_simp)
   try simp only [Act.put, List.setIfInBounds_toArray, List.set_cons_zero, List.set_cons_succ]
   refine take_N (i := 9) (v := ?_) (some 25) #[true, true, true, true, true, true, true, true, false, true, false, false, false, false, false] rfl rfl (by kernel_rfl) (by kernel_rfl) (by kernel_rfl) (by kernel_rfl) (fun _ _ _ h => h) hGc (Or.inl ⟨by rfl, ?_⟩) ?_
   rotate_left
   ·intro w_ hSw_; go_simp; try with_reducible rfl
   try simp only [Act.put, List.setIfInBounds_toArray, List.set_cons_zero, List.set_cons_succ]
   refine step_N (i := 8) #[true, true, true, true, true, true, true, true, true, true, false, false, false, false, false] rfl (by kernel_rfl) (by kernel_rfl) (fun K hK => ?_)
   rw [if_pos (by rfl)]
   go_simp
   have hLX := hGc.2.size
   refine (hlc _ hGc.2).mono ?_
   rintro e wb ⟨rfl, hL, hq⟩
   have hG2 : RowIs wb w.heap.size 35 #[.int .u32 (size : Int), .slice (some ⟨b2, o2, none⟩) cells.length cap] ∧ Below w.heap.size w wb := ⟨hGc.1.below hq hGc.1.lt, hGc.2.trans (hq.mono hLX)⟩
   have hcc : wb.cell? ⟨wv.heap.size, i, none⟩ = some (.int .i64 lv) := by rw [hL.cell]; exact hget
   clear hGc hq hL
   have hGc := hG2
   clear hG2
   refine hK.out _ _ hGc ?_
   clear hK K
   refine take_N (i := 10) (v := ?_) (some 26) #[true, true, true, true, true, true, true, true, true, true, true, false, false, false, false] rfl rfl (by kernel_rfl) (by kernel_rfl) (by kernel_rfl) (by kernel_rfl) (fun _ _ _ h => h) hGc (Or.inl ⟨by rfl, ?_⟩) ?_
   rotate_left
   ·intro w_ hSw_; go_simp; try with_reducible rfl
   try simp only [Act.put, List.setIfInBounds_toArray, List.set_cons_zero, List.set_cons_succ]
   refine step_N (i := 11) #[true, true, true, true, true, true, true, true, true, true, true, true, false, false, false] rfl (by kernel_rfl) (by kernel_rfl) (fun K hK => ?_)
   go_simp
   refine hK.out _ _ hGc ?_
   clear hK K
   try simp only [Act.put, List.setIfInBounds_toArray, List.set_cons_zero, List.set_cons_succ]
   refine take_N (i := 12) (v := ?_) (some 28) #[true, true, true, true, true, true, true, true, true, true, true, true, true, false, false] rfl rfl (by kernel_rfl) (by kernel_rfl) (by kernel_rfl) (by kernel_rfl) (fun _ _ _ h => h) hGc (Or.inl ⟨by rfl, ?_⟩) ?_
   rotate_left
   ·intro w_ hSw_; go_simp; try with_reducible rfl
   try simp only [Act.put, List.setIfInBounds_toArray, List.set_cons_zero, List.set_cons_succ]
   refine take_N (i := 13) (v := ?_) (some 4) #[true, true, true, true, true, true, true, true, true, true, true, true, true, true, false] rfl rfl (by kernel_rfl) (by kernel_rfl) (by kernel_rfl) (by kernel_rfl) (fun _ _ _ h => h) hGc (Or.inl ⟨by rfl, ?_⟩) ?_
   rotate_left
   ·intro w_ hSw_; go_simp; try with_reducible rfl
   try simp only [Act.put, List.setIfInBounds_toArray, List.set_cons_zero, List.set_cons_succ]
   refine take_N (i := 14) (v := ?_) (some 5) #[true, true, true, true, true, true, true, true, true, true, true, true, true, true, true] rfl rfl (by kernel_rfl) (by kernel_rfl) (by kernel_rfl) (by kernel_rfl) (fun _ _ _ h => h) hGc (Or.inl ⟨by rfl, ?_⟩) ?_
   rotate_left
   ·intro w_ hSw_; go_simp; try with_reducible rfl
   try simp only [Act.put, List.setIfInBounds_toArray, List.set_cons_zero, List.set_cons_succ]
   refine wpAnyH_done (by kernel_rfl) ?_ _
   clear hHeld hlc
   go_wp2_with fail
   go_ret2
   exact ⟨.inl ⟨HR.out, .inl ⟨c, HF.out, by rw [HHC2.out]; rfl⟩⟩, hGc.2⟩
 ·have hb1 := HB0.out.1.trans (hq.mono HB0.out.1.size)
  have HR := Lib.hid hR
  clear hR hcall hH0 hq
  go_wp2_with fail
  go_ret2
  exact ⟨.inr ⟨HR.out, rfl⟩, hb1⟩

set_option maxRecDepth 100000 in
set_option maxHeartbeats 6400000 in
theorem get06_calls (v : Value) (h : HeapD) (k : Nat) (w : World) (a : HeapAt w.heap.size w v h) :
  Calls Tryz.prog 25 #[v, .int .u32 (k : Int)] w fun e w' => (∃ r, (RightH h ∧ ((∃ c, findC h.cells k = some c ∧ e = .returned (.tuple #[r, .int .i64 0]) ∧ NodeAt w'.heap.size w' r c.node) ∨ (findC h.cells k = none ∧ r = .agg zeroNd ∧ e = .returned (.tuple #[r, .int .i64 5])))) ∨ (¬ RightH h ∧ r = .agg zeroNd ∧ e = .returned (.tuple #[r, .int .i64 7]))) ∧ Below w.heap.size w w' := by
 have hck := fun W (hW : HeapAt W.heap.size W v h) => check06_calls v h W hW
 have haw := a
 obtain ⟨p, cap, rfl⟩ := a.shape
 obtain ⟨size, cells⟩ := h
 obtain ⟨hz, hnums, hmany, sl, hv, hs⟩ := a
 simp only [] at hz hnums hmany hv hs
 have hsl : Value.slice p cells.length cap = sl := by
  injection hv with hv
  have := congrArg (fun a => a[1]?) hv
  simpa using this
 subst hsl
 clear hv
 have HSL := Lib.hid hs
 obtain ⟨pa, capa, hpa, hn0, hr0⟩ := hs
 injection hpa with hpa1 hpa2 hpa3
 subst hpa1
 clear hpa2 hpa3
 have HR0 := Lib.hid hr0
 have HDS := Lib.hid (show ∀ c ∈ cells, c.data.size ≤ 140737488351232 from fun c hc => (hnums c hc).2)
 have HAW := Lib.hid haw
 clear hr0 hnums haw
 obtain ⟨W0, hW0⟩ : ∃ W, W = w.alloc (.cells #[.int .u32 (size : Int), .slice p cells.length cap] 35) := ⟨_, rfl⟩
 have hH0 : RowIs W0 w.heap.size 35 #[.int .u32 (size : Int), .slice p cells.length cap] := by rw [hW0]; exact RowIs.new w _ _
 have hb0 : Below w.heap.size w W0 := by rw [hW0]; exact (Below.refl _ _).alloc (Nat.le_refl _) _
 have hszH : (Tryz.prog.info? 35).map (·.size) = some (#[.int .u32 (size : Int), .slice p cells.length cap] : Array Value).size := by kernel_rfl
 obtain ⟨W1, hW1⟩ : ∃ W, W = W0.alloc (.cells #[.int .u8 0, .slice none 0 0, .slice none 0 0, .slice none 0 0] 28) := ⟨_, rfl⟩
 have hs1 : W0.heap.size = w.heap.size + 1 := by rw [hW0]; exact Array.size_push _
 have hH1 : RowIs W1 w.heap.size 35 #[.int .u32 (size : Int), .slice p cells.length cap] := by rw [hW1]; exact RowIs.alloc hH0 _
 have hP1 : RowIs W1 (w.heap.size + 1) 28 #[.int .u8 0, .slice none 0 0, .slice none 0 0, .slice none 0 0] := by rw [hW1, ← hs1]; exact RowIs.new W0 _ _
 have hb1 : Below w.heap.size w W1 := by rw [hW1]; exact hb0.alloc hb0.size _
 have hszN : (Tryz.prog.info? 28).map (·.size) = some (#[.int .u8 0, .slice none 0 0, .slice none 0 0, .slice none 0 0] : Array Value).size := by kernel_rfl
 have honN : (#[.int .u8 0, .slice none 0 0, .slice none 0 0, .slice none 0 0] : Array Value).all (·.oneCell') = true := by simp [Value.oneCell']
 have HW1 := Lib.hid hW1
 clear hW1
 have hcall := hck W1 ((HAW.out.below hb1 (Nat.le_refl _)).mono hb1.size)
 have hfd := fun W (hb : Below w.heap.size w W) => find06_calls w.heap.size (.slice p cells.length cap) cells k W (HSL.out.below hb (Nat.le_refl _)) hb.size
 have HW0 := Lib.hid hW0
 have HFD := Lib.hid hfd
 have HB0 := Lib.hid (And.intro hb1 (And.intro hH1 hP1))
 clear hW0 hb0 hck HAW hfd hb1 hP1 hH0
 show Calls Tryz.prog 25 #[.agg #[.int .u32 (size : Int), .slice p cells.length cap], .int .u32 (k : Int)] w _
 go_enter Tryz.func25, Tryz.ntmps25
 go_wp2_with (first | (refine wpList_world HW0.out ?_) | (refine wpList_world HW1.out ?_) | (refine wpList_load_row rfl 35 _ rfl w.heap.size rfl 35 #[.int .u32 (size : Int), .slice p cells.length cap] (0, 0) _ hH1 Tryz.underlying35 rfl hszH ?_))
 refine hcall.mono ?_
 rintro e w1 ⟨⟨hR, rfl⟩ | ⟨hR, rfl⟩, hq⟩
 ·have hb2 := HB0.out.1.trans (hq.mono HB0.out.1.size)
  have hH2 := HB0.out.2.1.below hq HB0.out.2.1.lt
  have hP2 := HB0.out.2.2.below hq HB0.out.2.2.lt
  have f1 : w1.cell? ⟨w.heap.size, 1, none⟩ = some (.slice p cells.length cap) := by rw [hH2.cell]; rfl
  have hcall2 := HFD.out w1 hb2
  have HR := Lib.hid hR
  have HB1 := Lib.hid (And.intro hb2 (And.intro hH2 hP2))
  clear hR hcall hH1 hq hH2 hb2 hP2
  go_wp2_with fail
  refine hcall2.mono ?_
  rintro e w2 ⟨rfl, hq⟩
  have hb3 := HB1.out.1.trans (hq.mono HB1.out.1.size)
  have hH3 := HB1.out.2.1.below hq HB1.out.2.1.lt
  have hP3 := HB1.out.2.2.below hq HB1.out.2.2.lt
  clear hcall2 hq f1 HB1
  cases hf : findC cells k with
  | none =>
   have hneg := idx_find.1.2 hf
   have HF := Lib.hid hf
   have hth := hP3.there 0 4 (Nat.le_refl 4)
   have hst := store_row hP3 (D := #[.int .u8 0, .slice none 0 0, .slice none 0 0, .slice none 0 0]) rfl
   have hbz := setCells_below (w.heap.size + 1) w.heap.size (by omega) (#[.int .u8 0, .slice none 0 0, .slice none 0 0, .slice none 0 0] : Array Value).toList 0 _ _ hb3
   have HZ := Lib.hid (And.intro hst hbz)
   clear hf hH3 hst hbz hb3 hP3
   generalize idxI cells k = ix at *
   go_wp2_with (refine wpList_store_mid rfl 28 _ _ rfl (w.heap.size + 1) 0 #[.int .u8 0, .slice none 0 0, .slice none 0 0, .slice none 0 0] rfl rfl hth hszN honN ?_)
   refine bodyPost_ret (v := .tuple #[.agg #[.int .u8 0, .slice none 0 0, .slice none 0 0, .slice none 0 0], .int .i64 5]) (results_cell_tmp (p := 4) (q := 5) (ty := 28) (by rfl) _ _ (w.heap.size + 1) 28 #[.int .u8 0, .slice none 0 0, .slice none 0 0, .slice none 0 0] (0, 0) _ (by rfl) HZ.out.1 Tryz.underlying28 (by rfl) hszN) (by rfl) ?_
   exact ⟨⟨_, .inl ⟨HR.out, .inr ⟨HF.out, rfl, rfl⟩⟩⟩, HZ.out.2⟩
  | some c =>
   obtain ⟨i, hi, hix, hci⟩ := idx_find.2 c hf
   have hmem := (find_mem hf).1
   have hcsz := HDS.out c hmem
   rw [hix]
   have hnn : ¬ (i : Int) < 0 := by omega
   have hnn0 : (0 : Int) ≤ (i : Int) := by omega
   have hbnd : (i : Int) < (cells.length : Int) := by omega
   obtain ⟨b2, o2, hap, hb2B, hcl⟩ := HR0.out (by omega)
   subst hap
   have hcr : w2.rangeAt b2 (o2 + i * 3) (cellV c) := by
    have := rangeAt_below (hcl i hi) hb3 (by omega)
    rw [List.getElem?_eq_getElem hi, hci] at this
    exact this
   have f1 : w2.cell? ⟨w.heap.size, 1, none⟩ = some (.slice (some ⟨b2, o2, none⟩) cells.length cap) := by rw [hH3.cell]; rfl
   have hksz : (Tryz.prog.info? 57).map (·.size) = some (cellV c).length := by kernel_rfl
   have hcall := node06_calls c w2 hcsz
   have HF := Lib.hid hf
   have HB3 := Lib.hid (And.intro hb3 hP3)
   clear hf hix hci hcl HSL HDS HFD HR0 hn0 hmany hz hb3 hH3 hP3 hcsz
   obtain ⟨CV, hCV⟩ : ∃ C, C = cellV c := ⟨_, rfl⟩
   rw [← hCV] at hcr hksz hcall
   clear hCV
   go_wp2_with (refine wpList_load_mid rfl 57 _ rfl b2 (o2 + i * 3) rfl CV _ hcr Tryz.underlying57 rfl hksz ?_)
   refine hcall.mono ?_
   rintro e w4 ⟨v, rfl, ho, hq⟩
   have hb4 := HB3.out.1.trans (hq.mono HB3.out.1.size)
   have hP4 := HB3.out.2.below hq HB3.out.2.lt
   obtain ⟨hwf, vi, vk, vv, rfl, oi, ok, ov⟩ := id ho
   obtain ⟨p1, q1, rfl⟩ := own_shape oi
   obtain ⟨p2, q2, rfl⟩ := own_shape ok
   obtain ⟨p3, q3, rfl⟩ := own_shape ov
   obtain ⟨D, hD⟩ : ∃ D : Array Value, D = #[.int .u8 (c.node.kind : Int), .slice p1 c.node.items.length q1, .slice p2 c.node.kids.length q2, .slice p3 c.node.vols.length q3] := ⟨_, rfl⟩
   rw [← hD] at ho
   rw [← hD]
   have hDs : D.size = 4 := by rw [hD]; rfl
   have honD : D.all (·.oneCell') = true := by rw [hD]; simp [Value.oneCell']
   have hszD : (Tryz.prog.info? 28).map (·.size) = some D.size := by rw [hDs]; kernel_rfl
   have hth := hP4.there 0 D.size (by rw [hDs]; exact Nat.le_refl _)
   have hst := store_row hP4 (D := D) (by rw [hDs]; rfl)
   have hbz := setCells_below (w.heap.size + 1) w.heap.size (by omega) D.toList 0 _ _ hb4
   have hoz := (ho.store hP4 D.toList 0).node
   have HZ := Lib.hid (And.intro hst (And.intro hbz hoz))
   clear hD hDs ho oi ok ov hwf hst hbz hoz hb4 hP4 hq hcall hcr f1
   go_wp2_with (refine wpList_store_mid rfl 28 _ _ rfl (w.heap.size + 1) 0 D rfl rfl hth hszD honD ?_)
   refine bodyPost_ret (v := .tuple #[.agg D, .int .i64 0]) (results_cell_tmp (p := 4) (q := 5) (ty := 28) (by rfl) _ _ (w.heap.size + 1) 28 D (0, 0) _ (by rfl) HZ.out.1 Tryz.underlying28 (by rfl) hszD) (by rfl) ?_
   exact ⟨⟨_, .inl ⟨HR.out, .inl ⟨c, HF.out, rfl, HZ.out.2.2⟩⟩⟩, HZ.out.2.1⟩
 ·have hb2 := HB0.out.1.trans (hq.mono HB0.out.1.size)
  have hP2 := HB0.out.2.2.below hq HB0.out.2.2.lt
  have HR := Lib.hid hR
  have hth := hP2.there 0 4 (Nat.le_refl 4)
  have hst := store_row hP2 (D := #[.int .u8 0, .slice none 0 0, .slice none 0 0, .slice none 0 0]) rfl
  have hbz := setCells_below (w.heap.size + 1) w.heap.size (by omega) (#[.int .u8 0, .slice none 0 0, .slice none 0 0, .slice none 0 0] : Array Value).toList 0 _ _ hb2
  have HZ := Lib.hid (And.intro hst hbz)
  clear hR hcall hH1 hq hst hbz hb2 hP2
  go_wp2_with (refine wpList_store_mid rfl 28 _ _ rfl (w.heap.size + 1) 0 #[.int .u8 0, .slice none 0 0, .slice none 0 0, .slice none 0 0] rfl rfl hth hszN honN ?_)
  refine bodyPost_ret (v := .tuple #[.agg #[.int .u8 0, .slice none 0 0, .slice none 0 0, .slice none 0 0], .int .i64 7]) (results_cell_tmp (p := 4) (q := 5) (ty := 28) (by rfl) _ _ (w.heap.size + 1) 28 #[.int .u8 0, .slice none 0 0, .slice none 0 0, .slice none 0 0] (0, 0) _ (by rfl) HZ.out.1 Tryz.underlying28 (by rfl) hszN) (by rfl) ?_
  exact ⟨⟨_, .inr ⟨HR.out, rfl, rfl⟩⟩, HZ.out.2⟩

end Go.Proofs.YtimkklaidodkdaaGreatDoor
