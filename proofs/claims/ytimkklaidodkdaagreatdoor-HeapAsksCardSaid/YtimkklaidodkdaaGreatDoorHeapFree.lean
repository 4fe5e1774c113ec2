/- store.heap: a heap as plain data: walked. -/
/- heap.Check, Free, Held: walked. -/
/- heap.Hold: walked. -/
/- heap.Get: walked. -/
/- heap.count: walked. -/
/- store.free: walked. -/
import Derived.Test.YtimkklaidodkdaaGreatDoorHeapOpen
namespace Go.Proofs.YtimkklaidodkdaaGreatDoor
open Go.RowKit

theorem info_cell : (Tryz.prog.info? 57).map (fun i => (i.zero, i.size, i.bytes)) = some (some (.agg #[.int .u32 0, .string ⟨#[]⟩, .int .i64 0]), 3, 32) := by kernel_rfl
theorem built_heap (n : Int) : Tryz.prog.built 35 [(0, .int .u32 n)] = some #[.int .u32 n, .slice none 0 0] := by kernel_rfl
theorem rangeAt_drewR {w : World} {b o : Nat} {cs : List Value} (h : w.rangeAt b o cs) : w.drew.rangeAt b o cs := h

set_option maxRecDepth 100000 in
set_option maxHeartbeats 6400000 in
theorem heap_calls (B S size : Nat) (vs : Value) (L : List CellM) (w : World) (h : StoreAt B w S size vs L) (hl : L.length ≤ 65536) :
  Calls Tryz.prog 47 #[.pointer (some ⟨S, 0, none⟩)] w fun e w' => ∃ v, e = .returned (.agg #[.int .u32 (size : Int), v]) ∧ w'.ownsRow w.heap.size 57 3 v L.length ((L.map CellM.d).flatMap cellV) ∧ Below w.heap.size w w' := by
 obtain ⟨iC0, hC, hCz0, hCz1, hCz2⟩ := info_parts info_cell
 obtain ⟨ask, hS, ho⟩ := h.row
 obtain ⟨pp, cp, rfl⟩ := own_shape ho
 obtain ⟨p', cap', hpe, hpc⟩ := own_ptrs ho
 injection hpe with hpe hle1 hle2
 clear hle1 hle2
 subst hpe
 have hcl := h.cells
 have hlen : (L.map CellM.d).length = L.length := List.length_map _
 obtain ⟨W0, hW0⟩ : ∃ W0, W0 = w.alloc (.cells #[.int .u32 0, .slice none 0 0] 35) := ⟨_, rfl⟩
 obtain ⟨W1, hW1⟩ : ∃ W1, W1 = W0.alloc (.cells #[.int .u32 (size : Int), .slice none 0 0] 35) := ⟨_, rfl⟩
 have hA0 : RowIs W0 w.heap.size 35 #[.int .u32 0, .slice none 0 0] := by rw [hW0]; exact RowIs.new w _ _
 have hA1 : RowIs W1 w.heap.size 35 #[.int .u32 0, .slice none 0 0] := by rw [hW1]; exact hA0.alloc _
 have hH1 : RowIs W1 W0.heap.size 35 #[.int .u32 (size : Int), .slice none 0 0] := by rw [hW1]; exact RowIs.new W0 _ _
 have hb0 : Below w.heap.size w W0 := by rw [hW0]; exact (Below.refl _ _).alloc (Nat.le_refl _) _
 have hb1 : Below w.heap.size w W1 := by rw [hW1]; exact hb0.alloc hb0.size _
 have cs0 : W0.cell? ⟨S, 0, none⟩ = some (.int .u32 (size : Int)) := by rw [(hS.below hb0 hS.lt).cell]; rfl
 have cs1 : W1.cell? ⟨S, 1, none⟩ = some (.slice pp L.length cp) := by rw [(hS.below hb1 hS.lt).cell]; rfl
 have hAH : w.heap.size ≠ W0.heap.size := Nat.ne_of_lt hA0.lt
 have hCH : w.heap.size ≤ W0.heap.size := Nat.le_of_lt hA0.lt
 have HW0 := Lib.hid hW0
 have HW1 := Lib.hid hW1
 have HBH := Lib.hid (built_heap (size : Int))
 have HI := Lib.hid (And.intro hA1 (And.intro hH1 hb1))
 have hszH : ∀ x y : Value, (Tryz.prog.info? 35).map (·.size) = some (#[x, y] : Array Value).size := fun x y => by kernel_rfl
 clear hW0 hW1 hA0 hA1 hH1 hb0 hb1 hS ho h
 generalize hcc : L.map CellM.d = cells at *
 have HCC := Lib.hid hcc
 clear hcc
 generalize hCg : w.heap.size = C at *
 generalize hHg : W0.heap.size = H at *
 have HPC := Lib.hid hpc
 clear hpc
 generalize hn : L.length = n at hl hlen cs1 ⊢
 go_enter Tryz.func47, Tryz.ntmps47
 go_wp2_with (first | (refine wpList_world HW0.out ?_) | (refine wpList_build_eqH rfl 35 [(0, .tmp 9)] rfl #[.int .u32 (size : Int), .slice none 0 0] (by exact HBH.out) ?_) | (refine wpList_world HW1.out ?_))
 go_loopw [16] (fun x wx => ∃ t : Nat, ∃ vv, t ≤ n ∧ x = .int .i64 t ∧ RowIs wx C 35 #[.int .u32 0, .slice none 0 0] ∧ RowIs wx H 35 #[.int .u32 (size : Int), vv] ∧ wx.ownsRow C 57 3 vv t ((cells.take t).flatMap cellV) ∧ Below C w wx) (fun x _ => n - (intOf x).toNat)
 case atStart => exact ⟨0, .slice none 0 0, by omega, rfl, HI.out.1, HI.out.2.1, ⟨by simp, .inl ⟨rfl, rfl⟩⟩, HI.out.2.2⟩
 case round =>
  obtain ⟨t, vv, ht, rfl, hA, hH, hown, hb⟩ := hrel
  have hbz : C ≤ wr.heap.size := by have := hb.size; omega
  by_cases hlt' : t < n
  ·have i1 : (t : Int) < (n : Int) := by omega
   have htL : t < L.length := by omega
   have hlt : t < cells.length := by omega
   obtain ⟨R, hpR, hcp⟩ := HPC.out t htL
   subst hpR
   have hca := hcl _ (List.getElem_mem htL)
   have hRlt : R < C := by rw [← hCg]; exact World.block_lt_of_cell? w _ hcp
   have hcr : wr.cell? ⟨R, t, none⟩ = some (.pointer (some ⟨L[t].ptr, 0, none⟩)) := (World.cell?_of_block (hb.block R hRlt)).trans hcp
   have hct : cells[t] = L[t].d := by
    have : (L.map CellM.d)[t]'(by simpa using htL) = L[t].d := List.getElem_map _
    rw [← this]; simp only [HCC.out]
   have hPC : L[t].ptr < C := by rw [← hCg]; exact hca.row.lt
   have hcell : wr.rangeAt L[t].ptr 0 (cellV L[t].d) := fun j u hj => by
    have hjl := (List.getElem?_eq_some_iff.1 hj).1
    rw [World.cell?_of_block (hb.block L[t].ptr hPC), hca.row.cell, List.getElem?_toArray, CellM.row, Nat.zero_add, List.getElem?_append_left (by simpa [cellV] using hjl)]
    exact hj
   have hCRl : (cellV L[t].d).length = 3 := rfl
   have hone : ∀ u ∈ cellV L[t].d, u.oneCell' = true := fun u hu => by
    simp only [cellV, List.mem_cons, List.not_mem_nil, or_false] at hu
    rcases hu with rfl | rfl | rfl <;> rfl
   have hCsz : (Tryz.prog.info? 57).map (·.size) = some (cellV L[t].d).length := by kernel_rfl
   have HCR := Lib.hid (show cellV cells[t] = cellV L[t].d by rw [hct])
   have hPlt : L[t].ptr < wr.heap.size := by omega
   have hPr6 : ∀ (W : World), W.rangeAt L[t].ptr 0 (cellV L[t].d) → Below C w W → ∃ o, W.heap[L[t].ptr]? = some o := fun W _ hB => ⟨_, (hB.block _ hPC).trans hca.row⟩
   clear hca hct hcp
   generalize L[t].ptr = P at *
   generalize hCR : cellV L[t].d = CR at *
   clear hCR
   go_wp2_with fail
   refine wp_region_gate 9 (S := fun w' => RowIs w' H 35 #[.int .u32 (size : Int), vv] ∧ w'.rangeAt P 0 CR) (by kernel_rfl) ⟨hH.drew, rangeAt_drewR hcell⟩ (fun hS0 => ?_)
   replace hA := hA.drew
   replace hH := hH.drew
   replace hcell := rangeAt_drewR hcell
   replace hown := ownsRow_below hown ((Below.refl _ wr).drew)
   replace hb := hb.drew
   have hCs : C ≤ wr.drew.heap.size := hbz
   have hPl : P < wr.drew.heap.size := hPlt
   generalize wr.drew = wu at *
   refine takep_G (i := 0) (v := ?_) (some 20) #[true, false, false, false, false, false, false, false, false, false] rfl rfl (by kernel_rfl) (by kernel_rfl) (by kernel_rfl) (by kernel_rfl) (fun _ _ _ h => h) (by kernel_rfl) hS0 (Or.inl ⟨by rfl, ?_⟩) ?_
   rotate_left
   ·intro w_ hSw_; go_simp; try with_reducible rfl
   try simp only [Act.put, List.setIfInBounds_toArray, List.set_cons_zero, List.set_cons_succ]
   refine take_B (i := 1) (v := vv) [7, 9] (some 21) #[true, true, false, false, false, false, false, false, false, false] rfl rfl (by kernel_rfl) (by kernel_rfl) (by kernel_rfl) (by kernel_rfl) (by kernel_rfl) (fun _ _ _ h => h) (by kernel_rfl) hS0 (Or.inl ⟨by rfl, ?_⟩) ?_
   ·intro w_ hSw_; exact (by have hcc : w_.cell? ⟨H, 1, none⟩ = some vv := (by rw [RowIs.cell hSw_.1]; rfl); go_simp)
   try simp only [Act.put, List.setIfInBounds_toArray, List.set_cons_zero, List.set_cons_succ]
   refine takep_G (i := 2) (v := ?_) (some 22) #[true, true, true, false, false, false, false, false, false, false] rfl rfl (by kernel_rfl) (by kernel_rfl) (by kernel_rfl) (by kernel_rfl) (fun _ _ _ h => h) (by kernel_rfl) hS0 (Or.inl ⟨by rfl, ?_⟩) ?_
   rotate_left
   ·intro w_ hSw_; go_simp; try with_reducible rfl
   try simp only [Act.put, List.setIfInBounds_toArray, List.set_cons_zero, List.set_cons_succ]
   refine takep_G (i := 3) (v := ?_) (some 23) #[true, true, true, true, false, false, false, false, false, false] rfl rfl (by kernel_rfl) (by kernel_rfl) (by kernel_rfl) (by kernel_rfl) (fun _ _ _ h => h) (by kernel_rfl) hS0 (Or.inl ⟨by rfl, ?_⟩) ?_
   rotate_left
   ·intro w_ hSw_; go_simp; try with_reducible rfl
   try simp only [Act.put, List.setIfInBounds_toArray, List.set_cons_zero, List.set_cons_succ]
   refine takep_G (i := 4) (v := ?_) (some 24) #[true, true, true, true, true, false, false, false, false, false] rfl rfl (by kernel_rfl) (by kernel_rfl) (by kernel_rfl) (by kernel_rfl) (fun _ _ _ h => h) (by kernel_rfl) hS0 (Or.inl ⟨by rfl, ?_⟩) ?_
   rotate_left
   ·intro w_ hSw_; go_simp; try with_reducible rfl
   try simp only [Act.put, List.setIfInBounds_toArray, List.set_cons_zero, List.set_cons_succ]
   refine take_B (i := 5) (v := (.agg CR.toArray)) [6, 7, 9] (some 25) #[true, true, true, true, true, true, false, false, false, false] rfl rfl (by kernel_rfl) (by kernel_rfl) (by kernel_rfl) (by kernel_rfl) (by kernel_rfl) (fun _ _ _ h => h) (by kernel_rfl) hS0 (Or.inl ⟨by rfl, ?_⟩) ?_
   ·intro w_ hSw_; exact exec_load_mid 57 _ (by rfl) P 0 (by rfl) CR _ hSw_.2 Tryz.underlying57 rfl hCsz
   try simp only [Act.put, List.setIfInBounds_toArray, List.set_cons_zero, List.set_cons_succ]
   refine step_G (i := 6) #[true, true, true, true, true, true, true, false, false, false] rfl (by kernel_rfl) (by kernel_rfl) (fun K hK => ?_)
   rw [if_pos (by rfl)]
   refine wp_buildSlice_one 33 57 _ rfl Tryz.underlying33 iC0 hC _ hCz0 3 hCz1 CR.toArray rfl (by rw [List.size_toArray]; exact hCRl) (by omega) (by omega) ?_
   have hR6 := RowIs.new wu 57 CR.toArray
   have hal6 := (Below.refl _ wu).alloc (Nat.le_refl _) (.cells CR.toArray 57)
   change K _ (wu.alloc (.cells CR.toArray 57))
   generalize hw6 : wu.alloc (.cells CR.toArray 57) = w6 at *
   clear hw6
   have hA6 := hA.below hal6 hA.lt
   have hH6 := hH.below hal6 hH.lt
   have hown6 := ownsRow_below hown hal6
   have hb6 := hb.trans (hal6.mono hCs)
   have hs6 : C ≤ w6.heap.size := Nat.le_trans hCs hal6.size
   have hc6 : w6.rangeAt P 0 CR := rangeAt_below hcell hal6 hPl
   clear hal6 hA hH hown hb hcell
   generalize wu.heap.size = X1 at *
   refine hK.out _ _ ⟨hH6, hc6⟩ ?_
   clear hK K
   try simp only [Act.put, List.setIfInBounds_toArray]
   refine step_G (i := 7) #[true, true, true, true, true, true, true, true, false, false] rfl (by kernel_rfl) (by kernel_rfl) (fun K hK => ?_)
   rw [if_pos (by rfl)]
   refine wp_append_own _ _ _ 33 rfl C 57 iC0 (.agg #[.int .u32 0, .string ⟨#[]⟩, .int .i64 0]) 3 32 Tryz.underlying33 hC hCz0 hCz1 hCz2 rfl (by decide) vv t ((cells.take t).flatMap cellV) rfl hown6 ⟨X1, 0, none⟩ 1 1 CR rfl (by rw [hCRl]) (fun j u hj => by rw [Addr.add_mid, Nat.zero_add, RowIs.cell hR6]; simpa using hj) hone (by unfold maxLen; omega) (by omega) hs6 ?_
   intro v7 w7 ho7 hgr _
   have hot := fun g hg => own_type hown6 (g := g) hg
   have hrow7 : ∀ {b : Nat} {t : TypeId} {D : Array Value}, RowIs w6 b t D → t ≠ 57 → RowIs w7 b t D := fun hr hne => row_grown hr hgr (fun q => by obtain ⟨c, hc⟩ := hot _ q.symm; exact hne (row_type hr hc))
   have hA7 := hrow7 hA6 (by decide)
   have hH7 := hrow7 hH6 (by decide)
   have hb7 : Below C w w7 := hb6.grown hgr hs6 (fun k hk => hown6.lt k hk |>.1)
   have hc7 : w7.rangeAt P 0 CR := fun j u hj => by rw [World.cell?_of_block (hgr.block P ((hPr6 w6 hc6 hb6).elim fun _ h => lt_of_block h) (fun q => by have := (hown6.lt P q.symm).1; omega))]; exact hc6 j u hj
   have hs7 : C ≤ w7.heap.size := Nat.le_trans hs6 hgr.size
   obtain ⟨p7, c7, rfl⟩ := own_shape ho7
   clear hgr hot hA6 hH6 hb6 hown6 hR6 hrow7 hc6
   refine hK.out _ _ ⟨hH7, hc7⟩ ?_
   clear hK K
   try simp only [Act.put]
   refine takep_G (i := 8) (v := ?_) (some 28) #[true, true, true, true, true, true, true, true, true, false] rfl rfl (by kernel_rfl) (by kernel_rfl) (by kernel_rfl) (by kernel_rfl) (fun _ _ _ h => h) (by kernel_rfl) ⟨hH7, hc7⟩ (Or.inl ⟨by rfl, ?_⟩) ?_
   rotate_left
   ·intro w_ hSw_; go_simp; try with_reducible rfl
   try simp only [Act.put]
   refine gate_G (i := 9) #[true, true, true, true, true, true, true, true, true, true] rfl (by kernel_rfl) (by kernel_rfl) (fun K hK => ?_)
   rw [if_pos (by rfl)]
   have hcd : w7.cell? ⟨H, 1, none⟩ = some vv := by rw [hH7.cell]; rfl
   have hfd := hH7.free 1
   go_simp
   have hH8 : RowIs (w7.setCell ⟨H, 1, none⟩ (.slice p7 (t + 1) c7)) H 35 #[.int .u32 (size : Int), .slice p7 (t + 1) c7] := hH7.set 1 _
   have hb8 := (But.refl H w7).setCell 1 (.slice p7 (t + 1) c7)
   have hbb8 : Below C w (w7.setCell ⟨H, 1, none⟩ (.slice p7 (t + 1) c7)) := hb7.setCell (p := ⟨H, 1, none⟩) hCH _
   generalize w7.setCell ⟨H, 1, none⟩ (.slice p7 (t + 1) c7) = w8 at *
   refine hK.out _ _ trivial ?_
   clear hK K
   try simp only [Act.put]
   refine wpAnyH_done (by kernel_rfl) ?_ _
   have hA8 := hA7.but hb8 hAH
   have ho8 := ownsRow_but ho7 hb8 (fun c hc => by have := row_type hH7 hc; revert this; decide)
   have hsn : (cells.take (t + 1)).flatMap cellV = (cells.take t).flatMap cellV ++ CR := by rw [List.take_succ_eq_append_getElem hlt, List.flatMap_append, ← HCR.out]; simp
   rw [← hsn] at ho8
   have HF := Lib.hid (And.intro hA8 (And.intro hH8 (And.intro ho8 hbb8)))
   clear hA7 hA8 hH7 hH8 ho7 ho8 hb7 hb8 hbb8 hc7 hsn
   go_wp2_with fail
   go_roundw
   case rel => exact ⟨t + 1, _, by omega, by go_num, HF.out.1, HF.out.2.1, HF.out.2.2.1, HF.out.2.2.2⟩
   case measure => simp [intOf]; omega
  ·have htn : n = t := by omega
   subst htn
   have hh0 : wr.cell? ⟨H, 0, none⟩ = some (.int .u32 (size : Int)) := by rw [hH.cell]; rfl
   rw [List.take_of_length_le (by omega)] at hown
   obtain ⟨pv, cv, rfl⟩ := own_shape hown
   have hth := hA.there 0 2 (by simp)
   have hst := store_row hA (D := #[.int .u32 (size : Int), .slice pv n cv]) rfl
   have hbs := setCells_below C C (Nat.le_refl _) [.int .u32 (size : Int), .slice pv n cv] 0 _ _ hb
   have hbu := (But.refl C wr).setCells [.int .u32 (size : Int), .slice pv n cv] 0
   have ho9 := ownsRow_but hown hbu (fun c hc => by have := row_type hA hc; revert this; decide)
   have HF := Lib.hid (And.intro hst (And.intro ho9 hbs))
   have hone2 : (#[.int .u32 (size : Int), .slice pv n cv] : Array Value).all (·.oneCell') = true := all_oneCell_toArray (cs := [.int .u32 (size : Int), .slice pv n cv]) fun v hv => by
    simp only [List.mem_cons, List.not_mem_nil, or_false] at hv
    rcases hv with rfl | rfl <;> rfl
   have hsz2 := hszH (.int .u32 (size : Int)) (.slice pv n cv)
   clear hst hbs hbu ho9 hown hb hA
   go_wp2_with (first | (refine wpList_load_row rfl 35 _ rfl H rfl 35 #[.int .u32 (size : Int), .slice pv n cv] (0, 0) _ hH Tryz.underlying35 rfl hsz2 ?_) | (refine wpList_store_mid rfl 35 _ _ rfl C 0 #[.int .u32 (size : Int), .slice pv n cv] rfl rfl hth hsz2 hone2 ?_))
   refine bodyPost_ret (v := .agg #[.int .u32 (size : Int), .slice pv n cv]) (results_cell_row (p := 2) (ty := 35) (by rfl) _ _ C 35 #[.int .u32 (size : Int), .slice pv n cv] (0, 0) _ (by rfl) HF.out.1 Tryz.underlying35 (by rfl) hsz2) (by rfl) ?_
   exact ⟨_, rfl, HF.out.2.1, HF.out.2.2⟩

end Go.Proofs.YtimkklaidodkdaaGreatDoor

namespace Go.Proofs.YtimkklaidodkdaaGreatDoor
open Go.RowKit

theorem HeapAt.mono {B C : Nat} {w : World} {v : Value} {h : HeapD} (a : HeapAt B w v h) (hC : B ≤ C) : HeapAt C w v h := by
 obtain ⟨h1, h2, h3, sl, hv, p, cap, hs, hn, hr⟩ := a
 refine ⟨h1, h2, h3, sl, hv, p, cap, hs, hn, fun h0 => ?_⟩
 obtain ⟨b, o, hp, hb, hc⟩ := hr h0
 exact ⟨b, o, hp, by omega, hc⟩
theorem HeapAt.shape {B : Nat} {w : World} {v : Value} {h : HeapD} (a : HeapAt B w v h) : ∃ p cap, v = .agg #[.int .u32 (h.size : Int), .slice p h.cells.length cap] := by
 obtain ⟨_, _, _, sl, hv, p, cap, hs, _⟩ := a
 exact ⟨p, cap, by rw [hv, hs]⟩
/-- open, called on a heap that lies boxed. -/
theorem openB_calls (p : Option Addr) (cap : Nat) (h : HeapD) (w : World) (a : HeapAt w.heap.size w (.agg #[.int .u32 (h.size : Int), .slice p h.cells.length cap]) h) :
  ∀ W, Below w.heap.size w W → Calls Tryz.prog 45 #[.agg #[.int .u32 (h.size : Int), .slice p h.cells.length cap]] W fun e w' => (¬ RightH h ∧ e = .returned (.tuple #[.pointer none, .int .i64 7]) ∧ Below W.heap.size W w') ∨
   (RightH h ∧ ∃ S vs L, e = .returned (.tuple #[.pointer (some ⟨S, 0, none⟩), .int .i64 0]) ∧ L.map CellM.d = h.cells ∧ (∀ c ∈ L, c.hash = c.d.hash ∧ c.led = (ledC h.cells c.d.num : Int)) ∧ StoreAt W.heap.size w' S h.size vs L ∧ Keep W.heap.size W w') :=
 fun W hb => open_calls _ h W ((a.below hb (Nat.le_refl _)).mono hb.size)
theorem Keep.toBelow {w w' : World} (h : Keep w.heap.size w w') : Below w.heap.size w w' := h.below (Nat.le_refl _)

set_option maxRecDepth 100000 in
set_option maxHeartbeats 1600000 in
theorem check2_calls (v : Value) (h : HeapD) (w : World) (a : HeapAt w.heap.size w v h) :
  Calls Tryz.prog 29 #[v] w fun e w' => ((RightH h ∧ e = .returned (.int .i64 0)) ∨ (¬ RightH h ∧ e = .returned (.int .i64 7))) ∧ Below w.heap.size w w' := by
 obtain ⟨p, cap, rfl⟩ := a.shape
 obtain ⟨W0, hW0⟩ : ∃ W0, W0 = w.alloc (.cells #[.int .u32 (h.size : Int), .slice p h.cells.length cap] 35) := ⟨_, rfl⟩
 have hbx : RowIs W0 w.heap.size 35 #[.int .u32 (h.size : Int), .slice p h.cells.length cap] := by rw [hW0]; exact RowIs.new w _ _
 have hb0 : Below w.heap.size w W0 := by rw [hW0]; exact (Below.refl _ _).alloc (Nat.le_refl _) _
 have hop := openB_calls p cap h w a W0 hb0
 have hsz : (Tryz.prog.info? 35).map (·.size) = some (#[.int .u32 (h.size : Int), .slice p h.cells.length cap] : Array Value).size := by kernel_rfl
 have HW0 := Lib.hid hW0
 clear hW0 a
 go_enter Tryz.func29, Tryz.ntmps29
 go_wp2_with (first | (refine wpList_world HW0.out ?_) | (refine wpList_load_row rfl 35 _ rfl w.heap.size rfl 35 #[.int .u32 (h.size : Int), .slice p h.cells.length cap] (0, 0) _ hbx Tryz.underlying35 rfl hsz ?_))
 refine hop.mono ?_
 rintro e w1 (⟨hno, rfl, hq⟩ | ⟨hr, S, vs, L, rfl, _, _, _, hk⟩)
 ·have HF := Lib.hid (And.intro hno (hb0.trans (hq.mono hb0.size)))
  clear hop hno hq
  go_wp2_with fail
  go_ret
  exact ⟨.inr ⟨HF.out.1, rfl⟩, HF.out.2⟩
 ·have HF := Lib.hid (And.intro hr (hb0.trans (hk.toBelow.mono hb0.size)))
  clear hop hr hk
  go_wp2_with fail
  go_ret
  exact ⟨.inl ⟨HF.out.1, rfl⟩, HF.out.2⟩

set_option maxRecDepth 100000 in
set_option maxHeartbeats 1600000 in
theorem free2_calls (v : Value) (h : HeapD) (w : World) (a : HeapAt w.heap.size w v h) :
  Calls Tryz.prog 20 #[v] w fun e w' => ((RightH h ∧ e = .returned (.tuple #[.int .i64 ((h.size : Int) - 2 - (h.cells.length : Int)), .int .i64 0])) ∨ (¬ RightH h ∧ e = .returned (.tuple #[.int .i64 0, .int .i64 7]))) ∧ Below w.heap.size w w' := by
 obtain ⟨p, cap, rfl⟩ := a.shape
 obtain ⟨W0, hW0⟩ : ∃ W0, W0 = w.alloc (.cells #[.int .u32 (h.size : Int), .slice p h.cells.length cap] 35) := ⟨_, rfl⟩
 have hbx : RowIs W0 w.heap.size 35 #[.int .u32 (h.size : Int), .slice p h.cells.length cap] := by rw [hW0]; exact RowIs.new w _ _
 have hb0 : Below w.heap.size w W0 := by rw [hW0]; exact (Below.refl _ _).alloc (Nat.le_refl _) _
 have hop := openB_calls p cap h w a W0 hb0
 have hsz : (Tryz.prog.info? 35).map (·.size) = some (#[.int .u32 (h.size : Int), .slice p h.cells.length cap] : Array Value).size := by kernel_rfl
 have HW0 := Lib.hid hW0
 clear hW0 a
 go_enter Tryz.func20, Tryz.ntmps20
 go_wp2_with (first | (refine wpList_world HW0.out ?_) | (refine wpList_load_row rfl 35 _ rfl w.heap.size rfl 35 #[.int .u32 (h.size : Int), .slice p h.cells.length cap] (0, 0) _ hbx Tryz.underlying35 rfl hsz ?_))
 refine hop.mono ?_
 rintro e w1 (⟨hno, rfl, hq⟩ | ⟨hr, S, vs, L, rfl, hLd, _, hst, hk⟩)
 ·have HF := Lib.hid (And.intro hno (hb0.trans (hq.mono hb0.size)))
  clear hop hno hq
  go_wp2_with fail
  go_ret2
  exact ⟨.inr ⟨HF.out.1, rfl⟩, HF.out.2⟩
 ·have hlen : L.length = h.cells.length := by rw [← hLd, List.length_map]
  have hcl := hr.okH.len
  have hhi := hr.hi
  have hlo := hr.lo
  have b1 : (16 : Int) ≤ (h.size : Int) := by omega
  have b2 : (h.size : Int) ≤ 65536 := by omega
  obtain ⟨ask, hS, ho⟩ := hst.row
  obtain ⟨pp, cp, rfl⟩ := own_shape ho
  rw [hlen] at hS
  have c0 : w1.cell? ⟨S, 0, none⟩ = some (.int .u32 (h.size : Int)) := by rw [hS.cell]; rfl
  have c1 : w1.cell? ⟨S, 1, none⟩ = some (.slice pp h.cells.length cp) := by rw [hS.cell]; rfl
  have hw1 : IntKind.i64.wrap (h.size : Int) = (h.size : Int) := by rw [IntKind.wrap_i64]; omega
  have HF := Lib.hid (And.intro hr (hb0.trans (hk.toBelow.mono hb0.size)))
  clear hop hr hk hS ho hst hLd hlen
  generalize hsg : (h.size : Int) = sz at *
  generalize hng : h.cells.length = n at *
  have HE := Lib.hid (And.intro hsg hng)
  clear hsg hng
  go_wp2_with fail
  go_quiet (fail)
  go_wp2_with fail
  go_ret2
  exact ⟨.inl ⟨HF.out.1, by rw [HE.out.1, HE.out.2]; rfl⟩, HF.out.2.trans (below_drewH _ w1 nq)⟩

set_option maxRecDepth 100000 in
set_option maxHeartbeats 1600000 in
theorem held_calls (v : Value) (h : HeapD) (k : Nat) (w : World) (a : HeapAt w.heap.size w v h) :
  Calls Tryz.prog 23 #[v, .int .u32 (k : Int)] w fun e w' => ((RightH h ∧ ((∃ c, findC h.cells k = some c ∧ e = .returned (.tuple #[.int .i64 (heldC h c), .int .i64 0])) ∨ (findC h.cells k = none ∧ e = .returned (.tuple #[.int .i64 0, .int .i64 5])))) ∨
   (¬ RightH h ∧ e = .returned (.tuple #[.int .i64 0, .int .i64 7]))) ∧ Below w.heap.size w w' := by
 obtain ⟨p, cap, rfl⟩ := a.shape
 obtain ⟨W0, hW0⟩ : ∃ W0, W0 = w.alloc (.cells #[.int .u32 (h.size : Int), .slice p h.cells.length cap] 35) := ⟨_, rfl⟩
 have hbx : RowIs W0 w.heap.size 35 #[.int .u32 (h.size : Int), .slice p h.cells.length cap] := by rw [hW0]; exact RowIs.new w _ _
 have hb0 : Below w.heap.size w W0 := by rw [hW0]; exact (Below.refl _ _).alloc (Nat.le_refl _) _
 have hop := openB_calls p cap h w a W0 hb0
 have hsz : (Tryz.prog.info? 35).map (·.size) = some (#[.int .u32 (h.size : Int), .slice p h.cells.length cap] : Array Value).size := by kernel_rfl
 have HW0 := Lib.hid hW0
 clear hW0 a
 go_enter Tryz.func23, Tryz.ntmps23
 go_wp2_with (first | (refine wpList_world HW0.out ?_) | (refine wpList_load_row rfl 35 _ rfl w.heap.size rfl 35 #[.int .u32 (h.size : Int), .slice p h.cells.length cap] (0, 0) _ hbx Tryz.underlying35 rfl hsz ?_))
 refine hop.mono ?_
 rintro e w1 (⟨hno, rfl, hq⟩ | ⟨hr, S, vs, L, rfl, hLd, hLa, hst, hk⟩)
 ·have HF := Lib.hid (And.intro hno (hb0.trans (hq.mono hb0.size)))
  clear hop hno hq
  go_wp2_with fail
  go_ret2
  exact ⟨.inr ⟨HF.out.1, rfl⟩, HF.out.2⟩
 ·have hlen : L.length = h.cells.length := by rw [← hLd, List.length_map]
  have hcl := hr.okH.len
  have hat := at_calls W0.heap.size S h.size vs L k w1 hst (by rw [hLd]; exact hr.asc) (by omega)
  have hfm : findC h.cells k = (atM L k).map CellM.d := by rw [← hLd]; exact atM_map L k
  have HI := Lib.hid (And.intro hr (And.intro (hb0.trans (hk.toBelow.mono hb0.size)) (And.intro hLa (And.intro hLd hk.size))))
  have HFM := Lib.hid hfm
  clear hop hr hk hst hLd hLa hlen hfm
  go_wp2_with fail
  refine hat.mono ?_
  rintro e w2 ⟨rfl, hst2, hk2⟩
  have hb2 := HI.out.2.1.trans (hk2.below (show W0.heap.size ≤ w1.heap.size from HI.out.2.2.2.2) |>.mono hb0.size)
  cases hf : atM L k with
  | none =>
   have HF := Lib.hid (And.intro (show findC h.cells k = none by rw [HFM.out, hf]; rfl) hb2)
   clear hat hst2 hk2 hb2
   rw [ptrV]
   go_wp2_with fail
   go_ret2
   exact ⟨.inl ⟨HI.out.1, .inr ⟨HF.out.1, rfl⟩⟩, HF.out.2⟩
  | some c =>
   obtain ⟨hcm, hcn⟩ := atM_mem hf
   have hca := hst2.cells c hcm
   have hcd : c.d ∈ h.cells := by rw [← HI.out.2.2.2.1]; exact List.mem_map_of_mem hcm
   have cr : w2.cell? ⟨c.ptr, 2, none⟩ = some (.int .i64 c.d.refs) := by rw [hca.row.cell]; rfl
   have cl := row_led hca
   rw [(HI.out.2.2.1 c hcm).2] at cl
   have hl := HI.out.1.led _ hcd
   have hm := HI.out.1.most _ hcd
   have hz : (0 : Int) ≤ (ledC h.cells c.d.num : Int) := by omega
   have HF := Lib.hid (And.intro (show findC h.cells k = some c.d by rw [HFM.out, hf]; rfl) hb2)
   have hH : heldC h c.d = c.d.refs - (ledC h.cells c.d.num : Int) := rfl
   have HHH := Lib.hid hH
   have hcp : c.p = .pointer (some ⟨c.ptr, 0, none⟩) := rfl
   rw [ptrV, hcp]
   clear hat hst2 hk2 hb2 hca hcd hcm hcn hH hcp
   generalize c.ptr = P at *
   generalize hrg : c.d.refs = rf at *
   generalize hlg : (ledC h.cells c.d.num : Int) = lg at *
   have HG := Lib.hid (And.intro hrg hlg)
   clear hrg hlg
   go_wp2_with fail
   go_quiet (fail)
   go_wp2_with fail
   go_ret2
   exact ⟨.inl ⟨HI.out.1, .inl ⟨c.d, HF.out.1, by rw [HHH.out]; rfl⟩⟩, HF.out.2.trans (below_drewH _ w2 nq)⟩

end Go.Proofs.YtimkklaidodkdaaGreatDoor

namespace Go.Proofs.YtimkklaidodkdaaGreatDoor
open Go.RowKit

/-- A heap that is handed back: its cells lie in a row of the call's own. -/
def OwnH (B : Nat) (w : World) (v : Value) (h : HeapD) : Prop := ∃ sl, v = .agg #[.int .u32 (h.size : Int), sl] ∧ w.ownsRow B 57 3 sl h.cells.length (h.cells.flatMap cellV)
theorem OwnH.below {B C : Nat} {w w' : World} {v : Value} {h : HeapD} (a : OwnH B w v h) (hb : Below C w w') (hC : w.heap.size ≤ C) : OwnH B w' v h := by
 obtain ⟨sl, hv, ho⟩ := a
 exact ⟨sl, hv, ownsRow_below ho (hb.mono hC)⟩
theorem cellV_len (c : CellD) : (cellV c).length = 3 := rfl
theorem OwnH.at {B : Nat} {w : World} {v : Value} {h : HeapD} (a : OwnH B w v h) (h1 : h.size < 4294967296) (h2 : ∀ c ∈ h.cells, c.num < 4294967296 ∧ c.data.size ≤ 140737488351232) (h3 : h.cells.length ≤ 4398046511104) : HeapAt w.heap.size w v h := by
 obtain ⟨sl, hv, ho⟩ := a
 exact ⟨h1, h2, h3, sl, hv, own_sl ho (fun c _ => cellV_len c)⟩
theorem RightH.nums {h : HeapD} (r : RightH h) : h.size < 4294967296 ∧ (∀ c ∈ h.cells, c.num < 4294967296 ∧ c.data.size ≤ 140737488351232) ∧ h.cells.length ≤ 4398046511104 := by
 have h1 := r.hi
 refine ⟨by omega, fun c hc => ?_, by have := r.okH.len; omega⟩
 have h2 := r.ok c hc
 have h3 := h2.1.1
 rw [CellD.d, Array.length_toList] at h3
 exact ⟨by omega, by show c.data.data.size ≤ _; omega⟩
theorem oneH (n : Int) (p : Option Addr) (m c : Nat) : (#[.int .u32 n, .slice p m c] : Array Value).all (·.oneCell') = true := all_oneCell_toArray (cs := [.int .u32 n, .slice p m c]) fun v hv => by
 simp only [List.mem_cons, List.not_mem_nil, or_false] at hv
 rcases hv with rfl | rfl <;> rfl
theorem inc_set {L : List CellM} {cells : List CellD} (hLd : L.map CellM.d = cells) {q k : Nat} (hq : q < L.length) (hn : L[q].d.num = k) (ho : ∀ i (hi : i < L.length), i ≠ q → L[i].d.num ≠ k) : (L.set q { L[q] with d := { L[q].d with refs := L[q].d.refs + 1 } }).map CellM.d = incC cells k := by
 subst hLd
 unfold incC
 apply List.ext_getElem (by simp)
 intro i h1 h2
 rw [List.length_map, List.length_set] at h1
 rw [List.getElem_map, List.getElem_map, List.getElem_map]
 by_cases hiq : q = i
 ·subst hiq
  rw [List.getElem_set_self, if_pos hn]
 ·rw [List.getElem_set_ne hiq, if_neg (ho i h1 (fun e => hiq e.symm))]
def zeroHp : HeapD := ⟨0, []⟩
theorem own_zero (B : Nat) (w : World) : OwnH B w (.agg #[.int .u32 0, .slice none 0 0]) zeroHp := ⟨_, rfl, by simp [zeroHp], .inl ⟨rfl, rfl⟩⟩
theorem built_heap0 : Tryz.prog.built 35 [] = some #[.int .u32 0, .slice none 0 0] := by kernel_rfl

set_option maxRecDepth 100000 in
set_option maxHeartbeats 3200000 in
theorem hold_calls (v : Value) (h : HeapD) (k : Nat) (w : World) (a : HeapAt w.heap.size w v h) :
  Calls Tryz.prog 22 #[v, .int .u32 (k : Int)] w fun e w' => (∃ r, ((RightH h ∧ e = .returned (.tuple #[r, .int .i64 (holdE h k)]) ∧ OwnH w.heap.size w' r (holdH h k)) ∨ (¬ RightH h ∧ e = .returned (.tuple #[r, .int .i64 7]) ∧ OwnH w.heap.size w' r zeroHp))) ∧ Below w.heap.size w w' := by
 obtain ⟨p, cap, rfl⟩ := a.shape
 obtain ⟨W0, hW0⟩ : ∃ W0, W0 = w.alloc (.cells #[.int .u32 (h.size : Int), .slice p h.cells.length cap] 35) := ⟨_, rfl⟩
 obtain ⟨W1, hW1⟩ : ∃ W1, W1 = W0.alloc (.cells #[.int .u32 0, .slice none 0 0] 35) := ⟨_, rfl⟩
 have hbx0 : RowIs W0 w.heap.size 35 #[.int .u32 (h.size : Int), .slice p h.cells.length cap] := by rw [hW0]; exact RowIs.new w _ _
 have hbx : RowIs W1 w.heap.size 35 #[.int .u32 (h.size : Int), .slice p h.cells.length cap] := by rw [hW1]; exact hbx0.alloc _
 have hA : RowIs W1 W0.heap.size 35 #[.int .u32 0, .slice none 0 0] := by rw [hW1]; exact RowIs.new W0 _ _
 have hb0 : Below w.heap.size w W0 := by rw [hW0]; exact (Below.refl _ _).alloc (Nat.le_refl _) _
 have hb1 : Below w.heap.size w W1 := by rw [hW1]; exact hb0.alloc hb0.size _
 have hop := openB_calls p cap h w a W1 hb1
 have hsz : (Tryz.prog.info? 35).map (·.size) = some (#[.int .u32 (h.size : Int), .slice p h.cells.length cap] : Array Value).size := by kernel_rfl
 have hszH : ∀ x y : Value, (Tryz.prog.info? 35).map (·.size) = some (#[x, y] : Array Value).size := fun x y => by kernel_rfl
 have hCA : w.heap.size < W0.heap.size := hbx0.lt
 have hAlt : W0.heap.size < W1.heap.size := hA.lt
 have HW0 := Lib.hid hW0
 have HW1 := Lib.hid hW1
 clear hW0 hW1 a hbx0 hb0
 generalize hAg : W0.heap.size = A at *
 go_enter Tryz.func22, Tryz.ntmps22
 go_wp2_with (first | (refine wpList_world HW0.out ?_) | (refine wpList_world HW1.out ?_) | (refine wpList_load_row rfl 35 _ rfl w.heap.size rfl 35 #[.int .u32 (h.size : Int), .slice p h.cells.length cap] (0, 0) _ hbx Tryz.underlying35 rfl hsz ?_))
 refine hop.mono ?_
 rintro e w1 (⟨hno, rfl, hq⟩ | ⟨hr, S, vs, L, rfl, hLd, hLa, hst, hk⟩)
 ·have hA2 := hA.below hq hA.lt
  have hb2 := hb1.trans (hq.mono hb1.size)
  have hth := hA2.there 0 2 (by simp)
  have hst := store_row hA2 (D := #[.int .u32 0, .slice none 0 0]) rfl
  have hbs := setCells_below A w.heap.size (Nat.le_of_lt hCA) [.int .u32 0, .slice none 0 0] 0 _ _ hb2
  have HF := Lib.hid (And.intro hno (And.intro hst hbs))
  have hone2 : (#[.int .u32 0, .slice none 0 0] : Array Value).all (·.oneCell') = true := oneH 0 none 0 0
  have hsz2 := hszH (.int .u32 0) (.slice none 0 0)
  clear hop hno hq hst hbs hA hA2 hb2 hbx hb1
  go_wp2_with (first | (refine wpList_build_eqH rfl 35 [] rfl #[.int .u32 0, .slice none 0 0] built_heap0 ?_) | (refine wpList_store_mid rfl 35 _ _ rfl A 0 #[.int .u32 0, .slice none 0 0] rfl rfl hth hsz2 hone2 ?_))
  refine bodyPost_ret (v := .tuple #[.agg #[.int .u32 0, .slice none 0 0], .int .i64 7]) (results_cell_tmp (p := 4) (q := 5) (ty := 35) (by rfl) _ _ A 35 #[.int .u32 0, .slice none 0 0] (0, 0) _ (by rfl) HF.out.2.1 Tryz.underlying35 (by rfl) hsz2) (by rfl) ?_
  exact ⟨⟨_, .inr ⟨HF.out.1, rfl, own_zero _ _⟩⟩, HF.out.2.2⟩
 ·have hlen : L.length = h.cells.length := by rw [← hLd, List.length_map]
  have hcl := hr.okH.len
  have hat := at_calls W1.heap.size S h.size vs L k w1 hst (by rw [hLd]; exact hr.asc) (by omega)
  have hfm : findC h.cells k = (atM L k).map CellM.d := by rw [← hLd]; exact atM_map L k
  have hA1 := hk.row hA (.inl hAlt)
  have hb2 := hb1.trans (hk.toBelow.mono hb1.size)
  have HZ := Lib.hid hk.size
  have HFM := Lib.hid hfm
  clear hop hst hk hfm hlen
  go_wp2_with fail
  refine hat.mono ?_
  rintro e w2 ⟨rfl, hst2, hk2⟩
  have hA2 := hk2.row hA1 (.inl hAlt)
  have hb3 := hb2.trans ((hk2.below (show W1.heap.size ≤ w1.heap.size from HZ.out)).mono hb1.size)
  clear hat hA1 hb2
  cases hf : atM L k with
  | none =>
   have hfn : findC h.cells k = none := by rw [HFM.out, hf]; rfl
   have hE : holdE h k = 5 := by rw [holdE, hfn]
   have hH : holdH h k = ⟨h.size, h.cells⟩ := by rw [holdH, hE, if_neg (by decide)]
   rw [ptrV]
   have hlenN : L.length ≤ 65536 := by rw [← List.length_map (f := CellM.d), hLd]; exact hcl
   have hcall := heap_calls W1.heap.size S h.size vs L w2 hst2 hlenN
   rw [hLd] at hcall
   have hAW := hA2
   have hbW := hb3
   have HEH := Lib.hid (And.intro hr (And.intro hE hH))
   clear hE hH hst2 hk2 hA2 hb3 hA hb1 hbx hr HZ
   go_wp2_with fail
   refine hcall.mono ?_
   rintro e w9 ⟨v9, rfl, hown9, hb9⟩
   obtain ⟨p9, c9, rfl⟩ := own_shape hown9
   have hA9 := hAW.below hb9 hAW.lt
   have hle9 := hbW.size
   have hb10 := hbW.trans (hb9.mono hle9)
   have hth := hA9.there 0 2 (by simp)
   have hst9 := store_row hA9 (D := #[.int .u32 (h.size : Int), .slice p9 L.length c9]) rfl
   have hbs9 := setCells_below A w.heap.size (Nat.le_of_lt hCA) [.int .u32 (h.size : Int), .slice p9 L.length c9] 0 _ _ hb10
   have hbu9 := (But.refl A w9).setCells [.int .u32 (h.size : Int), .slice p9 L.length c9] 0
   have ho9 := ownsRow_but (ownsRow_base hown9 hle9) hbu9 (fun c hc => by have := row_type hA9 hc; revert this; decide)
   have HF := Lib.hid (And.intro hst9 (And.intro ho9 hbs9))
   have hone2 := oneH (h.size : Int) p9 L.length c9
   have hsz2 := hszH (.int .u32 (h.size : Int)) (.slice p9 L.length c9)
   have HLL := Lib.hid (show L.length = (h.cells).length by rw [← hLd, List.length_map])
   clear hcall hown9 hb9 hA9 hst9 hbs9 hbu9 ho9 hb10 hAW hbW
   go_wp2_with (refine wpList_store_mid rfl 35 _ _ rfl A 0 #[.int .u32 (h.size : Int), .slice p9 L.length c9] rfl rfl hth hsz2 hone2 ?_)
   refine bodyPost_ret (v := .tuple #[.agg #[.int .u32 (h.size : Int), .slice p9 L.length c9], .int .i64 5]) (results_cell_tmp (p := 4) (q := 5) (ty := 35) (by rfl) _ _ A 35 #[.int .u32 (h.size : Int), .slice p9 L.length c9] (0, 0) _ (by rfl) HF.out.1 Tryz.underlying35 (by rfl) hsz2) (by rfl) ?_
   exact ⟨⟨_, .inl ⟨HEH.out.1, by rw [HEH.out.2.1], by rw [HEH.out.2.2]; exact ⟨_, rfl, by rw [← HLL.out]; exact HF.out.2.1⟩⟩⟩, HF.out.2.2⟩
  | some c =>
   obtain ⟨hcm, hcn⟩ := atM_mem hf
   have hcd : c.d ∈ h.cells := by rw [← hLd]; exact List.mem_map_of_mem hcm
   obtain ⟨q, hq, hatq, hqn, hoth⟩ := atM_idx hLd hr.asc ⟨c.d, hcd, hcn⟩
   obtain rfl : c = L[q] := by rw [hf] at hatq; injection hatq
   have hca := hst2.cells L[q] hcm
   have hfs : findC h.cells k = some L[q].d := by rw [HFM.out, hf]; rfl
   have cr : w2.cell? ⟨L[q].ptr, 2, none⟩ = some (.int .i64 L[q].d.refs) := by rw [hca.row.cell]; rfl
   have fr := hca.row.free 2
   have hcp : L[q].p = .pointer (some ⟨L[q].ptr, 0, none⟩) := rfl
   rw [ptrV, hcp]
   have hlr := hr.led _ hcd
   have hmr := hr.most _ hcd
   clear hcp hatq
   by_cases hmx : L[q].d.refs = 16777216
   ·have hE : holdE h k = 1 := by rw [holdE, hfs]; exact if_pos hmx
    have hH : holdH h k = ⟨h.size, h.cells⟩ := by rw [holdH, hE, if_neg (by decide)]
    rw [hmx] at cr
    have hlenN : L.length ≤ 65536 := by rw [← List.length_map (f := CellM.d), hLd]; exact hcl
    have hcall := heap_calls W1.heap.size S h.size vs L w2 hst2 hlenN
    rw [hLd] at hcall
    have hAW := hA2
    have hbW := hb3
    have HEH := Lib.hid (And.intro hr (And.intro hE hH))
    clear hE hH hst2 hk2 hA2 hb3 hA hb1 hbx hr HZ hca fr hlr hmr hcd hfs
    go_wp2_with fail
    refine hcall.mono ?_
    rintro e w9 ⟨v9, rfl, hown9, hb9⟩
    obtain ⟨p9, c9, rfl⟩ := own_shape hown9
    have hA9 := hAW.below hb9 hAW.lt
    have hle9 := hbW.size
    have hb10 := hbW.trans (hb9.mono hle9)
    have hth := hA9.there 0 2 (by simp)
    have hst9 := store_row hA9 (D := #[.int .u32 (h.size : Int), .slice p9 L.length c9]) rfl
    have hbs9 := setCells_below A w.heap.size (Nat.le_of_lt hCA) [.int .u32 (h.size : Int), .slice p9 L.length c9] 0 _ _ hb10
    have hbu9 := (But.refl A w9).setCells [.int .u32 (h.size : Int), .slice p9 L.length c9] 0
    have ho9 := ownsRow_but (ownsRow_base hown9 hle9) hbu9 (fun c hc => by have := row_type hA9 hc; revert this; decide)
    have HF := Lib.hid (And.intro hst9 (And.intro ho9 hbs9))
    have hone2 := oneH (h.size : Int) p9 L.length c9
    have hsz2 := hszH (.int .u32 (h.size : Int)) (.slice p9 L.length c9)
    have HLL := Lib.hid (show L.length = (h.cells).length by rw [← hLd, List.length_map])
    clear hcall hown9 hb9 hA9 hst9 hbs9 hbu9 ho9 hb10 hAW hbW
    go_wp2_with (refine wpList_store_mid rfl 35 _ _ rfl A 0 #[.int .u32 (h.size : Int), .slice p9 L.length c9] rfl rfl hth hsz2 hone2 ?_)
    refine bodyPost_ret (v := .tuple #[.agg #[.int .u32 (h.size : Int), .slice p9 L.length c9], .int .i64 1]) (results_cell_tmp (p := 4) (q := 5) (ty := 35) (by rfl) _ _ A 35 #[.int .u32 (h.size : Int), .slice p9 L.length c9] (0, 0) _ (by rfl) HF.out.1 Tryz.underlying35 (by rfl) hsz2) (by rfl) ?_
    exact ⟨⟨_, .inl ⟨HEH.out.1, by rw [HEH.out.2.1], by rw [HEH.out.2.2]; exact ⟨_, rfl, by rw [← HLL.out]; exact HF.out.2.1⟩⟩⟩, HF.out.2.2⟩
   ·have hE : holdE h k = 0 := by rw [holdE, hfs]; exact if_neg hmx
    have hH : holdH h k = ⟨h.size, incC h.cells k⟩ := by rw [holdH, hE, if_pos rfl]
    obtain ⟨hst3, hk3⟩ := upd_refs hst2 q hq (L[q].d.refs + 1)
    have hLd3 := inc_set hLd hq hqn hoth
    have hA3 := hk3.row hA2 (.inl hAlt)
    have hb4 := hb3.trans ((hk3.below (show W1.heap.size ≤ w2.heap.size from hst2.hB)).mono hb1.size)
    have hm1 : (L[q].d.refs == 16777216) = false := by simpa using hmx
    have hr0 : (0 : Int) ≤ L[q].d.refs := by omega
    have hw : wrap64 (L[q].d.refs + 1) = L[q].d.refs + 1 := by unfold wrap64; omega
    have hil : (incC h.cells k).length = h.cells.length := by unfold incC; rw [List.length_map]
    obtain ⟨L3, hL3⟩ : ∃ L3, L3 = L.set q { L[q] with d := { L[q].d with refs := L[q].d.refs + 1 } } := ⟨_, rfl⟩
    rw [← hL3] at hst3 hLd3
    clear hL3
    generalize hP : L[q].ptr = P at *
    generalize hR : L[q].d.refs = rf at *
    generalize hw3 : w2.setCell ⟨P, 2, none⟩ (.int .i64 (rf + 1)) = w3 at *
    have hlenN : L3.length ≤ 65536 := by rw [← List.length_map (f := CellM.d), hLd3]; exact (by rw [hil]; exact hcl)
    have hcall := heap_calls W1.heap.size S h.size vs L3 w3 hst3 hlenN
    rw [hLd3] at hcall
    have hAW := hA3
    have hbW := hb4
    have HEH := Lib.hid (And.intro hr (And.intro hE hH))
    clear hE hH hst2 hk2 hA2 hb3 hA3 hb4 hst3 hk3 hA hb1 hbx hr HZ hca hlr hcd hfs hil
    go_wp2_with fail
    refine hcall.mono ?_
    rintro e w9 ⟨v9, rfl, hown9, hb9⟩
    obtain ⟨p9, c9, rfl⟩ := own_shape hown9
    have hA9 := hAW.below hb9 hAW.lt
    have hle9 := hbW.size
    have hb10 := hbW.trans (hb9.mono hle9)
    have hth := hA9.there 0 2 (by simp)
    have hst9 := store_row hA9 (D := #[.int .u32 (h.size : Int), .slice p9 L3.length c9]) rfl
    have hbs9 := setCells_below A w.heap.size (Nat.le_of_lt hCA) [.int .u32 (h.size : Int), .slice p9 L3.length c9] 0 _ _ hb10
    have hbu9 := (But.refl A w9).setCells [.int .u32 (h.size : Int), .slice p9 L3.length c9] 0
    have ho9 := ownsRow_but (ownsRow_base hown9 hle9) hbu9 (fun c hc => by have := row_type hA9 hc; revert this; decide)
    have HF := Lib.hid (And.intro hst9 (And.intro ho9 hbs9))
    have hone2 := oneH (h.size : Int) p9 L3.length c9
    have hsz2 := hszH (.int .u32 (h.size : Int)) (.slice p9 L3.length c9)
    have HLL := Lib.hid (show L3.length = (incC h.cells k).length by rw [← hLd3, List.length_map])
    clear hcall hown9 hb9 hA9 hst9 hbs9 hbu9 ho9 hb10 hAW hbW
    go_wp2_with (refine wpList_store_mid rfl 35 _ _ rfl A 0 #[.int .u32 (h.size : Int), .slice p9 L3.length c9] rfl rfl hth hsz2 hone2 ?_)
    refine bodyPost_ret (v := .tuple #[.agg #[.int .u32 (h.size : Int), .slice p9 L3.length c9], .int .i64 0]) (results_cell_tmp (p := 4) (q := 5) (ty := 35) (by rfl) _ _ A 35 #[.int .u32 (h.size : Int), .slice p9 L3.length c9] (0, 0) _ (by rfl) HF.out.1 Tryz.underlying35 (by rfl) hsz2) (by rfl) ?_
    exact ⟨⟨_, .inl ⟨HEH.out.1, by rw [HEH.out.2.1], by rw [HEH.out.2.2]; exact ⟨_, rfl, by rw [← HLL.out]; exact HF.out.2.1⟩⟩⟩, HF.out.2.2⟩

end Go.Proofs.YtimkklaidodkdaaGreatDoor

namespace Go.Proofs.YtimkklaidodkdaaGreatDoor
open Go.RowKit

/-- Things whose first cells are strings are not in a row that has none. -/
theorem SlAt.but {B A : Nat} {w w' : World} {t : TypeId} {C : Array Value} (hA : RowIs w A t C) (hC : ∀ (i : Nat) (s : ByteArray), C[i]? ≠ some (Value.string s)) (hb : But A w w') {v : Value} {n z : Nat} {cs : Nat → List Value} (h : SlAt B w v n cs z) (hs : ∀ i, i < n → ∃ (s : ByteArray) (r : List Value), cs i = Value.string s :: r) : SlAt B w' v n cs z := by
 obtain ⟨a, cap, hv, hn, hr⟩ := h
 refine ⟨a, cap, hv, hn, fun h0 => ?_⟩
 obtain ⟨b, o, ha, hbB, hc⟩ := hr h0
 refine ⟨b, o, ha, hbB, fun i hi j u hj => ?_⟩
 have hcj := hc i hi j u hj
 have hlt : b < w.heap.size := World.block_lt_of_cell? w _ hcj
 have hne : b ≠ A := by
  intro e
  obtain ⟨s, r, hsr⟩ := hs i hi
  have h1 := hc i hi 0 (.string s) (by rw [hsr]; rfl)
  rw [e, hA.cell] at h1
  exact hC _ _ h1
 exact (World.cell?_of_block (w := w) (a := ⟨b, o + i * z + j, none⟩) (hb.block b hlt hne)).trans hcj
theorem NodeAt.but {B A : Nat} {w w' : World} {t : TypeId} {C : Array Value} (hA : RowIs w A t C) (hC : ∀ (i : Nat) (s : ByteArray), C[i]? ≠ some (Value.string s)) (hb : But A w w') {v : Value} {n : NodeD} (h : NodeAt B w v n) : NodeAt B w' v n := by
 obtain ⟨hw, vi, vk, vv, hv, h1, h2, h3⟩ := h
 refine ⟨hw, vi, vk, vv, hv, ?_, ?_, ?_⟩
 ·exact SlAt.but hA hC hb h1 fun i hi => ⟨(n.items[i]'hi).key, (itemV (n.items[i]'hi)).tail, by rw [List.getElem?_eq_getElem hi]; rfl⟩
 ·exact SlAt.but hA hC hb h2 fun i hi => ⟨(n.kids[i]'hi).key, (kidV (n.kids[i]'hi)).tail, by rw [List.getElem?_eq_getElem hi]; rfl⟩
 ·exact SlAt.but hA hC hb h3 fun i hi => ⟨(n.vols[i]'hi).name, (volV (n.vols[i]'hi)).tail, by rw [List.getElem?_eq_getElem hi]; rfl⟩
def zeroNd : Array Value := #[.int .u8 0, .slice none 0 0, .slice none 0 0, .slice none 0 0]
theorem built_node0 : Tryz.prog.built 28 [] = some zeroNd := by kernel_rfl
theorem zero_none : ∀ (i : Nat) (s : ByteArray), zeroNd[i]? ≠ some (Value.string s) := fun i s => by
 rcases i with _ | _ | _ | _ | i <;> simp [zeroNd]
theorem zeroNd_one : zeroNd.all (·.oneCell') = true := all_oneCell_toArray (cs := [.int .u8 0, .slice none 0 0, .slice none 0 0, .slice none 0 0]) fun v hv => by
 simp only [List.mem_cons, List.not_mem_nil, or_false] at hv
 rcases hv with rfl | rfl | rfl | rfl <;> rfl

set_option maxRecDepth 100000 in
set_option maxHeartbeats 3200000 in
theorem get_calls (v : Value) (h : HeapD) (k : Nat) (w : World) (a : HeapAt w.heap.size w v h) :
  Calls Tryz.prog 17 #[v, .int .u32 (k : Int)] w fun e w' => (∃ r, (RightH h ∧ ((∃ c, findC h.cells k = some c ∧ e = .returned (.tuple #[r, .int .i64 0]) ∧ NodeAt w'.heap.size w' r c.node) ∨ (findC h.cells k = none ∧ r = .agg zeroNd ∧ e = .returned (.tuple #[r, .int .i64 5])))) ∨ (¬ RightH h ∧ r = .agg zeroNd ∧ e = .returned (.tuple #[r, .int .i64 7]))) ∧ Below w.heap.size w w' := by
 obtain ⟨p, cap, rfl⟩ := a.shape
 obtain ⟨W0, hW0⟩ : ∃ W0, W0 = w.alloc (.cells #[.int .u32 (h.size : Int), .slice p h.cells.length cap] 35) := ⟨_, rfl⟩
 obtain ⟨W1, hW1⟩ : ∃ W1, W1 = W0.alloc (.cells zeroNd 28) := ⟨_, rfl⟩
 have hbx0 : RowIs W0 w.heap.size 35 #[.int .u32 (h.size : Int), .slice p h.cells.length cap] := by rw [hW0]; exact RowIs.new w _ _
 have hbx : RowIs W1 w.heap.size 35 #[.int .u32 (h.size : Int), .slice p h.cells.length cap] := by rw [hW1]; exact hbx0.alloc _
 have hA : RowIs W1 W0.heap.size 28 zeroNd := by rw [hW1]; exact RowIs.new W0 _ _
 have hb0 : Below w.heap.size w W0 := by rw [hW0]; exact (Below.refl _ _).alloc (Nat.le_refl _) _
 have hb1 : Below w.heap.size w W1 := by rw [hW1]; exact hb0.alloc hb0.size _
 have hop := openB_calls p cap h w a W1 hb1
 have hsz : (Tryz.prog.info? 35).map (·.size) = some (#[.int .u32 (h.size : Int), .slice p h.cells.length cap] : Array Value).size := by kernel_rfl
 have hszN : (Tryz.prog.info? 28).map (·.size) = some zeroNd.size := by kernel_rfl
 have hCA : w.heap.size < W0.heap.size := hbx0.lt
 have hAlt : W0.heap.size < W1.heap.size := hA.lt
 have HW0 := Lib.hid hW0
 have HW1 := Lib.hid (show W1 = W0.alloc (.cells #[.int .u8 0, .slice none 0 0, .slice none 0 0, .slice none 0 0] 28) from hW1)
 clear hW0 hW1 a hbx0 hb0
 generalize hAg : W0.heap.size = A at *
 go_enter Tryz.func17, Tryz.ntmps17
 go_wp2_with (first | (refine wpList_world HW0.out ?_) | (refine wpList_world HW1.out ?_) | (refine wpList_load_row rfl 35 _ rfl w.heap.size rfl 35 #[.int .u32 (h.size : Int), .slice p h.cells.length cap] (0, 0) _ hbx Tryz.underlying35 rfl hsz ?_))
 refine hop.mono ?_
 rintro e w1 (⟨hno, rfl, hq⟩ | ⟨hr, S, vs, L, rfl, hLd, hLa, hst, hk⟩)
 ·have hA2 := hA.below hq hA.lt
  have hb2 := hb1.trans (hq.mono hb1.size)
  have hth := hA2.there 0 4 (by simp [zeroNd])
  have hst := store_row hA2 (D := zeroNd) rfl
  have hbs := setCells_below A w.heap.size (Nat.le_of_lt hCA) zeroNd.toList 0 _ _ hb2
  have HF := Lib.hid (And.intro hno (And.intro hst hbs))
  have hone2 := zeroNd_one
  clear hop hno hq hst hbs hA hA2 hb2 hbx hb1
  go_wp2_with (first | (refine wpList_build_eqH rfl 28 [] rfl zeroNd built_node0 ?_) | (refine wpList_store_mid rfl 28 _ _ rfl A 0 zeroNd rfl rfl hth hszN hone2 ?_))
  refine bodyPost_ret (v := .tuple #[.agg zeroNd, .int .i64 7]) (results_cell_tmp (p := 4) (q := 5) (ty := 28) (by rfl) _ _ A 28 zeroNd (0, 0) _ (by rfl) HF.out.2.1 Tryz.underlying28 (by rfl) hszN) (by rfl) ?_
  exact ⟨⟨_, .inr ⟨HF.out.1, rfl, rfl⟩⟩, HF.out.2.2⟩
 ·have hlen : L.length = h.cells.length := by rw [← hLd, List.length_map]
  have hcl := hr.okH.len
  have hat := at_calls W1.heap.size S h.size vs L k w1 hst (by rw [hLd]; exact hr.asc) (by omega)
  have hfm : findC h.cells k = (atM L k).map CellM.d := by rw [← hLd]; exact atM_map L k
  have hA1 := hk.row hA (.inl hAlt)
  have hb2 := hb1.trans (hk.toBelow.mono hb1.size)
  have HZ := Lib.hid hk.size
  have HFM := Lib.hid hfm
  clear hop hst hk hfm hlen
  go_wp2_with fail
  refine hat.mono ?_
  rintro e w2 ⟨rfl, hst2, hk2⟩
  have hA2 := hk2.row hA1 (.inl hAlt)
  have hb3 := hb2.trans ((hk2.below (show W1.heap.size ≤ w1.heap.size from HZ.out)).mono hb1.size)
  clear hat hA1 hb2
  cases hf : atM L k with
  | none =>
   have hno : findC h.cells k = none := by rw [HFM.out, hf]; rfl
   have hb2 := hb3
   rw [ptrV]
   have hth := hA2.there 0 4 (by simp [zeroNd])
   have hst := store_row hA2 (D := zeroNd) rfl
   have hbs := setCells_below A w.heap.size (Nat.le_of_lt hCA) zeroNd.toList 0 _ _ hb2
   have HF := Lib.hid (And.intro (And.intro hr hno) (And.intro hst hbs))
   have hone2 := zeroNd_one
   clear hst2 hk2 hA2 hb3 hA hb1 hbx hr HZ hno hb2 hst hbs
   go_wp2_with (first | (refine wpList_build_eqH rfl 28 [] rfl zeroNd built_node0 ?_) | (refine wpList_store_mid rfl 28 _ _ rfl A 0 zeroNd rfl rfl hth hszN hone2 ?_))
   refine bodyPost_ret (v := .tuple #[.agg zeroNd, .int .i64 5]) (results_cell_tmp (p := 4) (q := 5) (ty := 28) (by rfl) _ _ A 28 zeroNd (0, 0) _ (by rfl) HF.out.2.1 Tryz.underlying28 (by rfl) hszN) (by rfl) ?_
   exact ⟨⟨_, .inl ⟨HF.out.1.1, .inr ⟨HF.out.1.2, rfl, rfl⟩⟩⟩, HF.out.2.2⟩
  | some c =>
   obtain ⟨hcm, hcn⟩ := atM_mem hf
   have hca := hst2.cells c hcm
   have hfs : findC h.cells k = some c.d := by rw [HFM.out, hf]; rfl
   have hnode := hca.node.at hst2.hB
   have hnr := row_node hca
   have hnv4 := hca.nv
   have hnsz : (Tryz.prog.info? 28).map (·.size) = some c.nv.length := by rw [hnv4]; kernel_rfl
   have hcp : c.p = .pointer (some ⟨c.ptr, 0, none⟩) := rfl
   rw [ptrV, hcp]
   obtain ⟨x0, x1, x2, hnv⟩ : ∃ x0 x1 x2, c.nv = [.int .u8 (c.d.node.kind : Int), x0, x1, x2] := by
    obtain ⟨_, vi, vk, vv, hv, _⟩ := hnode
    refine ⟨vi, vk, vv, ?_⟩
    injection hv with hv
    exact congrArg Array.toList hv
   have hslv : ∃ p1 n1 c1 p2 n2 c2 p3 n3 c3, x0 = .slice p1 n1 c1 ∧ x1 = .slice p2 n2 c2 ∧ x2 = .slice p3 n3 c3 := by
    obtain ⟨_, vi, vk, vv, hv, ⟨p1, c1, h1, _⟩, ⟨p2, c2, h2, _⟩, ⟨p3, c3, h3, _⟩⟩ := hnode
    rw [hnv] at hv
    injection hv with hv
    have hv := congrArg Array.toList hv
    simp only [List.cons.injEq] at hv
    exact ⟨_, _, _, _, _, _, _, _, _, by rw [hv.2.1, h1], by rw [hv.2.2.1, h2], by rw [hv.2.2.2.1, h3]⟩
   obtain ⟨p1, n1, c1, p2, n2, c2, p3, n3, c3, rfl, rfl, rfl⟩ := hslv
   rw [hnv] at hnode hnr hnsz
   have hth := hA2.there 0 4 (by simp [zeroNd])
   have hst := store_row hA2 (D := #[.int .u8 (c.d.node.kind : Int), .slice p1 n1 c1, .slice p2 n2 c2, .slice p3 n3 c3]) rfl
   have hbs := setCells_below A w.heap.size (Nat.le_of_lt hCA) [.int .u8 (c.d.node.kind : Int), .slice p1 n1 c1, .slice p2 n2 c2, .slice p3 n3 c3] 0 _ _ hb3
   have hbu := (But.refl A w2).setCells [.int .u8 (c.d.node.kind : Int), .slice p1 n1 c1, .slice p2 n2 c2, .slice p3 n3 c3] 0
   have hn9 := hnode.but hA2 zero_none hbu
   have hn10 := hn9.monoB hbu.size
   have HF := Lib.hid (And.intro hst (And.intro hbs (And.intro hn10 (And.intro hr hfs))))
   have hone2 : (#[.int .u8 (c.d.node.kind : Int), .slice p1 n1 c1, .slice p2 n2 c2, .slice p3 n3 c3] : Array Value).all (·.oneCell') = true := all_oneCell_toArray (cs := [.int .u8 (c.d.node.kind : Int), .slice p1 n1 c1, .slice p2 n2 c2, .slice p3 n3 c3]) fun v hv => by
    simp only [List.mem_cons, List.not_mem_nil, or_false] at hv
    rcases hv with rfl | rfl | rfl | rfl <;> rfl
   have hsz2 : (Tryz.prog.info? 28).map (·.size) = some (#[.int .u8 (c.d.node.kind : Int), .slice p1 n1 c1, .slice p2 n2 c2, .slice p3 n3 c3] : Array Value).size := by kernel_rfl
   have fr1 := hca.row.free 3
   clear hcp hnode hnv4 hnv hca hcm hcn hst2 hk2 hA2 hb3 hA hb1 hbx hr hst hbs hbu hn9 hn10 hfs hf HFM
   generalize hND : c.d.node = ND at *
   generalize c.ptr = P at *
   generalize (ND.kind : Int) = kd at *
   go_wp2_with (first | (refine wpList_load_mid rfl 28 _ rfl P 3 rfl [.int .u8 kd, .slice p1 n1 c1, .slice p2 n2 c2, .slice p3 n3 c3] _ hnr Tryz.underlying28 rfl hnsz ?_) | (refine wpList_store_mid rfl 28 _ _ rfl A 0 #[.int .u8 kd, .slice p1 n1 c1, .slice p2 n2 c2, .slice p3 n3 c3] rfl rfl hth hsz2 hone2 ?_))
   refine bodyPost_ret (v := .tuple #[.agg #[.int .u8 kd, .slice p1 n1 c1, .slice p2 n2 c2, .slice p3 n3 c3], .int .i64 0]) (results_cell_tmp (p := 4) (q := 5) (ty := 28) (by rfl) _ _ A 28 #[.int .u8 kd, .slice p1 n1 c1, .slice p2 n2 c2, .slice p3 n3 c3] (0, 0) _ (by rfl) HF.out.1 Tryz.underlying28 (by rfl) hsz2) (by rfl) ?_
   exact ⟨⟨_, .inl ⟨HF.out.2.2.2.1, .inl ⟨c.d, HF.out.2.2.2.2, rfl, by rw [hND]; exact HF.out.2.2.1⟩⟩⟩, HF.out.2.1⟩

end Go.Proofs.YtimkklaidodkdaaGreatDoor

namespace Go.Proofs.YtimkklaidodkdaaGreatDoor
open Go.RowKit

theorem count_snoc (ks : List Nat) (k t : Nat) (h : t < ks.length) : (ks.take (t + 1)).count k = (ks.take t).count k + (if ks[t] = k then 1 else 0) := by
 rw [List.take_succ_eq_append_getElem h, List.count_append, List.count_singleton]
 by_cases e : ks[t] = k <;> simp [e]

set_option maxRecDepth 100000 in
set_option maxHeartbeats 1600000 in
theorem count_calls (B : Nat) (v : Value) (ks : List Nat) (k : Nat) (w : World) (h : w.ownsRow B 32 1 v ks.length (numsV ks)) (hz : ks.length ≤ 4398046511104) :
  Calls Tryz.prog 79 #[v, .int .u32 (k : Int)] w fun e w' => e = .returned (.int .i64 (ks.count k : Int)) ∧ w' = w := by
 obtain ⟨p, cap, rfl, hc⟩ := own_one h
 clear h
 generalize hn : ks.length = n at *
 go_enter Tryz.func79, Tryz.ntmps79
 go_wp2_with fail
 go_loopg [5, 10] n (fun g s5 s10 wx => ∃ t : Nat, t ≤ n ∧ g = n - t ∧ s10 = .int .i64 t ∧ s5 = .int .i64 ((ks.take t).count k : Int) ∧ wx = w)
 case atStart => exact ⟨0, by omega, by omega, rfl, by simp, rfl⟩
 case round =>
  obtain ⟨t, ht, rfl, rfl, rfl, rfl⟩ := hrel
  by_cases hlt : t < n
  ·have i1 : (t : Int) < (n : Int) := by omega
   have hlk : t < ks.length := by omega
   obtain ⟨R, hR, hcell⟩ := hc t hlt
   subst hR
   have hcj : wr.cell? ⟨R, t, none⟩ = some (.int .u32 (ks[t] : Int)) := by rw [hcell]; simp [numsV, List.getElem?_eq_getElem hlk]
   have hle : (ks.take t).count k ≤ t := by
    have := List.count_le_length (a := k) (l := ks.take t)
    rw [List.length_take] at this
    omega
   have HS := Lib.hid (count_snoc ks k t hlk)
   clear hcell hc
   generalize hcu : (ks.take t).count k = cu at *
   by_cases he : ks[t] = k
   ·have HE := Lib.hid (show (ks.take (t + 1)).count k = cu + 1 by rw [HS.out, if_pos he])
    rw [he] at hcj
    clear he HS hcu
    go_wp2_with fail
    go_roundg (n - (t + 1))
    case measure => omega
    case rel => exact ⟨t + 1, by omega, rfl, by congr 1, by rw [HE.out]; congr 1, rfl⟩
   ·have HE := Lib.hid (show (ks.take (t + 1)).count k = cu by rw [HS.out, if_neg he]; rfl)
    have hne : ((ks[t] : Int) == (k : Int)) = false := by simpa using fun e => he (by omega)
    generalize ks[t] = x at *
    clear HS hcu
    go_wp2_with fail
    go_roundg (n - (t + 1))
    case measure => omega
    case rel => exact ⟨t + 1, by omega, rfl, by congr 1, by rw [HE.out], rfl⟩
  ·have i1 : ¬ (t : Int) < (n : Int) := by omega
   obtain rfl : t = n := by omega
   rw [List.take_of_length_le (by omega)]
   clear hc
   go_wp2_with fail
   go_ret
   exact ⟨rfl, rfl⟩

end Go.Proofs.YtimkklaidodkdaaGreatDoor

namespace Go.Proofs.YtimkklaidodkdaaGreatDoor
open Go.RowKit

theorem freeF_drop (cells : List CellD) (t : Nat) (ht : t < cells.length) (n : Nat) : freeF (cells.drop t) n = if cells[t].num = n then freeF (cells.drop (t + 1)) (n + 1) else n := by
 rw [List.drop_eq_getElem_cons ht]; rfl

set_option maxRecDepth 100000 in
set_option maxHeartbeats 1600000 in
theorem sfree_calls (B S size : Nat) (vs : Value) (L : List CellM) (w : World) (hst : StoreAt B w S size vs L) (hl : L.length ≤ 65536) :
  Calls Tryz.prog 78 #[.pointer (some ⟨S, 0, none⟩)] w fun e w' => e = .returned (.tuple #[.int .u32 (freeC (L.map CellM.d) : Int), .bool (decide (freeC (L.map CellM.d) < size))]) ∧ StoreAt B w' S size vs L ∧ Keep B w w' := by
 obtain ⟨ask, hS, ho⟩ := hst.row
 obtain ⟨p, cap, rfl, hpc⟩ := own_ptrs ho
 have c0 : w.cell? ⟨S, 0, none⟩ = some (.int .u32 (size : Int)) := by rw [hS.cell]; rfl
 have c1 : w.cell? ⟨S, 1, none⟩ = some (.slice p L.length cap) := by rw [hS.cell]; rfl
 have HST := Lib.hid hst
 obtain ⟨n, hM⟩ : ∃ n, n = L.length := ⟨_, rfl⟩
 rw [← hM] at c1 hl
 have HP := Lib.hid hpc
 have HM := Lib.hid hM
 clear hS ho hpc hM hst
 go_enter Tryz.func78, Tryz.ntmps78
 go_wp2_with fail
 go_loopg [4, 12] n (fun g s4 s12 wx => ∃ t : Nat, t ≤ n ∧ g = n - t ∧ s12 = .int .i64 t ∧ s4 = .int .u32 ((2 + t : Nat) : Int) ∧ freeC (L.map CellM.d) = freeF ((L.map CellM.d).drop t) (2 + t) ∧ wx = w)
 case atStart => exact ⟨0, by omega, by omega, rfl, rfl, rfl, rfl⟩
 case round =>
  obtain ⟨t, ht, rfl, rfl, rfl, hfr, rfl⟩ := hrel
  by_cases hlt : t < n
  ·have i1 : (t : Int) < (n : Int) := by omega
   have htM : t < L.length := by have := HM.out; omega
   obtain ⟨R, hpR, hcell⟩ := HP.out t htM
   clear HP
   subst hpR
   rw [CellM.p] at hcell
   have hca := HST.out.cells _ (List.getElem_mem htM)
   have cn : wr.cell? ⟨L[t].ptr, 0, none⟩ = some (.int .u32 (L[t].d.num : Int)) := by rw [hca.row.cell]; rfl
   have hsn := freeF_drop (L.map CellM.d) t (by simpa using htM) (2 + t)
   rw [List.getElem_map] at hsn
   rw [hsn] at hfr
   clear hca hsn
   generalize L[t].ptr = P at *
   generalize hnm : L[t].d.num = x at *
   by_cases he : x = 2 + t
   ·rw [if_pos he] at hfr
    subst he
    have HE := Lib.hid hfr
    clear hfr hnm
    go_wp2_with fail
    go_roundg (n - (t + 1))
    case measure => omega
    case rel => exact ⟨t + 1, by omega, rfl, by go_num, by go_num, HE.out, rfl⟩
   ·rw [if_neg he] at hfr
    have hne : ((x : Int) == ((2 + t : Nat) : Int)) = false := by simpa using fun e => he (by omega)
    have HE := Lib.hid hfr
    generalize hq : 2 + t = q at *
    clear hfr hnm
    go_wp2_with fail
    go_quiet (fail)
    go_wp2_with fail
    go_ret2
    exact ⟨by rw [HE.out]; simp, HST.out.below (below_drewH _ wr nq) (Nat.le_refl _), Keep.of (below_drewH _ wr nq)⟩
  ·have i1 : ¬ (t : Int) < (n : Int) := by omega
   obtain rfl : t = n := by omega
   rw [List.drop_of_length_le (by rw [List.length_map]; have := HM.out; omega)] at hfr
   have HE := Lib.hid (show freeC (L.map CellM.d) = 2 + t from hfr)
   generalize hq : 2 + t = q at *
   clear hfr
   go_wp2_with fail
   go_quiet (fail)
   go_wp2_with fail
   go_ret2
   exact ⟨by rw [HE.out]; simp, HST.out.below (below_drewH _ wr nq) (Nat.le_refl _), Keep.of (below_drewH _ wr nq)⟩

end Go.Proofs.YtimkklaidodkdaaGreatDoor
