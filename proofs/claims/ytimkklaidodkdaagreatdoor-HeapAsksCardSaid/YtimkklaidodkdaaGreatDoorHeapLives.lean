/- The law's lives: walked. -/
import Derived.Test.YtimkklaidodkdaaGreatDoorHeapLivesC
import Derived.Deep.Cut
import Derived.Deep.CutRange
namespace Go.Proofs.YtimkklaidodkdaaGreatDoor
open Go.RowKit

theorem OwnH.but {B b : Nat} {w w' : World} {v : Value} {h : HeapD} {t : TypeId} {C : Array Value} (a : OwnH B w v h) (hr : RowIs w b t C) (hb : But b w w') (ht : t ≠ 57) : OwnH B w' v h := by
 obtain ⟨sl, hv, ho⟩ := a
 exact ⟨sl, hv, ownsRow_but ho hb (fun c hc => ht (row_type hr hc))⟩
section
variable {P : Program} {ops : Array Oper} {Q : Exit → Act → World → Prop} {md : Region.Mode} {S : World → Prop}
/-- Two are ready, ahead of the gate. -/
theorem step2_G {i j g : Nat} {o o' : Oper} {fuel : Nat} {listed : Array Bool} {a : Act} {w : World}
  (l l' : Array Bool) (hi : ops[i]? = some o) (hj : ops[j]? = some o') (hr : Region.ready md ops listed = [i, j]) (hl : listed.setIfInBounds i true = l) (hl' : listed.setIfInBounds j true = l')
  (h : ∀ K' : Act → World → Prop, Shut (∀ a w, S w → wpAnyG P md ops Q S g fuel l a w → K' a w) → if Region.wanted o (yielded ops a.tmps) = true then Oper.wp P o a w K' Q else K' (a.put o.dst undef) w)
  (h' : ∀ K' : Act → World → Prop, Shut (∀ a w, S w → wpAnyG P md ops Q S g fuel l' a w → K' a w) → if Region.wanted o' (yielded ops a.tmps) = true then Oper.wp P o' a w K' Q else K' (a.put o'.dst undef) w) :
  wpAnyG P md ops Q S g (fuel + 1) listed a w := by
 subst hl; subst hl'
 refine ⟨fun h0 => (by rw [hr] at h0; cases h0), fun k hk => ?_⟩
 rw [hr] at hk
 rcases List.mem_cons.1 hk with rfl | hk
 ·exact wpOp_step hi (fun K' hK => h K' (fun a w hS hW => hK a w ⟨fun _ => hS, hW⟩))
 ·have : k = j := by simpa using hk
  subst this
  exact wpOp_step hj (fun K' hK => h' K' (fun a w hS hW => hK a w ⟨fun _ => hS, hW⟩))
end
theorem info_kidH : (Tryz.prog.info? 38).map (fun i => (i.zero, i.size, i.bytes)) = some (some (.agg kidZ), 34, 56) := by kernel_rfl
theorem cell_nodeL (k : Nat) (d : List UInt8) (r : Int) : (⟨k, strOf d, r⟩ : CellD).node = nodeL d := rfl
theorem nodeBB (r : Int) : (cB r).node = topA := by
 unfold cB
 rw [cell_nodeL, nodeB]
/-- What holds behind the second put. -/
def Liv2 (w : World) (T1 T2 : Nat) (KA : List Value) (v4 v5 : Value) (wx : World) : Prop := ∃ T4 p c, v4 = .pointer (some ⟨T4, 0, none⟩) ∧ v5 = .int .i64 0 ∧ RowIs wx T1 35 #[.int .u32 16, .slice p 1 c] ∧ RowIs wx T2 38 KA.toArray ∧ RowIs wx T4 38 KA.toArray ∧ T1 ≠ T4 ∧ T2 ≠ T4 ∧ w.heap.size ≤ T4 ∧ (∃ B, OwnH B wx (.agg #[.int .u32 16, .slice p 1 c]) hv1) ∧ Below w.heap.size w wx

set_option maxRecDepth 100000 in
set_option maxHeartbeats 6400000 in
theorem hlives_calls (w : World) : Calls Tryz.prog 19 #[] w fun e w' => e = .returned (.bool true) ∧ Below w.heap.size w w' := by
 have hleaf := leaf_calls aS w
 have hKz : ((kidV (kidH 0 zeroH)).toArray : Array Value).size = 34 := rfl
 have hszH : ∀ x y : Value, (Tryz.prog.info? 35).map (·.size) = some (#[x, y] : Array Value).size := fun x y => by kernel_rfl
 have hszK : ∀ C : Array Value, C.size = 34 → (Tryz.prog.info? 38).map (·.size) = some C.size := fun C hC => by rw [hC]; kernel_rfl
 have HSZ := Lib.hid (And.intro hszH hszK)
 have hklA : (kidV (kidH 2 (sha dA))).length = 34 := kidV_length (sha_length _)
 have honA := kidV_one (kidH 2 (sha dA))
 have hszA := hszK (kidV (kidH 2 (sha dA))).toArray (List.size_toArray.trans hklA)
 have HBH := Lib.hid (built_heap 16)
 obtain ⟨KA, hKA⟩ : ∃ KA, KA = kidV (kidH 2 (sha dA)) := ⟨_, rfl⟩
 rw [← hKA] at hklA honA hszA
 have HKA := Lib.hid hKA
 clear hszK hKA
 go_enter Tryz.func19, Tryz.ntmps19
 go_wp2_with (refine wpList_build_eqH rfl 35 [(0, .const (.int .u32 16))] rfl #[.int .u32 16, .slice none 0 0] (by exact HBH.out) ?_)
 refine hleaf.mono ?_
 rintro e w1 ⟨r1, rfl, hn1, hb1⟩
 have hput := put_well (.agg #[.int .u32 16, .slice none 0 0]) hv0 r1 leafA w1 (heap_nil _ _) hn1 leaf_fit (by decide) right0 put0
 have HB1 := Lib.hid hb1
 clear hleaf hn1 hb1
 go_wp2_with fail
 refine hput.mono ?_
 rintro e w2 ⟨p1, c1, rfl, hO2, hb2⟩
 rw [← HKA.out]
 obtain ⟨W1, hW1⟩ : ∃ W1, W1 = w2.alloc (.cells #[.int .u32 0, .slice none 0 0] 35) := ⟨_, rfl⟩
 obtain ⟨W2, hW2⟩ : ∃ W2, W2 = W1.alloc (.cells (kidV (kidH 0 zeroH)).toArray 38) := ⟨_, rfl⟩
 obtain ⟨W3, hW3⟩ : ∃ W3, W3 = W2.setCells w2.heap.size 0 [.int .u32 16, .slice p1 1 c1] := ⟨_, rfl⟩
 obtain ⟨W4, hW4⟩ : ∃ W4, W4 = W3.setCells W1.heap.size 0 KA := ⟨_, rfl⟩
 have hT1a : RowIs W1 w2.heap.size 35 #[.int .u32 0, .slice none 0 0] := by rw [hW1]; exact RowIs.new _ _ _
 have hlt1 := hT1a.lt
 have hT1b : RowIs W2 w2.heap.size 35 #[.int .u32 0, .slice none 0 0] := by rw [hW2]; exact hT1a.alloc _
 have hT2b : RowIs W2 W1.heap.size 38 (kidV (kidH 0 zeroH)).toArray := by rw [hW2]; exact RowIs.new _ _ _
 have hT1c : RowIs W3 w2.heap.size 35 #[.int .u32 16, .slice p1 1 c1] := by rw [hW3]; exact store_row hT1b (D := #[.int .u32 16, .slice p1 1 c1]) rfl
 have hT2c : RowIs W3 W1.heap.size 38 (kidV (kidH 0 zeroH)).toArray := by rw [hW3]; exact hT2b.but ((But.refl _ W2).setCells _ 0) (by omega)
 have hT2d : RowIs W4 W1.heap.size 38 KA.toArray := by rw [hW4]; exact store_row hT2c (D := KA.toArray) (by rw [List.size_toArray, hklA]; rfl)
 have hT1d : RowIs W4 w2.heap.size 35 #[.int .u32 16, .slice p1 1 c1] := by rw [hW4]; exact hT1c.but ((But.refl _ W3).setCells _ 0) (by omega)
 have hal1 : Below w2.heap.size w2 W1 := by rw [hW1]; exact (Below.refl _ _).alloc (Nat.le_refl _) _
 have hal2 : Below w2.heap.size w2 W2 := by rw [hW2]; exact hal1.alloc (Nat.le_of_lt hlt1) _
 have hal3 : Below w2.heap.size w2 W3 := by rw [hW3]; exact setCells_below _ _ (Nat.le_refl _) _ 0 _ _ hal2
 have hal4 : Below w2.heap.size w2 W4 := by rw [hW4]; exact setCells_below _ _ (Nat.le_of_lt hlt1) _ 0 _ _ hal3
 have hth1 := hT1b.there 0 2 (by simp)
 have hth2 := hT2c.there 0 34 (by decide)
 have hth2' : W3.there W1.heap.size 0 KA.toArray.size := by rw [show KA.toArray.size = 34 from List.size_toArray.trans hklA]; exact hth2
 have hone1 : (#[.int .u32 16, .slice p1 1 c1] : Array Value).all (·.oneCell') = true := oneH 16 p1 1 c1
 have hsz1 := hszH (.int .u32 16) (.slice p1 1 c1)
 have hO4 : OwnH w1.heap.size W4 (.agg #[.int .u32 16, .slice p1 1 c1]) hv1 := OwnH.below hO2 hal4 (Nat.le_refl _)
 have hb4 : Below w.heap.size w W4 := (HB1.out.trans (hb2.mono HB1.out.size)).trans (hal4.mono (Nat.le_trans HB1.out.size hb2.size))
 have HW1 := Lib.hid hW1
 have HW2 := Lib.hid hW2
 have HW3 := Lib.hid hW3
 have HW4 := Lib.hid hW4
 have HI4 := Lib.hid (And.intro hT1d (And.intro hT2d (And.intro hO4 hb4)))
 have HT1w := Lib.hid (Nat.le_trans HB1.out.size hb2.size)
 clear hput hO2 hb2 hW1 hW2 hW3 hW4 hT1a hT1b hT2b hT1c hT2c hT2d hT1d hal1 hal2 hal3 hal4 hth2 hO4 hb4 HB1
 have hlt12 := hlt1
 have hT1w : w.heap.size ≤ w2.heap.size := HT1w.out
 clear hlt1
 generalize hT1 : w2.heap.size = T1 at *
 generalize hT2 : W1.heap.size = T2 at *
 go_upto_region 2 with (first | (refine wpList_world HW1.out ?_) | (refine wpList_world HW2.out ?_) | (refine wpList_store_mid rfl 35 _ _ rfl T1 0 #[.int .u32 16, .slice p1 1 c1] rfl rfl hth1 hsz1 hone1 ?_; refine wpList_world HW3.out ?_) | (refine wpList_store_mid rfl 38 _ _ rfl T2 0 KA.toArray rfl rfl hth2' hszA honA ?_; refine wpList_world HW4.out ?_))
 go_cut [4, 5] (fun s4 s5 wx => Liv2 w T1 T2 KA s4 s5 wx)
 case first =>
  obtain ⟨hT1d, hT2d, hO4, hb4⟩ := HI4.out
  have hT21 : T2 ≠ T1 := (Nat.ne_of_lt hlt12).symm
  clear hth1 hth2'
  refine wp_region_gate 8 (S := fun w' => RowIs w' T1 35 #[.int .u32 16, .slice p1 1 c1]) (by kernel_rfl) hT1d.drew (fun hS0 => ?_)
  have hbd : Below W4.heap.size W4 W4.drew := (Below.refl _ W4).drew
  replace hT1d := hT1d.drew
  replace hT2d := hT2d.drew
  replace hO4 := hO4.below hbd (Nat.le_refl _)
  replace hb4 := hb4.trans (hbd.mono hb4.size)
  clear hbd HI4
  generalize W4.drew = wu at *
  refine take_B (i := 0) (v := (.agg #[.int .u32 16, .slice p1 1 c1])) [2, 3, 4, 8] (some 26) #[true, false, false, false, false, false, false, false, false, false, false] rfl rfl (by kernel_rfl) (by kernel_rfl) (by kernel_rfl) (by kernel_rfl) (by kernel_rfl) (fun _ _ _ h => h) (by kernel_rfl) hT1d (Or.inl ⟨by rfl, ?_⟩) ?_
  ·intro w_ hSw_; exact exec_load_row 35 _ (by rfl) T1 (by rfl) 35 #[.int .u32 16, .slice p1 1 c1] (0, 0) _ hSw_ Tryz.underlying35 rfl (by kernel_rfl)
  try simp only [Act.put, List.setIfInBounds_toArray, List.set_cons_zero, List.set_cons_succ]
  refine step2_G (i := 1) (j := 7) #[true, true, false, false, false, false, false, false, false, false, false] #[true, false, false, false, false, false, false, true, false, false, false] rfl rfl (by kernel_rfl) (by kernel_rfl) (by kernel_rfl) (fun K hK => ?_) (fun K hK => ?_)
  ·rw [if_pos (by rfl)]
   go_simp
   refine (leaf_calls aS wu).mono ?_
   rintro e wa ⟨rl, rfl, hnl, hbl⟩
   replace hT1d := hT1d.below hbl hT1d.lt
   replace hT2d := hT2d.below hbl hT2d.lt
   replace hO4 := hO4.below hbl (Nat.le_refl _)
   replace hb4 := hb4.trans (hbl.mono hb4.size)
   refine hK.out _ _ hT1d ?_
   clear hK K
   try simp only [Act.put, List.setIfInBounds_toArray, List.set_cons_zero, List.set_cons_succ]
   refine step2_G (i := 2) (j := 7) #[true, true, true, false, false, false, false, false, false, false, false] #[true, true, false, false, false, false, false, true, false, false, false] rfl rfl (by kernel_rfl) (by kernel_rfl) (by kernel_rfl) (fun K hK => ?_) (fun K hK => ?_)
   ·rw [if_pos (by rfl)]
    go_simp
    refine (put_well _ hv1 rl leafA wa (hO4.heap right1) hnl leaf_fit (by decide) right1 put1).mono ?_
    rintro e wb ⟨p2, c2, rfl, hO5, hbp⟩
    rw [← HKA.out]
    replace hT1d := hT1d.below hbp hT1d.lt
    replace hT2d := hT2d.below hbp hT2d.lt
    replace hb4 := hb4.trans (hbp.mono hb4.size)
    clear hO4 hnl
    refine hK.out _ _ hT1d ?_
    clear hK K
    try simp only [Act.put, List.setIfInBounds_toArray, List.set_cons_zero, List.set_cons_succ]
    refine takep_G (i := 3) (v := ?_) (some 25) #[true, true, true, true, false, false, false, false, false, false, false] rfl rfl (by kernel_rfl) (by kernel_rfl) (by kernel_rfl) (by kernel_rfl) (fun _ _ _ h => h) (by kernel_rfl) hT1d (Or.inl ⟨by rfl, ?_⟩) ?_
    rotate_left
    ·intro w_ hSw_; go_simp; try with_reducible rfl
    try simp only [Act.put, List.setIfInBounds_toArray, List.set_cons_zero, List.set_cons_succ]
    refine takep_G (i := 4) (v := ?_) (some 29) #[true, true, true, true, true, false, false, false, false, false, false] rfl rfl (by kernel_rfl) (by kernel_rfl) (by kernel_rfl) (by kernel_rfl) (fun _ _ _ h => h) (by kernel_rfl) hT1d (Or.inl ⟨by rfl, ?_⟩) ?_
    rotate_left
    ·intro w_ hSw_; go_simp; try with_reducible rfl
    try simp only [Act.put, List.setIfInBounds_toArray, List.set_cons_zero, List.set_cons_succ]
    refine takep_G (i := 5) (v := ?_) (some 30) #[true, true, true, true, true, true, false, false, false, false, false] rfl rfl (by kernel_rfl) (by kernel_rfl) (by kernel_rfl) (by kernel_rfl) (fun _ _ _ h => h) (by kernel_rfl) hT1d (Or.inl ⟨by rfl, ?_⟩) ?_
    rotate_left
    ·intro w_ hSw_; go_simp; try with_reducible rfl
    try simp only [Act.put, List.setIfInBounds_toArray, List.set_cons_zero, List.set_cons_succ]
    refine takep_G (i := 6) (v := ?_) (some 31) #[true, true, true, true, true, true, true, false, false, false, false] rfl rfl (by kernel_rfl) (by kernel_rfl) (by kernel_rfl) (by kernel_rfl) (fun _ _ _ h => h) (by kernel_rfl) hT1d (Or.inl ⟨by rfl, ?_⟩) ?_
    rotate_left
    ·intro w_ hSw_; go_simp; try with_reducible rfl
    try simp only [Act.put, List.setIfInBounds_toArray, List.set_cons_zero, List.set_cons_succ]
    refine step_G (i := 7) #[true, true, true, true, true, true, true, true, false, false, false] rfl (by kernel_rfl) (by kernel_rfl) (fun K hK => ?_)
    rw [if_pos (by rfl)]
    go_simp
    have hT4 := RowIs.new wb 38 (kidV (kidH 0 zeroH)).toArray
    have hal := (Below.refl _ wb).alloc (Nat.le_refl _) (.cells (kidV (kidH 0 zeroH)).toArray 38)
    change K _ (wb.alloc (.cells (kidV (kidH 0 zeroH)).toArray 38))
    have hT14 : T1 ≠ wb.heap.size := Nat.ne_of_lt hT1d.lt
    have hT24 : T2 ≠ wb.heap.size := Nat.ne_of_lt hT2d.lt
    have hT4w : w.heap.size ≤ wb.heap.size := hb4.size
    generalize wb.alloc (.cells (kidV (kidH 0 zeroH)).toArray 38) = wc at *
    replace hT1d := hT1d.below hal hT1d.lt
    replace hT2d := hT2d.below hal hT2d.lt
    replace hb4 := hb4.trans (hal.mono hb4.size)
    replace hO5 := hO5.below hal (Nat.le_refl _)
    generalize wb.heap.size = T4 at *
    clear hal
    refine hK.out _ _ hT1d ?_
    clear hK K
    try simp only [Act.put, List.setIfInBounds_toArray, List.set_cons_zero, List.set_cons_succ]
    refine gate_G (i := 8) #[true, true, true, true, true, true, true, true, true, false, false] rfl (by kernel_rfl) (by kernel_rfl) (fun K hK => ?_)
    rw [if_pos (by rfl)]
    have hth1 := hT1d.there 0 2 (by simp)
    have hone2 : (#[.int .u32 16, .slice p2 1 c2] : Array Value).all (·.oneCell') = true := oneH 16 p2 1 c2
    refine wp_store_mid 35 _ _ rfl T1 0 #[.int .u32 16, .slice p2 1 c2] rfl rfl hth1 (HSZ.out.1 _ _) hone2 ?_
    have hS1 := store_row hT1d (D := #[.int .u32 16, .slice p2 1 c2]) rfl
    have hbu1 := (But.refl T1 wc).setCells [.int .u32 16, .slice p2 1 c2] 0
    have hbs1 := setCells_below T1 w.heap.size hT1w [.int .u32 16, .slice p2 1 c2] 0 _ _ hb4
    change K _ (wc.setCells T1 0 [.int .u32 16, .slice p2 1 c2])
    change RowIs (wc.setCells T1 0 [.int .u32 16, .slice p2 1 c2]) T1 _ _ at hS1
    have hT2e := hT2d.but hbu1 hT21
    have hT4e := hT4.but hbu1 (fun q => hT14 q.symm)
    have hO6 : OwnH _ (wc.setCells T1 0 [.int .u32 16, .slice p2 1 c2]) _ hv1 := hO5.but hT1d hbu1 (by decide)
    generalize wc.setCells T1 0 [.int .u32 16, .slice p2 1 c2] = wx at *
    clear hth1 hbu1 hT2d hT4 hT1d hO5 hb4
    refine hK.out _ _ trivial ?_
    clear hK K
    try simp only [Act.put]
    refine step_N (i := 9) #[true, true, true, true, true, true, true, true, true, true, false] rfl (by kernel_rfl) (by kernel_rfl) (fun K hK => ?_)
    rw [if_pos (by rfl)]
    have hth4 := hT4e.there 0 34 (by decide)
    have hth4' : wx.there T4 0 KA.toArray.size := by rw [show KA.toArray.size = 34 from List.size_toArray.trans hklA]; exact hth4
    refine wp_store_mid 38 _ _ rfl T4 0 KA.toArray rfl rfl hth4' hszA honA ?_
    have hS4 := store_row hT4e (D := KA.toArray) (by rw [List.size_toArray, hklA]; rfl)
    have hbu4 := (But.refl T4 wx).setCells KA.toArray.toList 0
    have hbs4 := setCells_below T4 w.heap.size hT4w KA.toArray.toList 0 _ _ hbs1
    have hT1f := hS1.but hbu4 hT14
    have hT2f := hT2e.but hbu4 hT24
    have hO7 := hO6.but hT4e hbu4 (by decide)
    generalize wx.setCells T4 0 KA.toArray.toList = wy at *
    refine hK.out _ _ trivial ?_
    clear hK K
    try simp only [Act.put]
    refine take_N (i := 10) (v := ?_) (some 5) #[true, true, true, true, true, true, true, true, true, true, true] rfl rfl (by kernel_rfl) (by kernel_rfl) (by kernel_rfl) (by kernel_rfl) (fun _ _ _ h => h) trivial (Or.inl ⟨by rfl, ?_⟩) ?_
    rotate_left
    ·intro w_ hSw_; go_simp; try with_reducible rfl
    try simp only [Act.put, List.setIfInBounds_toArray]
    refine wpAnyH_done (by kernel_rfl) ?_ _
    have HF := Lib.hid (And.intro hT1f (And.intro hT2f (And.intro hS4 (And.intro hT14 (And.intro hT24 (And.intro hT4w (And.intro hO7 hbs4)))))))
    clear hT1f hT2f hS4 hT14 hT24 hT4w hO7 hbs4 hS1 hT2e hT4e hO6 hbs1 hth4 hth4' hbu4
    go_wp2_with fail
    go_meet
    case rel => exact ⟨T4, p2, c2, rfl, rfl, HF.out.1, HF.out.2.1, HF.out.2.2.1, HF.out.2.2.2.1, HF.out.2.2.2.2.1, HF.out.2.2.2.2.2.1, ⟨_, HF.out.2.2.2.2.2.2.1⟩, HF.out.2.2.2.2.2.2.2⟩
   ·rw [if_pos (by rfl)]
    go_simp
    have hT4 := RowIs.new wa 38 (kidV (kidH 0 zeroH)).toArray
    have hal := (Below.refl _ wa).alloc (Nat.le_refl _) (.cells (kidV (kidH 0 zeroH)).toArray 38)
    change K _ (wa.alloc (.cells (kidV (kidH 0 zeroH)).toArray 38))
    have hT14 : T1 ≠ wa.heap.size := Nat.ne_of_lt hT1d.lt
    have hT24 : T2 ≠ wa.heap.size := Nat.ne_of_lt hT2d.lt
    have hT4w : w.heap.size ≤ wa.heap.size := hb4.size
    generalize wa.alloc (.cells (kidV (kidH 0 zeroH)).toArray 38) = wb at *
    replace hT1d := hT1d.below hal hT1d.lt
    replace hT2d := hT2d.below hal hT2d.lt
    replace hb4 := hb4.trans (hal.mono hb4.size)
    replace hO4 := hO4.below hal (Nat.le_refl _)
    replace hnl := (hnl.below hal (Nat.le_refl _)).monoB hal.size
    generalize wa.heap.size = T4 at *
    clear hal
    refine hK.out _ _ hT1d ?_
    clear hK K
    try simp only [Act.put, List.setIfInBounds_toArray, List.set_cons_zero, List.set_cons_succ]
    refine step_G (i := 2) #[true, true, true, false, false, false, false, true, false, false, false] rfl (by kernel_rfl) (by kernel_rfl) (fun K hK => ?_)
    rw [if_pos (by rfl)]
    go_simp
    refine (put_well _ hv1 rl leafA wb (hO4.heap right1) hnl leaf_fit (by decide) right1 put1).mono ?_
    rintro e wc ⟨p2, c2, rfl, hO5, hbp⟩
    rw [← HKA.out]
    replace hT1d := hT1d.below hbp hT1d.lt
    replace hT2d := hT2d.below hbp hT2d.lt
    replace hb4 := hb4.trans (hbp.mono hb4.size)
    clear hO4 hnl
    replace hT4 := hT4.below hbp hT4.lt
    refine hK.out _ _ hT1d ?_
    clear hK K
    try simp only [Act.put, List.setIfInBounds_toArray, List.set_cons_zero, List.set_cons_succ]
    refine takep_G (i := 3) (v := ?_) (some 25) #[true, true, true, true, false, false, false, true, false, false, false] rfl rfl (by kernel_rfl) (by kernel_rfl) (by kernel_rfl) (by kernel_rfl) (fun _ _ _ h => h) (by kernel_rfl) hT1d (Or.inl ⟨by rfl, ?_⟩) ?_
    rotate_left
    ·intro w_ hSw_; go_simp; try with_reducible rfl
    try simp only [Act.put, List.setIfInBounds_toArray, List.set_cons_zero, List.set_cons_succ]
    refine takep_G (i := 4) (v := ?_) (some 29) #[true, true, true, true, true, false, false, true, false, false, false] rfl rfl (by kernel_rfl) (by kernel_rfl) (by kernel_rfl) (by kernel_rfl) (fun _ _ _ h => h) (by kernel_rfl) hT1d (Or.inl ⟨by rfl, ?_⟩) ?_
    rotate_left
    ·intro w_ hSw_; go_simp; try with_reducible rfl
    try simp only [Act.put, List.setIfInBounds_toArray, List.set_cons_zero, List.set_cons_succ]
    refine takep_G (i := 5) (v := ?_) (some 30) #[true, true, true, true, true, true, false, true, false, false, false] rfl rfl (by kernel_rfl) (by kernel_rfl) (by kernel_rfl) (by kernel_rfl) (fun _ _ _ h => h) (by kernel_rfl) hT1d (Or.inl ⟨by rfl, ?_⟩) ?_
    rotate_left
    ·intro w_ hSw_; go_simp; try with_reducible rfl
    try simp only [Act.put, List.setIfInBounds_toArray, List.set_cons_zero, List.set_cons_succ]
    refine takep_G (i := 6) (v := ?_) (some 31) #[true, true, true, true, true, true, true, true, false, false, false] rfl rfl (by kernel_rfl) (by kernel_rfl) (by kernel_rfl) (by kernel_rfl) (fun _ _ _ h => h) (by kernel_rfl) hT1d (Or.inl ⟨by rfl, ?_⟩) ?_
    rotate_left
    ·intro w_ hSw_; go_simp; try with_reducible rfl
    try simp only [Act.put, List.setIfInBounds_toArray, List.set_cons_zero, List.set_cons_succ]
    refine gate_G (i := 8) #[true, true, true, true, true, true, true, true, true, false, false] rfl (by kernel_rfl) (by kernel_rfl) (fun K hK => ?_)
    rw [if_pos (by rfl)]
    have hth1 := hT1d.there 0 2 (by simp)
    have hone2 : (#[.int .u32 16, .slice p2 1 c2] : Array Value).all (·.oneCell') = true := oneH 16 p2 1 c2
    refine wp_store_mid 35 _ _ rfl T1 0 #[.int .u32 16, .slice p2 1 c2] rfl rfl hth1 (HSZ.out.1 _ _) hone2 ?_
    have hS1 := store_row hT1d (D := #[.int .u32 16, .slice p2 1 c2]) rfl
    have hbu1 := (But.refl T1 wc).setCells [.int .u32 16, .slice p2 1 c2] 0
    have hbs1 := setCells_below T1 w.heap.size hT1w [.int .u32 16, .slice p2 1 c2] 0 _ _ hb4
    change K _ (wc.setCells T1 0 [.int .u32 16, .slice p2 1 c2])
    change RowIs (wc.setCells T1 0 [.int .u32 16, .slice p2 1 c2]) T1 _ _ at hS1
    have hT2e := hT2d.but hbu1 hT21
    have hT4e := hT4.but hbu1 (fun q => hT14 q.symm)
    have hO6 : OwnH _ (wc.setCells T1 0 [.int .u32 16, .slice p2 1 c2]) _ hv1 := hO5.but hT1d hbu1 (by decide)
    generalize wc.setCells T1 0 [.int .u32 16, .slice p2 1 c2] = wx at *
    clear hth1 hbu1 hT2d hT4 hT1d hO5 hb4
    refine hK.out _ _ trivial ?_
    clear hK K
    try simp only [Act.put]
    refine step_N (i := 9) #[true, true, true, true, true, true, true, true, true, true, false] rfl (by kernel_rfl) (by kernel_rfl) (fun K hK => ?_)
    rw [if_pos (by rfl)]
    have hth4 := hT4e.there 0 34 (by decide)
    have hth4' : wx.there T4 0 KA.toArray.size := by rw [show KA.toArray.size = 34 from List.size_toArray.trans hklA]; exact hth4
    refine wp_store_mid 38 _ _ rfl T4 0 KA.toArray rfl rfl hth4' hszA honA ?_
    have hS4 := store_row hT4e (D := KA.toArray) (by rw [List.size_toArray, hklA]; rfl)
    have hbu4 := (But.refl T4 wx).setCells KA.toArray.toList 0
    have hbs4 := setCells_below T4 w.heap.size hT4w KA.toArray.toList 0 _ _ hbs1
    have hT1f := hS1.but hbu4 hT14
    have hT2f := hT2e.but hbu4 hT24
    have hO7 := hO6.but hT4e hbu4 (by decide)
    generalize wx.setCells T4 0 KA.toArray.toList = wy at *
    refine hK.out _ _ trivial ?_
    clear hK K
    try simp only [Act.put]
    refine take_N (i := 10) (v := ?_) (some 5) #[true, true, true, true, true, true, true, true, true, true, true] rfl rfl (by kernel_rfl) (by kernel_rfl) (by kernel_rfl) (by kernel_rfl) (fun _ _ _ h => h) trivial (Or.inl ⟨by rfl, ?_⟩) ?_
    rotate_left
    ·intro w_ hSw_; go_simp; try with_reducible rfl
    try simp only [Act.put, List.setIfInBounds_toArray]
    refine wpAnyH_done (by kernel_rfl) ?_ _
    have HF := Lib.hid (And.intro hT1f (And.intro hT2f (And.intro hS4 (And.intro hT14 (And.intro hT24 (And.intro hT4w (And.intro hO7 hbs4)))))))
    clear hT1f hT2f hS4 hT14 hT24 hT4w hO7 hbs4 hS1 hT2e hT4e hO6 hbs1 hth4 hth4' hbu4
    go_wp2_with fail
    go_meet
    case rel => exact ⟨T4, p2, c2, rfl, rfl, HF.out.1, HF.out.2.1, HF.out.2.2.1, HF.out.2.2.2.1, HF.out.2.2.2.2.1, HF.out.2.2.2.2.2.1, ⟨_, HF.out.2.2.2.2.2.2.1⟩, HF.out.2.2.2.2.2.2.2⟩
  ·rw [if_pos (by rfl)]
   go_simp
   have hT4 := RowIs.new wu 38 (kidV (kidH 0 zeroH)).toArray
   have hal := (Below.refl _ wu).alloc (Nat.le_refl _) (.cells (kidV (kidH 0 zeroH)).toArray 38)
   change K _ (wu.alloc (.cells (kidV (kidH 0 zeroH)).toArray 38))
   have hT14 : T1 ≠ wu.heap.size := Nat.ne_of_lt hT1d.lt
   have hT24 : T2 ≠ wu.heap.size := Nat.ne_of_lt hT2d.lt
   have hT4w : w.heap.size ≤ wu.heap.size := hb4.size
   generalize wu.alloc (.cells (kidV (kidH 0 zeroH)).toArray 38) = wa at *
   replace hT1d := hT1d.below hal hT1d.lt
   replace hT2d := hT2d.below hal hT2d.lt
   replace hb4 := hb4.trans (hal.mono hb4.size)
   replace hO4 := hO4.below hal (Nat.le_refl _)
   generalize wu.heap.size = T4 at *
   clear hal
   refine hK.out _ _ hT1d ?_
   clear hK K
   try simp only [Act.put, List.setIfInBounds_toArray, List.set_cons_zero, List.set_cons_succ]
   refine step_G (i := 1) #[true, true, false, false, false, false, false, true, false, false, false] rfl (by kernel_rfl) (by kernel_rfl) (fun K hK => ?_)
   rw [if_pos (by rfl)]
   go_simp
   refine (leaf_calls aS wa).mono ?_
   rintro e wb ⟨rl, rfl, hnl, hbl⟩
   replace hT1d := hT1d.below hbl hT1d.lt
   replace hT2d := hT2d.below hbl hT2d.lt
   replace hO4 := hO4.below hbl (Nat.le_refl _)
   replace hb4 := hb4.trans (hbl.mono hb4.size)
   replace hT4 := hT4.below hbl hT4.lt
   refine hK.out _ _ hT1d ?_
   clear hK K
   try simp only [Act.put, List.setIfInBounds_toArray, List.set_cons_zero, List.set_cons_succ]
   refine step_G (i := 2) #[true, true, true, false, false, false, false, true, false, false, false] rfl (by kernel_rfl) (by kernel_rfl) (fun K hK => ?_)
   rw [if_pos (by rfl)]
   go_simp
   refine (put_well _ hv1 rl leafA wb (hO4.heap right1) hnl leaf_fit (by decide) right1 put1).mono ?_
   rintro e wc ⟨p2, c2, rfl, hO5, hbp⟩
   rw [← HKA.out]
   replace hT1d := hT1d.below hbp hT1d.lt
   replace hT2d := hT2d.below hbp hT2d.lt
   replace hb4 := hb4.trans (hbp.mono hb4.size)
   clear hO4 hnl
   replace hT4 := hT4.below hbp hT4.lt
   refine hK.out _ _ hT1d ?_
   clear hK K
   try simp only [Act.put, List.setIfInBounds_toArray, List.set_cons_zero, List.set_cons_succ]
   refine takep_G (i := 3) (v := ?_) (some 25) #[true, true, true, true, false, false, false, true, false, false, false] rfl rfl (by kernel_rfl) (by kernel_rfl) (by kernel_rfl) (by kernel_rfl) (fun _ _ _ h => h) (by kernel_rfl) hT1d (Or.inl ⟨by rfl, ?_⟩) ?_
   rotate_left
   ·intro w_ hSw_; go_simp; try with_reducible rfl
   try simp only [Act.put, List.setIfInBounds_toArray, List.set_cons_zero, List.set_cons_succ]
   refine takep_G (i := 4) (v := ?_) (some 29) #[true, true, true, true, true, false, false, true, false, false, false] rfl rfl (by kernel_rfl) (by kernel_rfl) (by kernel_rfl) (by kernel_rfl) (fun _ _ _ h => h) (by kernel_rfl) hT1d (Or.inl ⟨by rfl, ?_⟩) ?_
   rotate_left
   ·intro w_ hSw_; go_simp; try with_reducible rfl
   try simp only [Act.put, List.setIfInBounds_toArray, List.set_cons_zero, List.set_cons_succ]
   refine takep_G (i := 5) (v := ?_) (some 30) #[true, true, true, true, true, true, false, true, false, false, false] rfl rfl (by kernel_rfl) (by kernel_rfl) (by kernel_rfl) (by kernel_rfl) (fun _ _ _ h => h) (by kernel_rfl) hT1d (Or.inl ⟨by rfl, ?_⟩) ?_
   rotate_left
   ·intro w_ hSw_; go_simp; try with_reducible rfl
   try simp only [Act.put, List.setIfInBounds_toArray, List.set_cons_zero, List.set_cons_succ]
   refine takep_G (i := 6) (v := ?_) (some 31) #[true, true, true, true, true, true, true, true, false, false, false] rfl rfl (by kernel_rfl) (by kernel_rfl) (by kernel_rfl) (by kernel_rfl) (fun _ _ _ h => h) (by kernel_rfl) hT1d (Or.inl ⟨by rfl, ?_⟩) ?_
   rotate_left
   ·intro w_ hSw_; go_simp; try with_reducible rfl
   try simp only [Act.put, List.setIfInBounds_toArray, List.set_cons_zero, List.set_cons_succ]
   refine gate_G (i := 8) #[true, true, true, true, true, true, true, true, true, false, false] rfl (by kernel_rfl) (by kernel_rfl) (fun K hK => ?_)
   rw [if_pos (by rfl)]
   have hth1 := hT1d.there 0 2 (by simp)
   have hone2 : (#[.int .u32 16, .slice p2 1 c2] : Array Value).all (·.oneCell') = true := oneH 16 p2 1 c2
   refine wp_store_mid 35 _ _ rfl T1 0 #[.int .u32 16, .slice p2 1 c2] rfl rfl hth1 (HSZ.out.1 _ _) hone2 ?_
   have hS1 := store_row hT1d (D := #[.int .u32 16, .slice p2 1 c2]) rfl
   have hbu1 := (But.refl T1 wc).setCells [.int .u32 16, .slice p2 1 c2] 0
   have hbs1 := setCells_below T1 w.heap.size hT1w [.int .u32 16, .slice p2 1 c2] 0 _ _ hb4
   change K _ (wc.setCells T1 0 [.int .u32 16, .slice p2 1 c2])
   change RowIs (wc.setCells T1 0 [.int .u32 16, .slice p2 1 c2]) T1 _ _ at hS1
   have hT2e := hT2d.but hbu1 hT21
   have hT4e := hT4.but hbu1 (fun q => hT14 q.symm)
   have hO6 : OwnH _ (wc.setCells T1 0 [.int .u32 16, .slice p2 1 c2]) _ hv1 := hO5.but hT1d hbu1 (by decide)
   generalize wc.setCells T1 0 [.int .u32 16, .slice p2 1 c2] = wx at *
   clear hth1 hbu1 hT2d hT4 hT1d hO5 hb4
   refine hK.out _ _ trivial ?_
   clear hK K
   try simp only [Act.put]
   refine step_N (i := 9) #[true, true, true, true, true, true, true, true, true, true, false] rfl (by kernel_rfl) (by kernel_rfl) (fun K hK => ?_)
   rw [if_pos (by rfl)]
   have hth4 := hT4e.there 0 34 (by decide)
   have hth4' : wx.there T4 0 KA.toArray.size := by rw [show KA.toArray.size = 34 from List.size_toArray.trans hklA]; exact hth4
   refine wp_store_mid 38 _ _ rfl T4 0 KA.toArray rfl rfl hth4' hszA honA ?_
   have hS4 := store_row hT4e (D := KA.toArray) (by rw [List.size_toArray, hklA]; rfl)
   have hbu4 := (But.refl T4 wx).setCells KA.toArray.toList 0
   have hbs4 := setCells_below T4 w.heap.size hT4w KA.toArray.toList 0 _ _ hbs1
   have hT1f := hS1.but hbu4 hT14
   have hT2f := hT2e.but hbu4 hT24
   have hO7 := hO6.but hT4e hbu4 (by decide)
   generalize wx.setCells T4 0 KA.toArray.toList = wy at *
   refine hK.out _ _ trivial ?_
   clear hK K
   try simp only [Act.put]
   refine take_N (i := 10) (v := ?_) (some 5) #[true, true, true, true, true, true, true, true, true, true, true] rfl rfl (by kernel_rfl) (by kernel_rfl) (by kernel_rfl) (by kernel_rfl) (fun _ _ _ h => h) trivial (Or.inl ⟨by rfl, ?_⟩) ?_
   rotate_left
   ·intro w_ hSw_; go_simp; try with_reducible rfl
   try simp only [Act.put, List.setIfInBounds_toArray]
   refine wpAnyH_done (by kernel_rfl) ?_ _
   have HF := Lib.hid (And.intro hT1f (And.intro hT2f (And.intro hS4 (And.intro hT14 (And.intro hT24 (And.intro hT4w (And.intro hO7 hbs4)))))))
   clear hT1f hT2f hS4 hT14 hT24 hT4w hO7 hbs4 hS1 hT2e hT4e hO6 hbs1 hth4 hth4' hbu4
   go_wp2_with fail
   go_meet
   case rel => exact ⟨T4, p2, c2, rfl, rfl, HF.out.1, HF.out.2.1, HF.out.2.2.1, HF.out.2.2.2.1, HF.out.2.2.2.2.1, HF.out.2.2.2.2.2.1, ⟨_, HF.out.2.2.2.2.2.2.1⟩, HF.out.2.2.2.2.2.2.2⟩
 case rest =>
  obtain ⟨T4, p2, c2, rfl, rfl, hT1, hT2, hT4, hT14, hT24, hT4w, ⟨B2, hO⟩, hb⟩ := hcut
  clear HI4 HW1 HW2 HW3 HW4 hth1 hth2' hsz1 hone1
  have hT21 : T2 ≠ T1 := (Nat.ne_of_lt hlt12).symm
  have hT2w : w.heap.size ≤ T2 := Nat.le_trans hT1w (Nat.le_of_lt hlt12)
  obtain ⟨KC, hKC⟩ : ∃ KC, KC = kidV kidA := ⟨_, rfl⟩
  have hklC : KC.length = 34 := by rw [hKC]; exact kidV_length (sha_length _)
  have HKC := Lib.hid hKC
  have honC : KC.toArray.all (·.oneCell') = true := by rw [hKC]; exact kidV_one _
  have hszC := HSZ.out.2 KC.toArray (List.size_toArray.trans hklC)
  have c20 : wc.cell? ⟨T2, 0, none⟩ = some (.string ⟨#[]⟩) := by rw [hT2.cell, HKA.out]; rfl
  have f20 := hT2.free 0
  have hT2b : RowIs (wc.setCell ⟨T2, 0, none⟩ (.string aS)) T2 38 KC.toArray := by
   have := hT2.set 0 (.string aS)
   rw [HKA.out, List.setIfInBounds_toArray] at this
   rw [hKC]; exact this
  have hbu := (But.refl T2 wc).setCell 0 (.string aS)
  have hT1b := hT1.but hbu (fun q => hT21 q.symm)
  have hT4b := hT4.but hbu (fun q => hT24 q.symm)
  have hOb := hO.but hT2 hbu (by decide)
  have hbb : Below w.heap.size w (wc.setCell ⟨T2, 0, none⟩ (.string aS)) := hb.setCell (p := ⟨T2, 0, none⟩) hT2w _
  obtain ⟨w5, hw5⟩ : ∃ w5, w5 = wc.setCell ⟨T2, 0, none⟩ (.string aS) := ⟨_, rfl⟩
  rw [← hw5] at hT2b hT1b hT4b hOb hbb
  have hX : RowIs (w5.alloc (.cells KC.toArray 38)) w5.heap.size 38 KC.toArray := RowIs.new _ _ _
  have hal : Below w5.heap.size w5 (w5.alloc (.cells KC.toArray 38)) := (Below.refl _ _).alloc (Nat.le_refl _) _
  obtain ⟨w6, hw6⟩ : ∃ w6, w6 = w5.alloc (.cells KC.toArray 38) := ⟨_, rfl⟩
  rw [← hw6] at hX hal
  obtain ⟨iR0, hR, hRz0, hRz1, hRz2⟩ := info_parts info_kidH
  have hT1c := hT1b.below hal hT1b.lt
  have hT2c := hT2b.below hal hT2b.lt
  have hT4c := hT4b.below hal hT4b.lt
  have hOc := hOb.below hal (Nat.le_refl _)
  have hbc := hbb.trans (hal.mono hbb.size)
  have hnd : NodeAt w6.heap.size w6 (.agg #[.int .u8 2, .slice none 0 0, .slice (some ⟨w5.heap.size, 0, none⟩) 1 1, .slice none 0 0]) topA := by
   refine ⟨top_wf, _, _, _, rfl, sl_nil _ _ _ _, ⟨_, 1, rfl, show (1 : Nat) ≤ maxLen by (unfold maxLen; omega), fun _ => ⟨w5.heap.size, 0, rfl, hX.lt, fun i hi => ?_⟩⟩, sl_nil _ _ _ _⟩
   obtain rfl : i = 0 := by
    have : i < 1 := hi
    omega
   intro j u hj
   have hj2 : KC[j]? = some u := by rw [hKC]; exact hj
   rw [hX.cell]
   simpa using hj2
  have hput2 := put_well (.agg #[.int .u32 16, .slice p2 1 c2]) hv1 _ topA w6 (hOc.heap right1) hnd top_fit (by decide) right1 put2
  have HW5 := Lib.hid hw5
  have HW6 := Lib.hid hw6
  have hszT1 := HSZ.out.1 (.int .u32 16) (.slice p2 1 c2)
  have HI6 := Lib.hid (And.intro hT1c (And.intro hT2c (And.intro hT4c hbc)))
  clear hw6 hT1 hT4 hO hb hT1c hT2c hT4c hOc hbc hX hal hnd hOb hbb hT4b hbu hT2 hKC
  generalize hX5 : w5.heap.size = X5 at *
  clear hw5
  have hw5g : wc.setCell ⟨T2, 0, none⟩ (.string ⟨#[97]⟩) = w5 := HW5.out.symm
  go_wp2_with (first | (refine wpList_load_row rfl 35 _ rfl T1 rfl 35 #[.int .u32 16, .slice p2 1 c2] (0, 0) _ hT1b Tryz.underlying35 rfl hszT1 ?_) | (refine wpList_load_row rfl 38 _ rfl T2 rfl 38 KC.toArray (0, 0) _ hT2b Tryz.underlying38 rfl hszC ?_) | (refine wpList_buildSlice_oneH rfl 25 38 _ rfl Tryz.underlying25 iR0 hR _ hRz0 34 hRz1 KC.toArray rfl (by rw [List.size_toArray]; exact hklC) (by omega) (by omega) ?_; refine wpList_world HW6.out ?_))
  refine hput2.mono ?_
  rintro e w7 ⟨p3, c3, rfl, hO7, hb7⟩
  obtain ⟨hT1, hT2, hT4, hb⟩ := HI6.out
  replace hT1 := hT1.below hb7 hT1.lt
  replace hT2 := hT2.below hb7 hT2.lt
  replace hT4 := hT4.below hb7 hT4.lt
  replace hb := hb.trans (hb7.mono hb.size)
  obtain ⟨KB, hKB⟩ : ∃ KB, KB = kidV (kidH 3 (sha dB)) := ⟨_, rfl⟩
  rw [← hKB]
  have hklB : KB.length = 34 := by rw [hKB]; exact kidV_length (sha_length _)
  have honB : KB.toArray.all (·.oneCell') = true := by rw [hKB]; exact kidV_one _
  have hszB := HSZ.out.2 KB.toArray (List.size_toArray.trans hklB)
  have cb1 : KB.toArray[1]? = some (.int .u32 3) := by rw [hKB]; rfl
  have cc1' : KC.toArray[1]? = some (.int .u32 2) := by rw [HKC.out]; rfl
  have ca1 : KA.toArray[1]? = some (.int .u32 2) := by rw [HKA.out]; rfl
  obtain ⟨W8, hW8⟩ : ∃ W8, W8 = w7.alloc (.cells (kidV (kidH 0 zeroH)).toArray 38) := ⟨_, rfl⟩
  obtain ⟨W9, hW9⟩ : ∃ W9, W9 = W8.setCells T1 0 [.int .u32 16, .slice p3 2 c3] := ⟨_, rfl⟩
  obtain ⟨W10, hW10⟩ : ∃ W10, W10 = W9.setCells w7.heap.size 0 KB := ⟨_, rfl⟩
  have hal8 : Below w7.heap.size w7 W8 := by rw [hW8]; exact (Below.refl _ _).alloc (Nat.le_refl _) _
  have hT6a : RowIs W8 w7.heap.size 38 (kidV (kidH 0 zeroH)).toArray := by rw [hW8]; exact RowIs.new _ _ _
  have hT16 : T1 ≠ w7.heap.size := Nat.ne_of_lt hT1.lt
  have hT26 : T2 ≠ w7.heap.size := Nat.ne_of_lt hT2.lt
  have hT46 : T4 ≠ w7.heap.size := Nat.ne_of_lt hT4.lt
  have hT6w : w.heap.size ≤ w7.heap.size := hb.size
  have hT1a := hT1.below hal8 hT1.lt
  have hbu9 := (But.refl T1 W8).setCells [.int .u32 16, .slice p3 2 c3] 0
  have hT1b : RowIs W9 T1 35 #[.int .u32 16, .slice p3 2 c3] := by rw [hW9]; exact store_row hT1a (D := #[.int .u32 16, .slice p3 2 c3]) rfl
  rw [← hW9] at hbu9
  have hbu10 := (But.refl w7.heap.size W9).setCells KB 0
  have hT6b := hT6a.but hbu9 (fun q => hT16 q.symm)
  have hT6c : RowIs W10 w7.heap.size 38 KB.toArray := by rw [hW10]; exact store_row hT6b (D := KB.toArray) (by rw [List.size_toArray, hklB]; rfl)
  rw [← hW10] at hbu10
  have hT1c := hT1b.but hbu10 hT16
  have hT2c := ((hT2.below hal8 hT2.lt).but hbu9 hT21).but hbu10 hT26
  have hT4c := ((hT4.below hal8 hT4.lt).but hbu9 (fun q => hT14 q.symm)).but hbu10 hT46
  have hO10 := ((hO7.below hal8 (Nat.le_refl _)).but hT1a hbu9 (by decide)).but hT6b hbu10 (by decide)
  have hb10 : Below w.heap.size w W10 := by
   rw [hW10, hW9]
   exact setCells_below _ _ hT6w _ 0 _ _ (setCells_below _ _ hT1w _ 0 _ _ (hb.trans (hal8.mono hb.size)))
  have hth1 := hT1a.there 0 2 (by simp)
  have hone1 : (#[.int .u32 16, .slice p3 2 c3] : Array Value).all (·.oneCell') = true := oneH 16 p3 2 c3
  have hsz1 := HSZ.out.1 (.int .u32 16) (.slice p3 2 c3)
  have hth6 := hT6b.there 0 34 (by decide)
  have hth6' : W9.there w7.heap.size 0 KB.toArray.size := by rw [show KB.toArray.size = 34 from List.size_toArray.trans hklB]; exact hth6
  have HW8 := Lib.hid hW8
  have HW9 := Lib.hid hW9
  have HW10 := Lib.hid hW10
  have HI := Lib.hid (And.intro hT1c (And.intro hT2c (And.intro hT4c (And.intro hT6c (And.intro hO10 hb10)))))
  have c61 : W10.cell? ⟨w7.heap.size, 1, none⟩ = some (.int .u32 3) := by rw [hT6c.cell]; exact cb1
  have hhold := hold_well (.agg #[.int .u32 16, .slice p3 2 c3]) hv3 3 W10 (hO10.heap right3) right3 hold3
  clear hput2 hO7 hb7 hT1 hT2 hT4 hb hKB hW8 hW9 hW10 hal8 hT6a hT1a hbu9 hT1b hbu10 hT6b hT6c hT2c hT4c hO10 hb10 hth6 HI6
  generalize hT6 : w7.heap.size = T6 at *
  go_wp2_with (first | (refine wpList_world HW8.out ?_) | (refine wpList_store_mid rfl 35 _ _ rfl T1 0 #[.int .u32 16, .slice p3 2 c3] rfl rfl hth1 hsz1 hone1 ?_; refine wpList_world HW9.out ?_) | (refine wpList_store_mid rfl 38 _ _ rfl T6 0 KB.toArray rfl rfl hth6' hszB honB ?_; refine wpList_world HW10.out ?_) | (refine wpList_load_row rfl 35 _ rfl T1 rfl 35 #[.int .u32 16, .slice p3 2 c3] (0, 0) _ hT1c Tryz.underlying35 rfl hsz1 ?_))
  refine hhold.mono ?_
  rintro e w11 ⟨p4, c4, rfl, hO11, hb11⟩
  obtain ⟨hT1, hT2, hT4, hT6r, _, hb⟩ := HI.out
  replace hT1 := hT1.below hb11 hT1.lt
  replace hT2 := hT2.below hb11 hT2.lt
  replace hT4 := hT4.below hb11 hT4.lt
  replace hT6r := hT6r.below hb11 hT6r.lt
  replace hb := hb.trans (hb11.mono hb.size)
  obtain ⟨W12, hW12⟩ : ∃ W12, W12 = w11.setCells T1 0 [.int .u32 16, .slice p4 2 c4] := ⟨_, rfl⟩
  have hbu := (But.refl T1 w11).setCells [.int .u32 16, .slice p4 2 c4] 0
  rw [← hW12] at hbu
  have hth1 := hT1.there 0 2 (by simp)
  have hone4 : (#[.int .u32 16, .slice p4 2 c4] : Array Value).all (·.oneCell') = true := oneH 16 p4 2 c4
  have hsz4 := HSZ.out.1 (.int .u32 16) (.slice p4 2 c4)
  have hT1b : RowIs W12 T1 35 #[.int .u32 16, .slice p4 2 c4] := by rw [hW12]; exact store_row hT1 (D := #[.int .u32 16, .slice p4 2 c4]) rfl
  have hT2b := hT2.but hbu hT21
  have hT4b := hT4.but hbu (fun q => hT14 q.symm)
  have hT6b := hT6r.but hbu (fun q => hT16 q.symm)
  have hO12 := hO11.but hT1 hbu (by decide)
  have hb12 : Below w.heap.size w W12 := by rw [hW12]; exact setCells_below _ _ hT1w _ 0 _ _ hb
  have c61b : W12.cell? ⟨T6, 1, none⟩ = some (.int .u32 3) := by rw [hT6b.cell]; exact cb1
  have hfree := free_well (.agg #[.int .u32 16, .slice p4 2 c4]) hv4 W12 (hO12.heap right4) right4
  have hfv : ((hv4.size : Int) - 2 - (hv4.cells.length : Int)) = 12 := rfl
  rw [hfv] at hfree
  have HW12 := Lib.hid hW12
  have HI2 := Lib.hid (And.intro hT1b (And.intro hT2b (And.intro hT4b (And.intro hT6b (And.intro hO12 hb12)))))
  clear hhold hO11 hb11 hT1 hT2 hT4 hT6r hb hW12 hbu hT2b hT4b hT6b hO12 hb12 HI c61 hfv hT1c hsz1 hone1 HW8 HW9 HW10 hth6'
  go_wp2_with (first | (refine wpList_store_mid rfl 35 _ _ rfl T1 0 #[.int .u32 16, .slice p4 2 c4] rfl rfl hth1 hsz4 hone4 ?_; refine wpList_world HW12.out ?_) | (refine wpList_load_row rfl 35 _ rfl T1 rfl 35 #[.int .u32 16, .slice p4 2 c4] (0, 0) _ hT1b Tryz.underlying35 rfl hsz4 ?_))
  refine hfree.mono ?_
  rintro e w13 ⟨rfl, hb13⟩
  obtain ⟨hT1, hT2, hT4, hT6r, hO, hb⟩ := HI2.out
  replace hT1 := hT1.below hb13 hT1.lt
  replace hT2 := hT2.below hb13 hT2.lt
  replace hT4 := hT4.below hb13 hT4.lt
  replace hT6r := hT6r.below hb13 hT6r.lt
  replace hO := hO.below hb13 (Nat.le_refl _)
  replace hb := hb.trans (hb13.mono hb.size)
  have c21 : w13.cell? ⟨T2, 1, none⟩ = some (.int .u32 2) := by rw [hT2.cell]; exact cc1'
  have hdrop := drop_well (.agg #[.int .u32 16, .slice p4 2 c4]) hv4 2 w13 (hO.heap right4) right4 drop42
  have HI3 := Lib.hid (And.intro hT1 (And.intro hT2 (And.intro hT4 (And.intro hT6r (And.intro hO hb)))))
  clear hfree hb13 hT2 hT4 hT6r hO hb HI2 hT1b hth1 HW12 c61b
  go_wp2_with (refine wpList_load_row rfl 35 _ rfl T1 rfl 35 #[.int .u32 16, .slice p4 2 c4] (0, 0) _ hT1 Tryz.underlying35 rfl hsz4 ?_)
  refine hdrop.mono ?_
  rintro e w14 ⟨p5, c5, rfl, hO14, hb14⟩
  clear hT1
  obtain ⟨hT1, hT2, hT4, hT6r, hO, hb⟩ := HI3.out
  replace hT1 := hT1.below hb14 hT1.lt
  replace hT2 := hT2.below hb14 hT2.lt
  replace hT4 := hT4.below hb14 hT4.lt
  replace hT6r := hT6r.below hb14 hT6r.lt
  replace hO := hO.below hb14 (Nat.le_refl _)
  replace hb := hb.trans (hb14.mono hb.size)
  obtain ⟨W15, hW15⟩ : ∃ W15, W15 = w14.alloc (.cells #[.int .u32 0, .slice none 0 0] 35) := ⟨_, rfl⟩
  obtain ⟨W16, hW16⟩ : ∃ W16, W16 = W15.setCells w14.heap.size 0 [.int .u32 16, .slice p5 2 c5] := ⟨_, rfl⟩
  have hal : Below w14.heap.size w14 W15 := by rw [hW15]; exact (Below.refl _ _).alloc (Nat.le_refl _) _
  have hV : RowIs W15 w14.heap.size 35 #[.int .u32 0, .slice none 0 0] := by rw [hW15]; exact RowIs.new _ _ _
  have hal2 : Below w14.heap.size w14 W16 := by rw [hW16]; exact setCells_below _ _ (Nat.le_refl _) _ 0 _ _ hal
  have hth11 := hV.there 0 2 (by simp)
  have hone5 : (#[.int .u32 16, .slice p5 2 c5] : Array Value).all (·.oneCell') = true := oneH 16 p5 2 c5
  have hsz5 := HSZ.out.1 (.int .u32 16) (.slice p5 2 c5)
  replace hT1 := hT1.below hal2 hT1.lt
  replace hT2 := hT2.below hal2 hT2.lt
  replace hT4 := hT4.below hal2 hT4.lt
  replace hT6r := hT6r.below hal2 hT6r.lt
  replace hO := hO.below hal2 (Nat.le_refl _)
  replace hb := hb.trans (hal2.mono hb.size)
  have c61 : W16.cell? ⟨T6, 1, none⟩ = some (.int .u32 3) := by rw [hT6r.cell]; exact cb1
  have hget := get_well (.agg #[.int .u32 16, .slice p4 2 c4]) hv4 3 W16 (hO.heap right4) right4 find43
  have HW15 := Lib.hid hW15
  have HW16 := Lib.hid hW16
  have HI4 := Lib.hid (And.intro hT1 (And.intro hT2 (And.intro hT4 (And.intro hT6r (And.intro hO hb)))))
  clear hdrop hO14 hb14 hT2 hT4 hT6r hO hb HI3 hW15 hW16 hal hV hal2 c21
  generalize hT11 : w14.heap.size = T11 at *
  go_wp2_with (first | (refine wpList_world HW15.out ?_) | (refine wpList_store_mid rfl 35 _ _ rfl T11 0 #[.int .u32 16, .slice p5 2 c5] rfl rfl hth11 hsz5 hone5 ?_; refine wpList_world HW16.out ?_) | (refine wpList_load_row rfl 35 _ rfl T1 rfl 35 #[.int .u32 16, .slice p4 2 c4] (0, 0) _ hT1 Tryz.underlying35 rfl hsz4 ?_))
  refine hget.mono ?_
  rintro e w17 ⟨r17, rfl, hn17, hb17⟩
  rw [nodeBB] at hn17
  obtain ⟨q1, k1, q2, k2, q3, k3, rfl⟩ := hn17.shapeN
  clear hT1
  obtain ⟨hT1, hT2, hT4, hT6r, hO, hb⟩ := HI4.out
  replace hT1 := hT1.below hb17 hT1.lt
  replace hT2 := hT2.below hb17 hT2.lt
  replace hT4 := hT4.below hb17 hT4.lt
  replace hT6r := hT6r.below hb17 hT6r.lt
  replace hO := hO.below hb17 (Nat.le_refl _)
  replace hb := hb.trans (hb17.mono hb.size)
  obtain ⟨W18, hW18⟩ : ∃ W18, W18 = w17.alloc (.cells #[.int .u8 0, .slice none 0 0, .slice none 0 0, .slice none 0 0] 28) := ⟨_, rfl⟩
  obtain ⟨W19, hW19⟩ : ∃ W19, W19 = W18.setCells w17.heap.size 0 [.int .u8 2, .slice q1 0 k1, .slice q2 1 k2, .slice q3 0 k3] := ⟨_, rfl⟩
  have hal : Below w17.heap.size w17 W18 := by rw [hW18]; exact (Below.refl _ _).alloc (Nat.le_refl _) _
  have hV : RowIs W18 w17.heap.size 28 #[.int .u8 0, .slice none 0 0, .slice none 0 0, .slice none 0 0] := by rw [hW18]; exact RowIs.new _ _ _
  have hal2 : Below w17.heap.size w17 W19 := by rw [hW19]; exact setCells_below _ _ (Nat.le_refl _) _ 0 _ _ hal
  have hN13 : RowIs W19 w17.heap.size 28 #[.int .u8 2, .slice q1 0 k1, .slice q2 1 k2, .slice q3 0 k3] := by rw [hW19]; exact store_row hV (D := #[.int .u8 2, .slice q1 0 k1, .slice q2 1 k2, .slice q3 0 k3]) rfl
  have hT113 : T1 ≠ w17.heap.size := Nat.ne_of_lt hT1.lt
  have hth13 := hV.there 0 4 (by decide)
  have hone13 : (#[.int .u8 2, .slice q1 0 k1, .slice q2 1 k2, .slice q3 0 k3] : Array Value).all (·.oneCell') = true := all_oneCell_toArray (cs := [.int .u8 2, .slice q1 0 k1, .slice q2 1 k2, .slice q3 0 k3]) fun v hv => by
   simp only [List.mem_cons, List.not_mem_nil, or_false] at hv
   rcases hv with rfl | rfl | rfl | rfl <;> rfl
  have hsz13 : (Tryz.prog.info? 28).map (·.size) = some (#[.int .u8 2, .slice q1 0 k1, .slice q2 1 k2, .slice q3 0 k3] : Array Value).size := by kernel_rfl
  replace hT1 := hT1.below hal2 hT1.lt
  replace hT2 := hT2.below hal2 hT2.lt
  replace hT4 := hT4.below hal2 hT4.lt
  replace hT6r := hT6r.below hal2 hT6r.lt
  replace hO := hO.below hal2 (Nat.le_refl _)
  replace hb := hb.trans (hal2.mono hb.size)
  have c61 : W19.cell? ⟨T6, 1, none⟩ = some (.int .u32 3) := by rw [hT6r.cell]; exact cb1
  have hheld := held_well (.agg #[.int .u32 16, .slice p4 2 c4]) hv4 3 W19 (hO.heap right4) right4 find43
  rw [held43] at hheld
  have HW18 := Lib.hid hW18
  have HW19 := Lib.hid hW19
  have HI5 := Lib.hid (And.intro hT1 (And.intro hT2 (And.intro hT4 (And.intro hT6r (And.intro hO (And.intro hN13 hb))))))
  clear hget hn17 hb17 hT2 hT4 hT6r hO hb HI4 hW18 hW19 hal hV hal2 hth11 hsz5 hone5 HW15 HW16 hN13
  generalize hT13 : w17.heap.size = T13 at *
  go_wp2_with (first | (refine wpList_world HW18.out ?_) | (refine wpList_store_mid rfl 28 _ _ rfl T13 0 #[.int .u8 2, .slice q1 0 k1, .slice q2 1 k2, .slice q3 0 k3] rfl rfl hth13 hsz13 hone13 ?_; refine wpList_world HW19.out ?_) | (refine wpList_load_row rfl 35 _ rfl T1 rfl 35 #[.int .u32 16, .slice p4 2 c4] (0, 0) _ hT1 Tryz.underlying35 rfl hsz4 ?_))
  refine hheld.mono ?_
  rintro e w20 ⟨rfl, hb20⟩
  clear hT1 c61
  obtain ⟨hT1, hT2, hT4, hT6r, hO, hN13, hb⟩ := HI5.out
  replace hT1 := hT1.below hb20 hT1.lt
  replace hT2 := hT2.below hb20 hT2.lt
  replace hT4 := hT4.below hb20 hT4.lt
  replace hT6r := hT6r.below hb20 hT6r.lt
  replace hN13 := hN13.below hb20 hN13.lt
  replace hO := hO.below hb20 (Nat.le_refl _)
  replace hb := hb.trans (hb20.mono hb.size)
  have c61 : w20.cell? ⟨T6, 1, none⟩ = some (.int .u32 3) := by rw [hT6r.cell]; exact cb1
  have hdrop := drop_well (.agg #[.int .u32 16, .slice p4 2 c4]) hv4 3 w20 (hO.heap right4) right4 drop43
  have HI6 := Lib.hid (And.intro hT1 (And.intro hT2 (And.intro hT4 (And.intro hT6r (And.intro hN13 hb)))))
  clear hheld hb20 hT2 hT4 hT6r hO hN13 hb HI5 hth13 hsz13 hone13 HW18 HW19
  go_wp2_with (refine wpList_load_row rfl 35 _ rfl T1 rfl 35 #[.int .u32 16, .slice p4 2 c4] (0, 0) _ hT1 Tryz.underlying35 rfl hsz4 ?_)
  refine hdrop.mono ?_
  rintro e w21 ⟨p6, c6, rfl, _, hb21⟩
  clear hT1 c61
  obtain ⟨hT1, hT2, hT4, hT6r, hN13, hb⟩ := HI6.out
  replace hT1 := hT1.below hb21 hT1.lt
  replace hT2 := hT2.below hb21 hT2.lt
  replace hT4 := hT4.below hb21 hT4.lt
  replace hT6r := hT6r.below hb21 hT6r.lt
  replace hN13 := hN13.below hb21 hN13.lt
  replace hb := hb.trans (hb21.mono hb.size)
  obtain ⟨W22, hW22⟩ : ∃ W22, W22 = w21.setCells T1 0 [.int .u32 16, .slice p6 0 c6] := ⟨_, rfl⟩
  have hbu := (But.refl T1 w21).setCells [.int .u32 16, .slice p6 0 c6] 0
  rw [← hW22] at hbu
  have hth1 := hT1.there 0 2 (by simp)
  have hone6 : (#[.int .u32 16, .slice p6 0 c6] : Array Value).all (·.oneCell') = true := oneH 16 p6 0 c6
  have hsz6 := HSZ.out.1 (.int .u32 16) (.slice p6 0 c6)
  have hT1b : RowIs W22 T1 35 #[.int .u32 16, .slice p6 0 c6] := by rw [hW22]; exact store_row hT1 (D := #[.int .u32 16, .slice p6 0 c6]) rfl
  have d11 : W22.cell? ⟨T1, 1, none⟩ = some (.slice p6 0 c6) := by rw [hT1b.cell]; rfl
  have d21 : W22.cell? ⟨T2, 1, none⟩ = some (.int .u32 2) := by rw [(hT2.but hbu hT21).cell]; exact cc1'
  have d41 : W22.cell? ⟨T4, 1, none⟩ = some (.int .u32 2) := by rw [(hT4.but hbu (fun q => hT14 q.symm)).cell]; exact ca1
  have d61 : W22.cell? ⟨T6, 1, none⟩ = some (.int .u32 3) := by rw [(hT6r.but hbu (fun q => hT16 q.symm)).cell]; exact cb1
  have d13 : W22.cell? ⟨T13, 2, none⟩ = some (.slice q2 1 k2) := by rw [(hN13.but hbu (fun q => hT113 q.symm)).cell]; rfl
  have hb22 : Below w.heap.size w W22 := by rw [hW22]; exact setCells_below _ _ hT1w _ 0 _ _ hb
  have HW22 := Lib.hid hW22
  have HF := Lib.hid hb22
  clear hdrop hb21 hT1 hT2 hT4 hT6r hN13 hb HI6 hW22 hbu hT1b hb22
  go_wp2_with (refine wpList_store_mid rfl 35 _ _ rfl T1 0 #[.int .u32 16, .slice p6 0 c6] rfl rfl hth1 hsz6 hone6 ?_; refine wpList_world HW22.out ?_)
  go_ret
  exact ⟨rfl, HF.out⟩

end Go.Proofs.YtimkklaidodkdaaGreatDoor
