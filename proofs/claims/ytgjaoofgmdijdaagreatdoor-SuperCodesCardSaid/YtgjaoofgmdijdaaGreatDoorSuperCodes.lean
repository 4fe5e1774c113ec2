/- cambiumlaw09.SuperCodes: walked. -/
import Derived.Test.YtgjaoofgmdijdaaGreatDoorSuperApart
import Derived.Test.YtgjaoofgmdijdaaGreatDoorRefSuper
namespace Go.Proofs.YtgjaoofgmdijdaaGreatDoor
open Go.RowKit

set_option maxRecDepth 20000 in
set_option maxHeartbeats 6400000 in
theorem codesS_calls (a : SupD) (s : ByteArray) (w : World) (ha : a.wf) (hs : s.size ≤ 140737488351232) :
    Calls Tryz.prog 3 #[.agg (supV a).toArray, .string s] w fun e w' => e = .returned (.bool true) ∧ Below w.heap.size w w' := by
  have hea := fun w' => encodeS_calls a ha w'
  have hra := fun w' => rencodeS_calls a ha w'
  have hdc := fun w' => decodeS_calls s w' hs
  have hrd := fun w' => rdecodeS_calls s w' hs
  have hck1 := fun w' => checkS_calls a w'
  have hck2 := fun w' => rcheckS_calls a w'
  have hsl1 := fun w' => slot_calls a w'
  have hsl2 := fun w' => rslot_calls a w'
  have hsA : (Tryz.prog.info? 26).map (·.size) = some (supV a).toArray.size := by rw [List.size_toArray, supV_length ha.2.2.2]; kernel_rfl
  have hwt := supL_wf s.data.toList
  have heqT : ∀ w', (binOp .eql 26 (.agg (supV (supL s.data.toList)).toArray) (.agg (supV (supL s.data.toList)).toArray)).run Tryz.prog w' = .ok (.bool true) w' := fun w' => by
    have := eql_sup (supL s.data.toList) (supL s.data.toList) hwt hwt w'
    rw [(supEq_iff _ _).2 rfl] at this
    exact this
  have hsT : (Tryz.prog.info? 26).map (·.size) = some (supV (supL s.data.toList)).toArray.size := by rw [List.size_toArray, supV_length hwt.2.2.2]; kernel_rfl
  have hoT := supV_one (supL s.data.toList)
  have hcT : (supV (supL s.data.toList)).toArray.size = 35 := by rw [List.size_toArray, supV_length hwt.2.2.2]
  generalize decES s.data.toList = DE at *
  generalize (supV (supL s.data.toList)).toArray = csT at *
  generalize checkS a = C1 at *
  generalize ((a.gen % 2 : Nat) : Int) = GE at *
  generalize (supV a).toArray = csA at *
  generalize strOf (encS a) = SE at *
  have hself : (SE.toList == SE.toList) = true := by simp
  clear ha hwt
  obtain ⟨W1, hW1⟩ : ∃ W1, W1 = w.alloc (.cells csA 26) := ⟨_, rfl⟩
  have hA1 : RowIs W1 w.heap.size 26 csA := by rw [hW1]; exact RowIs.new w _ _
  have hb1 : Below w.heap.size w W1 := by rw [hW1]; exact (Below.refl _ _).alloc (Nat.le_refl _) _
  have HW1 := Lib.hid hW1
  clear hW1
  go_enter Tryz.func3, Tryz.ntmps3
  go_wp2_with (first | (refine wpList_world HW1.out ?_) | (refine wpList_load_row rfl 26 _ rfl w.heap.size rfl 26 csA (0, 0) _ hA1 Tryz.underlying26 rfl hsA ?_))
  refine (hea W1).mono ?_
  rintro e w2 ⟨rfl, hq⟩
  have hA2 := hA1.below hq hA1.lt
  have hb2 := hb1.trans (hq.mono hb1.size)
  clear hq hA1 hb1 hea
  go_wp2_with (refine wpList_load_row rfl 26 _ rfl w.heap.size rfl 26 csA (0, 0) _ hA2 Tryz.underlying26 rfl hsA ?_)
  refine (hra w2).mono ?_
  rintro e w3 ⟨rfl, hq⟩
  have hA3 := hA2.below hq hA2.lt
  have hb3 := hb2.trans (hq.mono hb2.size)
  clear hq hA2 hb2 hra
  go_wp2_with fail
  refine (hdc w3).mono ?_
  rintro e w4 ⟨rfl, hq⟩
  have hA4 := hA3.below hq hA3.lt
  have hb4 := hb3.trans (hq.mono hb3.size)
  clear hq hA3 hb3 hdc
  obtain ⟨W5, W6, hW5, hW6, hT6, hq6, hthere6⟩ := alloc_fill w4 supZ csT 26 (by rw [hcT]; rfl)
  have hA6 := hA4.below hq6 hA4.lt
  have hb6 := hb4.trans (hq6.mono hb4.size)
  have HW5 := Lib.hid hW5
  have HW6 := Lib.hid hW6
  clear hW5 hW6 hq6 hA4 hb4
  generalize hG5 : w4.heap.size = G5 at *
  go_wp2_with (first | (refine wpList_world HW5.out ?_) | (refine wpList_store_mid rfl 26 _ _ rfl G5 0 csT rfl rfl hthere6 hsT hoT ?_; refine wpList_world HW6.out ?_))
  refine (hrd W6).mono ?_
  rintro e w7 ⟨rfl, hq⟩
  have hA7 := hA6.below hq hA6.lt
  have hT7 := hT6.below hq hT6.lt
  have hb7 := hb6.trans (hq.mono hb6.size)
  clear hq hA6 hT6 hb6 hrd hthere6 HW5 HW6 hG5
  obtain ⟨W8, WX, hW8, hWX, hUx, hq9, hthere9⟩ := alloc_fill w7 supZ csT 26 (by rw [hcT]; rfl)
  have hAx := hA7.below hq9 hA7.lt
  have hTx := hT7.below hq9 hT7.lt
  have hbx := hb7.trans (hq9.mono hb7.size)
  have HW8 := Lib.hid hW8
  have HWX := Lib.hid hWX
  clear hW8 hWX hq9 hA7 hT7 hb7
  generalize hG7 : w7.heap.size = G7 at *
  go_wp2_with (first | (refine wpList_world HW8.out ?_) | (refine wpList_store_mid rfl 26 _ _ rfl G7 0 csT rfl rfl hthere9 hsT hoT ?_; refine wpList_world HWX.out ?_))
  clear hthere9 HW8 HWX hG7
  refine wp_region_held_drew (S := fun w' => RowIs w' w.heap.size 26 csA ∧ RowIs w' G5 26 csT ∧ RowIs w' G7 26 csT) (by kernel_rfl) (And.intro hAx.drew (And.intro hTx.drew hUx.drew)) (fun hHeld => ?_)
  have hGcur := And.intro hAx.drew (And.intro hTx.drew hUx.drew)
  have hbcur : Below w.heap.size w WX.drew := Below.drew hbx
  clear hAx hTx hUx hbx
  generalize WX.drew = wv at *
  refine step_N (i := 0) #[true, false, false, false, false, false, false, false, false, false, false, false, false, false, false, false, false, false, false, false, false, false, false, false, false, false, false, false, false, false, false, false, false, false, false, false] rfl (by kernel_rfl) (by kernel_rfl) (fun K hK => ?_)
  rw [if_pos (by rfl)]
  go_simp
  refine (livesS_calls _).mono ?_
  rintro e l1 ⟨rfl, hql1⟩
  have hGl1 := And.intro (hGcur.1.below hql1 hGcur.1.lt) (And.intro (hGcur.2.1.below hql1 hGcur.2.1.lt) (hGcur.2.2.below hql1 hGcur.2.2.lt))
  replace hbcur := hbcur.trans (hql1.mono hbcur.size)
  clear hGcur hql1
  have hGcur := hGl1
  clear hGl1
  refine hK.out _ _ hGcur ?_
  clear hK K
  refine take_N (i := 1) (v := ?_) (some 34) #[true, true, false, false, false, false, false, false, false, false, false, false, false, false, false, false, false, false, false, false, false, false, false, false, false, false, false, false, false, false, false, false, false, false, false, false] rfl rfl (by kernel_rfl) (by kernel_rfl) (by kernel_rfl) (by kernel_rfl) (fun _ _ _ h => h) hGcur (Or.inl ⟨by rfl, ?_⟩) ?_
  rotate_left
  · intro w_ hSw_; go_simp; try with_reducible rfl
  try simp only [Act.put, List.setIfInBounds_toArray, List.set_cons_zero, List.set_cons_succ]
  refine take_N (i := 2) (v := ?_) (some 35) #[true, true, true, false, false, false, false, false, false, false, false, false, false, false, false, false, false, false, false, false, false, false, false, false, false, false, false, false, false, false, false, false, false, false, false, false] rfl rfl (by kernel_rfl) (by kernel_rfl) (by kernel_rfl) (by kernel_rfl) (fun _ _ _ h => h) hGcur (Or.inl ⟨by rfl, ?_⟩) ?_
  rotate_left
  · intro w_ hSw_; go_simp; try with_reducible rfl
  try simp only [Act.put, List.setIfInBounds_toArray, List.set_cons_zero, List.set_cons_succ]
  refine take_N (i := 3) (v := ?_) (some 36) #[true, true, true, true, false, false, false, false, false, false, false, false, false, false, false, false, false, false, false, false, false, false, false, false, false, false, false, false, false, false, false, false, false, false, false, false] rfl rfl (by kernel_rfl) (by kernel_rfl) (by kernel_rfl) (by kernel_rfl) (fun _ _ _ h => h) hGcur (Or.inl ⟨by rfl, ?_⟩) ?_
  rotate_left
  · intro w_ hSw_; go_simp; try with_reducible rfl
  try simp only [Act.put, List.setIfInBounds_toArray, List.set_cons_zero, List.set_cons_succ]
  refine take_N (i := 4) (v := ?_) (some 37) #[true, true, true, true, true, false, false, false, false, false, false, false, false, false, false, false, false, false, false, false, false, false, false, false, false, false, false, false, false, false, false, false, false, false, false, false] rfl rfl (by kernel_rfl) (by kernel_rfl) (by kernel_rfl) (by kernel_rfl) (fun _ _ _ h => h) hGcur (Or.inl ⟨by rfl, ?_⟩) ?_
  rotate_left
  · intro w_ hSw_; go_simp; try with_reducible rfl
  try simp only [Act.put, List.setIfInBounds_toArray, List.set_cons_zero, List.set_cons_succ]
  refine take_N (i := 5) (v := ?_) (some 38) #[true, true, true, true, true, true, false, false, false, false, false, false, false, false, false, false, false, false, false, false, false, false, false, false, false, false, false, false, false, false, false, false, false, false, false, false] rfl rfl (by kernel_rfl) (by kernel_rfl) (by kernel_rfl) (by kernel_rfl) (fun _ _ _ h => h) hGcur (Or.inl ⟨by rfl, ?_⟩) ?_
  rotate_left
  · intro w_ hSw_; go_simp; try with_reducible rfl
  try simp only [Act.put, List.setIfInBounds_toArray, List.set_cons_zero, List.set_cons_succ]
  refine take_N (i := 6) (v := ?_) (some 39) #[true, true, true, true, true, true, true, false, false, false, false, false, false, false, false, false, false, false, false, false, false, false, false, false, false, false, false, false, false, false, false, false, false, false, false, false] rfl rfl (by kernel_rfl) (by kernel_rfl) (by kernel_rfl) (by kernel_rfl) (fun _ _ _ h => h) hGcur (Or.inl ⟨by rfl, ?_⟩) ?_
  rotate_left
  · intro w_ hSw_; go_simp; try with_reducible rfl
  try simp only [Act.put, List.setIfInBounds_toArray, List.set_cons_zero, List.set_cons_succ]
  refine take_N (i := 7) (v := ?_) (some 40) #[true, true, true, true, true, true, true, true, false, false, false, false, false, false, false, false, false, false, false, false, false, false, false, false, false, false, false, false, false, false, false, false, false, false, false, false] rfl rfl (by kernel_rfl) (by kernel_rfl) (by kernel_rfl) (by kernel_rfl) (fun _ _ _ h => h) hGcur (Or.inl ⟨by rfl, ?_⟩) ?_
  rotate_left
  · intro w_ hSw_; go_simp; try with_reducible rfl
  try simp only [Act.put, List.setIfInBounds_toArray, List.set_cons_zero, List.set_cons_succ]
  refine take_N (i := 8) (v := ?_) (some 41) #[true, true, true, true, true, true, true, true, true, false, false, false, false, false, false, false, false, false, false, false, false, false, false, false, false, false, false, false, false, false, false, false, false, false, false, false] rfl rfl (by kernel_rfl) (by kernel_rfl) (by kernel_rfl) (by kernel_rfl) (fun _ _ _ h => h) hGcur (Or.inl ⟨by rfl, ?_⟩) ?_
  rotate_left
  · intro w_ hSw_; go_simp; try with_reducible rfl
  try simp only [Act.put, List.setIfInBounds_toArray, List.set_cons_zero, List.set_cons_succ]
  refine take_N (i := 9) (v := ?_) (some 42) #[true, true, true, true, true, true, true, true, true, true, false, false, false, false, false, false, false, false, false, false, false, false, false, false, false, false, false, false, false, false, false, false, false, false, false, false] rfl rfl (by kernel_rfl) (by kernel_rfl) (by kernel_rfl) (by kernel_rfl) (fun _ _ _ h => h) hGcur (Or.inl ⟨by rfl, ?_⟩) ?_
  rotate_left
  · intro w_ hSw_; go_simp; try with_reducible rfl
  try simp only [Act.put, List.setIfInBounds_toArray, List.set_cons_zero, List.set_cons_succ]
  refine take_N (i := 10) (v := ?_) (some 43) #[true, true, true, true, true, true, true, true, true, true, true, false, false, false, false, false, false, false, false, false, false, false, false, false, false, false, false, false, false, false, false, false, false, false, false, false] rfl rfl (by kernel_rfl) (by kernel_rfl) (by kernel_rfl) (by kernel_rfl) (fun _ _ _ h => h) hGcur (Or.inl ⟨by rfl, ?_⟩) ?_
  rotate_left
  · intro w_ hSw_; go_simp; try with_reducible rfl
  try simp only [Act.put, List.setIfInBounds_toArray, List.set_cons_zero, List.set_cons_succ]
  refine take_N (i := 11) (v := ?_) (some 44) #[true, true, true, true, true, true, true, true, true, true, true, true, false, false, false, false, false, false, false, false, false, false, false, false, false, false, false, false, false, false, false, false, false, false, false, false] rfl rfl (by kernel_rfl) (by kernel_rfl) (by kernel_rfl) (by kernel_rfl) (fun _ _ _ h => h) hGcur (Or.inl ⟨by rfl, ?_⟩) ?_
  rotate_left
  · intro w_ hSw_; go_simp; try with_reducible rfl
  try simp only [Act.put, List.setIfInBounds_toArray, List.set_cons_zero, List.set_cons_succ]
  refine take_N (i := 12) (v := .agg csT) (some 45) #[true, true, true, true, true, true, true, true, true, true, true, true, true, false, false, false, false, false, false, false, false, false, false, false, false, false, false, false, false, false, false, false, false, false, false, false] rfl rfl (by kernel_rfl) (by kernel_rfl) (by kernel_rfl) (by kernel_rfl) (fun _ _ _ h => h) hGcur (Or.inl ⟨by rfl, ?_⟩) ?_
  · intro w_ hSw_; exact exec_load_row 26 _ rfl G5 (by rfl) 26 csT (0, 0) _ hSw_.2.1 Tryz.underlying26 rfl hsT
  try simp only [Act.put, List.setIfInBounds_toArray, List.set_cons_zero, List.set_cons_succ]
  refine take_N (i := 13) (v := .agg csT) (some 46) #[true, true, true, true, true, true, true, true, true, true, true, true, true, true, false, false, false, false, false, false, false, false, false, false, false, false, false, false, false, false, false, false, false, false, false, false] rfl rfl (by kernel_rfl) (by kernel_rfl) (by kernel_rfl) (by kernel_rfl) (fun _ _ _ h => h) hGcur (Or.inl ⟨by rfl, ?_⟩) ?_
  · intro w_ hSw_; exact exec_load_row 26 _ rfl G7 (by rfl) 26 csT (0, 0) _ hSw_.2.2 Tryz.underlying26 rfl hsT
  try simp only [Act.put, List.setIfInBounds_toArray, List.set_cons_zero, List.set_cons_succ]
  refine take_N (i := 14) (v := .bool true) (some 47) #[true, true, true, true, true, true, true, true, true, true, true, true, true, true, true, false, false, false, false, false, false, false, false, false, false, false, false, false, false, false, false, false, false, false, false, false] rfl rfl (by kernel_rfl) (by kernel_rfl) (by kernel_rfl) (by kernel_rfl) (fun _ _ _ h => h) hGcur (Or.inl ⟨by rfl, ?_⟩) ?_
  · intro w_ hSw_; exact exec_eql rfl (by rfl) (by rfl) guard_sup (heqT _)
  try simp only [Act.put, List.setIfInBounds_toArray, List.set_cons_zero, List.set_cons_succ]
  refine take_N (i := 15) (v := ?_) (some 48) #[true, true, true, true, true, true, true, true, true, true, true, true, true, true, true, true, false, false, false, false, false, false, false, false, false, false, false, false, false, false, false, false, false, false, false, false] rfl rfl (by kernel_rfl) (by kernel_rfl) (by kernel_rfl) (by kernel_rfl) (fun _ _ _ h => h) hGcur (Or.inl ⟨by rfl, ?_⟩) ?_
  rotate_left
  · intro w_ hSw_; go_simp; try with_reducible rfl
  try simp only [Act.put, List.setIfInBounds_toArray, List.set_cons_zero, List.set_cons_succ]
  refine take_N (i := 16) (v := ?_) (some 49) #[true, true, true, true, true, true, true, true, true, true, true, true, true, true, true, true, true, false, false, false, false, false, false, false, false, false, false, false, false, false, false, false, false, false, false, false] rfl rfl (by kernel_rfl) (by kernel_rfl) (by kernel_rfl) (by kernel_rfl) (fun _ _ _ h => h) hGcur (Or.inl ⟨by rfl, ?_⟩) ?_
  rotate_left
  · intro w_ hSw_; go_simp; try with_reducible rfl
  try simp only [Act.put, List.setIfInBounds_toArray, List.set_cons_zero, List.set_cons_succ]
  refine take_N (i := 17) (v := ?_) (some 50) #[true, true, true, true, true, true, true, true, true, true, true, true, true, true, true, true, true, true, false, false, false, false, false, false, false, false, false, false, false, false, false, false, false, false, false, false] rfl rfl (by kernel_rfl) (by kernel_rfl) (by kernel_rfl) (by kernel_rfl) (fun _ _ _ h => h) hGcur (Or.inl ⟨by rfl, ?_⟩) ?_
  rotate_left
  · intro w_ hSw_; go_simp; try with_reducible rfl
  try simp only [Act.put, List.setIfInBounds_toArray, List.set_cons_zero, List.set_cons_succ]
  refine take_N (i := 18) (v := ?_) (some 51) #[true, true, true, true, true, true, true, true, true, true, true, true, true, true, true, true, true, true, true, false, false, false, false, false, false, false, false, false, false, false, false, false, false, false, false, false] rfl rfl (by kernel_rfl) (by kernel_rfl) (by kernel_rfl) (by kernel_rfl) (fun _ _ _ h => h) hGcur (Or.inl ⟨by rfl, ?_⟩) ?_
  rotate_left
  · intro w_ hSw_; go_simp; try with_reducible rfl
  try simp only [Act.put, List.setIfInBounds_toArray, List.set_cons_zero, List.set_cons_succ]
  refine take_N (i := 19) (v := ?_) (some 52) #[true, true, true, true, true, true, true, true, true, true, true, true, true, true, true, true, true, true, true, true, false, false, false, false, false, false, false, false, false, false, false, false, false, false, false, false] rfl rfl (by kernel_rfl) (by kernel_rfl) (by kernel_rfl) (by kernel_rfl) (fun _ _ _ h => h) hGcur (Or.inl ⟨by rfl, ?_⟩) ?_
  rotate_left
  · intro w_ hSw_; go_simp; try with_reducible rfl
  try simp only [Act.put, List.setIfInBounds_toArray, List.set_cons_zero, List.set_cons_succ]
  refine take_N (i := 20) (v := ?_) (some 53) #[true, true, true, true, true, true, true, true, true, true, true, true, true, true, true, true, true, true, true, true, true, false, false, false, false, false, false, false, false, false, false, false, false, false, false, false] rfl rfl (by kernel_rfl) (by kernel_rfl) (by kernel_rfl) (by kernel_rfl) (fun _ _ _ h => h) hGcur (Or.inl ⟨by rfl, ?_⟩) ?_
  rotate_left
  · intro w_ hSw_; go_simp; try with_reducible rfl
  try simp only [Act.put, List.setIfInBounds_toArray, List.set_cons_zero, List.set_cons_succ]
  refine take_N (i := 21) (v := ?_) (some 54) #[true, true, true, true, true, true, true, true, true, true, true, true, true, true, true, true, true, true, true, true, true, true, false, false, false, false, false, false, false, false, false, false, false, false, false, false] rfl rfl (by kernel_rfl) (by kernel_rfl) (by kernel_rfl) (by kernel_rfl) (fun _ _ _ h => h) hGcur (Or.inl ⟨by rfl, ?_⟩) ?_
  rotate_left
  · intro w_ hSw_; go_simp; try with_reducible rfl
  try simp only [Act.put, List.setIfInBounds_toArray, List.set_cons_zero, List.set_cons_succ]
  refine take_N (i := 22) (v := .agg csA) (some 55) #[true, true, true, true, true, true, true, true, true, true, true, true, true, true, true, true, true, true, true, true, true, true, true, false, false, false, false, false, false, false, false, false, false, false, false, false] rfl rfl (by kernel_rfl) (by kernel_rfl) (by kernel_rfl) (by kernel_rfl) (fun _ _ _ h => h) hGcur (Or.inl ⟨by rfl, ?_⟩) ?_
  · intro w_ hSw_; exact exec_load_row 26 _ rfl w.heap.size (by rfl) 26 csA (0, 0) _ hSw_.1 Tryz.underlying26 rfl hsA
  try simp only [Act.put, List.setIfInBounds_toArray, List.set_cons_zero, List.set_cons_succ]
  refine take_N (i := 24) (v := .agg csA) (some 57) #[true, true, true, true, true, true, true, true, true, true, true, true, true, true, true, true, true, true, true, true, true, true, true, false, true, false, false, false, false, false, false, false, false, false, false, false] rfl rfl (by kernel_rfl) (by kernel_rfl) (by kernel_rfl) (by kernel_rfl) (fun _ _ _ h => h) hGcur (Or.inl ⟨by rfl, ?_⟩) ?_
  · intro w_ hSw_; exact exec_load_row 26 _ rfl w.heap.size (by rfl) 26 csA (0, 0) _ hSw_.1 Tryz.underlying26 rfl hsA
  try simp only [Act.put, List.setIfInBounds_toArray, List.set_cons_zero, List.set_cons_succ]
  refine step_N (i := 23) #[true, true, true, true, true, true, true, true, true, true, true, true, true, true, true, true, true, true, true, true, true, true, true, true, true, false, false, false, false, false, false, false, false, false, false, false] rfl (by kernel_rfl) (by kernel_rfl) (fun K hK => ?_)
  rw [if_pos (by rfl)]
  go_simp
  refine (hck1 _).mono ?_
  rintro e l2 ⟨rfl, hql2⟩
  have hGl2 := And.intro (hGcur.1.below hql2 hGcur.1.lt) (And.intro (hGcur.2.1.below hql2 hGcur.2.1.lt) (hGcur.2.2.below hql2 hGcur.2.2.lt))
  replace hbcur := hbcur.trans (hql2.mono hbcur.size)
  clear hGcur hql2
  have hGcur := hGl2
  clear hGl2
  refine hK.out _ _ hGcur ?_
  clear hK K
  refine step_N (i := 25) #[true, true, true, true, true, true, true, true, true, true, true, true, true, true, true, true, true, true, true, true, true, true, true, true, true, true, false, false, false, false, false, false, false, false, false, false] rfl (by kernel_rfl) (by kernel_rfl) (fun K hK => ?_)
  rw [if_pos (by rfl)]
  go_simp
  refine (hck2 _).mono ?_
  rintro e l3 ⟨rfl, hql3⟩
  have hGl3 := And.intro (hGcur.1.below hql3 hGcur.1.lt) (And.intro (hGcur.2.1.below hql3 hGcur.2.1.lt) (hGcur.2.2.below hql3 hGcur.2.2.lt))
  replace hbcur := hbcur.trans (hql3.mono hbcur.size)
  clear hGcur hql3
  have hGcur := hGl3
  clear hGl3
  refine hK.out _ _ hGcur ?_
  clear hK K
  refine take_N (i := 26) (v := ?_) (some 59) #[true, true, true, true, true, true, true, true, true, true, true, true, true, true, true, true, true, true, true, true, true, true, true, true, true, true, true, false, false, false, false, false, false, false, false, false] rfl rfl (by kernel_rfl) (by kernel_rfl) (by kernel_rfl) (by kernel_rfl) (fun _ _ _ h => h) hGcur (Or.inl ⟨by rfl, ?_⟩) ?_
  rotate_left
  · intro w_ hSw_; go_simp; try with_reducible rfl
  try simp only [Act.put, List.setIfInBounds_toArray, List.set_cons_zero, List.set_cons_succ]
  refine take_N (i := 27) (v := ?_) (some 60) #[true, true, true, true, true, true, true, true, true, true, true, true, true, true, true, true, true, true, true, true, true, true, true, true, true, true, true, true, false, false, false, false, false, false, false, false] rfl rfl (by kernel_rfl) (by kernel_rfl) (by kernel_rfl) (by kernel_rfl) (fun _ _ _ h => h) hGcur (Or.inl ⟨by rfl, ?_⟩) ?_
  rotate_left
  · intro w_ hSw_; go_simp; try with_reducible rfl
  try simp only [Act.put, List.setIfInBounds_toArray, List.set_cons_zero, List.set_cons_succ]
  refine take_N (i := 28) (v := ?_) (some 61) #[true, true, true, true, true, true, true, true, true, true, true, true, true, true, true, true, true, true, true, true, true, true, true, true, true, true, true, true, true, false, false, false, false, false, false, false] rfl rfl (by kernel_rfl) (by kernel_rfl) (by kernel_rfl) (by kernel_rfl) (fun _ _ _ h => h) hGcur (Or.inl ⟨by rfl, ?_⟩) ?_
  rotate_left
  · intro w_ hSw_; go_simp; try with_reducible rfl
  try simp only [Act.put, List.setIfInBounds_toArray, List.set_cons_zero, List.set_cons_succ]
  refine take_N (i := 29) (v := .agg csA) (some 62) #[true, true, true, true, true, true, true, true, true, true, true, true, true, true, true, true, true, true, true, true, true, true, true, true, true, true, true, true, true, true, false, false, false, false, false, false] rfl rfl (by kernel_rfl) (by kernel_rfl) (by kernel_rfl) (by kernel_rfl) (fun _ _ _ h => h) hGcur (Or.inl ⟨by rfl, ?_⟩) ?_
  · intro w_ hSw_; exact exec_load_row 26 _ rfl w.heap.size (by rfl) 26 csA (0, 0) _ hSw_.1 Tryz.underlying26 rfl hsA
  try simp only [Act.put, List.setIfInBounds_toArray, List.set_cons_zero, List.set_cons_succ]
  refine take_N (i := 31) (v := .agg csA) (some 64) #[true, true, true, true, true, true, true, true, true, true, true, true, true, true, true, true, true, true, true, true, true, true, true, true, true, true, true, true, true, true, false, true, false, false, false, false] rfl rfl (by kernel_rfl) (by kernel_rfl) (by kernel_rfl) (by kernel_rfl) (fun _ _ _ h => h) hGcur (Or.inl ⟨by rfl, ?_⟩) ?_
  · intro w_ hSw_; exact exec_load_row 26 _ rfl w.heap.size (by rfl) 26 csA (0, 0) _ hSw_.1 Tryz.underlying26 rfl hsA
  try simp only [Act.put, List.setIfInBounds_toArray, List.set_cons_zero, List.set_cons_succ]
  refine step_N (i := 30) #[true, true, true, true, true, true, true, true, true, true, true, true, true, true, true, true, true, true, true, true, true, true, true, true, true, true, true, true, true, true, true, true, false, false, false, false] rfl (by kernel_rfl) (by kernel_rfl) (fun K hK => ?_)
  rw [if_pos (by rfl)]
  go_simp
  refine (hsl1 _).mono ?_
  rintro e l4 ⟨rfl, hql4⟩
  have hGl4 := And.intro (hGcur.1.below hql4 hGcur.1.lt) (And.intro (hGcur.2.1.below hql4 hGcur.2.1.lt) (hGcur.2.2.below hql4 hGcur.2.2.lt))
  replace hbcur := hbcur.trans (hql4.mono hbcur.size)
  clear hGcur hql4
  have hGcur := hGl4
  clear hGl4
  refine hK.out _ _ hGcur ?_
  clear hK K
  refine step_N (i := 32) #[true, true, true, true, true, true, true, true, true, true, true, true, true, true, true, true, true, true, true, true, true, true, true, true, true, true, true, true, true, true, true, true, true, false, false, false] rfl (by kernel_rfl) (by kernel_rfl) (fun K hK => ?_)
  rw [if_pos (by rfl)]
  go_simp
  refine (hsl2 _).mono ?_
  rintro e l5 ⟨rfl, hql5⟩
  have hGl5 := And.intro (hGcur.1.below hql5 hGcur.1.lt) (And.intro (hGcur.2.1.below hql5 hGcur.2.1.lt) (hGcur.2.2.below hql5 hGcur.2.2.lt))
  replace hbcur := hbcur.trans (hql5.mono hbcur.size)
  clear hGcur hql5
  have hGcur := hGl5
  clear hGl5
  refine hK.out _ _ hGcur ?_
  clear hK K
  refine take_N (i := 33) (v := ?_) (some 66) #[true, true, true, true, true, true, true, true, true, true, true, true, true, true, true, true, true, true, true, true, true, true, true, true, true, true, true, true, true, true, true, true, true, true, false, false] rfl rfl (by kernel_rfl) (by kernel_rfl) (by kernel_rfl) (by kernel_rfl) (fun _ _ _ h => h) hGcur (Or.inl ⟨by rfl, ?_⟩) ?_
  rotate_left
  · intro w_ hSw_; go_simp; try with_reducible rfl
  try simp only [Act.put, List.setIfInBounds_toArray, List.set_cons_zero, List.set_cons_succ]
  refine take_N (i := 34) (v := ?_) (some 67) #[true, true, true, true, true, true, true, true, true, true, true, true, true, true, true, true, true, true, true, true, true, true, true, true, true, true, true, true, true, true, true, true, true, true, true, false] rfl rfl (by kernel_rfl) (by kernel_rfl) (by kernel_rfl) (by kernel_rfl) (fun _ _ _ h => h) hGcur (Or.inl ⟨by rfl, ?_⟩) ?_
  rotate_left
  · intro w_ hSw_; go_simp; try with_reducible rfl
  try simp only [Act.put, List.setIfInBounds_toArray, List.set_cons_zero, List.set_cons_succ]
  refine take_N (i := 35) (v := ?_) (some 4) #[true, true, true, true, true, true, true, true, true, true, true, true, true, true, true, true, true, true, true, true, true, true, true, true, true, true, true, true, true, true, true, true, true, true, true, true] rfl rfl (by kernel_rfl) (by kernel_rfl) (by kernel_rfl) (by kernel_rfl) (fun _ _ _ h => h) hGcur (Or.inl ⟨by rfl, ?_⟩) ?_
  rotate_left
  · intro w_ hSw_; go_simp; try with_reducible rfl
  try simp only [Act.put, List.setIfInBounds_toArray, List.set_cons_zero, List.set_cons_succ]
  refine wpAnyH_done (by kernel_rfl) ?_ _
  clear hHeld
  go_wp2_with fail
  go_ret
  exact ⟨rfl, hbcur⟩

end Go.Proofs.YtgjaoofgmdijdaaGreatDoor
