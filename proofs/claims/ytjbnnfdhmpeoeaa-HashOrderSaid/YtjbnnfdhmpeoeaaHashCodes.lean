/- HashCodes: any hash has the document's digits; any text is a hash's, or none's: walked. -/
import Derived.Test.YtjbnnfdhmpeoeaaHashLaws
import Derived.Test.YtjbnnfdhmpeoeaaRegion
import Derived.Test.YtjbnnfdhmpeoeaaArr
namespace Go.Proofs.Ytjbnnfdhmpeoeaa
open Go.RowKit

theorem exec_load_row {P : Program} {o : Oper} {ev : Operand → Value} {w : World} (ty : TypeId) (x : Operand) (ho : o.op = .load ty x) (g : Nat) (hx : ev x = .pointer (some ⟨g, 0, none⟩)) (t : TypeId) (cs : Array Value) (fr : Nat × Nat) (d : TypeDesc) (hg : w.heap[g]? = some (.cells cs t fr))
    (hu : P.underlying ty = some d) (hd : (match d with | .struct _ | .array _ _ => true | _ => false) = true) (hi : (P.info? ty).map (·.size) = some cs.size) : (execOp ev o).run P w = .ok (.value (.agg cs)) w := by
  unfold execOp
  simp only [ho, hx, Instr.loadAt, Instr.sureAddr, Sem.run_bind, Sem.run_pure, Result.andThen_ok, run_loadVar_row w g t ty cs fr d hg hu hd hi]

set_option maxRecDepth 20000 in
set_option maxHeartbeats 3200000 in
theorem hashCodes_calls (l : List UInt8) (s : ByteArray) (w : World) (hl : l.length = 32) :
    Calls Try.prog 16 #[.agg (byteCells l), .string s] w fun e w' => e = .returned (.bool true) ∧ Below w.heap.size w w' := by
  have hhex := fun w => hex_calls l w hl
  have hrhex := fun w => refhex_calls l w hl
  have hps := fun w => parse_calls s w
  have hrps := fun w => refparse_calls s w
  have hal := parseH_length s
  have hasz := load_row_32 hal
  have haone := byteCells_one (parseH s)
  have haeq := eq_bytes_self hal
  have has := fun w => alloc_store w hal
  have hlsz := load_row_32 hl
  have hcs : (byteCells (parseH s)).size = 32 := by rw [byteCells_size, hal]
  generalize hexS l = S at *
  generalize byteCells (parseH s) = A at *
  generalize parseE s = E at *
  have hR0 : RowIs (w.alloc (.cells (byteCells l) 45)) w.heap.size 45 (byteCells l) := RowIs.new w _ _
  have hB0 : Below w.heap.size w (w.alloc (.cells (byteCells l) 45)) := (Below.refl _ _).alloc (Nat.le_refl _) _
  generalize byteCells l = L at *
  go_enter Try.func16, Try.ntmps16
  go_wp2_with fail
  generalize w.alloc (.cells L 45) = w1 at *
  generalize hB : w.heap.size = B at *
  have HB := Lib.hid hB
  clear hB
  refine (hps w1).mono ?_
  rintro e w2 ⟨rfl, hb2⟩
  have hR2 := hR0.below hb2 hR0.lt
  have hB2 := hB0.trans (hb2.mono (Nat.le_of_lt hR0.lt))
  clear hR0 hB0 hb2
  obtain ⟨W, W2, hW, hW2, hG, hb4, hthere⟩ := has w2
  have hR4 := hR2.below hb4 hR2.lt
  have hB4 := hB2.trans (hb4.mono (Nat.le_of_lt hR2.lt))
  have HW := Lib.hid hW
  have HW2 := Lib.hid hW2
  have hBG : B < w2.heap.size := hR2.lt
  clear hR2 hB2 hb4 hW hW2
  go_wp2_with (first | (refine wpList_world HW.out ?_) | (refine wpList_store_mid rfl 45 _ _ rfl w2.heap.size 0 A rfl rfl hthere hasz haone ?_; refine wpList_world HW2.out ?_))
  clear HW HW2 hthere
  generalize w2.heap.size = G at *
  refine (hrps W2).mono ?_
  rintro e w5 ⟨rfl, hb5⟩
  have hR5 := hR4.below hb5 hR4.lt
  have hG5 := hG.below hb5 hG.lt
  have hB5 := hB4.trans (hb5.mono (Nat.le_of_lt hR4.lt))
  clear hR4 hB4 hb5 hG
  obtain ⟨W, W2, hW, hW2, hK, hb6, hthere⟩ := has w5
  have hR6 := hR5.below hb6 hR5.lt
  have hG6 := hG5.below hb6 hG5.lt
  have hB6 := hB5.trans (hb6.mono (Nat.le_of_lt hR5.lt))
  have HW := Lib.hid hW
  have HW2 := Lib.hid hW2
  have hGK : G < w5.heap.size := hG5.lt
  clear hR5 hB5 hb6 hW hW2 hG5
  go_wp2_with (first | (refine wpList_world HW.out ?_) | (refine wpList_store_mid rfl 45 _ _ rfl w5.heap.size 0 A rfl rfl hthere hasz haone ?_; refine wpList_world HW2.out ?_))
  clear HW HW2 hthere
  generalize w5.heap.size = K0 at *
  have hR : RowIs W2.drew B 45 L := hR6
  have hG : RowIs W2.drew G 45 A := hG6
  have hK0 : RowIs W2.drew K0 45 A := hK
  have hB : Below B w W2.drew := hB6.drew
  have hle : B ≤ W2.drew.heap.size := Nat.le_of_lt hR6.lt
  clear hR6 hG6 hB6 hK
  refine wp_region_held_drew (S := fun w' => RowIs w' B 45 L ∧ RowIs w' G 45 A ∧ RowIs w' K0 45 A ∧ Below B w w') (by kernel_rfl) ⟨hR, hG, hK0, hB⟩ (fun hHeld => ?_)
  refine step_N (i := 0) #[true, false, false, false, false, false, false, false, false, false, false, false, false, false, false, false, false, false, false] rfl (by kernel_rfl) (by kernel_rfl) (fun K hK => ?_)
  rw [if_pos (by rfl)]
  go_simp
  refine (codes_calls _).mono ?_
  rintro e w7 ⟨rfl, hbn⟩
  replace hR := RowIs.below hR hbn hR.lt
  replace hG := RowIs.below hG hbn hG.lt
  replace hK0 := RowIs.below hK0 hbn hK0.lt
  replace hB := Below.trans hB (hbn.mono hle)
  replace hle := Nat.le_trans hle hbn.size
  clear hbn
  refine hK.out _ _ ⟨hR, hG, hK0, hB⟩ ?_
  clear hK K
  try simp only [Act.put, List.setIfInBounds_toArray, List.set_cons_zero, List.set_cons_succ]
  refine step_N (i := 1) #[true, true, false, false, false, false, false, false, false, false, false, false, false, false, false, false, false, false, false] rfl (by kernel_rfl) (by kernel_rfl) (fun K hK => ?_)
  go_simp
  refine hK.out _ _ ⟨hR, hG, hK0, hB⟩ ?_
  clear hK K
  refine take_N (i := 2) (v := (.agg L)) (some 21) #[true, true, true, false, false, false, false, false, false, false, false, false, false, false, false, false, false, false, false] rfl rfl (by kernel_rfl) (by kernel_rfl) (by kernel_rfl) (by kernel_rfl) (fun _ _ _ h => h) ⟨hR, hG, hK0, hB⟩ (Or.inl ⟨by rfl, ?_⟩) ?_
  · intro w_ hSw_; exact exec_load_row 45 _ (by rfl) B (by rfl) 45 L (0, 0) _ hSw_.1 Try.underlying45 rfl hlsz
  try simp only [Act.put, List.setIfInBounds_toArray, List.set_cons_zero, List.set_cons_succ]
  refine take_N (i := 4) (v := (.agg L)) (some 23) #[true, true, true, false, true, false, false, false, false, false, false, false, false, false, false, false, false, false, false] rfl rfl (by kernel_rfl) (by kernel_rfl) (by kernel_rfl) (by kernel_rfl) (fun _ _ _ h => h) ⟨hR, hG, hK0, hB⟩ (Or.inl ⟨by rfl, ?_⟩) ?_
  · intro w_ hSw_; exact exec_load_row 45 _ (by rfl) B (by rfl) 45 L (0, 0) _ hSw_.1 Try.underlying45 rfl hlsz
  try simp only [Act.put, List.setIfInBounds_toArray, List.set_cons_zero, List.set_cons_succ]
  refine step_N (i := 3) #[true, true, true, true, true, false, false, false, false, false, false, false, false, false, false, false, false, false, false] rfl (by kernel_rfl) (by kernel_rfl) (fun K hK => ?_)
  rw [if_pos (by rfl)]
  go_simp
  refine (hhex _).mono ?_
  rintro e w8 ⟨rfl, hbn⟩
  replace hR := RowIs.below hR hbn hR.lt
  replace hG := RowIs.below hG hbn hG.lt
  replace hK0 := RowIs.below hK0 hbn hK0.lt
  replace hB := Below.trans hB (hbn.mono hle)
  replace hle := Nat.le_trans hle hbn.size
  clear hbn
  refine hK.out _ _ ⟨hR, hG, hK0, hB⟩ ?_
  clear hK K
  try simp only [Act.put, List.setIfInBounds_toArray, List.set_cons_zero, List.set_cons_succ]
  refine step_N (i := 5) #[true, true, true, true, true, true, false, false, false, false, false, false, false, false, false, false, false, false, false] rfl (by kernel_rfl) (by kernel_rfl) (fun K hK => ?_)
  rw [if_pos (by rfl)]
  go_simp
  refine (hrhex _).mono ?_
  rintro e w9 ⟨rfl, hbn⟩
  replace hR := RowIs.below hR hbn hR.lt
  replace hG := RowIs.below hG hbn hG.lt
  replace hK0 := RowIs.below hK0 hbn hK0.lt
  replace hB := Below.trans hB (hbn.mono hle)
  replace hle := Nat.le_trans hle hbn.size
  clear hbn
  refine hK.out _ _ ⟨hR, hG, hK0, hB⟩ ?_
  clear hK K
  try simp only [Act.put, List.setIfInBounds_toArray, List.set_cons_zero, List.set_cons_succ]
  refine step_N (i := 6) #[true, true, true, true, true, true, true, false, false, false, false, false, false, false, false, false, false, false, false] rfl (by kernel_rfl) (by kernel_rfl) (fun K hK => ?_)
  go_simp
  refine hK.out _ _ ⟨hR, hG, hK0, hB⟩ ?_
  clear hK K
  refine step_N (i := 7) #[true, true, true, true, true, true, true, true, false, false, false, false, false, false, false, false, false, false, false] rfl (by kernel_rfl) (by kernel_rfl) (fun K hK => ?_)
  go_simp
  refine hK.out _ _ ⟨hR, hG, hK0, hB⟩ ?_
  clear hK K
  refine step_N (i := 8) #[true, true, true, true, true, true, true, true, true, false, false, false, false, false, false, false, false, false, false] rfl (by kernel_rfl) (by kernel_rfl) (fun K hK => ?_)
  go_simp
  refine hK.out _ _ ⟨hR, hG, hK0, hB⟩ ?_
  clear hK K
  refine take_N (i := 9) (v := (.agg A)) (some 28) #[true, true, true, true, true, true, true, true, true, true, false, false, false, false, false, false, false, false, false] rfl rfl (by kernel_rfl) (by kernel_rfl) (by kernel_rfl) (by kernel_rfl) (fun _ _ _ h => h) ⟨hR, hG, hK0, hB⟩ (Or.inl ⟨by rfl, ?_⟩) ?_
  · intro w_ hSw_; exact exec_load_row 45 _ (by rfl) G (by rfl) 45 A (0, 0) _ hSw_.2.1 Try.underlying45 rfl hasz
  try simp only [Act.put, List.setIfInBounds_toArray, List.set_cons_zero, List.set_cons_succ]
  refine take_N (i := 10) (v := (.agg A)) (some 29) #[true, true, true, true, true, true, true, true, true, true, true, false, false, false, false, false, false, false, false] rfl rfl (by kernel_rfl) (by kernel_rfl) (by kernel_rfl) (by kernel_rfl) (fun _ _ _ h => h) ⟨hR, hG, hK0, hB⟩ (Or.inl ⟨by rfl, ?_⟩) ?_
  · intro w_ hSw_; exact exec_load_row 45 _ (by rfl) K0 (by rfl) 45 A (0, 0) _ hSw_.2.2.1 Try.underlying45 rfl hasz
  try simp only [Act.put, List.setIfInBounds_toArray, List.set_cons_zero, List.set_cons_succ]
  refine step_N (i := 11) #[true, true, true, true, true, true, true, true, true, true, true, true, false, false, false, false, false, false, false] rfl (by kernel_rfl) (by kernel_rfl) (fun K hK => ?_)
  go_simp
  refine hK.out _ _ ⟨hR, hG, hK0, hB⟩ ?_
  clear hK K
  refine step_N (i := 12) #[true, true, true, true, true, true, true, true, true, true, true, true, true, false, false, false, false, false, false] rfl (by kernel_rfl) (by kernel_rfl) (fun K hK => ?_)
  go_simp
  refine hK.out _ _ ⟨hR, hG, hK0, hB⟩ ?_
  clear hK K
  refine step_N (i := 13) #[true, true, true, true, true, true, true, true, true, true, true, true, true, true, false, false, false, false, false] rfl (by kernel_rfl) (by kernel_rfl) (fun K hK => ?_)
  go_simp
  refine hK.out _ _ ⟨hR, hG, hK0, hB⟩ ?_
  clear hK K
  refine take_N (i := 14) (v := ?_) (some 33) #[true, true, true, true, true, true, true, true, true, true, true, true, true, true, true, false, false, false, false] rfl rfl (by kernel_rfl) (by kernel_rfl) (by kernel_rfl) (by kernel_rfl) (fun _ _ _ h => h) ⟨hR, hG, hK0, hB⟩ (Or.inl ⟨by rfl, ?_⟩) ?_
  rotate_left
  · intro w_ hSw_; go_simp; try with_reducible rfl
  try simp only [Act.put, List.setIfInBounds_toArray, List.set_cons_zero, List.set_cons_succ]
  refine take_N (i := 15) (v := ?_) (some 34) #[true, true, true, true, true, true, true, true, true, true, true, true, true, true, true, true, false, false, false] rfl rfl (by kernel_rfl) (by kernel_rfl) (by kernel_rfl) (by kernel_rfl) (fun _ _ _ h => h) ⟨hR, hG, hK0, hB⟩ (Or.inl ⟨by rfl, ?_⟩) ?_
  rotate_left
  · intro w_ hSw_; go_simp; try with_reducible rfl
  try simp only [Act.put, List.setIfInBounds_toArray, List.set_cons_zero, List.set_cons_succ]
  refine step_N (i := 16) #[true, true, true, true, true, true, true, true, true, true, true, true, true, true, true, true, true, false, false] rfl (by kernel_rfl) (by kernel_rfl) (fun K hK => ?_)
  go_simp
  refine hK.out _ _ ⟨hR, hG, hK0, hB⟩ ?_
  clear hK K
  refine step_N (i := 17) #[true, true, true, true, true, true, true, true, true, true, true, true, true, true, true, true, true, true, false] rfl (by kernel_rfl) (by kernel_rfl) (fun K hK => ?_)
  go_simp
  refine hK.out _ _ ⟨hR, hG, hK0, hB⟩ ?_
  clear hK K
  refine step_N (i := 18) #[true, true, true, true, true, true, true, true, true, true, true, true, true, true, true, true, true, true, true] rfl (by kernel_rfl) (by kernel_rfl) (fun K hK => ?_)
  go_simp
  refine hK.out _ _ ⟨hR, hG, hK0, hB⟩ ?_
  clear hK K
  refine wpAnyH_done (by kernel_rfl) ?_ _

  go_wp2_with fail
  go_ret
  exact ⟨rfl, by rw [HB.out]; exact hB⟩

end Go.Proofs.Ytjbnnfdhmpeoeaa
