/- HashOrder: hashes' digits stand as their bytes do: walked. -/
import Derived.Test.YtjbnnfdhmpeoeaaHashCodes
import Derived.Test.YtjbnnfdhmpeoeaaHashBack
namespace Go.Proofs.Ytjbnnfdhmpeoeaa
open Go.RowKit

theorem hexDig_lt (x y : Nat) (hx : x < 16) (hy : y < 16) : (hexDig x < hexDig y) ↔ x < y := by
  rw [UInt8.lt_iff_toNat_lt, hexDig_toNat x hx, hexDig_toNat y hy]
  split <;> split <;> omega
theorem hexDig_eq (x y : Nat) (hx : x < 16) (hy : y < 16) : (hexDig x = hexDig y) ↔ x = y := by
  rw [← UInt8.toNat_inj, hexDig_toNat x hx, hexDig_toNat y hy]
  split <;> split <;> omega

theorem hexL_less : ∀ a b : List UInt8, Op.bytesLess (hexL a) (hexL b) = Op.bytesLess a b
  | a, [] => by cases a <;> rfl
  | [], _ :: _ => rfl
  | c :: a, d :: b => by
    have ih := hexL_less a b
    have hc := c.toNat_lt
    have hd := d.toNat_lt
    have e1 := hexDig_lt (c.toNat / 16) (d.toNat / 16) (by omega) (by omega)
    have e2 := hexDig_eq (c.toNat / 16) (d.toNat / 16) (by omega) (by omega)
    have e3 := hexDig_lt (c.toNat % 16) (d.toNat % 16) (by omega) (by omega)
    have e4 := hexDig_eq (c.toNat % 16) (d.toNat % 16) (by omega) (by omega)
    simp only [hexL, Op.bytesLess, ih]
    rw [Bool.eq_iff_iff]
    simp only [Bool.or_eq_true, Bool.and_eq_true, decide_eq_true_eq, beq_iff_eq, e1, e2, e3, e4]
    rw [UInt8.lt_iff_toNat_lt, ← UInt8.toNat_inj]
    constructor
    · rintro (h | ⟨h1, h | ⟨h2, h3⟩⟩)
      · left; omega
      · left; omega
      · right; exact ⟨by omega, h3⟩
    · rintro (h | ⟨h1, h2⟩)
      · by_cases q : c.toNat / 16 < d.toNat / 16
        · left; exact q
        · right; exact ⟨by omega, Or.inl (by omega)⟩
      · right; exact ⟨by omega, Or.inr ⟨by omega, h2⟩⟩

theorem row_string (w : World) {b : Nat} {l : List UInt8} (hl : l.length = 32) (h : RowIs w b 45 (byteCells l)) :
    (convert 26 9 (.slice (some ⟨b, 0, none⟩) 32 32)).run Try.prog w = .ok (.string ⟨l.toArray⟩) w :=
  conv_back w b 32 32 l hl.symm ⟨fun j hj => h.byte j hj, fun j _ => h.free j⟩

theorem exec_conv {P : Program} {o : Oper} {ev : Operand → Value} {w : World} {src dst : TypeId} {x : Operand} {v r : Value} (ho : o.op = .convert src dst x) (hx : ev x = v) (h : (convert src dst v).run P w = .ok r w) : (execOp ev o).run P w = .ok (.value r) w := by
  unfold execOp
  simp only [ho, hx, Sem.run_bind, h, Result.andThen_ok, Sem.run_pure]

set_option maxRecDepth 20000 in
set_option maxHeartbeats 3200000 in
theorem hashOrder_calls (l m : List UInt8) (w : World) (hl : l.length = 32) (hm : m.length = 32) :
    Calls Try.prog 18 #[.agg (byteCells l), .agg (byteCells m)] w fun e w' => e = .returned (.bool true) ∧ Below w.heap.size w w' := by
  have hhex := fun w => hex_calls l w hl
  have hhex2 := fun w => hex_calls m w hm
  have hlsz := load_row_32 hl
  have hmsz := load_row_32 hm
  have hnot := run_not'
  have hless : Op.bytesLess (hexS l).toList (hexS m).toList = Op.bytesLess (⟨l.toArray⟩ : ByteArray).toList (⟨m.toArray⟩ : ByteArray).toList := by
    simp only [ByteArray.toList_eq]
    exact hexL_less l m
  have hra := RowIs.new w 45 (byteCells l)
  have hR0 := hra.alloc (.cells (byteCells m) 45)
  have hG0 : RowIs ((w.alloc (.cells (byteCells l) 45)).alloc (.cells (byteCells m) 45)) (w.heap.size + 1) 45 (byteCells m) := by
    have := RowIs.new (w.alloc (.cells (byteCells l) 45)) 45 (byteCells m)
    simpa using this
  have hB0 : Below w.heap.size w ((w.alloc (.cells (byteCells l) 45)).alloc (.cells (byteCells m) 45)) := ((Below.refl _ _).alloc (Nat.le_refl _) _).alloc (by simp) _
  have hca : ∀ w b, RowIs w b 45 (byteCells l) → (convert 26 9 (.slice (some ⟨b, 0, none⟩) 32 32)).run Try.prog w = .ok (.string ⟨l.toArray⟩) w := fun w b h => row_string w hl h
  have hcb : ∀ w b, RowIs w b 45 (byteCells m) → (convert 26 9 (.slice (some ⟨b, 0, none⟩) 32 32)).run Try.prog w = .ok (.string ⟨m.toArray⟩) w := fun w b h => row_string w hm h
  clear hra
  generalize hexS l = SA at *
  generalize hexS m = SB at *
  generalize byteCells l = LA at *
  generalize byteCells m = LB at *
  generalize (⟨l.toArray⟩ : ByteArray) = XA at *
  generalize (⟨m.toArray⟩ : ByteArray) = XB at *
  go_enter Try.func18, Try.ntmps18
  go_wp2_with fail
  generalize (w.alloc (.cells LA 45)).alloc (.cells LB 45) = w1 at *
  generalize hB : w.heap.size = B at *
  have HB := Lib.hid hB
  clear hB
  refine (codes_calls w1).mono ?_
  rintro e w2 ⟨rfl, hb2⟩
  have hR2 := hR0.below hb2 hR0.lt
  have hG2 := hG0.below hb2 hG0.lt
  have hB2 := hB0.trans (hb2.mono (Nat.le_of_lt hR0.lt))
  clear hR0 hB0 hb2 hG0
  have HL := Lib.hid hless
  clear hless
  go_wp2_with fail
  obtain ⟨G, hG0⟩ : ∃ G, G = B + 1 := ⟨_, rfl⟩
  rw [← hG0] at hG2 ⊢
  have hR : RowIs w2.drew B 45 LA := hR2
  have hG : RowIs w2.drew G 45 LB := hG2
  have hB : Below B w w2.drew := hB2.drew
  have hle : B ≤ w2.drew.heap.size := Nat.le_of_lt hR2.lt
  clear hR2 hG2 hB2 hG0
  refine wp_region_held_drew (S := fun w' => RowIs w' B 45 LA ∧ RowIs w' G 45 LB ∧ Below B w w') (by kernel_rfl) ⟨hR, hG, hB⟩ (fun hHeld => ?_)
  refine take_N (i := 0) (v := (.agg LA)) (some 7) #[true, false, false, false, false, false, false, false, false, false, false, false] rfl rfl (by kernel_rfl) (by kernel_rfl) (by kernel_rfl) (by kernel_rfl) (fun _ _ _ h => h) ⟨hR, hG, hB⟩ (Or.inl ⟨by rfl, ?_⟩) ?_
  · intro w_ hSw_; exact exec_load_row 45 _ (by rfl) B (by rfl) 45 LA (0, 0) _ hSw_.1 Try.underlying45 rfl hlsz
  try simp only [Act.put, List.setIfInBounds_toArray, List.set_cons_zero, List.set_cons_succ]
  refine take_N (i := 2) (v := (.agg LB)) (some 9) #[true, false, true, false, false, false, false, false, false, false, false, false] rfl rfl (by kernel_rfl) (by kernel_rfl) (by kernel_rfl) (by kernel_rfl) (fun _ _ _ h => h) ⟨hR, hG, hB⟩ (Or.inl ⟨by rfl, ?_⟩) ?_
  · intro w_ hSw_; exact exec_load_row 45 _ (by rfl) G (by rfl) 45 LB (0, 0) _ hSw_.2.1 Try.underlying45 rfl hmsz
  try simp only [Act.put, List.setIfInBounds_toArray, List.set_cons_zero, List.set_cons_succ]
  refine take_N (i := 5) (v := ?_) (some 12) #[true, false, true, false, false, true, false, false, false, false, false, false] rfl rfl (by kernel_rfl) (by kernel_rfl) (by kernel_rfl) (by kernel_rfl) (fun _ _ _ h => h) ⟨hR, hG, hB⟩ (Or.inl ⟨by rfl, ?_⟩) ?_
  rotate_left
  · intro w_ hSw_; go_simp; try with_reducible rfl
  try simp only [Act.put, List.setIfInBounds_toArray, List.set_cons_zero, List.set_cons_succ]
  refine take_N (i := 6) (v := (.string XA)) (some 13) #[true, false, true, false, false, true, true, false, false, false, false, false] rfl rfl (by kernel_rfl) (by kernel_rfl) (by kernel_rfl) (by kernel_rfl) (fun _ _ _ h => h) ⟨hR, hG, hB⟩ (Or.inl ⟨by rfl, ?_⟩) ?_
  · intro w_ hSw_; exact exec_conv (by rfl) (by rfl) (hca _ _ hSw_.1)
  try simp only [Act.put, List.setIfInBounds_toArray, List.set_cons_zero, List.set_cons_succ]
  refine take_N (i := 7) (v := ?_) (some 14) #[true, false, true, false, false, true, true, true, false, false, false, false] rfl rfl (by kernel_rfl) (by kernel_rfl) (by kernel_rfl) (by kernel_rfl) (fun _ _ _ h => h) ⟨hR, hG, hB⟩ (Or.inl ⟨by rfl, ?_⟩) ?_
  rotate_left
  · intro w_ hSw_; go_simp; try with_reducible rfl
  try simp only [Act.put, List.setIfInBounds_toArray, List.set_cons_zero, List.set_cons_succ]
  refine take_N (i := 8) (v := (.string XB)) (some 15) #[true, false, true, false, false, true, true, true, true, false, false, false] rfl rfl (by kernel_rfl) (by kernel_rfl) (by kernel_rfl) (by kernel_rfl) (fun _ _ _ h => h) ⟨hR, hG, hB⟩ (Or.inl ⟨by rfl, ?_⟩) ?_
  · intro w_ hSw_; exact exec_conv (by rfl) (by rfl) (hcb _ _ hSw_.2.1)
  try simp only [Act.put, List.setIfInBounds_toArray, List.set_cons_zero, List.set_cons_succ]
  refine take_N (i := 9) (v := ?_) (some 16) #[true, false, true, false, false, true, true, true, true, true, false, false] rfl rfl (by kernel_rfl) (by kernel_rfl) (by kernel_rfl) (by kernel_rfl) (fun _ _ _ h => h) ⟨hR, hG, hB⟩ (Or.inl ⟨by rfl, ?_⟩) ?_
  rotate_left
  · intro w_ hSw_; go_simp; try with_reducible rfl
  try simp only [Act.put, List.setIfInBounds_toArray, List.set_cons_zero, List.set_cons_succ]
  refine step_N (i := 1) #[true, true, true, false, false, true, true, true, true, true, false, false] rfl (by kernel_rfl) (by kernel_rfl) (fun K hK => ?_)
  rw [if_pos (by rfl)]
  go_simp
  refine (hhex _).mono ?_
  rintro e w5 ⟨rfl, hbn⟩
  replace hR := RowIs.below hR hbn hR.lt
  replace hG := RowIs.below hG hbn hG.lt
  replace hB := Below.trans hB (hbn.mono hle)
  replace hle := Nat.le_trans hle hbn.size
  clear hbn
  refine hK.out _ _ ⟨hR, hG, hB⟩ ?_
  clear hK K
  try simp only [Act.put, List.setIfInBounds_toArray, List.set_cons_zero, List.set_cons_succ]
  refine step_N (i := 3) #[true, true, true, true, false, true, true, true, true, true, false, false] rfl (by kernel_rfl) (by kernel_rfl) (fun K hK => ?_)
  rw [if_pos (by rfl)]
  go_simp
  refine (hhex2 _).mono ?_
  rintro e w6 ⟨rfl, hbn⟩
  replace hR := RowIs.below hR hbn hR.lt
  replace hG := RowIs.below hG hbn hG.lt
  replace hB := Below.trans hB (hbn.mono hle)
  replace hle := Nat.le_trans hle hbn.size
  clear hbn
  refine hK.out _ _ ⟨hR, hG, hB⟩ ?_
  clear hK K
  try simp only [Act.put, List.setIfInBounds_toArray, List.set_cons_zero, List.set_cons_succ]
  refine step_N (i := 4) #[true, true, true, true, true, true, true, true, true, true, false, false] rfl (by kernel_rfl) (by kernel_rfl) (fun K hK => ?_)
  go_simp
  refine hK.out _ _ ⟨hR, hG, hB⟩ ?_
  clear hK K
  refine step_N (i := 10) #[true, true, true, true, true, true, true, true, true, true, true, false] rfl (by kernel_rfl) (by kernel_rfl) (fun K hK => ?_)
  go_simp
  refine hK.out _ _ ⟨hR, hG, hB⟩ ?_
  clear hK K
  refine step_N (i := 11) #[true, true, true, true, true, true, true, true, true, true, true, true] rfl (by kernel_rfl) (by kernel_rfl) (fun K hK => ?_)
  go_simp
  refine hK.out _ _ ⟨hR, hG, hB⟩ ?_
  clear hK K
  refine wpAnyH_done (by kernel_rfl) ?_ _

  rw [HL.out, beq_self_eq_true]
  go_wp2_with fail
  go_ret
  exact ⟨rfl, by rw [HB.out]; exact hB⟩

end Go.Proofs.Ytjbnnfdhmpeoeaa
