/- cambiumlaw09.SuperApart: walked. -/
import Derived.Test.YtgjaoofgmdijdaaGreatDoorSuperLives2
import Derived.Laws.StructEq
namespace Go.Proofs.YtgjaoofgmdijdaaGreatDoor
open Go.RowKit

theorem eq_hash9S (xs ys : List UInt8) (w : World) (hx : xs.length = 32) (hy : ys.length = 32) : (Op.equalIn 9999 24 (.agg (byteCells xs)) (.agg (byteCells ys))).run Tryz.prog w = .ok (xs == ys) w :=
  run_equalIn_bytes w 9997 24 5 32 Tryz.underlying24 Tryz.underlying5 Tryz.sizeOf5 xs ys hx hy
theorem part_hashS (pre : List Value) (n : Nat) (hn : n = pre.length) (xs : List UInt8) (w : World) (hx : xs.length = 32) : (part 24 (pre ++ bytesV xs).toArray n).run Tryz.prog w = .ok (.agg (byteCells xs)) w := by
  subst hn
  have ha : (isAgg 24).run Tryz.prog w = .ok true w := by simp [isAgg, run_underlying Tryz.underlying24]
  have hl : (bytesV xs).length = 32 := by simp [bytesV, hx]
  simp [part, ha]
  rw [List.take_of_length_le (by omega)]
  rfl
theorem eqFields_consS {P : Program} {d : Nat} {xs ys : Array Value} {f : Field} {fs : List Field} {w : World} (t : TypeId) (o : Nat) (ht : f.type = t) (ho : f.offset = o) {a b : Value} {r : Bool} (hn : f.name ≠ "_")
    (ha : (part t xs o).run P w = .ok a w) (hb : (part t ys o).run P w = .ok b w) (hr : (Op.equalIn d t a b).run P w = .ok r w) :
    (Op.eqFields d xs ys (f :: fs)).run P w = if r = true then (Op.eqFields d xs ys fs).run P w else .ok false w := by
  subst ht ho
  rw [Op.eqFields, if_pos hn]
  simp only [Sem.run_bind, ha, hb, hr, Result.andThen_ok, Sem.run_ite, Sem.run_pure]
  cases r <;> simp
theorem cast_beqS (a b : Nat) : ((a : Int) == (b : Int)) = decide (a = b) := by
  rw [Bool.eq_iff_iff, decide_eq_true_eq]; simp [Int.ofNat_inj]
theorem hash_beqS (a b : List UInt8) : (a == b) = decide (a = b) := by
  rw [Bool.eq_iff_iff]; simp
def supEq (a b : SupD) : Bool := decide (a.size = b.size) && (decide (a.gen = b.gen) && (decide (a.table = b.table) && decide (a.hash = b.hash)))
theorem supEq_iff (a b : SupD) : supEq a b = true ↔ a = b := by
  cases a; cases b; simp [supEq]
theorem equal_sup (a b : SupD) (ha : a.wf) (hb : b.wf) (w : World) : (Op.equalIn 10000 26 (.agg (supV a).toArray) (.agg (supV b).toArray)).run Tryz.prog w = .ok (supEq a b) w := by
  have hS : Tryz.prog.underlying 26 = some (.struct (Tryz.prog.fieldsOf 26)) := by kernel_rfl
  have hp : Tryz.prog.stoodInHeld 26 = false := by kernel_rfl
  have q4 : ∀ c : SupD, c.wf → (part 24 (supV c).toArray 3).run Tryz.prog w = .ok (.agg (byteCells c.hash)) w := fun c hc => by
    rw [supV]; exact part_hashS [.int .u32 (c.size : Int), .int .u64 (c.gen : Int), .int .u32 (c.table : Int)] 3 rfl c.hash w hc.2.2.2
  have q1 : ∀ c : SupD, (part 22 (supV c).toArray 0).run Tryz.prog w = .ok (.int .u32 (c.size : Int)) w := fun c => by simp [part, isAgg, run_underlying Tryz.underlying22, supV]
  have q2 : ∀ c : SupD, (part 23 (supV c).toArray 1).run Tryz.prog w = .ok (.int .u64 (c.gen : Int)) w := fun c => by simp [part, isAgg, run_underlying Tryz.underlying23, supV]
  have q3 : ∀ c : SupD, (part 22 (supV c).toArray 2).run Tryz.prog w = .ok (.int .u32 (c.table : Int)) w := fun c => by simp [part, isAgg, run_underlying Tryz.underlying22, supV]
  have r1 := run_equalIn_int w 9998 22 .u32 .u32 (a.size : Int) (b.size : Int) Tryz.underlying22
  have r2 := run_equalIn_int w 9998 23 .u64 .u64 (a.gen : Int) (b.gen : Int) Tryz.underlying23
  have r3 := run_equalIn_int w 9998 22 .u32 .u32 (a.table : Int) (b.table : Int) Tryz.underlying22
  have r4 := eq_hash9S a.hash b.hash w ha.2.2.2 hb.2.2.2
  rw [cast_beqS] at r1 r2 r3
  rw [hash_beqS] at r4
  have q4a := q4 a ha
  have q4b := q4 b hb
  rw [show (10000 : Nat) = 9999 + 1 from rfl, run_equalIn_agg w 9999 26 _ _ hS hp]
  simp only [Program.fieldsOf, Tryz.underlying26]
  rw [eqFields_consS 22 0 rfl rfl (by decide) (q1 a) (q1 b) r1, eqFields_consS 23 1 rfl rfl (by decide) (q2 a) (q2 b) r2, eqFields_consS 22 2 rfl rfl (by decide) (q3 a) (q3 b) r3, eqFields_consS 24 3 rfl rfl (by decide) (q4a) (q4b) r4, Op.eqFields, Sem.run_pure]
  unfold supEq
  cases decide (a.size = b.size) <;> cases decide (a.gen = b.gen) <;> cases decide (a.table = b.table) <;> cases decide (a.hash = b.hash) <;> rfl
theorem eql_sup (a b : SupD) (ha : a.wf) (hb : b.wf) (w : World) : (binOp .eql 26 (.agg (supV a).toArray) (.agg (supV b).toArray)).run Tryz.prog w = .ok (.bool (supEq a b)) w := by
  rw [run_eql_struct, equal_sup a b ha hb w]; rfl
theorem guard_sup : Tryz.prog.eqGuardType Tryz.prog.depth 26 = false := by kernel_rfl
theorem exec_eql {P : Program} {o : Oper} {ev : Operand → Value} {w : World} {t t' : TypeId} {x y : Operand} {va vb : Array Value} {r : Bool} (ho : o.op = .binOp .eql t x y t') (hx : ev x = .agg va) (hy : ev y = .agg vb)
    (hg : P.eqGuardType P.depth t = false) (h : (binOp .eql t (.agg va) (.agg vb)).run P w = .ok (.bool r) w) : (execOp ev o).run P w = .ok (.value (.bool r)) w := by
  unfold execOp
  simp only [ho, hx, hy, Sem.run_bind, run_eqGuard_agg w .eql t x y va vb hg, Result.andThen_ok, h, Sem.run_pure]
theorem sub_par (a b : Nat) : (((a : Int) % 2 == (b : Int) % 2) == ((IntKind.u64.wrap ((a : Int) - (b : Int))).tmod 2 == 0)) = true := by
  rw [IntKind.wrap_u64, Int.tmod_eq_emod_of_nonneg (by omega)]
  by_cases h : (a : Int) % 2 = (b : Int) % 2
  · have h2 : ((a : Int) - b) % 18446744073709551616 % 2 = 0 := by omega
    simp [h, h2]
  · have h2 : ¬ ((a : Int) - b) % 18446744073709551616 % 2 = 0 := by omega
    rw [beq_eq_false_iff_ne.2 h, beq_eq_false_iff_ne.2 h2]; rfl
theorem strOf_nil_empty : (strOf []).toList.isEmpty = true := by rw [ByteArray.toList_eq]; rfl
theorem str_beqS (a b : List UInt8) : ((strOf a).toList == (strOf b).toList) = decide (a = b) := by
  rw [ByteArray.toList_eq, ByteArray.toList_eq, Bool.eq_iff_iff]; simp [strOf]

set_option maxRecDepth 20000 in
set_option maxHeartbeats 3200000 in
theorem apartS_calls (a b : SupD) (w : World) (ha : a.wf) (hb : b.wf) :
    Calls Tryz.prog 6 #[.agg (supV a).toArray, .agg (supV b).toArray] w fun e w' => e = .returned (.bool true) ∧ Below w.heap.size w w' := by
  have hea := fun w' => encodeS_calls a ha w'
  have heb := fun w' => encodeS_calls b hb w'
  have hslA := fun w' => slot_calls a w'
  have hslB := fun w' => slot_calls b w'
  have hlaw : okS a = true → okS b = true → supEq a b = decide (encS a = encS b) := fun h1 h2 => by
    rw [Bool.eq_iff_iff, supEq_iff, decide_eq_true_eq]
    exact ⟨fun h => by rw [h], fun h => encS_inj a b ha hb h1 h2 h⟩
  have hnA : okS a = false → encS a = [] := fun h => by rw [encS, if_neg (by rw [h]; decide)]
  have hnB : okS b = false → encS b = [] := fun h => by rw [encS, if_neg (by rw [h]; decide)]
  have hcA : checkS a = if okS a then 0 else 4 := rfl
  have hcB : checkS b = if okS b then 0 else 4 := rfl
  have hse := str_beqS (encS a) (encS b)
  have hze := strOf_nil_empty
  have heqs : ∀ w', (binOp .eql 26 (.agg (supV a).toArray) (.agg (supV b).toArray)).run Tryz.prog w' = .ok (.bool (supEq a b)) w' := fun w' => eql_sup a b ha hb w'
  have hsA : (Tryz.prog.info? 26).map (·.size) = some (supV a).toArray.size := by rw [List.size_toArray, supV_length ha.2.2.2]; kernel_rfl
  have hsB : (Tryz.prog.info? 26).map (·.size) = some (supV b).toArray.size := by rw [List.size_toArray, supV_length hb.2.2.2]; kernel_rfl
  have hcA1 : (supV a).toArray[1]? = some (.int .u64 (a.gen : Int)) := rfl
  have hcB1 : (supV b).toArray[1]? = some (.int .u64 (b.gen : Int)) := rfl
  have HP := Lib.hid (sub_par a.gen b.gen)
  generalize a.gen = ga at *
  generalize b.gen = gb at *
  generalize encS a = Ea at *
  generalize encS b = Eb at *
  generalize checkS a = C1 at *
  generalize checkS b = C2 at *
  generalize okS a = K1 at *
  generalize okS b = K2 at *
  generalize supEq a b = r at *
  generalize (supV a).toArray = csA at *
  generalize (supV b).toArray = csB at *
  clear ha hb
  obtain ⟨W1, hW1⟩ : ∃ W1, W1 = w.alloc (.cells csA 26) := ⟨_, rfl⟩
  obtain ⟨W2, hW2⟩ : ∃ W2, W2 = W1.alloc (.cells csB 26) := ⟨_, rfl⟩
  have hA2 : RowIs W2 w.heap.size 26 csA := by rw [hW2, hW1]; exact (RowIs.new w _ _).alloc _
  have hB2 : RowIs W2 W1.heap.size 26 csB := by rw [hW2]; exact RowIs.new W1 _ _
  have hbe2 : Below w.heap.size w W2 := by rw [hW2, hW1]; exact ((Below.refl _ _).alloc (Nat.le_refl _) _).alloc (by simp) _
  have HW1 := Lib.hid hW1
  have HW2 := Lib.hid hW2
  have Hlaw := Lib.hid hlaw
  have HnA := Lib.hid hnA
  have HnB := Lib.hid hnB
  have HcA := Lib.hid hcA
  have HcB := Lib.hid hcB
  have hnot : ∀ (x : Bool) (w : World), (Op.unary .not (.bool x)).run Tryz.prog w = .ok (.bool (!x)) w := fun _ _ => rfl
  clear hW1 hW2 hlaw hnA hnB hcA hcB
  go_enter Tryz.func6, Tryz.ntmps6
  go_wp2_with (first | (refine wpList_world HW1.out ?_) | (refine wpList_world HW2.out ?_))
  refine (livesS_calls W2).mono ?_
  rintro e w3 ⟨rfl, hq⟩
  have hA3 := hA2.below hq hA2.lt
  have hB3 := hB2.below hq hB2.lt
  have hb3 := hbe2.trans (hq.mono hbe2.size)
  clear hq hA2 hB2 hbe2
  go_wp2_with (refine wpList_load_row rfl 26 _ rfl w.heap.size rfl 26 csA (0, 0) _ hA3 Tryz.underlying26 rfl hsA ?_)
  refine (hea w3).mono ?_
  rintro e w4 ⟨rfl, hq⟩
  have hA4 := hA3.below hq hA3.lt
  have hB4 := hB3.below hq hB3.lt
  have hb4 := hb3.trans (hq.mono hb3.size)
  clear hq hA3 hB3 hb3 hea
  go_wp2_with (refine wpList_load_row rfl 26 _ rfl W1.heap.size rfl 26 csB (0, 0) _ hB4 Tryz.underlying26 rfl hsB ?_)
  refine (heb w4).mono ?_
  rintro e w5 ⟨rfl, hq⟩
  have hA5 := hA4.below hq hA4.lt
  have hB5 := hB4.below hq hB4.lt
  have hb5 := hb4.trans (hq.mono hb4.size)
  clear hq hA4 hB4 hb4 heb
  cases K1 with
  | true =>
    have hcA := HcA.out
    rw [if_pos rfl] at hcA
    subst hcA
    cases K2 with
    | true =>
      have hcB := HcB.out
      rw [if_pos rfl] at hcB
      subst hcB
      have hl := Hlaw.out rfl rfl
      rw [← hl] at hse
      clear hl hze
      go_wp2_with fail
      refine wp_region_held_drew (S := fun w' => RowIs w' w.heap.size 26 csA ∧ RowIs w' W1.heap.size 26 csB) (by kernel_rfl) (And.intro hA5.drew hB5.drew) (fun hHeld => ?_)
      have hGcur := And.intro hA5.drew hB5.drew
      have hbcur : Below w.heap.size w w5.drew := Below.drew hb5
      clear hA5 hB5 hb5
      generalize w5.drew = wv at *
      refine take_N (i := 0) (v := ?_) (some 41) #[true, false, false, false, false, false, false, false, false, false, false, false, false, false, false, false, false, false, false, false, false, false, false] rfl rfl (by kernel_rfl) (by kernel_rfl) (by kernel_rfl) (by kernel_rfl) (fun _ _ _ h => h) hGcur (Or.inl ⟨by rfl, ?_⟩) ?_
      rotate_left
      · intro w_ hSw_; go_simp; try with_reducible rfl
      try simp only [Act.put, List.setIfInBounds_toArray, List.set_cons_zero, List.set_cons_succ]
      refine take_N (i := 1) (v := ?_) (some 42) #[true, true, false, false, false, false, false, false, false, false, false, false, false, false, false, false, false, false, false, false, false, false, false] rfl rfl (by kernel_rfl) (by kernel_rfl) (by kernel_rfl) (by kernel_rfl) (fun _ _ _ h => h) hGcur (Or.inl ⟨by rfl, ?_⟩) ?_
      rotate_left
      · intro w_ hSw_; go_simp; try with_reducible rfl
      try simp only [Act.put, List.setIfInBounds_toArray, List.set_cons_zero, List.set_cons_succ]
      refine take_N (i := 2) (v := ?_) (some 43) #[true, true, true, false, false, false, false, false, false, false, false, false, false, false, false, false, false, false, false, false, false, false, false] rfl rfl (by kernel_rfl) (by kernel_rfl) (by kernel_rfl) (by kernel_rfl) (fun _ _ _ h => h) hGcur (Or.inl ⟨by rfl, ?_⟩) ?_
      rotate_left
      · intro w_ hSw_; go_simp; try with_reducible rfl
      try simp only [Act.put, List.setIfInBounds_toArray, List.set_cons_zero, List.set_cons_succ]
      refine take_N (i := 3) (v := .agg csA) (some 44) #[true, true, true, true, false, false, false, false, false, false, false, false, false, false, false, false, false, false, false, false, false, false, false] rfl rfl (by kernel_rfl) (by kernel_rfl) (by kernel_rfl) (by kernel_rfl) (fun _ _ _ h => h) hGcur (Or.inl ⟨by rfl, ?_⟩) ?_
      · intro w_ hSw_; exact exec_load_row 26 _ rfl w.heap.size (by rfl) 26 csA (0, 0) _ hSw_.1 Tryz.underlying26 rfl hsA
      try simp only [Act.put, List.setIfInBounds_toArray, List.set_cons_zero, List.set_cons_succ]
      refine take_N (i := 4) (v := .agg csB) (some 45) #[true, true, true, true, true, false, false, false, false, false, false, false, false, false, false, false, false, false, false, false, false, false, false] rfl rfl (by kernel_rfl) (by kernel_rfl) (by kernel_rfl) (by kernel_rfl) (fun _ _ _ h => h) hGcur (Or.inl ⟨by rfl, ?_⟩) ?_
      · intro w_ hSw_; exact exec_load_row 26 _ rfl W1.heap.size (by rfl) 26 csB (0, 0) _ hSw_.2 Tryz.underlying26 rfl hsB
      try simp only [Act.put, List.setIfInBounds_toArray, List.set_cons_zero, List.set_cons_succ]
      refine take_N (i := 5) (v := .bool r) (some 46) #[true, true, true, true, true, true, false, false, false, false, false, false, false, false, false, false, false, false, false, false, false, false, false] rfl rfl (by kernel_rfl) (by kernel_rfl) (by kernel_rfl) (by kernel_rfl) (fun _ _ _ h => h) hGcur (Or.inl ⟨by rfl, ?_⟩) ?_
      · intro w_ hSw_; exact exec_eql rfl (by rfl) (by rfl) guard_sup (heqs _)
      try simp only [Act.put, List.setIfInBounds_toArray, List.set_cons_zero, List.set_cons_succ]
      cases r <;>
      · try simp only []
        refine take_N (i := 6) (v := ?_) (some 47) #[true, true, true, true, true, true, true, false, false, false, false, false, false, false, false, false, false, false, false, false, false, false, false] rfl rfl (by kernel_rfl) (by kernel_rfl) (by kernel_rfl) (by kernel_rfl) (fun _ _ _ h => h) hGcur (Or.inl ⟨by rfl, ?_⟩) ?_
        rotate_left
        · intro w_ hSw_; go_simp; try with_reducible rfl
        try simp only [Act.put, List.setIfInBounds_toArray, List.set_cons_zero, List.set_cons_succ]
        refine take_N (i := 7) (v := ?_) (some 48) #[true, true, true, true, true, true, true, true, false, false, false, false, false, false, false, false, false, false, false, false, false, false, false] rfl rfl (by kernel_rfl) (by kernel_rfl) (by kernel_rfl) (by kernel_rfl) (fun _ _ _ h => h) hGcur (Or.inl ⟨by rfl, ?_⟩) ?_
        rotate_left
        · intro w_ hSw_; go_simp; try with_reducible rfl
        try simp only [Act.put, List.setIfInBounds_toArray, List.set_cons_zero, List.set_cons_succ]
        refine take_N (i := 8) (v := .agg csA) (some 49) #[true, true, true, true, true, true, true, true, true, false, false, false, false, false, false, false, false, false, false, false, false, false, false] rfl rfl (by kernel_rfl) (by kernel_rfl) (by kernel_rfl) (by kernel_rfl) (fun _ _ _ h => h) hGcur (Or.inl ⟨by rfl, ?_⟩) ?_
        · intro w_ hSw_; exact exec_load_row 26 _ rfl w.heap.size (by rfl) 26 csA (0, 0) _ hSw_.1 Tryz.underlying26 rfl hsA
        try simp only [Act.put, List.setIfInBounds_toArray, List.set_cons_zero, List.set_cons_succ]
        refine take_N (i := 10) (v := .agg csB) (some 51) #[true, true, true, true, true, true, true, true, true, false, true, false, false, false, false, false, false, false, false, false, false, false, false] rfl rfl (by kernel_rfl) (by kernel_rfl) (by kernel_rfl) (by kernel_rfl) (fun _ _ _ h => h) hGcur (Or.inl ⟨by rfl, ?_⟩) ?_
        · intro w_ hSw_; exact exec_load_row 26 _ rfl W1.heap.size (by rfl) 26 csB (0, 0) _ hSw_.2 Tryz.underlying26 rfl hsB
        try simp only [Act.put, List.setIfInBounds_toArray, List.set_cons_zero, List.set_cons_succ]
        refine take_N (i := 13) (v := ?_) (some 54) #[true, true, true, true, true, true, true, true, true, false, true, false, false, true, false, false, false, false, false, false, false, false, false] rfl rfl (by kernel_rfl) (by kernel_rfl) (by kernel_rfl) (by kernel_rfl) (fun _ _ _ h => h) hGcur (Or.inl ⟨by rfl, ?_⟩) ?_
        rotate_left
        · intro w_ hSw_; go_simp; try with_reducible rfl
        try simp only [Act.put, List.setIfInBounds_toArray, List.set_cons_zero, List.set_cons_succ]
        refine take_N (i := 14) (v := .int .u64 (ga : Int)) (some 55) #[true, true, true, true, true, true, true, true, true, false, true, false, false, true, true, false, false, false, false, false, false, false, false] rfl rfl (by kernel_rfl) (by kernel_rfl) (by kernel_rfl) (by kernel_rfl) (fun _ _ _ h => h) hGcur (Or.inl ⟨by rfl, ?_⟩) ?_
        · intro w_ hSw_; exact (by have hcc : w_.cell? ⟨w.heap.size, 1, none⟩ = some (.int .u64 (ga : Int)) := (by rw [RowIs.cell hSw_.1]; exact hcA1); go_simp)
        try simp only [Act.put, List.setIfInBounds_toArray, List.set_cons_zero, List.set_cons_succ]
        refine take_N (i := 15) (v := ?_) (some 56) #[true, true, true, true, true, true, true, true, true, false, true, false, false, true, true, true, false, false, false, false, false, false, false] rfl rfl (by kernel_rfl) (by kernel_rfl) (by kernel_rfl) (by kernel_rfl) (fun _ _ _ h => h) hGcur (Or.inl ⟨by rfl, ?_⟩) ?_
        rotate_left
        · intro w_ hSw_; go_simp; try with_reducible rfl
        try simp only [Act.put, List.setIfInBounds_toArray, List.set_cons_zero, List.set_cons_succ]
        refine take_N (i := 16) (v := .int .u64 (gb : Int)) (some 57) #[true, true, true, true, true, true, true, true, true, false, true, false, false, true, true, true, true, false, false, false, false, false, false] rfl rfl (by kernel_rfl) (by kernel_rfl) (by kernel_rfl) (by kernel_rfl) (fun _ _ _ h => h) hGcur (Or.inl ⟨by rfl, ?_⟩) ?_
        · intro w_ hSw_; exact (by have hcc : w_.cell? ⟨W1.heap.size, 1, none⟩ = some (.int .u64 (gb : Int)) := (by rw [RowIs.cell hSw_.2]; exact hcB1); go_simp)
        try simp only [Act.put, List.setIfInBounds_toArray, List.set_cons_zero, List.set_cons_succ]
        refine take_N (i := 17) (v := ?_) (some 58) #[true, true, true, true, true, true, true, true, true, false, true, false, false, true, true, true, true, true, false, false, false, false, false] rfl rfl (by kernel_rfl) (by kernel_rfl) (by kernel_rfl) (by kernel_rfl) (fun _ _ _ h => h) hGcur (Or.inl ⟨by rfl, ?_⟩) ?_
        rotate_left
        · intro w_ hSw_; go_simp; try with_reducible rfl
        try simp only [Act.put, List.setIfInBounds_toArray, List.set_cons_zero, List.set_cons_succ]
        refine take_N (i := 18) (v := ?_) (some 59) #[true, true, true, true, true, true, true, true, true, false, true, false, false, true, true, true, true, true, true, false, false, false, false] rfl rfl (by kernel_rfl) (by kernel_rfl) (by kernel_rfl) (by kernel_rfl) (fun _ _ _ h => h) hGcur (Or.inl ⟨by rfl, ?_⟩) ?_
        rotate_left
        · intro w_ hSw_; go_simp; try with_reducible rfl
        try simp only [Act.put, List.setIfInBounds_toArray, List.set_cons_zero, List.set_cons_succ]
        refine take_N (i := 19) (v := ?_) (some 60) #[true, true, true, true, true, true, true, true, true, false, true, false, false, true, true, true, true, true, true, true, false, false, false] rfl rfl (by kernel_rfl) (by kernel_rfl) (by kernel_rfl) (by kernel_rfl) (fun _ _ _ h => h) hGcur (Or.inl ⟨by rfl, ?_⟩) ?_
        rotate_left
        · intro w_ hSw_; go_simp; try with_reducible rfl
        try simp only [Act.put, List.setIfInBounds_toArray, List.set_cons_zero, List.set_cons_succ]
        refine step_N (i := 9) #[true, true, true, true, true, true, true, true, true, true, true, false, false, true, true, true, true, true, true, true, false, false, false] rfl (by kernel_rfl) (by kernel_rfl) (fun K hK => ?_)
        rw [if_pos (by rfl)]
        go_simp
        refine (hslA _).mono ?_
        rintro e w6 ⟨rfl, hqw6⟩
        have hGw6 := And.intro (hGcur.1.below hqw6 hGcur.1.lt) (hGcur.2.below hqw6 hGcur.2.lt)
        replace hbcur := hbcur.trans (hqw6.mono hbcur.size)
        clear hGcur hqw6
        have hGcur := hGw6
        clear hGw6
        refine hK.out _ _ hGcur ?_
        clear hK K
        refine step_N (i := 11) #[true, true, true, true, true, true, true, true, true, true, true, true, false, true, true, true, true, true, true, true, false, false, false] rfl (by kernel_rfl) (by kernel_rfl) (fun K hK => ?_)
        rw [if_pos (by rfl)]
        go_simp
        refine (hslB _).mono ?_
        rintro e w7 ⟨rfl, hqw7⟩
        have hGw7 := And.intro (hGcur.1.below hqw7 hGcur.1.lt) (hGcur.2.below hqw7 hGcur.2.lt)
        replace hbcur := hbcur.trans (hqw7.mono hbcur.size)
        clear hGcur hqw7
        have hGcur := hGw7
        clear hGw7
        refine hK.out _ _ hGcur ?_
        clear hK K
        refine take_N (i := 12) (v := ?_) (some 53) #[true, true, true, true, true, true, true, true, true, true, true, true, true, true, true, true, true, true, true, true, false, false, false] rfl rfl (by kernel_rfl) (by kernel_rfl) (by kernel_rfl) (by kernel_rfl) (fun _ _ _ h => h) hGcur (Or.inl ⟨by rfl, ?_⟩) ?_
        rotate_left
        · intro w_ hSw_; go_simp; try with_reducible rfl
        try simp only [Act.put, List.setIfInBounds_toArray, List.set_cons_zero, List.set_cons_succ]
        refine take_N (i := 20) (v := ?_) (some 61) #[true, true, true, true, true, true, true, true, true, true, true, true, true, true, true, true, true, true, true, true, true, false, false] rfl rfl (by kernel_rfl) (by kernel_rfl) (by kernel_rfl) (by kernel_rfl) (fun _ _ _ h => h) hGcur (Or.inl ⟨by rfl, ?_⟩) ?_
        rotate_left
        · intro w_ hSw_; go_simp; try with_reducible rfl
        try simp only [Act.put, List.setIfInBounds_toArray, List.set_cons_zero, List.set_cons_succ]
        refine take_N (i := 21) (v := ?_) (some 62) #[true, true, true, true, true, true, true, true, true, true, true, true, true, true, true, true, true, true, true, true, true, true, false] rfl rfl (by kernel_rfl) (by kernel_rfl) (by kernel_rfl) (by kernel_rfl) (fun _ _ _ h => h) hGcur (Or.inl ⟨by rfl, ?_⟩) ?_
        rotate_left
        · intro w_ hSw_; go_simp; try with_reducible rfl
        try simp only [Act.put, List.setIfInBounds_toArray, List.set_cons_zero, List.set_cons_succ]
        refine take_N (i := 22) (v := ?_) (some 4) #[true, true, true, true, true, true, true, true, true, true, true, true, true, true, true, true, true, true, true, true, true, true, true] rfl rfl (by kernel_rfl) (by kernel_rfl) (by kernel_rfl) (by kernel_rfl) (fun _ _ _ h => h) hGcur (Or.inl ⟨by rfl, ?_⟩) ?_
        rotate_left
        · intro w_ hSw_; go_simp; try with_reducible rfl
        try simp only [Act.put, List.setIfInBounds_toArray, List.set_cons_zero, List.set_cons_succ]
        refine wpAnyH_done (by kernel_rfl) ?_ _
        clear hHeld
        go_wp2_with fail
        go_ret
        exact ⟨congrArg (fun b => Ending.returned (.bool b)) HP.out, hbcur⟩
    | false =>
      have hcB := HcB.out
      rw [if_neg (by decide)] at hcB
      subst hcB
      obtain rfl := HnB.out rfl
      clear hse
      go_wp2_with fail
      go_ret
      exact ⟨rfl, hb5⟩
  | false =>
    have hcA := HcA.out
    rw [if_neg (by decide)] at hcA
    subst hcA
    obtain rfl := HnA.out rfl
    clear hse
    go_wp2_with fail
    go_ret
    exact ⟨rfl, hb5⟩

end Go.Proofs.YtgjaoofgmdijdaaGreatDoor
