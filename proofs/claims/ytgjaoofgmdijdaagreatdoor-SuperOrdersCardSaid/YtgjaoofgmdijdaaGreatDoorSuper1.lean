/- super.Check, Slot, number: walked. -/
import Derived.Test.YtgjaoofgmdijdaaGreatDoorDecode
import Derived.Test.YtgjaoofgmdijdaaGreatDoorSuperPure
namespace Go.Proofs.YtgjaoofgmdijdaaGreatDoor
open Go.RowKit

def supV (s : SupD) : List Value := [.int .u32 (s.size : Int), .int .u64 (s.gen : Int), .int .u32 (s.table : Int)] ++ bytesV s.hash
theorem supV_length {s : SupD} (h : s.hash.length = 32) : (supV s).length = 35 := by simp [supV, bytesV, h]
theorem supV_one (s : SupD) : (supV s).toArray.all (·.oneCell') = true := all_oneCell_toArray fun v hv => by
  rw [supV, List.mem_append] at hv
  rcases hv with h | h
  · simp only [List.mem_cons, List.not_mem_nil, or_false] at h
    rcases h with rfl | rfl | rfl <;> rfl
  · exact one_bytesV _ v h
theorem checkS_calls (s : SupD) (w : World) : Calls Tryz.prog 13 #[.agg (supV s).toArray] w fun e w' => e = .returned (.int .i64 (checkS s)) ∧ Below w.heap.size w w' := by
  have hG := RowIs.new w 26 (supV s).toArray
  have hb : Below w.heap.size w (w.alloc (.cells (supV s).toArray 26)) := (Below.refl _ _).alloc (Nat.le_refl _) _
  have hX : checkS s = (if okS s then 0 else 4) := rfl
  have hnot : ∀ (x : Bool) (w : World), (Op.unary .not (.bool x)).run Tryz.prog w = .ok (.bool (!x)) w := fun _ _ => rfl
  have hok : okS s = (decide (16 ≤ s.size) && (decide (s.size ≤ 65536) && (decide (1 ≤ s.gen) && (decide (s.gen ≤ 4611686018427387904) && (decide (2 ≤ s.table) && decide (s.table < s.size)))))) := rfl
  obtain ⟨W, hW⟩ : ∃ W, W = w.alloc (.cells (supV s).toArray 26) := ⟨_, rfl⟩
  rw [← hW] at hG hb
  have c0 : W.cell? ⟨w.heap.size, 0, none⟩ = some (.int .u32 (s.size : Int)) := by rw [hG.cell]; rfl
  have c1 : W.cell? ⟨w.heap.size, 1, none⟩ = some (.int .u64 (s.gen : Int)) := by rw [hG.cell]; rfl
  have c2 : W.cell? ⟨w.heap.size, 2, none⟩ = some (.int .u32 (s.table : Int)) := by rw [hG.cell]; rfl
  generalize checkS s = X at *
  generalize okS s = K at *
  have HW := Lib.hid hW
  have HX := Lib.hid hX
  have HK := Lib.hid hok
  clear hW hX hok hG
  generalize (supV s).toArray = cs at *
  obtain ⟨size, gen, table, hash⟩ := s
  simp only [] at c0 c1 c2 HK
  have no : K = false → X = 4 := fun h => by rw [HX.out, h]; rfl
  go_enter Tryz.func13, Tryz.ntmps13
  by_cases h1 : size < 16
  · have i1 : (size : Int) < 16 := by omega
    have hX := no (by rw [HK.out, decide_eq_false (show ¬ 16 ≤ size by omega)]; rfl)
    clear no
    have HXf := Lib.hid hX
    clear hX
    go_wp2_with (refine wpList_world HW.out ?_)
    go_ret
    exact ⟨by rw [HXf.out]; rfl, hb⟩
  have i1 : ¬ (size : Int) < 16 := by omega
  by_cases h2 : 65536 < size
  · have i2 : (65536 : Int) < (size : Int) := by omega
    have hX := no (by rw [HK.out, decide_eq_false (show ¬ size ≤ 65536 by omega)]; simp)
    clear no
    have HXf := Lib.hid hX
    clear hX
    go_wp2_with (refine wpList_world HW.out ?_)
    go_ret
    exact ⟨by rw [HXf.out]; rfl, hb⟩
  have i2 : ¬ (65536 : Int) < (size : Int) := by omega
  by_cases h3 : gen < 1
  · have i3 : (gen : Int) < 1 := by omega
    have hX := no (by rw [HK.out, decide_eq_false (show ¬ 1 ≤ gen by omega)]; simp)
    clear no
    have HXf := Lib.hid hX
    clear hX
    go_wp2_with (refine wpList_world HW.out ?_)
    go_ret
    exact ⟨by rw [HXf.out]; rfl, hb⟩
  have i3 : ¬ (gen : Int) < 1 := by omega
  by_cases h4 : 4611686018427387904 < gen
  · have i4 : (4611686018427387904 : Int) < (gen : Int) := by omega
    have hX := no (by rw [HK.out, decide_eq_false (show ¬ gen ≤ 4611686018427387904 by omega)]; simp)
    clear no
    have HXf := Lib.hid hX
    clear hX
    go_wp2_with (refine wpList_world HW.out ?_)
    go_ret
    exact ⟨by rw [HXf.out]; rfl, hb⟩
  have i4 : ¬ (4611686018427387904 : Int) < (gen : Int) := by omega
  have hbl := block_calls table W
  have hbd : blockN table = (decide (2 ≤ table) && decide (table < 65536)) := rfl
  have d1 : decide (16 ≤ size) = true := decide_eq_true (by omega)
  have d2 : decide (size ≤ 65536) = true := decide_eq_true (by omega)
  have d3 : decide (1 ≤ gen) = true := decide_eq_true (by omega)
  have d4 : decide (gen ≤ 4611686018427387904) = true := decide_eq_true (by omega)
  rw [d1, d2, d3, d4, Bool.true_and, Bool.true_and, Bool.true_and, Bool.true_and] at HK
  clear d1 d2 d3 d4
  generalize hbb : blockN table = bl at *
  have HBD := Lib.hid hbd
  clear hbd hbb h3 h4
  go_wp2_with (refine wpList_world HW.out ?_)
  refine hbl.mono ?_
  rintro e W' ⟨rfl, rfl⟩
  clear i1 i2 i3 i4
  cases bl with
  | false =>
    have hX := no (by
      rw [HK.out]
      by_cases q : 2 ≤ table
      · have : ¬ table < 65536 := fun q2 => by have := HBD.out; rw [decide_eq_true q, decide_eq_true q2] at this; cases this
        rw [decide_eq_false (show ¬ table < size by omega)]; simp
      · rw [decide_eq_false q]; rfl)
    clear no
    have HXf := Lib.hid hX
    clear hX h1 h2
    go_wp2_with fail
    go_ret
    exact ⟨by rw [HXf.out]; rfl, hb⟩
  | true =>
    have q2 : 2 ≤ table := by
      have := HBD.out
      rw [eq_comm, Bool.and_eq_true] at this
      exact of_decide_eq_true this.1
    by_cases h5 : size ≤ table
    · have i5 : (size : Int) ≤ (table : Int) := by omega
      have hX := no (by rw [HK.out, decide_eq_false (show ¬ table < size by omega)]; simp)
      clear no
      have HXf := Lib.hid hX
      clear hX h1 h2
      go_wp2_with fail
      go_ret
      exact ⟨by rw [HXf.out]; rfl, hb⟩
    · have i5 : ¬ (size : Int) ≤ (table : Int) := by omega
      have hX : X = 0 := by rw [HX.out, HK.out, decide_eq_true q2, decide_eq_true (show table < size by omega)]; rfl
      have HXf := Lib.hid hX
      clear hX no h1 h2
      go_wp2_with fail
      go_ret
      exact ⟨by rw [HXf.out]; rfl, hb⟩

theorem slot_calls (s : SupD) (w : World) : Calls Tryz.prog 15 #[.agg (supV s).toArray] w fun e w' => e = .returned (.int .i64 ((s.gen % 2 : Nat) : Int)) ∧ Below w.heap.size w w' := by
  have hG := RowIs.new w 26 (supV s).toArray
  have hb : Below w.heap.size w (w.alloc (.cells (supV s).toArray 26)) := (Below.refl _ _).alloc (Nat.le_refl _) _
  obtain ⟨W, hW⟩ : ∃ W, W = w.alloc (.cells (supV s).toArray 26) := ⟨_, rfl⟩
  rw [← hW] at hG hb
  have c1 : W.cell? ⟨w.heap.size, 1, none⟩ = some (.int .u64 (s.gen : Int)) := by rw [hG.cell]; rfl
  have HW := Lib.hid hW
  clear hW hG
  generalize (supV s).toArray = cs at *
  have i1 : (s.gen : Int) % 2 < 2 := by omega
  have i2 : 0 ≤ (s.gen : Int) % 2 := by omega
  have i0 : 0 ≤ (s.gen : Int) := by omega
  go_enter Tryz.func15, Tryz.ntmps15
  go_wp2_with (refine wpList_world HW.out ?_)
  go_ret
  exact ⟨by first | rfl | exact ret_int (by omega), hb⟩

theorem snumber_calls (n k : Nat) (w : World) (hn : n < 256 ^ k) (h1 : 1 ≤ k) (h8 : k ≤ 8) : Calls Tryz.prog 21 #[.int .u64 (n : Int), .int .i64 (k : Int)] w fun e w' => e = .returned (.string (strOf (beL n k))) ∧ Below w.heap.size w w' := by
  have hlt : n < 18446744073709551616 := Nat.lt_of_lt_of_le hn (Nat.pow_le_pow_right (by decide) h8)
  have hnum := number_calls n (k : Int) w hlt
  have hok : numOk n (k : Int) := ⟨by omega, by omega, by rw [Int.toNat_natCast]; exact hn⟩
  have hS : numS n (k : Int) = strOf (beL n k) := by rw [numS, if_pos hok, Int.toNat_natCast]; rfl
  rw [hS] at hnum
  generalize strOf (beL n k) = S at *
  generalize numE n (k : Int) = E at *
  clear hS hok
  go_enter Tryz.func21, Tryz.ntmps21
  go_wp2_with fail
  refine hnum.mono ?_
  rintro e w2 ⟨rfl, hb⟩
  go_wp2_with fail
  go_ret
  exact ⟨rfl, hb⟩

end Go.Proofs.YtgjaoofgmdijdaaGreatDoor
