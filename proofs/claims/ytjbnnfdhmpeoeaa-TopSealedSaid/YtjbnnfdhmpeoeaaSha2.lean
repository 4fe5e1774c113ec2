/- hash.Sum, walked: rounds, take, tail, Sum. -/
import Derived.Test.YtjbnnfdhmpeoeaaSha
namespace Go.Proofs.Ytjbnnfdhmpeoeaa
open Go.RowKit

set_option maxRecDepth 20000 in
set_option maxHeartbeats 1600000 in
theorem rounds_calls (w : World) : Calls Try.prog 47 #[] w fun e w' => e = .returned (.pointer (some ⟨w.heap.size, 0, none⟩)) ∧ RowIs w' w.heap.size 101 (wordCells shaK) ∧ Below w.heap.size w w' ∧ w'.heap.size = w.heap.size + 1 := by
  go_enter Try.func47, Try.ntmps47
  go_wp2
  go_ret
  exact ⟨rfl, RowIs.new w _ (wordCells shaK), (Below.refl _ _).alloc (Nat.le_refl _) _, by simp⟩

theorem tail_int (n : Nat) (j : Nat) (hn : n ≤ 140737488351232) : (n : Int) * 8 / 2 ^ (8 * j) % 256 = ((UInt8.ofNat (n * 8 % 18446744073709551616 / 256 ^ j)).toNat : Int) := by
  rw [byte_toNat]
  have e : (2 : Int) ^ (8 * j) = ((256 ^ j : Nat) : Int) := by
    have : 256 ^ j = 2 ^ (8 * j) := by rw [Nat.pow_mul]
    rw [this]; simp
  have e2 : n * 8 % 18446744073709551616 = n * 8 := by omega
  rw [e, e2]
  generalize 256 ^ j = P
  have e3 : (n : Int) * 8 = ((n * 8 : Nat) : Int) := by omega
  rw [e3]
  generalize n * 8 = q
  omega

set_option maxRecDepth 20000 in
set_option maxHeartbeats 1600000 in
theorem tail_calls (n : Nat) (w : World) (hn : n ≤ 140737488351232) :
    Calls Try.prog 49 #[.int .i64 (n : Int)] w fun e w' => e = .returned (.string ⟨(padding n).toArray⟩) ∧ Below w.heap.size w w' := by
  have hz0 : 0 ≤ (119 : Int) - (n : Int) % 64 := by omega
  have hz1 : (0 : Int) ≤ ((119 : Int) - (n : Int) % 64) % 64 := by omega
  have hz2 : ((119 : Int) - (n : Int) % 64) % 64 < 64 := by omega
  obtain ⟨z, hz⟩ := Int.eq_ofNat_of_zero_le hz1
  go_enter Try.func49, Try.ntmps49
  have hzn : z < 64 := by omega
  have hpad : padding n = 0x80 :: (List.replicate z 0 ++ beL (n * 8 % 18446744073709551616) 8) := by
    have : (119 - n % 64) % 64 = z := by omega
    rw [padding, this]
  have Hpad := Lib.hid hpad
  clear hpad
  obtain ⟨W2, hmake, hrow, hb2, hz3⟩ := make_bytes w .i64 (z + 9) (by omega)
  have e9 : ((z + 9 : Nat) : Int) = 1 + (z : Int) + 8 := by omega
  rw [e9] at hmake
  have hr1 := hrow.set 0 0x80 128 rfl (by simp)
  have hc0 := hrow.cell 0 (by simp)
  have hf0 := hrow.free 0 (by simp)
  rw [List.replicate_succ, List.set_cons_zero] at hr1
  have hbel1 : Below w.heap.size w (W2.setCell ⟨w.heap.size, 0, none⟩ (.int .u8 128)) := hb2.setCell (p := ⟨w.heap.size, 0, none⟩) (Nat.le_refl _) _
  generalize hq : n * 8 % 18446744073709551616 = q at *
  have hti := fun j => tail_int n j hn
  rw [hq] at hti
  have Hq := Lib.hid hq
  have Hti := Lib.hid hti
  generalize hB : w.heap.size = B at *
  have HB := Lib.hid hB
  clear hq hrow hb2 hti hB
  go_wp2_with fail
  generalize W2.setCell ⟨B, 0, none⟩ (.int .u8 128) = W3 at *
  go_loopw [5, 16] (fun _ i wr => ∃ j : Nat, j ≤ 8 ∧ i = .int .i64 j ∧ ByteRow wr B (0x80 :: numRow q (z + 8) j) ∧ Below B w wr) (fun _ i _ => 8 - (intOf i).toNat)
  case atStart => exact ⟨0, by omega, rfl, by simpa [numRow, beL] using hr1, hbel1⟩
  case round =>
    clear hr1 hbel1
    obtain ⟨j, hj, rfl, hr, hbel⟩ := hrel
    have hlen := numRow_length q (z + 8) j (by omega)
    by_cases hlt : j < 8
    · have hcell := hr.cell (z + 8 - j) (by simp; omega)
      have hfree := hr.free (z + 8 - j) (by simp; omega)
      have hset := hr.set (z + 8 - j) (UInt8.ofNat (q / 256 ^ j)) _ (Hti.out j) (by simp; omega)
      have e1 : z + 8 - j = (z + 8 - 1 - j) + 1 := by omega
      have e2 : (0x80 :: numRow q (z + 8) j).set (z + 8 - j) (UInt8.ofNat (q / 256 ^ j)) = 0x80 :: numRow q (z + 8) (j + 1) := by
        rw [e1, List.set_cons_succ, numRow_set q (z + 8) j (by omega)]
      rw [e2] at hset
      have Hset := Lib.hid hset
      have i0 : 0 ≤ 1 + (z : Int) + 8 - 1 - j := by omega
      have i1 : 1 + (z : Int) + 8 - 1 - j < 1 + (z : Int) + 8 := by omega
      have i2 : (1 + (z : Int) + 8 - 1 - j).toNat = z + 8 - j := by omega
      clear hr hset e1 e2
      go_wp2
      go_roundw
      case rel => exact ⟨j + 1, by omega, by go_num, Hset.out, hbel.setCell (p := ⟨B, z + 8 - j, none⟩) (Nat.le_refl B) _⟩
      case measure => simp [intOf]; omega
    · have hj8 : j = 8 := by omega
      subst hj8
      have e8 : (0x80 :: numRow q (z + 8) 8) = padding n := by rw [Hpad.out, numRow]; simp
      rw [e8] at hr
      have hpl : (padding n).length = z + 9 := by rw [Hpad.out]; simp [beL_length]
      have hback := conv_back wr B (z + 9) (z + 9) (padding n) hpl.symm hr
      clear hr e8 hpl
      go_wp2
      go_ret
      exact ⟨rfl, hbel⟩

end Go.Proofs.Ytjbnnfdhmpeoeaa
