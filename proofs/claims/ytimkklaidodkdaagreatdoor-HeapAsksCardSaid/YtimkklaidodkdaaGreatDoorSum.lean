/- pack.Sum and the document's Sum, walked: both hand back the check sum 'crc' of the text's bytes. -/
import Derived.Test.YtimkklaidodkdaaGreatDoorProg
import Derived.Test.YtimkklaidodkdaaGreatDoorHeapPut
import Derived.Test.YtimkklaidodkdaaGreatDoorWords
import Derived.WalkKit
import Derived.ProofKit
import Derived.Below
import Derived.OneCell
import Derived.Lib.Hide
import Derived.RegionTactic
import Derived.ChangeAlike
import Derived.Outline
import Derived.LoopTactic
import Derived.WalkSpells
import Derived.Laws.LoneSync
namespace Go.Proofs.YtimkklaidodkdaaGreatDoor
open Go.RowKit

theorem uadd (a : Addr) (n : Int) (w : World) (h1 : w.cell? a = some (.int .u64 n)) (h2 : w.frozen? a = false) :
  (callFunc 152 #[.pointer (some a), .int .u64 1]).run Tryz.prog w = .ok (.value (.int .u64 (IntKind.u64.wrap (n + 1)))) (w.setCell a (.int .u64 (IntKind.u64.wrap (n + 1)))) :=
 run_call_add Tryz.func152 (by kernel_rfl) (by kernel_rfl) (by kernel_rfl) .u64 (by kernel_rfl) h1 h2 (by simp [go_sem])

/-- A register in block b: the sum, and how many bytes. -/
def RegAt (b : Nat) (s : BitVec 32) (w : World) : Prop := ∃ n : Int, w.heap[b]? = some (.cells #[.int .u32 (uw s), .int .u64 n] 135 (0, 0))

theorem crcBit_int (s : BitVec 32) : bits BinOp.xor IntKind.u32 (uw s * 2 % 4294967296) (bits BinOp.and IntKind.u32 2168537515 (-(uw s / 2147483648) % 4294967296)) = uw (crcBit s) := by
 have e1 := uw_shl s 1 2 rfl
 have e2 := uw_shr s 31 2147483648 rfl
 have e3 : (2168537515 : Int) = uw 2168537515#32 := rfl
 rw [e1, e2, uw_neg, e3, uw_and, uw_xor]
 rfl

theorem crcIn_int (s : BitVec 32) (c : UInt8) : bits BinOp.xor IntKind.u32 (uw s) ((c.toNat : Int) % 4294967296 * 16777216 % 4294967296) = uw (s ^^^ (w8 c <<< 24)) := by
 have e1 : (c.toNat : Int) % 4294967296 = uw (w8 c) := by rw [← uw_w8]; exact uw_mod _
 have e2 := uw_shl (w8 c) 24 16777216 rfl
 rw [e1, e2, uw_xor]

set_option maxHeartbeats 800000 in
theorem put_calls (b : Nat) (s : BitVec 32) (c : UInt8) (w : World) (h : RegAt b s w) :
  Calls Tryz.prog 65 #[.pointer (some ⟨b, 0, none⟩), .int .u8 (c.toNat : Int)] w fun e w' => e = .returned (.tuple #[]) ∧ RegAt b (crcByte s c) w' ∧ Below b w w' ∧ w'.heap.size = w.heap.size := by
 obtain ⟨n, h⟩ := h
 have h0 : w.cell? ⟨b, 0, none⟩ = some (.int .u32 (uw s)) := by simp [World.cell?, h]
 have h1 : w.cell? ⟨b, 1, none⟩ = some (.int .u64 n) := by simp [World.cell?, h]
 have f0 : w.frozen? ⟨b, 0, none⟩ = false := by simp [World.frozen?, h]
 have f1 : w.frozen? ⟨b, 1, none⟩ = false := by simp [World.frozen?, h]
 have hl := uadd ⟨b, 1, none⟩ n w h1 f1
 have H := Lib.hid h
 clear h
 go_enter Tryz.func65, Tryz.ntmps65
 go_wp2
 rw [crcIn_int]
 generalize hs1 : s ^^^ (w8 c <<< 24) = s1
 have Hs := Lib.hid hs1
 clear hs1
 generalize IntKind.u64.wrap (n + 1) = n1
 go_loopw [18] (fun i wr => ∃ k : Nat, k ≤ 8 ∧ i = .int .i64 k ∧ wr.heap[b]? = some (.cells #[.int .u32 (uw (crcN k s1)), .int .u64 n1] 135 (0, 0)) ∧ Below b w wr ∧ wr.heap.size = w.heap.size) (fun i _ => 8 - (intOf i).toNat)
 case atStart =>
  have hb := block_setCell (block_setCell H.out 1 (.int .u64 n1)) 0 (.int .u32 (uw s1))
  exact ⟨0, by omega, rfl, hb, ((Below.refl b w).setCell (p := ⟨b, 1, none⟩) (Nat.le_refl b) _).setCell (p := ⟨b, 0, none⟩) (Nat.le_refl b) _, by simp [World.setCell]⟩
 case round =>
  obtain ⟨k, hk, rfl, hb, hbel, hsz⟩ := hrel
  clear h0 h1 f0 f1 hl
  have h0 : wr.cell? ⟨b, 0, none⟩ = some (.int .u32 (uw (crcN k s1))) := by simp [World.cell?, hb]
  have f0 : wr.frozen? ⟨b, 0, none⟩ = false := by simp [World.frozen?, hb]
  have Hb := Lib.hid hb
  have Hz := Lib.hid hsz
  clear hb hsz
  by_cases hlt : k < 8
  ·go_wp2
   go_region
   go_wp2
   rw [crcBit_int]
   go_roundw
   case rel =>
    refine ⟨k + 1, by omega, by go_num, ?_, (hbel.setCell (p := ⟨b, 0, none⟩) (Nat.le_refl b) _).drew, ?_⟩
    ·exact block_setCell Hb.out 0 _
    ·have := Hz.out
     simpa [World.setCell] using this
   case measure => simp [intOf]; omega
  ·have hk8 : k = 8 := by omega
   subst hk8
   go_wp2
   go_end0
   have hs1 := Hs.out
   exact ⟨rfl, ⟨n1, by rw [crcByte, hs1]; exact Hb.out⟩, hbel, Hz.out⟩

set_option maxHeartbeats 800000 in
theorem sum_calls (s : ByteArray) (w : World) (hs : s.size ≤ maxLen) :
  Calls Tryz.prog 38 #[.string s] w fun e w' => e = .returned (.int .u32 (uw (crc s.data.toList))) ∧ Below w.heap.size w w' := by
 unfold maxLen at hs
 go_enter Tryz.func38, Tryz.ntmps38
 go_wp2
 go_loopw [4, 7] (fun _ i wr => ∃ k : Nat, k ≤ s.size ∧ i = .int .i64 k ∧ RegAt w.heap.size (crc (s.data.toList.take k)) wr ∧ Below w.heap.size w wr) (fun _ i _ => s.size - (intOf i).toNat)
 case atStart => exact ⟨0, by omega, rfl, ⟨0, heap_alloc_new _ _⟩, (Below.refl _ _).alloc (Nat.le_refl _) _⟩
 case round =>
  obtain ⟨k, hk, rfl, hreg, hbel⟩ := hrel
  by_cases hlt : k < s.size
  ·have hts := take_snoc s k hlt
   have HT : Hid (crc (s.data.toList.take (k + 1)) = crcByte (crc (s.data.toList.take k)) s[k]) := by rw [hts]; exact crcFrom_snoc _ _ _
   clear hts
   go_wp2_with ((go_at_call 65); (refine (put_calls w.heap.size _ _ _ hreg).mono ?_); (rintro e w1 ⟨rfl, hr1, hb1, hz1⟩))
   go_roundw
   case rel => exact ⟨k + 1, by omega, by go_num, by rw [HT.out]; exact hr1, hbel.trans hb1⟩
   case measure => simp [intOf]; omega
  ·obtain ⟨n, hreg⟩ := hreg
   have h0 : wr.cell? ⟨w.heap.size, 0, none⟩ = some (.int .u32 (uw (crc (s.data.toList.take k)))) := by simp [World.cell?, hreg]
   have Hr := Lib.hid hreg
   clear hreg
   go_wp2
   go_ret
   exact ⟨by rw [List.take_of_length_le (by simp; omega)]; rfl, hbel⟩

theorem refBit_hi (s : BitVec 32) (h : 2147483648 ≤ uw s) : bits BinOp.xor IntKind.u32 (uw s * 2 % 4294967296) 2168537515 = uw (crcBit s) := by
 have e1 := uw_shl s 1 2 rfl
 have e3 : (2168537515 : Int) = uw 2168537515#32 := rfl
 rw [e1, e3, uw_xor, crcBit_ref, refBit, if_pos (by unfold uw at h; omega)]
theorem refBit_lo (s : BitVec 32) (h : ¬ 2147483648 ≤ uw s) : uw s * 2 % 4294967296 = uw (crcBit s) := by
 have e1 := uw_shl s 1 2 rfl
 rw [e1, crcBit_ref, refBit, if_neg (by unfold uw at h; omega)]

set_option maxHeartbeats 800000 in
theorem refsum_calls (s : ByteArray) (w : World) (hs : s.size ≤ maxLen) :
  Calls Tryz.prog 147 #[.string s] w fun e w' => e = .returned (.int .u32 (uw (crc s.data.toList))) ∧ w = w' := by
 unfold maxLen at hs
 go_enter Tryz.func147, Tryz.ntmps147
 go_wp2
 go_loop [3, 4] (fun c i => ∃ k : Nat, k ≤ s.size ∧ i = .int .i64 k ∧ c = .int .u32 (uw (crc (s.data.toList.take k)))) (fun _ i => s.size - (intOf i).toNat)
 case atStart => exact ⟨0, by omega, rfl, rfl⟩
 case round =>
  obtain ⟨k, hk, rfl, rfl⟩ := hrel
  by_cases hlt : k < s.size
  ·have hts := take_snoc s k hlt
   have HT : Hid (crc (s.data.toList.take (k + 1)) = crcByte (crc (s.data.toList.take k)) s[k]) := by rw [hts]; exact crcFrom_snoc _ _ _
   clear hts
   generalize crc (s.data.toList.take k) = c0 at HT
   go_wp2
   rw [crcIn_int]
   generalize hs1 : c0 ^^^ (w8 s[k] <<< 24) = s1
   have Hs := Lib.hid hs1
   clear hs1
   go_loop [3, 5, 6] (fun c j _ => ∃ m : Nat, m ≤ 8 ∧ j = .int .i64 m ∧ c = .int .u32 (uw (crcN m s1))) (fun _ j _ => 8 - (intOf j).toNat)
   case atStart => exact ⟨0, by omega, rfl, rfl⟩
   case round =>
    obtain ⟨m, hm, rfl, rfl⟩ := hrel
    by_cases hlt8 : m < 8
    ·by_cases hhi : 2147483648 ≤ uw (crcN m s1)
     ·go_wp2
      rw [refBit_hi _ hhi]
      go_round
      case rel => exact ⟨m + 1, by omega, by go_num, rfl⟩
      case measure => simp [intOf]; omega
     ·go_wp2
      rw [refBit_lo _ hhi]
      go_round
      case rel => exact ⟨m + 1, by omega, by go_num, rfl⟩
      case measure => simp [intOf]; omega
    ·have hm8 : m = 8 := by omega
     subst hm8
     go_wp2
     go_round
     case rel => exact ⟨k + 1, by omega, by go_num, by rw [HT.out, crcByte, Hs.out]⟩
     case measure => simp [intOf]; omega
  ·go_wp2
   go_ret
   exact ⟨by rw [List.take_of_length_le (by simp; omega)]; rfl, rfl⟩

end Go.Proofs.YtimkklaidodkdaaGreatDoor
