/- pack.Number, TakeNumber, Text, TakeText and the document's, walked: each pair comes to the same plain functions. -/
import Derived.Test.YtimkklaidodkdaaGreatDoorWords
import Derived.Test.YtimkklaidodkdaaGreatDoorHeapPut
import Derived.Test.YtimkklaidodkdaaGreatDoorShelf
import Derived.RegionTactic
import Derived.ChangeAlike
import Derived.Outline
import Derived.LoopTactic
import Derived.Deep.QuietTactic
import Derived.BigQuiet
namespace Go.Proofs.YtimkklaidodkdaaGreatDoor
open Go.RowKit

def numOk (n : Nat) (x : Int) : Prop := 1 ≤ x ∧ x ≤ 8 ∧ n < 256 ^ x.toNat
instance (n : Nat) (x : Int) : Decidable (numOk n x) := inferInstanceAs (Decidable (_ ∧ _ ∧ _))
def numS (n : Nat) (x : Int) : ByteArray := if numOk n x then beN n x.toNat else ⟨#[]⟩
def numE (n : Nat) (x : Int) : Int := if numOk n x then 0 else 1

/-- The low k bytes laid at the end of a row of w. -/
def numRow (n w k : Nat) : List UInt8 := List.replicate (w - k) 0 ++ beL n k
theorem numRow_length (n w k : Nat) (h : k ≤ w) : (numRow n w k).length = w := by simp [numRow, beL_length]; omega
theorem numRow_set (n w k : Nat) (h : k < w) : (numRow n w k).set (w - 1 - k) (UInt8.ofNat (n / 256 ^ k)) = numRow n w (k + 1) := by
 unfold numRow
 have e1 : w - k = (w - 1 - k) + 1 := by omega
 have e2 : w - (k + 1) = w - 1 - k := by omega
 rw [e1, e2, List.replicate_succ', List.append_assoc, List.set_append_right _ _ (by simp)]
 simp [beL]

theorem shr_byte (n k : Nat) : ((n : Int) / 2 ^ (8 * k)) % 256 = ((UInt8.ofNat (n / 256 ^ k)).toNat : Int) := by
 rw [byte_toNat]
 have e : (2 : Int) ^ (8 * k) = ((256 ^ k : Nat) : Int) := by
  have : 256 ^ k = 2 ^ (8 * k) := by rw [Nat.pow_mul]
  rw [this]; simp
 rw [e]; omega

set_option maxRecDepth 20000 in
set_option maxHeartbeats 800000 in
theorem number_calls (n : Nat) (x : Int) (w : World) (hn : n < 18446744073709551616) :
  Calls Tryz.prog 68 #[.int .u64 (n : Int), .int .i64 x] w fun e w' => e = .returned (.tuple #[.string (numS n x), .int .i64 (numE n x)]) ∧ Below w.heap.size w w' := by
 by_cases hlo : x < 1
 ·have hno : ¬ numOk n x := fun h => by have := h.1; omega
  go_enter Tryz.func68, Tryz.ntmps68
  go_wp2
  go_ret2
  exact ⟨by simp [numS, numE, hno], Below.refl _ _⟩
 by_cases hhi : 8 < x
 ·have hno : ¬ numOk n x := fun h => by have := h.2.1; omega
  go_enter Tryz.func68, Tryz.ntmps68
  go_wp2
  go_ret2
  exact ⟨by simp [numS, numE, hno], Below.refl _ _⟩
 obtain ⟨k, rfl⟩ := Int.eq_ofNat_of_zero_le (show 0 ≤ x by omega)
 have hbits := bitLen_fits n k (by omega) hn
 have hble := Lib.bitLen_le n 64 (by omega) (by omega)
 by_cases hfit : n < 256 ^ k
 ·have hok : numOk n (k : Int) := ⟨by omega, by omega, by simpa using hfit⟩
  have hle := hbits.2 hfit
  have Hfin := Lib.hid (show numS n (k : Int) = beN n k ∧ numE n (k : Int) = 0 by simp [numS, numE, hok])
  clear hbits hok
  go_enter Tryz.func68, Tryz.ntmps68
  go_wp2_with fail
  refine (Tryz.bits_Len64 (n : Int) _ (by omega) (by omega)).mono ?_
  rintro e w1 ⟨rfl, rfl⟩
  rw [Int.toNat_natCast]
  obtain ⟨W2, hmake, hrow, hb2, hz2⟩ := make_bytes w1 .i64 k (by omega)
  generalize hbw : w1.heap.size = bw at hrow hmake hb2 hz2
  have Hbw := Lib.hid hbw
  clear hbw hfit
  go_wp2_with fail
  go_loopw [7, 25] (fun _ i wr => ∃ j : Nat, j ≤ k ∧ i = .int .i64 j ∧ ByteRow wr bw (numRow n k j) ∧ Below bw w1 wr) (fun _ i _ => k - (intOf i).toNat)
  case atStart => exact ⟨0, by omega, rfl, by simpa [numRow, beL] using hrow, hb2⟩
  case round =>
   obtain ⟨j, hj, rfl, hr, hbel⟩ := hrel
   have hlen := numRow_length n k j hj
   by_cases hlt : j < k
   ·have hcell := hr.cell (k - 1 - j) (by omega)
    have hfree := hr.free (k - 1 - j) (by omega)
    have hset := hr.set (k - 1 - j) (UInt8.ofNat (n / 256 ^ j)) _ (shr_byte n j) (by omega)
    rw [numRow_set n k j hlt] at hset
    have Hset := Lib.hid hset
    have hk0 : 0 ≤ (k : Int) - 1 - j := by omega
    have hk1 : ((k : Int) - 1 - j) < k := by omega
    have hk2 : (8 : Int) * j ≤ 56 := by omega
    clear hr hset hrow
    generalize (numRow n k j)[k - 1 - j].toNat = old at hcell
    go_wp2
    go_roundw
    case rel => exact ⟨j + 1, by omega, by go_num, Hset.out, hbel.setCell (p := ⟨bw, k - 1 - j, none⟩) (Nat.le_refl bw) _⟩
    case measure => simp [intOf]; omega
   ·have hjk : j = k := by omega
    subst hjk
    have hr0 : numRow n j j = beL n j := by simp [numRow]
    rw [hr0] at hr
    have hback := conv_back wr bw j j (beL n j) (beL_length n j).symm hr
    have hS : (⟨(beL n j).toArray⟩ : ByteArray) = numS n (j : Int) := Hfin.out.1.symm
    rw [hS] at hback
    clear hr0 hr hS
    go_wp2
    go_ret2
    have hbw : w1.heap.size ≤ bw := by rw [Hbw.out]; exact Nat.le_refl _
    exact ⟨by rw [Hfin.out.2]; rfl, hbel.mono hbw⟩
 ·have hno : ¬ numOk n (k : Int) := fun h => hfit (by simpa using h.2.2)
  have hgt : 8 * k < Lib.bitLen n := by
   rcases Nat.lt_or_ge (8 * k) (Lib.bitLen n) with h | h
   ·exact h
   ·exact absurd (hbits.1 h) hfit
  have Hfin := Lib.hid (show numS n (k : Int) = ⟨#[]⟩ ∧ numE n (k : Int) = 1 by simp [numS, numE, hno])
  clear hbits hno hfit
  go_enter Tryz.func68, Tryz.ntmps68
  go_wp2_with fail
  refine (Tryz.bits_Len64 (n : Int) _ (by omega) (by omega)).mono ?_
  rintro e w1 ⟨rfl, rfl⟩
  rw [Int.toNat_natCast]
  go_wp2
  go_ret2
  exact ⟨by rw [Hfin.out.1, Hfin.out.2]; rfl, Below.refl _ _⟩

theorem beN_succ (n j : Nat) : (⟨#[UInt8.ofNat (n / 256 ^ j)]⟩ : ByteArray) ++ beN n j = beN n (j + 1) := by
 apply ByteArray.ext
 simp [beN, beL]
theorem div_byte (n j : Nat) : (n : Int) / 256 ^ j % 256 = ((UInt8.ofNat (n / 256 ^ j)).toNat : Int) := by
 rw [byte_toNat]
 have e : (256 : Int) ^ j = ((256 ^ j : Nat) : Int) := by simp
 rw [e]; omega

theorem quo_byte (n j : Nat) (hn : n < 18446744073709551616) : IntKind.u64.wrap (((n : Int) / 256 ^ j).tdiv 256) = ((n / 256 ^ (j + 1) : Nat) : Int) := by
 have e : (n : Int) / 256 ^ j = ((n / 256 ^ j : Nat) : Int) := by simp
 have hm : n / 256 ^ j < 18446744073709551616 := Nat.lt_of_le_of_lt (Nat.div_le_self ..) hn
 have h2 : n / 256 ^ j / 256 = n / 256 ^ (j + 1) := by rw [Nat.div_div_eq_div_mul, pow256_succ]
 rw [e, ← h2]
 generalize n / 256 ^ j = q at hm
 rw [Int.tdiv_eq_ediv_of_nonneg (by omega), IntKind.wrap_u64]
 omega

set_option maxRecDepth 20000 in
set_option maxHeartbeats 800000 in
theorem refbytes_calls (n k : Nat) (w : World) (hn : n < 18446744073709551616) (hk : k ≤ 8) :
  Calls Tryz.prog 146 #[.int .u64 (n : Int), .int .i64 (k : Int)] w fun e w' => e = .returned (.string (beN n k)) ∧ Below w.heap.size w w' := by
 go_enter Tryz.func146, Tryz.ntmps146
 go_wp2
 go_loopw [0, 5, 6] (fun m s i wr => ∃ j : Nat, j ≤ k ∧ i = .int .i64 j ∧ m = .int .u64 ((n / 256 ^ j : Nat) : Int) ∧ s = .string (beN n j) ∧ Below w.heap.size w wr) (fun _ _ i _ => k - (intOf i).toNat)
 case atStart => exact ⟨0, by omega, rfl, by simp, rfl, Below.refl _ _⟩
 case round =>
  obtain ⟨j, hj, rfl, rfl, rfl, hbel⟩ := hrel
  have hbs := beN_size n j
  by_cases hlt : j < k
  ·have hm : n / 256 ^ j < 18446744073709551616 := Nat.lt_of_le_of_lt (Nat.div_le_self ..) hn
   have hsz : (beN n j).size ≤ 8 := by rw [hbs]; omega
   have hconv := conv_one wr _ _ (div_byte n j)
   clear hbs
   go_wp2
   rw [beN_succ]
   go_roundw
   case rel => exact ⟨j + 1, by omega, by go_num, by rw [quo_byte n j hn], rfl, hbel.alloc hbel.size _⟩
   case measure => simp [intOf]; omega
  ·have hjk : j = k := by omega
   subst hjk
   go_wp2
   go_ret
   exact ⟨rfl, hbel⟩

theorem pow_pos_of (k : Nat) (n : Nat) : n / 256 ^ k = 0 ↔ n < 256 ^ k := by
 rw [Nat.div_eq_zero_iff]
 have := pow256_pos k
 omega

theorem or_byte (m : Nat) (c : UInt8) (hm : m < 72057594037927936) : bits BinOp.or IntKind.u64 ((m : Int) * 256) (IntKind.u64.wrap (c.toNat : Int)) = ((m * 256 + c.toNat : Nat) : Int) := by
 have hc := c.toNat_lt
 rw [IntKind.wrap_u64]
 have e1 : (m : Int) * 256 = ((2 ^ 8 * m : Nat) : Int) := by omega
 have e2 : (c.toNat : Int) % 18446744073709551616 = (c.toNat : Int) := by omega
 rw [e1, e2, (bits_nat .u64 64 (by decide) (fun n h0 h1 => by rw [IntKind.wrap_u64]; omega) (2 ^ 8 * m) c.toNat (by omega) (by omega)).2,
  ← Nat.two_pow_add_eq_or_of_lt (by omega)]
 omega

set_option maxRecDepth 20000 in
set_option maxHeartbeats 800000 in
theorem take_calls (s : ByteArray) (x : Int) (w : World) (hs : s.size ≤ maxLen) :
  Calls Tryz.prog 157 #[.string s, .int .i64 x] w fun e w' => e = .returned (.tuple #[.int .u64 (tkN s x), .string (tkS s x), .int .i64 (tkE s x)]) ∧ Below w.heap.size w w' := by
 have hs' : s.size ≤ 9223372036854775807 := by unfold maxLen at hs; omega
 by_cases hlo : x < 1
 ·have hno : ¬ tkOk s x := fun h => by have := h.1; omega
  have hno2 : ¬ (1 ≤ x ∧ x ≤ 8) := fun h => by omega
  go_enter Tryz.func157, Tryz.ntmps157
  go_wp2
  go_ret3
  exact ⟨by simp [tkN, tkS, tkE, hno, hno2], Below.refl _ _⟩
 by_cases hhi : 8 < x
 ·have hno : ¬ tkOk s x := fun h => by have := h.2.1; omega
  have hno2 : ¬ (1 ≤ x ∧ x ≤ 8) := fun h => by omega
  go_enter Tryz.func157, Tryz.ntmps157
  go_wp2
  go_ret3
  exact ⟨by simp [tkN, tkS, tkE, hno, hno2], Below.refl _ _⟩
 obtain ⟨k, rfl⟩ := Int.eq_ofNat_of_zero_le (show 0 ≤ x by omega)
 by_cases hsz : s.size < k
 ·have hno : ¬ tkOk s (k : Int) := fun h => by have := h.2.2; omega
  have hyes : 1 ≤ (k : Int) ∧ (k : Int) ≤ 8 := by omega
  have Hfin := Lib.hid (show tkN s (k : Int) = 0 ∧ tkS s (k : Int) = ⟨#[]⟩ ∧ tkE s (k : Int) = 3 by simp [tkN, tkS, tkE, hno, hyes])
  clear hno hyes
  go_enter Tryz.func157, Tryz.ntmps157
  go_wp2
  go_ret3
  exact ⟨by rw [Hfin.out.1, Hfin.out.2.1, Hfin.out.2.2]; rfl, Below.refl _ _⟩
 have hok : tkOk s (k : Int) := ⟨by omega, by omega, by omega⟩
 have Hfin := Lib.hid (show tkN s (k : Int) = ofBE (s.data.toList.take k) ∧ tkS s (k : Int) = s.extract k s.size ∧ tkE s (k : Int) = 0 by simp [tkN, tkS, tkE, hok])
 clear hok
 go_enter Tryz.func157, Tryz.ntmps157
 go_wp2
 go_loop [7, 8, 22] (fun m _ i => ∃ j : Nat, j ≤ k ∧ i = .int .i64 j ∧ m = .int .u64 (ofBE (s.data.toList.take j) : Nat)) (fun _ _ i => k - (intOf i).toNat)
 case atStart => exact ⟨0, by omega, rfl, rfl⟩
 case round =>
  obtain ⟨j, hj, rfl, rfl⟩ := hrel
  by_cases hlt : j < k
  ·have hjs : j < s.size := by omega
   have hm : ofBE (s.data.toList.take j) < 72057594037927936 := by
    have h1 := ofBE_lt (s.data.toList.take j)
    have h2 : (s.data.toList.take j).length ≤ 7 := by rw [List.length_take]; omega
    have h3 : 256 ^ (s.data.toList.take j).length ≤ 256 ^ 7 := Nat.pow_le_pow_right (by decide) h2
    have h4 : (256 : Nat) ^ 7 = 72057594037927936 := by decide
    omega
   have hstep : ofBE (s.data.toList.take (j + 1)) = ofBE (s.data.toList.take j) * 256 + s[j].toNat := by rw [take_snoc s j hjs, ofBE_snoc]
   generalize ofBE (s.data.toList.take j) = m at hm hstep
   have Hstep := Lib.hid hstep
   clear hstep
   go_wp2
   go_round
   case rel => exact ⟨j + 1, by omega, by go_num, by rw [or_byte m _ hm, Hstep.out]⟩
   case measure => simp [intOf]; omega
  ·have hjk : j = k := by omega
   subst hjk
   go_wp2
   go_region
   go_wp2
   go_ret3
   exact ⟨by rw [Hfin.out.1, Hfin.out.2.1, Hfin.out.2.2]; rfl, (Below.refl _ _).drew⟩

theorem add_byte (m : Nat) (c : UInt8) (hm : m < 72057594037927936) : Value.int IntKind.u64 (IntKind.u64.wrap ((m : Int) * 256 + IntKind.u64.wrap (c.toNat : Int))) = Value.int IntKind.u64 ((m * 256 + c.toNat : Nat) : Int) := by
 have hc := c.toNat_lt
 rw [IntKind.wrap_u64, IntKind.wrap_u64]
 congr 1
 omega

set_option maxRecDepth 20000 in
set_option maxHeartbeats 800000 in
theorem reftake_calls (s : ByteArray) (x : Int) (w : World) (hs : s.size ≤ maxLen) :
  Calls Tryz.prog 140 #[.string s, .int .i64 x] w fun e w' => e = .returned (.tuple #[.int .u64 (tkN s x), .string (tkS s x), .int .i64 (tkE s x)]) ∧ Below w.heap.size w w' := by
 have hs' : s.size ≤ 9223372036854775807 := by unfold maxLen at hs; omega
 by_cases hlo : x < 1
 ·have hno : ¬ tkOk s x := fun h => by have := h.1; omega
  have hno2 : ¬ (1 ≤ x ∧ x ≤ 8) := fun h => by omega
  go_enter Tryz.func140, Tryz.ntmps140
  go_wp2
  go_ret3
  exact ⟨by simp [tkN, tkS, tkE, hno, hno2], Below.refl _ _⟩
 by_cases hhi : 8 < x
 ·have hno : ¬ tkOk s x := fun h => by have := h.2.1; omega
  have hno2 : ¬ (1 ≤ x ∧ x ≤ 8) := fun h => by omega
  go_enter Tryz.func140, Tryz.ntmps140
  go_wp2
  go_ret3
  exact ⟨by simp [tkN, tkS, tkE, hno, hno2], Below.refl _ _⟩
 obtain ⟨k, rfl⟩ := Int.eq_ofNat_of_zero_le (show 0 ≤ x by omega)
 by_cases hsz : s.size < k
 ·have hno : ¬ tkOk s (k : Int) := fun h => by have := h.2.2; omega
  have hyes : 1 ≤ (k : Int) ∧ (k : Int) ≤ 8 := by omega
  have Hfin := Lib.hid (show tkN s (k : Int) = 0 ∧ tkS s (k : Int) = ⟨#[]⟩ ∧ tkE s (k : Int) = 3 by simp [tkN, tkS, tkE, hno, hyes])
  clear hno hyes
  go_enter Tryz.func140, Tryz.ntmps140
  go_wp2
  go_ret3
  exact ⟨by rw [Hfin.out.1, Hfin.out.2.1, Hfin.out.2.2]; rfl, Below.refl _ _⟩
 have hok : tkOk s (k : Int) := ⟨by omega, by omega, by omega⟩
 have Hfin := Lib.hid (show tkN s (k : Int) = ofBE (s.data.toList.take k) ∧ tkS s (k : Int) = s.extract k s.size ∧ tkE s (k : Int) = 0 by simp [tkN, tkS, tkE, hok])
 clear hok
 go_enter Tryz.func140, Tryz.ntmps140
 go_wp2
 go_loop [7, 8] (fun m i => ∃ j : Nat, j ≤ k ∧ i = .int .i64 j ∧ m = .int .u64 (ofBE (s.data.toList.take j) : Nat)) (fun _ i => k - (intOf i).toNat)
 case atStart => exact ⟨0, by omega, rfl, rfl⟩
 case round =>
  obtain ⟨j, hj, rfl, rfl⟩ := hrel
  by_cases hlt : j < k
  ·have hjs : j < s.size := by omega
   have hm : ofBE (s.data.toList.take j) < 72057594037927936 := by
    have h1 := ofBE_lt (s.data.toList.take j)
    have h2 : (s.data.toList.take j).length ≤ 7 := by rw [List.length_take]; omega
    have h3 : 256 ^ (s.data.toList.take j).length ≤ 256 ^ 7 := Nat.pow_le_pow_right (by decide) h2
    have h4 : (256 : Nat) ^ 7 = 72057594037927936 := by decide
    omega
   have hstep : ofBE (s.data.toList.take (j + 1)) = ofBE (s.data.toList.take j) * 256 + s[j].toNat := by rw [take_snoc s j hjs, ofBE_snoc]
   generalize ofBE (s.data.toList.take j) = m at hm hstep
   have Hstep := Lib.hid hstep
   clear hstep
   go_wp2
   go_round
   case rel => exact ⟨j + 1, by omega, by go_num, by rw [Hstep.out]; exact add_byte m _ hm⟩
   case measure => simp [intOf]; omega
  ·have hjk : j = k := by omega
   subst hjk
   go_wp2
   go_region
   go_wp2
   go_ret3
   exact ⟨by rw [Hfin.out.1, Hfin.out.2.1, Hfin.out.2.2]; rfl, (Below.refl _ _).drew⟩

theorem tkS_le (s : ByteArray) (x : Int) : (tkS s x).size ≤ s.size := by
 unfold tkS
 split
 ·rw [ByteArray.size_extract]; omega
 ·exact Nat.zero_le _

theorem tkE_of (s : ByteArray) : (tkOk s 2 ∧ tkE s 2 = 0) ∨ (¬ tkOk s 2 ∧ tkE s 2 = 3) := by
 by_cases h : tkOk s 2
 ·exact .inl ⟨h, by simp [tkE, h]⟩
 ·exact .inr ⟨h, by simp [tkE, h]⟩

end Go.Proofs.YtimkklaidodkdaaGreatDoor
