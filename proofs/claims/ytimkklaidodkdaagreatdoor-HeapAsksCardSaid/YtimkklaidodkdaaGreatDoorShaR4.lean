/- The reference's hash, walked: turned, word, constants. -/
/- The reference's padded, walked. -/
/- The reference's part, walked. -/
/- The reference's Sum, walked. -/
import Derived.Test.YtimkklaidodkdaaGreatDoorSha4
import Derived.Test.YtimkklaidodkdaaGreatDoorKit
namespace Go.Proofs.YtimkklaidodkdaaGreatDoor
open Go.RowKit

theorem turned_int (x : BitVec 32) (k : Nat) (_h : k ≤ 32) : bits .or .u32 (uw x / 2 ^ k) (uw x * 2 ^ (32 - k) % 4294967296) = uw (rotr x k) := by
 have e1 := uw_shl x (32 - k) (2 ^ (32 - k)) (by simp)
 have e2 := uw_shr x k (2 ^ k) (by simp)
 rw [e1, e2, uw_or]
 rfl

set_option maxRecDepth 20000 in
theorem turned_calls (x : BitVec 32) (k : Int) (w : World) (h1 : 1 ≤ k) (h2 : k ≤ 31) :
  Calls Tryz.prog 151 #[.int .u32 (uw x), .int .u64 k] w fun e w' => e = .returned (.int .u32 (uw (rotr x k.toNat))) ∧ w' = w := by
 obtain ⟨j, rfl⟩ := Int.eq_ofNat_of_zero_le (show 0 ≤ k by omega)
 rw [Int.toNat_natCast]
 have ht := turned_int x j (by omega)
 generalize rotr x j = r at *
 have Ht := Lib.hid ht
 clear ht
 have h32 : (32 : Int) - (j : Int) = ((32 - j : Nat) : Int) := by omega
 have hlo : 0 ≤ (32 : Int) - (j : Int) := by omega
 go_enter Tryz.func151, Tryz.ntmps151
 go_wp2
 go_ret
 exact ⟨by rw [← Ht.out]; rfl, rfl⟩

theorem word_int (a b c d : UInt8) : bits .or .u32 (bits .or .u32 (bits .or .u32 ((a.toNat : Int) % 4294967296 * 16777216 % 4294967296) ((b.toNat : Int) % 4294967296 * 65536 % 4294967296)) ((c.toNat : Int) % 4294967296 * 256 % 4294967296)) ((d.toNat : Int) % 4294967296) =
  uw (((w8 a <<< 24 ||| w8 b <<< 16) ||| w8 c <<< 8) ||| w8 d) := by
 have e : ∀ c : UInt8, (c.toNat : Int) % 4294967296 = uw (w8 c) := fun c => by rw [← uw_w8]; exact uw_mod _
 rw [e, e, e, e, uw_shl (w8 a) 24 16777216 rfl, uw_shl (w8 b) 16 65536 rfl, uw_shl (w8 c) 8 256 rfl, uw_or, uw_or, uw_or]

theorem word_at (s : ByteArray) (h : 4 ≤ s.size) : wordAt s.data.toList 0 = ((w8 s[0] <<< 24 ||| w8 s[1] <<< 16) ||| w8 s[2] <<< 8) ||| w8 s[3] := by
 rw [wordAt_eq, getD_data s _ (by omega), getD_data s _ (by omega), getD_data s _ (by omega), getD_data s _ (by omega)]

set_option maxRecDepth 20000 in
theorem word_calls (s : ByteArray) (w : World) (h : 4 ≤ s.size) :
  Calls Tryz.prog 150 #[.string s] w fun e w' => e = .returned (.int .u32 (uw (wordAt s.data.toList 0))) ∧ Below w.heap.size w w' := by
 rw [word_at s h]
 have h0 : 0 < s.size := by omega
 have h1 : 1 < s.size := by omega
 have h2 : 2 < s.size := by omega
 have h3 : 3 < s.size := by omega
 have i0 : (0 : Int) < s.size := by omega
 have i1 : (1 : Int) < s.size := by omega
 have i2 : (2 : Int) < s.size := by omega
 have i3 : (3 : Int) < s.size := by omega
 have hw := word_int s[0] s[1] s[2] s[3]
 generalize ((w8 s[0] <<< 24 ||| w8 s[1] <<< 16) ||| w8 s[2] <<< 8) ||| w8 s[3] = r at *
 have Hw := Lib.hid hw
 clear hw
 go_enter Tryz.func150, Tryz.ntmps150
 go_wp2_with fail
 go_quiet (fail)
 go_wp2
 go_ret
 exact ⟨by rw [← Hw.out]; rfl, below_drewN (Below.refl _ _) nq⟩

set_option maxRecDepth 20000 in
set_option maxHeartbeats 1600000 in
theorem constants_calls (w : World) :
  Calls Tryz.prog 149 #[] w fun e w' => e = .returned (.agg (wordCells shaK)) ∧ Below w.heap.size w w' := by
 have hrow0 : RowIs (w.alloc (.cells (wordCells (List.replicate 64 0#32)) 153)) w.heap.size 153 (wordCells (List.replicate 64 0#32)) := RowIs.new _ _ _
 have hbel0 : Below w.heap.size w (w.alloc (.cells (wordCells (List.replicate 64 0#32)) 153)) := (Below.refl _ _).alloc (Nat.le_refl _) _
 have hlen : (wordCells shaK).size = 64 := rfl
 have hsz : (Tryz.prog.info? 153).map (·.size) = some (wordCells shaK).size := by rw [hlen]; kernel_rfl
 have hone := wordCells_one shaK
 have hst : RowIs ((w.alloc (.cells (wordCells (List.replicate 64 0#32)) 153)).setCells w.heap.size 0 (wordCells shaK).toList) w.heap.size 153 (wordCells shaK) := store_row hrow0 rfl
 have hthere := hrow0.there 0 (wordCells shaK).size (by rw [hlen]; exact Nat.le_refl _)
 have hbel2 := setCells_below w.heap.size w.heap.size (Nat.le_refl _) (wordCells shaK).toList 0 w _ hbel0
 have Hst := Lib.hid hst
 have Hbel := Lib.hid hbel2
 have Hthere := Lib.hid hthere
 have Hsz := Lib.hid hsz
 have Hone := Lib.hid hone
 clear hst hbel2 hthere hrow0 hbel0 hsz hlen hone
 go_enter Tryz.func149, Tryz.ntmps149
 go_wp2_with (refine wpList_store_mid rfl 153 _ _ rfl w.heap.size 0 (wordCells shaK) rfl rfl Hthere.out Hsz.out Hone.out ?_)
 refine bodyPost_ret (v := .agg (wordCells shaK)) (results_cell_row (p := 0) (ty := 153) (by rfl) _ _ w.heap.size 153 (wordCells shaK) (0, 0) _ (by rfl) Hst.out Tryz.underlying153 (by rfl) Hsz.out) (by rfl) ?_
 exact ⟨rfl, Hbel.out⟩

end Go.Proofs.YtimkklaidodkdaaGreatDoor

namespace Go.Proofs.YtimkklaidodkdaaGreatDoor
open Go.RowKit

/-- The message while its padding is being made: k zeros. -/
def padZ (l : List UInt8) (k : Nat) : List UInt8 := l ++ 0x80 :: List.replicate k 0
/-- .. and j bytes of the count. -/
def padN (l : List UInt8) (q j : Nat) : List UInt8 := padZ l ((119 - l.length % 64) % 64) ++ (beL q 8).take j

theorem padN_done (l : List UInt8) (q : Nat) (h : q = l.length * 8 % 18446744073709551616) : padN l q 8 = padL l := by
 subst h
 rw [padN, List.take_of_length_le (by rw [beL_length]; exact Nat.le_refl _), padZ, padL, padding]
 simp

theorem beL_get (q : Nat) : ∀ k j, j < k → (beL q k)[j]? = some (UInt8.ofNat (q / 256 ^ (k - 1 - j)))
 | 0, j, h => by omega
 | k + 1, 0, _ => by simp [beL]
 | k + 1, j + 1, h => by
  rw [beL, List.getElem?_cons_succ, beL_get q k j (by omega)]
  have : k + 1 - 1 - (j + 1) = k - 1 - j := by omega
  rw [this]

theorem padN_succ (l : List UInt8) (q j : Nat) (h : j < 8) : padN l q (j + 1) = padN l q j ++ [UInt8.ofNat (q / 256 ^ (7 - j))] := by
 have hg := beL_get q 8 j h
 have e : 8 - 1 - j = 7 - j := by omega
 rw [e] at hg
 rw [padN, padN, List.take_add_one, hg, List.append_assoc]
 rfl

theorem padZ_succ (l : List UInt8) (k : Nat) : padZ l (k + 1) = padZ l k ++ [0] := by
 rw [padZ, padZ, List.replicate_succ', List.append_assoc]
 rfl
theorem padZ_length (l : List UInt8) (k : Nat) : (padZ l k).length = l.length + 1 + k := by simp [padZ]; omega
theorem padN_length (l : List UInt8) (q j : Nat) (h : j ≤ 8) : (padN l q j).length = l.length + 1 + (119 - l.length % 64) % 64 + j := by
 simp [padN, padZ_length, beL_length]; omega

theorem shr_count (q : Nat) (j : Nat) (hj : j < 8) : (q : Int) / 2 ^ (56 - 8 * j) % 256 = ((UInt8.ofNat (q / 256 ^ (7 - j))).toNat : Int) := by
 rw [byte_toNat]
 have e : (2 : Int) ^ (56 - 8 * j) = ((256 ^ (7 - j) : Nat) : Int) := by
  have : 56 - 8 * j = 8 * (7 - j) := by omega
  rw [this]
  have : 256 ^ (7 - j) = 2 ^ (8 * (7 - j)) := by rw [Nat.pow_mul]
  rw [this]; simp
 rw [e]
 generalize 256 ^ (7 - j) = M
 omega

set_option maxRecDepth 20000 in
set_option maxHeartbeats 1600000 in
theorem refpadded_calls (s : ByteArray) (w : World) (hs : s.size ≤ 140737488351232) :
  Calls Tryz.prog 121 #[.string s] w fun e w' => e = .returned (.string ⟨(padL s.data.toList).toArray⟩) ∧ Below w.heap.size w w' := by
 obtain ⟨q, hq⟩ : ∃ q : Nat, q = s.data.toList.length * 8 % 18446744073709551616 := ⟨_, rfl⟩
 have hdone := padN_done s.data.toList q hq
 rw [← hdone]
 have hlen : s.data.toList.length = s.size := size_data s
 have hq2 : (s.size : Int) * 8 = (q : Int) := by rw [hq, hlen]; omega
 generalize hl : s.data.toList = l at *
 have h80 : (s ++ ⟨#[128]⟩ : ByteArray).data.toList = padZ l 0 := by
  rw [ByteArray.data_append, Array.toList_append, hl, padZ]; rfl
 have hN0 : padZ l ((119 - s.size % 64) % 64) = padN l q 0 := by rw [padN, hlen]; simp
 have hZl := padZ_length l
 have hNl := padN_length l q
 rw [hlen] at hZl hNl
 have HNl := Lib.hid hNl
 have HZl := Lib.hid hZl
 have HN0 := Lib.hid hN0
 clear hdone hl hlen hq hNl hZl hN0
 have hcap : ¬ ((s.size + 1 : Nat) : Int) > IntKind.i64.max := by
  have : IntKind.i64.max = 9223372036854775807 := rfl
  rw [this]; omega
 go_enter Tryz.func121, Tryz.ntmps121
 go_wp2_with fail
 generalize s ++ ⟨#[128]⟩ = x at *
 have Hq2 := Lib.hid hq2
 clear hcap hq2
 have hz64 : (119 - s.size % 64) % 64 < 64 := by omega
 go_loopw [0] (fun v0 wr => ∃ k : Nat, ∃ y : ByteArray, k ≤ (119 - s.size % 64) % 64 ∧ v0 = .string y ∧ y.data.toList = padZ l k ∧ Below w.heap.size w wr) (fun v0 _ => s.size + 1 + 64 - (match v0 with | .string y => y.size | _ => 0))
 case atStart => exact ⟨0, x, by omega, rfl, h80, Below.refl _ _⟩
 case round =>
  clear h80
  obtain ⟨k, y, hk, rfl, hy, hb⟩ := hrel
  have hys : y.size = s.size + 1 + k := by rw [← size_data, hy, HZl.out]
  have hcap : ¬ ((y.size + 1 : Nat) : Int) > IntKind.i64.max := by
   have : IntKind.i64.max = 9223372036854775807 := rfl
   rw [this]; omega
  by_cases hlt : k < (119 - s.size % 64) % 64
  ·have hne : ¬ (y.size : Int) % 64 = 56 := by omega
   have hy2 : (y ++ ⟨#[0]⟩ : ByteArray).data.toList = padZ l (k + 1) := by
    rw [ByteArray.data_append, Array.toList_append, hy, padZ_succ]
   have hsz2 : (y ++ ⟨#[0]⟩ : ByteArray).size = y.size + 1 := by rw [ByteArray.size_append]; rfl
   have hyb : y.size ≤ 140737488351232 + 200 := by omega
   have Hy2 := Lib.hid hy2
   have Hys := Lib.hid hys
   have Hk := Lib.hid hk
   have Hlt := Lib.hid hlt
   have Hs2 := Lib.hid hsz2
   clear hy2 hsz2 hy hys hk hlt
   go_wp2
   go_roundw
   case rel => exact ⟨k + 1, _, Hlt.out, rfl, Hy2.out, hb⟩
   case measure =>
    have h1 := Hys.out
    have h2 := Hs2.out
    have h3 := Hlt.out
    show s.size + 1 + 64 - (y ++ ⟨#[0]⟩ : ByteArray).size < s.size + 1 + 64 - y.size
    omega
  ·have hkz : k = (119 - s.size % 64) % 64 := by omega
   rw [hkz, HN0.out] at hy
   have heq : (y.size : Int) % 64 = 56 := by omega
   clear hkz hlt hk hys
   go_wp2_with fail
   clear heq hcap
   go_loopw [0, 4] (fun v0 i wr => ∃ j : Nat, ∃ y : ByteArray, j ≤ 8 ∧ i = .int .i64 j ∧ v0 = .string y ∧ y.data.toList = padN l q j ∧ Below w.heap.size w wr) (fun _ i _ => 8 - (intOf i).toNat)
   case atStart => exact ⟨0, y, by omega, rfl, rfl, hy, hb⟩
   case round =>
    clear hy hb
    obtain ⟨j, z, hj, rfl, rfl, hz, hb⟩ := hrel
    have hzs : z.size ≤ 140737488351232 + 200 := by rw [← size_data, hz, HNl.out j hj]; omega
    by_cases hlt : j < 8
    ·have hconv := conv_one wr _ _ (shr_count q j hlt)
     have hcap : ¬ ((z.size + 1 : Nat) : Int) > IntKind.i64.max := by
      have : IntKind.i64.max = 9223372036854775807 := rfl
      rw [this]; omega
     have hz2 : (z ++ ⟨#[UInt8.ofNat (q / 256 ^ (7 - j))]⟩ : ByteArray).data.toList = padN l q (j + 1) := by
      rw [ByteArray.data_append, Array.toList_append, hz, padN_succ l q j hlt]
     have Hz2 := Lib.hid hz2
     have s0 : 0 ≤ 56 - 8 * (j : Int) := by omega
     have sn : (56 - 8 * (j : Int)).toNat = 56 - 8 * j := by omega
     clear hz2 hz
     go_wp2
     go_roundw
     case rel => exact ⟨j + 1, _, hlt, by go_num, rfl, Hz2.out, hb.alloc hb.size _⟩
     case measure => simp [intOf]; omega
    ·have hj8 : j = 8 := by omega
     subst hj8
     have hze : z = ⟨(padN l q 8).toArray⟩ := by
      apply ByteArray.ext; apply Array.ext'; rw [hz]
     subst hze
     go_wp2
     go_ret
     exact ⟨rfl, hb⟩

end Go.Proofs.YtimkklaidodkdaaGreatDoor

namespace Go.Proofs.YtimkklaidodkdaaGreatDoor
open Go.RowKit

theorem three_rows (w : World) (C D E : Array Value) (t u v : TypeId) : ∃ W, W = ((w.alloc (.cells C t)).alloc (.cells D u)).alloc (.cells E v) ∧ RowIs W w.heap.size t C ∧ RowIs W (w.heap.size + 1) u D ∧
  RowIs W (w.heap.size + 2) v E ∧ Below w.heap.size w W ∧ W.heap.size = w.heap.size + 3 := by
 have h1 := RowIs.new w t C
 have h2 := RowIs.new (w.alloc (.cells C t)) u D
 have h3 := RowIs.new ((w.alloc (.cells C t)).alloc (.cells D u)) v E
 refine ⟨_, rfl, (h1.alloc _).alloc _, ?_, ?_, (((Below.refl _ _).alloc (Nat.le_refl _) _).alloc (by simp) _).alloc (by simp; omega) _, by simp⟩
 ·have := h2.alloc (.cells E v)
  simpa using this
 ·simpa using h3

theorem wordAt_drop (l : ByteArray) (t : Nat) (n : Nat) (hn : n = l.size) : wordAt (l.extract (4 * t) n).data.toList 0 = wordAt l.data.toList t := by
 subst hn
 have e : (l.extract (4 * t) l.size).data.toList = l.data.toList.drop (4 * t) := by
  simp
  rw [List.take_of_length_le]
  simp
 have g : ∀ j, (l.data.toList.drop (4 * t)).getD j 0 = l.data.toList.getD (4 * t + j) 0 := fun j => by
  rw [List.getD_eq_getElem?_getD, List.getD_eq_getElem?_getD, List.getElem?_drop]
 rw [e, wordAt_eq, wordAt_eq, g, g, g, g]
 simp

theorem schedTo_set (l : List UInt8) (t : Nat) (h : t < 16) : (schedTo l t ++ List.replicate (64 - t) 0#32).set t (wordAt l t) = schedTo l (t + 1) ++ List.replicate (64 - (t + 1)) 0#32 := by
 have hl := schedTo_length l t
 rw [List.set_append_right _ _ (by omega), hl, Nat.sub_self]
 have e1 : 64 - t = (64 - (t + 1)) + 1 := by omega
 rw [e1, List.replicate_succ, List.set_cons_zero, schedTo, nextW, if_pos h, List.append_assoc]
 rfl

theorem ones_int : (if IntKind.u32.signed = true then -1 else IntKind.u32.max) = uw (BitVec.allOnes 32) := by decide +kernel
theorem ch_int (e f g : BitVec 32) : bits .xor .u32 (bits .and .u32 (uw e) (uw f)) (bits .and .u32 (bits .xor .u32 (if IntKind.u32.signed = true then -1 else IntKind.u32.max) (uw e)) (uw g)) = bits .xor .u32 (uw g) (bits .and .u32 (uw e) (bits .xor .u32 (uw f) (uw g))) := by
 rw [ones_int, uw_xor, uw_and, uw_and, uw_xor, uw_xor, uw_and, uw_xor]
 have := ch_ref e f g
 rw [chP] at this
 rw [← this]
 congr 2
theorem maj_int (a b c : BitVec 32) : bits .or .u32 (bits .or .u32 (bits .and .u32 (uw a) (uw b)) (bits .and .u32 (uw a) (uw c))) (bits .and .u32 (uw b) (uw c)) = bits .or .u32 (bits .and .u32 (uw a) (uw b)) (bits .and .u32 (uw c) (bits .or .u32 (uw a) (uw b))) := by
 rw [uw_and, uw_and, uw_and, uw_or, uw_or, uw_or, uw_and, uw_or]
 have := maj_ref a b c
 rw [majP] at this
 rw [← this]

theorem RowIs.cells_other {w : World} {b V : Nat} {t : TypeId} {C : Array Value} (h : RowIs w b t C) (hne : b ≠ V) (L : List Value) : RowIs (w.setCells V 0 L) b t C := (setCells_other V b hne L 0 w).trans h

theorem schedR_int (x16 x7 x15 x2 : BitVec 32) : (bits .xor .u32 (bits .xor .u32 (uw (rotr x2 17)) (uw (rotr x2 19))) (uw x2 / 1024) + uw x7 + bits .xor .u32 (bits .xor .u32 (uw (rotr x15 7)) (uw (rotr x15 18))) (uw x15 / 8) + uw x16) % 4294967296 =
  uw (x16 + x7 + sig0 x15 + sig1 x2) := by
 rw [← sched_int]
 simp only [IntKind.wrap_u32]
 omega

set_option maxRecDepth 20000 in
set_option maxHeartbeats 3200000 in
theorem refpart_calls (s : St) (l : ByteArray) (w : World) (hl : l.size = 64) :
  Calls Tryz.prog 122 #[.agg (wordCells s.list), .string l] w fun e w' => e = .returned (.agg (wordCells (compress s l.data.toList).list)) ∧ Below w.heap.size w w' := by
 obtain ⟨R, hR⟩ : ∃ R : Array Value, R = wordCells (compress s l.data.toList).list := ⟨_, rfl⟩
 rw [← hR]
 have HR := Lib.hid hR
 clear hR
 obtain ⟨C, hC⟩ : ∃ C : Array Value, C = wordCells s.list := ⟨_, rfl⟩
 rw [← hC]
 have HC := Lib.hid hC
 have hone : C.all (·.oneCell') = true := by rw [hC]; exact wordCells_one _
 have hlen : C.size = 8 := by rw [hC]; rfl
 clear hC
 have hsz : (Tryz.prog.info? 98).map (·.size) = some C.size := by rw [hlen]; kernel_rfl
 go_enter Tryz.func122, Tryz.ntmps122
 go_wp2_with fail
 obtain ⟨W1, hW1, h2, h4, h5, hB1, hz1⟩ := three_rows w C (wordCells (List.replicate 8 0#32)) (wordCells (List.replicate 64 0#32)) 98 98 153
 change Calls _ _ _ (((w.alloc (.cells C 98)).alloc (.cells (wordCells (List.replicate 8 0#32)) 98)).alloc (.cells (wordCells (List.replicate 64 0#32)) 153)) _
 rw [← hW1]
 clear hW1
 refine (constants_calls W1).mono ?_
 rintro e W2 ⟨rfl, hb⟩
 rw [show w.heap.size + 1 + 1 = w.heap.size + 2 from rfl]
 generalize hN : w.heap.size = N at *
 have HN := Lib.hid hN
 clear hN
 have hz2 : N + 3 ≤ W2.heap.size := by have := hb.size; omega
 have h2a := h2.below hb (by omega)
 have h4a := h4.below hb (by omega)
 have h5a := h5.below hb (by omega)
 have hBa := hB1.trans (hb.mono (by omega))
 clear h2 h4 h5 hb hB1 hz1
 have hklen : (wordCells shaK).size = 64 := rfl
 have hk64 : shaK.length = 64 := rfl
 have hkone := wordCells_one shaK
 have hkl : ∀ w : World, ∀ b, RowIs w b 153 (wordCells shaK) → ∀ t : Nat, t < 64 → w.cell? ⟨b, t, none⟩ = some (.int .u32 (uw (shaK.getD t 0#32))) := fun w b h t ht => by
  rw [h.word t (show t < shaK.length from ht), List.getD_eq_getElem?_getD, List.getElem?_eq_getElem (show t < shaK.length from ht)]; rfl
 have hcomp : R = wordCells (s.add (roundsTo shaK (sched l.data.toList) s 64)).list := HR.out
 have Hcomp := Lib.hid hcomp
 clear HR hcomp
 have Hkl := Lib.hid hkl
 clear hkl
 generalize shaK = K at *
 have hrow0 : RowIs (W2.alloc (.cells (wordCells (List.replicate 64 0#32)) 153)) W2.heap.size 153 (wordCells (List.replicate 64 0#32)) := RowIs.new _ _ _
 have hst : RowIs ((W2.alloc (.cells (wordCells (List.replicate 64 0#32)) 153)).setCells W2.heap.size 0 (wordCells K).toList) W2.heap.size 153 (wordCells K) := store_row hrow0 (by rw [hklen]; rfl)
 have hthere := hrow0.there 0 (wordCells K).size (by rw [hklen]; exact Nat.le_refl _)
 have hsetb : Below W2.heap.size W2 ((W2.alloc (.cells (wordCells (List.replicate 64 0#32)) 153)).setCells W2.heap.size 0 (wordCells K).toList) := setCells_below _ _ (Nat.le_refl _) _ _ _ _ ((Below.refl _ _).alloc (Nat.le_refl _) _)
 have hksz : (Tryz.prog.info? 153).map (·.size) = some (wordCells K).size := by rw [hklen]; kernel_rfl
 have Hst := Lib.hid hst
 have Hsetb := Lib.hid hsetb
 have Hthere := Lib.hid hthere
 have Hksz := Lib.hid hksz
 have Hkone := Lib.hid hkone
 have H2 := Lib.hid h2a
 have H4 := Lib.hid h4a
 have H5 := Lib.hid h5a
 have HB := Lib.hid hBa
 have Hsz := Lib.hid hsz
 have Hone := Lib.hid hone
 clear hst hsetb hthere hksz hkone h2a h4a h5a hBa hrow0 hklen hsz hone
 go_wp2_with (refine wpList_store_mid rfl 153 _ _ rfl W2.heap.size 0 (wordCells K) rfl rfl Hthere.out Hksz.out Hkone.out ?_)
 change Code.wp _ _ _ _ ((W2.alloc (.cells (wordCells (List.replicate 64 0#32)) 153)).setCells W2.heap.size 0 (wordCells K).toList)
 have h6 := Hst.out
 have h2 := H2.out.below Hsetb.out H2.out.lt
 have h4 := H4.out.below Hsetb.out H4.out.lt
 have h5 : RowIs ((W2.alloc (.cells (wordCells (List.replicate 64 0#32)) 153)).setCells W2.heap.size 0 (wordCells K).toList) (N + 2) 153 (wordCells (schedTo l.data.toList 0 ++ List.replicate (64 - 0) 0#32)) := by
  have := H5.out.below Hsetb.out H5.out.lt
  simpa [schedTo] using this
 have hb := HB.out.trans (Hsetb.out.mono (by omega))
 clear Hst H2 H4 H5 HB Hsetb Hthere Hksz Hkone
 generalize (W2.alloc (.cells (wordCells (List.replicate 64 0#32)) 153)).setCells W2.heap.size 0 (wordCells K).toList = W3 at *
 generalize W2.heap.size = M at *
 go_loopw [7, 8, 9, 10, 11] (fun vt _ _ _ _ wr => ∃ t : Nat, t ≤ 64 ∧ vt = .int .i64 t ∧ RowIs wr (N + 2) 153 (wordCells (schedTo l.data.toList t ++ List.replicate (64 - t) 0#32)) ∧ RowIs wr M 153 (wordCells K) ∧
  RowIs wr N 98 C ∧ RowIs wr (N + 1) 98 (wordCells (List.replicate 8 0#32)) ∧ Below N w wr) (fun vt _ _ _ _ _ => 64 - (intOf vt).toNat)
 case atStart => exact ⟨0, by omega, rfl, h5, h6, h2, h4, hb⟩
 case round =>
  clear h2 h4 h5 h6 hb
  obtain ⟨t, ht, rfl, h5, h6, h2, h4, hb⟩ := hrel
  by_cases hlt : t < 64
  ·have H6 := Lib.hid h6
   have H2 := Lib.hid h2
   have H4 := Lib.hid h4
   have Hb := Lib.hid hb
   clear h6 h2 h4 hb
   have h64 : (t : Int) < 64 := by omega
   by_cases h16 : t < 16
   ·have hi : (t : Int) < 16 := by omega
    have hs4 : 4 ≤ (l.extract (4 * t) l.size).size := by rw [ByteArray.size_extract]; omega
    have hs5 : 4 ≤ (l.extract (4 * t) 64).size := by rw [ByteArray.size_extract]; omega
    have hw := wordAt_drop l t 64 hl.symm
    have a0 : 0 ≤ 4 * (t : Int) := by omega
    have a1 : 4 * (t : Int) ≤ l.size := by omega
    have an : (4 * (t : Int)).toNat = 4 * t := by omega
    have Hw := Lib.hid hw
    have H5 := Lib.hid h5
    clear hw h5
    go_wp2_with fail
    refine (word_calls _ wr hs5).mono ?_
    rintro e W4 ⟨rfl, hb4⟩
    rw [Hw.out]
    have h5b := H5.out.below hb4 H5.out.lt
    have hlenS : (schedTo l.data.toList t ++ List.replicate (64 - t) 0#32).length = 64 := by simp [schedTo_length]; omega
    have hex : ∃ old : Int, W4.cell? ⟨N + 2, t, none⟩ = some (.int .u32 old) := ⟨_, h5b.word t (by omega)⟩
    obtain ⟨old, hcell⟩ := hex
    have hfree := h5b.free t
    have hset := h5b.setWord t (wordAt l.data.toList t)
    rw [schedTo_set _ _ h16] at hset
    generalize wordAt l.data.toList t = x at *
    have HSet := Lib.hid hset
    have H6' := Lib.hid ((H6.out.below hb4 H6.out.lt).other ⟨N + 2, t, none⟩ (.int .u32 (uw x)) (by show M ≠ N + 2; omega))
    have H2' := Lib.hid ((H2.out.below hb4 H2.out.lt).other ⟨N + 2, t, none⟩ (.int .u32 (uw x)) (by show N ≠ N + 2; omega))
    have H4' := Lib.hid ((H4.out.below hb4 H4.out.lt).other ⟨N + 2, t, none⟩ (.int .u32 (uw x)) (by show N + 1 ≠ N + 2; omega))
    have Hb' := Lib.hid ((Hb.out.trans (hb4.mono (by have := H2.out.lt; omega))).setCell (p := ⟨N + 2, t, none⟩) (by show N ≤ N + 2; omega) (.int .u32 (uw x)))
    clear hset h5b hb4 H5 H6 H2 H4 Hb Hw hlenS hs4 hs5 a0 a1 an
    go_wp2
    go_roundw
    case rel => exact ⟨t + 1, by omega, by go_num, HSet.out, H6'.out, H2'.out, H4'.out, Hb'.out⟩
    case measure => simp [intOf]; omega
   ·obtain ⟨wo, rfl⟩ : ∃ wo : World, wo = wr := ⟨_, rfl⟩
    obtain ⟨c15, c2, c16, c7, ct, hfree, Hset⟩ := sched_facts wo (N + 2) l.data.toList t (by omega) hlt h5
    generalize (schedTo l.data.toList t).getD (t - 15) 0#32 = x15 at *
    generalize (schedTo l.data.toList t).getD (t - 2) 0#32 = x2 at *
    generalize (schedTo l.data.toList t).getD (t - 16) 0#32 = x16 at *
    generalize (schedTo l.data.toList t).getD (t - 7) 0#32 = x7 at *
    clear h5
    have l16 : ¬ (t : Int) < 16 := by omega
    have a15 : 0 ≤ (t : Int) - 15 := by omega
    have b15 : (t : Int) - 15 < 64 := by omega
    have n15 : ((t : Int) - 15).toNat = t - 15 := by omega
    have a2 : 0 ≤ (t : Int) - 2 := by omega
    have b2 : (t : Int) - 2 < 64 := by omega
    have n2 : ((t : Int) - 2).toNat = t - 2 := by omega
    have a16 : 0 ≤ (t : Int) - 16 := by omega
    have b16 : (t : Int) - 16 < 64 := by omega
    have n16 : ((t : Int) - 16).toNat = t - 16 := by omega
    have a7 : 0 ≤ (t : Int) - 7 := by omega
    have b7 : (t : Int) - 7 < 64 := by omega
    have n7 : ((t : Int) - 7).toNat = t - 7 := by omega
    go_wp2_with fail
    go_quiet (fail)
    have k16 : (wo.drewN nq).cell? ⟨N + 2, t - 16, none⟩ = some (.int .u32 (uw x16)) := by simpa using c16
    have k7 : (wo.drewN nq).cell? ⟨N + 2, t - 7, none⟩ = some (.int .u32 (uw x7)) := by simpa using c7
    have kt : (wo.drewN nq).cell? ⟨N + 2, t, none⟩ = some (.int .u32 0) := by simpa using ct
    have kf : (wo.drewN nq).frozen? ⟨N + 2, t, none⟩ = false := by simpa using hfree
    have Hset' : Hid (RowIs ((wo.drewN nq).setCell ⟨N + 2, t, none⟩ (.int .u32 (uw (x16 + x7 + sig0 x15 + sig1 x2)))) (N + 2) 153 (wordCells (schedTo l.data.toList (t + 1) ++ List.replicate (64 - (t + 1)) 0#32))) := Hset.out
    have H6a : RowIs (wo.drewN nq) M 153 (wordCells K) := H6.out
    have H2a : RowIs (wo.drewN nq) N 98 C := H2.out
    have H4a : RowIs (wo.drewN nq) (N + 1) 98 (wordCells (List.replicate 8 0#32)) := H4.out
    have Hba : Below N w (wo.drewN nq) := below_drewN Hb.out nq
    have H6' := Lib.hid (H6a.other ⟨N + 2, t, none⟩ (.int .u32 (uw (x16 + x7 + sig0 x15 + sig1 x2))) (by show M ≠ N + 2; omega))
    have H2' := Lib.hid (H2a.other ⟨N + 2, t, none⟩ (.int .u32 (uw (x16 + x7 + sig0 x15 + sig1 x2))) (by show N ≠ N + 2; omega))
    have H4' := Lib.hid (H4a.other ⟨N + 2, t, none⟩ (.int .u32 (uw (x16 + x7 + sig0 x15 + sig1 x2))) (by show N + 1 ≠ N + 2; omega))
    have Hb' := Lib.hid (Hba.setCell (p := ⟨N + 2, t, none⟩) (by show N ≤ N + 2; omega) (.int .u32 (uw (x16 + x7 + sig0 x15 + sig1 x2))))
    clear c15 c2 c16 c7 ct hfree Hset H6a H2a H4a Hba H6 H2 H4 Hb
    generalize wo.drewN nq = wz at *
    go_wp2_with fail
    refine (turned_calls _ _ _ (by omega) (by omega)).mono ?_
    rintro e3 w3 ⟨rfl, rfl⟩
    go_wp2_with fail
    refine (turned_calls _ _ _ (by omega) (by omega)).mono ?_
    rintro e3 w3 ⟨rfl, rfl⟩
    go_wp2_with fail
    refine (turned_calls _ _ _ (by omega) (by omega)).mono ?_
    rintro e3 w3 ⟨rfl, rfl⟩
    go_wp2_with fail
    refine (turned_calls _ _ _ (by omega) (by omega)).mono ?_
    rintro e3 w3 ⟨rfl, rfl⟩
    go_wp2_with fail
    go_region
    go_wp2
    simp only [schedR_int]
    go_roundw
    case rel => exact ⟨t + 1, by omega, by go_num, Hset'.out.drew, H6'.out.drew, H2'.out.drew, H4'.out.drew, Hb'.out.drew⟩
    case measure => simp [intOf]; omega
  ·have ht64 : t = 64 := by omega
   subst ht64
   have h5' : RowIs wr (N + 2) 153 (wordCells (sched l.data.toList)) := by simpa [sched] using h5
   have hWl : (sched l.data.toList).length = 64 := schedTo_length _ _
   clear h5
   generalize sched l.data.toList = W at *
   have hone := Hone.out
   have hsz := Hsz.out
   have hrow0 : RowIs (wr.alloc (.cells (wordCells (List.replicate 8 0#32)) 98)) wr.heap.size 98 (wordCells (List.replicate 8 0#32)) := RowIs.new _ _ _
   have hst : RowIs ((wr.alloc (.cells (wordCells (List.replicate 8 0#32)) 98)).setCells wr.heap.size 0 C.toList) wr.heap.size 98 C := store_row hrow0 (by rw [hlen]; rfl)
   have hthere := hrow0.there 0 C.size (by rw [hlen]; exact Nat.le_refl _)
   have hsetb : Below wr.heap.size wr ((wr.alloc (.cells (wordCells (List.replicate 8 0#32)) 98)).setCells wr.heap.size 0 C.toList) := setCells_below _ _ (Nat.le_refl _) _ _ _ _ ((Below.refl _ _).alloc (Nat.le_refl _) _)
   have Hst := Lib.hid hst
   have Hsetb := Lib.hid hsetb
   have Hthere := Lib.hid hthere
   have H2 := Lib.hid h2
   have H4 := Lib.hid h4
   have H5 := Lib.hid h5'
   have H6 := Lib.hid h6
   have HB := Lib.hid hb
   have Hlen := Lib.hid hlen
   clear hst hsetb hthere hrow0 h4 h5' h6 hb hlt ht hl hlen
   rw [show (((64 : Nat) : Int)) = 64 from rfl]
   go_wp2_with (first | (refine wpList_load_row rfl 98 _ rfl N rfl 98 C (0, 0) _ H2.out Tryz.underlying98 rfl Hsz.out ?_) | (refine wpList_store_mid rfl 98 _ _ rfl wr.heap.size 0 C rfl rfl Hthere.out Hsz.out Hone.out ?_))
   change Code.wp _ _ _ _ ((wr.alloc (.cells (wordCells (List.replicate 8 0#32)) 98)).setCells wr.heap.size 0 C.toList)
   have hv := Hst.out
   have hA := H2.out.below Hsetb.out H2.out.lt
   have h4 := H4.out.below Hsetb.out H4.out.lt
   have h5 := H5.out.below Hsetb.out H5.out.lt
   have h6 := H6.out.below Hsetb.out H6.out.lt
   have hb := HB.out.trans (Hsetb.out.mono (by have := H2.out.lt; omega))
   have hV : N + 2 < wr.heap.size := H5.out.lt
   have hVM : M < wr.heap.size := H6.out.lt
   clear Hst Hsetb Hthere H2 H4 H5 H6 HB h2
   generalize (wr.alloc (.cells (wordCells (List.replicate 8 0#32)) 98)).setCells wr.heap.size 0 C.toList = W3 at *
   generalize wr.heap.size = V at *
   have hC : C = wordCells (roundsTo K W s 0).list := by rw [HC.out]; rfl
   rw [hC] at hv
   clear hC hone hsz
   go_loopw [13, 14, 15, 16, 17, 18, 19, 20, 21] (fun vt _ _ _ _ _ _ _ _ wr => ∃ t : Nat, t ≤ 64 ∧ vt = .int .i64 t ∧ (∃ r : St, r = roundsTo K W s t ∧ RowIs wr V 98 (wordCells r.list)) ∧ RowIs wr (N + 2) 153 (wordCells W) ∧ RowIs wr M 153 (wordCells K) ∧
    RowIs wr N 98 C ∧ RowIs wr (N + 1) 98 (wordCells (List.replicate 8 0#32)) ∧ Below N w wr) (fun vt _ _ _ _ _ _ _ _ _ => 64 - (intOf vt).toNat)
   case atStart => exact ⟨0, by omega, rfl, ⟨_, rfl, hv⟩, h5, h6, hA, h4, hb⟩
   case round =>
    clear hv h5 h6 hA h4 hb
    obtain ⟨t, ht, rfl, ⟨r, hr, hv⟩, h5, h6, hA, h4, hb⟩ := hrel
    by_cases hlt : t < 64
    ·obtain ⟨wo, rfl⟩ : ∃ wo : World, wo = wr := ⟨_, rfl⟩
     have hKt := Hkl.out wo M h6 t hlt
     have hWt : wo.cell? ⟨N + 2, t, none⟩ = some (.int .u32 (uw (W.getD t 0#32))) := by
      rw [h5.word t (by omega), List.getD_eq_getElem?_getD, List.getElem?_eq_getElem (by omega)]; rfl
     have hround : roundsTo K W s (t + 1) = round r (K.getD t 0#32) (W.getD t 0#32) := by rw [roundsTo, ← hr]
     have Hround := Lib.hid hround
     clear hround hr
     generalize K.getD t 0#32 = kt at *
     generalize W.getD t 0#32 = wt at *
     have c0 := hv.word 0 (by simp [St.list])
     have c1 := hv.word 1 (by simp [St.list])
     have c2 := hv.word 2 (by simp [St.list])
     have c3 := hv.word 3 (by simp [St.list])
     have c4 := hv.word 4 (by simp [St.list])
     have c5 := hv.word 5 (by simp [St.list])
     have c6 := hv.word 6 (by simp [St.list])
     have c7 := hv.word 7 (by simp [St.list])
     simp only [St.list, List.getElem_cons_zero, List.getElem_cons_succ] at c0 c1 c2 c3 c4 c5 c6 c7
     have HV := Lib.hid hv
     have H5 := Lib.hid h5
     have H6 := Lib.hid h6
     have HA := Lib.hid hA
     have H4 := Lib.hid h4
     have Hb := Lib.hid hb
     clear hv h5 h6 hA h4 hb
     have h64 : (t : Int) < 64 := by omega
     go_wp2_with fail
     go_quiet (fail)
     go_wp2_with fail
     have c3' : (wo.drewN nq).cell? ⟨V, 3, none⟩ = some (.int .u32 (uw r.d)) := by simpa using c3
     have c7' : (wo.drewN nq).cell? ⟨V, 7, none⟩ = some (.int .u32 (uw r.h)) := by simpa using c7
     have cK : (wo.drewN nq).cell? ⟨M, t, none⟩ = some (.int .u32 (uw kt)) := by simpa using hKt
     have cW : (wo.drewN nq).cell? ⟨N + 2, t, none⟩ = some (.int .u32 (uw wt)) := by simpa using hWt
     have HV1 : Hid (RowIs (wo.drewN nq) V 98 (wordCells r.list)) := HV.out
     have H51 : Hid (RowIs (wo.drewN nq) (N + 2) 153 (wordCells W)) := H5.out
     have H61 : Hid (RowIs (wo.drewN nq) M 153 (wordCells K)) := H6.out
     have HA1 : Hid (RowIs (wo.drewN nq) N 98 C) := HA.out
     have H41 : Hid (RowIs (wo.drewN nq) (N + 1) 98 (wordCells (List.replicate 8 0#32))) := H4.out
     have Hb1 : Hid (Below N w (wo.drewN nq)) := Lib.hid (below_drewN Hb.out nq)
     clear c0 c1 c2 c3 c4 c5 c6 c7 hKt hWt HV H5 H6 HA H4 Hb
     generalize wo.drewN nq = w1 at *
     go_quiet ((go_at_call 151; exact Calls.quiet_of_same (turned_calls _ _ _ (by omega) (by omega))))
     rw [ch_int, rt1_int' r kt wt]
     have c3 : (w1.drewN nq).cell? ⟨V, 3, none⟩ = some (.int .u32 (uw r.d)) := by simpa using c3'
     have HV2 : Hid (RowIs (w1.drewN nq) V 98 (wordCells r.list)) := HV1.out
     have H52 : Hid (RowIs (w1.drewN nq) (N + 2) 153 (wordCells W)) := H51.out
     have H62 : Hid (RowIs (w1.drewN nq) M 153 (wordCells K)) := H61.out
     have HA2 : Hid (RowIs (w1.drewN nq) N 98 C) := HA1.out
     have H42 : Hid (RowIs (w1.drewN nq) (N + 1) 98 (wordCells (List.replicate 8 0#32))) := H41.out
     have Hb2 : Hid (Below N w (w1.drewN nq)) := Lib.hid (below_drewN Hb1.out nq)
     clear c3' c7' cK cW HV1 H51 H61 HA1 H41 Hb1
     generalize w1.drewN nq = w2 at *
     go_wp2_with fail
     refine (turned_calls _ _ _ (by omega) (by omega)).mono ?_
     rintro e3 w3 ⟨rfl, rfl⟩
     go_wp2_with fail
     refine (turned_calls _ _ _ (by omega) (by omega)).mono ?_
     rintro e3 w3 ⟨rfl, rfl⟩
     go_wp2_with fail
     refine (turned_calls _ _ _ (by omega) (by omega)).mono ?_
     rintro e3 w3 ⟨rfl, rfl⟩
     have hbuild : #[Value.int .u32 (uw (rt1 r kt wt + rt2 r)), .int .u32 (uw r.a), .int .u32 (uw r.b), .int .u32 (uw r.c), .int .u32 (uw (r.d + rt1 r kt wt)), .int .u32 (uw r.e), .int .u32 (uw r.f), .int .u32 (uw r.g)] = wordCells (round r kt wt).list := rfl
     obtain ⟨D, hD⟩ : ∃ D : Array Value, D = wordCells (round r kt wt).list := ⟨_, rfl⟩
     rw [← hD] at hbuild
     have hDs : D.size = 8 := by rw [hD]; rfl
     have hDone : D.all (·.oneCell') = true := by rw [hD]; exact wordCells_one _
     have HD := Lib.hid hD
     have HDs := Lib.hid hDs
     clear hD hDs
     have hm := maj_int r.a r.b r.c
     have hm2 := rt2_int' r
     have hm3 := uw_add (rt1 r kt wt) (rt2 r)
     have hm4 := uw_add r.d (rt1 r kt wt)
     have hth := HV2.out.there 0 D.size (by rw [HDs.out]; exact Nat.le_refl _)
     have hsR : (Tryz.prog.info? 98).map (·.size) = some D.size := Hsz.out.trans (by rw [Hlen.out, HDs.out])
     have HthV := Lib.hid hth
     have HsR := Lib.hid hsR
     have HonR := Lib.hid hDone
     have HV3 := Lib.hid (store_row HV2.out (show D.size = (wordCells r.list).size from HDs.out))
     have H53 := Lib.hid (H52.out.cells_other (V := V) (by omega) D.toList)
     have H63 := Lib.hid (H62.out.cells_other (V := V) (by omega) D.toList)
     have HA3 := Lib.hid (HA2.out.cells_other (V := V) (by omega) D.toList)
     have H43 := Lib.hid (H42.out.cells_other (V := V) (by omega) D.toList)
     have Hb3 := Lib.hid (setCells_below V N (by omega) D.toList 0 w _ Hb2.out)
     clear hth hsR hDone HV2 H52 H62 HA2 H42 Hb2
     go_wp2_with (refine wpList_store_mid rfl 98 _ _ rfl V 0 D rfl rfl HthV.out HsR.out HonR.out ?_)
     go_roundw
     case rel => exact ⟨t + 1, by omega, by go_num, ⟨round r kt wt, Hround.out.symm, by rw [← HD.out]; exact HV3.out⟩, H53.out, H63.out, HA3.out, H43.out, Hb3.out⟩
     case measure => simp [intOf]; omega
    ·have ht64 : t = 64 := by omega
     subst ht64
     rw [← hr] at Hcomp
     rw [HC.out] at hA
     have h0 : RowIs wr N 98 (wordCells (addTo s r 0)) := by simpa [addTo] using hA
     clear hr h5 h6 hA hlt ht hWl hk64 Hkl
     rw [show (((64 : Nat) : Int)) = 64 from rfl]
     have HV := Lib.hid hv
     have H0 := Lib.hid h0
     have H4 := Lib.hid h4
     have Hb := Lib.hid hb
     clear hv h0 h4 hb
     go_wp2_with fail
     go_loopw [22, 155] (fun _ vj wr => ∃ j : Nat, j ≤ 8 ∧ vj = .int .i64 j ∧ RowIs wr N 98 (wordCells (addTo s r j)) ∧ RowIs wr V 98 (wordCells r.list) ∧ RowIs wr (N + 1) 98 (wordCells (List.replicate 8 0#32)) ∧ Below N w wr) (fun _ vj _ => 8 - (intOf vj).toNat)
     case atStart => exact ⟨0, by omega, rfl, H0.out, HV.out, H4.out, Hb.out⟩
     case round =>
      clear H0 HV H4 Hb
      obtain ⟨j, hj, rfl, h0, hv, h4, hb⟩ := hrel
      by_cases hlt : j < 8
      ·obtain ⟨x, y, hx, hy, hxy, hset⟩ := addTo_at s r j hlt
       have hal := addTo_length s r j hj
       have hc : wr.cell? ⟨N, j, none⟩ = some (.int .u32 (uw x)) := by
        rw [h0.word j (by omega)]
        rw [List.getElem?_eq_getElem (by omega)] at hxy
        rw [Option.some.inj hxy]
       have hcy : wr.cell? ⟨V, j, none⟩ = some (.int .u32 (uw y)) := by
        have hrl : j < r.list.length := Nat.lt_of_lt_of_eq hlt (rfl : 8 = r.list.length)
        rw [hv.word j hrl]
        rw [List.getElem?_eq_getElem hrl] at hy
        rw [Option.some.inj hy]
       have hf := h0.free j
       have hs := h0.setWord j (x + y)
       rw [hset] at hs
       have Hs := Lib.hid hs
       have HV := Lib.hid (hv.other ⟨N, j, none⟩ (.int .u32 (uw (x + y))) (by show V ≠ N; omega))
       have H4 := Lib.hid (h4.other ⟨N, j, none⟩ (.int .u32 (uw (x + y))) (by show N + 1 ≠ N; omega))
       have Hb := Lib.hid (hb.setCell (p := ⟨N, j, none⟩) (Nat.le_refl N) (.int .u32 (uw (x + y))))
       clear h0 hv h4 hb hs hset hxy hx hy hal
       have h8 : (j : Int) < 8 := by omega
       have hVN : V ≠ N := by omega
       go_wp2_with fail
       go_region
       go_wp2
       rw [uw_add]
       go_roundw
       case rel => exact ⟨j + 1, by omega, by go_num, Hs.out.drew, HV.out.drew, H4.out.drew, Hb.out.drew⟩
       case measure => simp [intOf]; omega
      ·have hj8 : j = 8 := by omega
       subst hj8
       have hfin : addTo s r 8 = (s.add r).list := by simp [addTo, St.list, St.add]
       rw [hfin, ← Hcomp.out] at h0
       have hRl : R.size = 8 := by rw [Hcomp.out]; rfl
       have hRone : R.all (·.oneCell') = true := by rw [Hcomp.out]; exact wordCells_one _
       have hRsz : (Tryz.prog.info? 98).map (·.size) = some R.size := by rw [hRl]; kernel_rfl
       have hst : RowIs (wr.setCells (N + 1) 0 R.toList) (N + 1) 98 R := store_row h4 (by rw [hRl]; rfl)
       have hthere := h4.there 0 R.size (by rw [hRl]; exact Nat.le_refl _)
       have hbel2 := setCells_below (N + 1) N (by omega) R.toList 0 w wr hb
       have H0 := Lib.hid h0
       have Hst := Lib.hid hst
       have Hbel := Lib.hid hbel2
       have HRone := Lib.hid hRone
       have HRsz := Lib.hid hRsz
       have Hthere := Lib.hid hthere
       clear h0 hv h4 hb hst hbel2 hRone hRsz hthere hRl hlt hj
       rw [show (((8 : Nat) : Int)) = 8 from rfl]
       go_wp2_with (first | (refine wpList_load_row rfl 98 _ rfl N rfl 98 R (0, 0) _ H0.out Tryz.underlying98 rfl HRsz.out ?_) | (refine wpList_store_mid rfl 98 _ _ rfl (N + 1) 0 R rfl rfl Hthere.out HRsz.out HRone.out ?_))
       refine bodyPost_ret (v := .agg R) (results_cell_row (p := 4) (ty := 98) (by rfl) _ _ (N + 1) 98 R (0, 0) _ (by rfl) Hst.out Tryz.underlying98 (by rfl) HRsz.out) (by rfl) ?_
       exact ⟨rfl, by rw [HN.out]; exact Hbel.out⟩

end Go.Proofs.YtimkklaidodkdaaGreatDoor

namespace Go.Proofs.YtimkklaidodkdaaGreatDoor
open Go.RowKit

theorem wordCells_eight (s : St) : (wordCells s.list).size = 8 := rfl

set_option maxRecDepth 20000 in
set_option maxHeartbeats 3200000 in
theorem refshasum_calls (s : ByteArray) (w : World) (hs : s.size ≤ 140737488351232) :
  Calls Tryz.prog 89 #[.string s] w fun e w' => e = .returned (.agg (byteCells (sha s.data.toList))) ∧ Below w.heap.size w w' := by
 have hpl : (padL s.data.toList).length ≤ 140737488351232 + 73 := by
  rw [padL, List.length_append, padding_length, size_data]; omega
 have hmod := padL_mod s.data.toList
 have hpad := fun w => refpadded_calls s w hs
 have hsha : sha s.data.toList = digest (blocks (padL s.data.toList) ((padL s.data.toList).length / 64)) := rfl
 generalize sha s.data.toList = R at *
 generalize hPL : padL s.data.toList = P at *
 clear hPL
 have Hsha := Lib.hid hsha
 clear hsha
 go_enter Tryz.func89, Tryz.ntmps89
 go_wp2_with fail
 obtain ⟨W1, hW1, hO, hH, hB1, hz1⟩ := two_rows w (byteCells (List.replicate 32 0)) (wordCells shaH.list) 36 98
 change Calls _ _ _ ((w.alloc (.cells (byteCells (List.replicate 32 0)) 36)).alloc (.cells (wordCells shaH.list) 98)) _
 rw [← hW1]
 clear hW1
 generalize hB : w.heap.size = B at *
 have HB := Lib.hid hB
 clear hB
 refine (hpad W1).mono ?_
 rintro e w2 ⟨rfl, hb2⟩
 have hO2 := hO.below hb2 (by omega)
 have hH2 := hH.below hb2 (by omega)
 have hB2 := hB1.trans (hb2.mono (by omega))
 clear hO hH hb2 hB1 hz1 hpad
 obtain ⟨x, hx⟩ : ∃ x : ByteArray, x = ⟨P.toArray⟩ := ⟨_, rfl⟩
 rw [← hx]
 have hx0 : x.data.toList = P.drop (64 * 0) := by rw [hx]; rfl
 clear hx
 go_wp2_with fail
 go_loopw [0] (fun v0 wr => ∃ i : Nat, ∃ y : ByteArray, 64 * i ≤ P.length ∧ v0 = .string y ∧ y.data.toList = P.drop (64 * i) ∧ RowIs wr (B + 1) 98 (wordCells (blocks P i).list) ∧
  RowIs wr B 36 (byteCells (List.replicate 32 0)) ∧ Below B w wr) (fun v0 _ => match v0 with | .string y => y.size | _ => 0)
 case atStart => exact ⟨0, x, by omega, rfl, hx0, hH2, hO2, hB2⟩
 case round =>
  clear hx0 hH2 hO2 hB2
  obtain ⟨i, y, hi, rfl, hy, hH, hO, hb⟩ := hrel
  have hys : y.size = P.length - 64 * i := by rw [← size_data, hy, List.length_drop]
  by_cases hlt : 64 * i < P.length
  ·have h64 : 64 ≤ y.size := by omega
   have hpos : (0 : Int) < y.size := by omega
   have h64i : (64 : Int) ≤ ((P.length - 64 * i : Nat) : Int) := by omega
   have hxs : (y.extract 0 64).size = 64 := by simp [ByteArray.size_extract]; omega
   have hxl : (y.extract 0 64).data.toList = (P.drop (64 * i)).take 64 := by rw [← hy]; simp
   have hyl : (y.extract 64 y.size).data.toList = P.drop (64 * (i + 1)) := by
    have e : 64 * (i + 1) = 64 * i + 64 := by omega
    rw [e, ← List.drop_drop, ← hy]
    simp
    rw [List.take_of_length_le]
    simp
   have hblk : compress (blocks P i) (y.extract 0 64).data.toList = blocks P (i + 1) := by rw [hxl, blocks]
   have hp := fun w => refpart_calls (blocks P i) (y.extract 0 64) w hxs
   rw [hblk] at hp
   have hsz1 : (Tryz.prog.info? 98).map (·.size) = some (wordCells (blocks P i).list).size := by rw [wordCells_eight]; kernel_rfl
   have hsz2 : (Tryz.prog.info? 98).map (·.size) = some (wordCells (blocks P (i + 1)).list).size := by rw [wordCells_eight]; kernel_rfl
   have hs12 : (wordCells (blocks P (i + 1)).list).size = (wordCells (blocks P i).list).size := by rw [wordCells_eight, wordCells_eight]
   have hone := wordCells_one (blocks P (i + 1)).list
   have hrel2 : ∀ w, RowIs w (B + 1) 98 (wordCells (blocks P (i + 1)).list) → RowIs w (B + 1) 98 (wordCells (blocks P (i + 1)).list) := fun _ h => h
   generalize wordCells (blocks P i).list = C at *
   generalize hD : wordCells (blocks P (i + 1)).list = D at *
   have HD := Lib.hid hD
   have Hyl := Lib.hid hyl
   have Hpl := Lib.hid hpl
   have Hp := Lib.hid hp
   have HH := Lib.hid hH
   have HO := Lib.hid hO
   have Hb := Lib.hid hb
   clear hyl hxl hy hpl hmod hp hblk hrel2 hD hH hO hb
   go_wp2_with fail
   refine wp_region_held_drew (S := fun _ => True) (by kernel_rfl) trivial (fun hHeld => ?_)
   refine take_N (i := 1) (v := ?_) (some 13) #[false, true, false, false, false] rfl rfl (by kernel_rfl) (by kernel_rfl) (by kernel_rfl) (by kernel_rfl) (fun _ _ _ h => h) (by assumption) (Or.inl ⟨by rfl, ?_⟩) ?_
   rotate_left
   ·intro w_ hSw_; go_simp; try with_reducible rfl
   simp only [Act.put, List.setIfInBounds_toArray, List.set_cons_zero, List.set_cons_succ]
   refine take_N (i := 2) (v := ?_) (some 14) #[false, true, true, false, false] rfl rfl (by kernel_rfl) (by kernel_rfl) (by kernel_rfl) (by kernel_rfl) (fun _ _ _ h => h) (by assumption) (Or.inl ⟨by rfl, ?_⟩) ?_
   rotate_left
   ·intro w_ hSw_; go_simp; try with_reducible rfl
   simp only [Act.put, List.setIfInBounds_toArray, List.set_cons_zero, List.set_cons_succ]
   refine step_N (i := 0) #[true, true, true, false, false] rfl (by kernel_rfl) (by kernel_rfl) (fun K hK => ?_)
   rw [if_pos (by rfl)]
   refine wp_load_row 98 _ rfl (B + 1) rfl 98 C (0, 0) _ HH.out Tryz.underlying98 rfl hsz1 ?_
   refine hK.out _ _ trivial ?_
   clear hK K
   refine step_N (i := 3) #[true, true, true, true, false] rfl (by kernel_rfl) (by kernel_rfl) (fun K hK => ?_)
   rw [if_pos (by rfl)]
   go_simp
   have hlt1 : (B + 1) < wr.heap.size := HH.out.lt
   refine (Hp.out _).mono ?_
   rintro e w5 ⟨rfl, hb5⟩
   have hH5 := HH.out.drew.below hb5 hlt1
   have hthere := hH5.there 0 D.size (by rw [hs12]; omega)
   have hst : RowIs (w5.setCells (B + 1) 0 D.toList) (B + 1) 98 D := store_row hH5 hs12
   have hO5 : RowIs (w5.setCells (B + 1) 0 D.toList) B 36 (byteCells (List.replicate 32 0)) := (setCells_other (B + 1) B (by omega) D.toList 0 w5).trans (HO.out.drew.below hb5 (by show B < wr.heap.size; omega))
   have hbl : Below B w (w5.setCells (B + 1) 0 D.toList) := setCells_below (B + 1) B (by omega) D.toList 0 w w5 (Hb.out.drew.trans (hb5.mono (by show B ≤ wr.heap.size; omega)))
   have Hst := Lib.hid hst
   have HO5 := Lib.hid hO5
   have Hbl := Lib.hid hbl
   clear hst hO5 hbl hH5 hb5
   refine hK.out _ _ trivial ?_
   clear hK K
   refine step_N (i := 4) #[true, true, true, true, true] rfl (by kernel_rfl) (by kernel_rfl) (fun K hK => ?_)
   rw [if_pos (by rfl)]
   refine wp_store_mid 98 _ _ rfl (B + 1) 0 D rfl rfl hthere hsz2 hone ?_
   refine hK.out _ _ trivial ?_
   clear hK K
   refine wpAnyH_done (by kernel_rfl) ?_ _
   generalize w5.setCells (B + 1) 0 D.toList = w6 at *
   clear hthere
   go_wp2_with fail
   go_roundw
   case rel =>
    refine ⟨i + 1, _, by omega, rfl, ?_, ?_, HO5.out, Hbl.out⟩
    ·rw [← hys]; exact Hyl.out
    ·rw [HD.out]; exact Hst.out
   case measure =>
    show (y.extract 64 (P.length - 64 * i)).size < y.size
    rw [ByteArray.size_extract]
    omega
  ·have hy0 : y.size = 0 := by omega
   have hin : i = P.length / 64 := by omega
   rw [← hin] at Hsha
   generalize blocks P i = st at *
   have hng : ¬ ((y.size : Int) > 0) := by omega
   clear hy hys hi hlt hpl hmod hin
   have HH := Lib.hid hH
   have HO := Lib.hid hO
   have Hb := Lib.hid hb
   clear hH hO hb
   go_wp2_with fail
   have hG := HO.out.lt
   have hH1 : RowIs (wr.alloc (.cells (byteCells (List.replicate 32 0)) 36)) (B + 1) 98 (wordCells st.list) := HH.out.alloc _
   have hO1 : RowIs (wr.alloc (.cells (byteCells (List.replicate 32 0)) 36)) B 36 (byteCells (List.replicate 32 0)) := HO.out.alloc _
   have hN1 : RowIs (wr.alloc (.cells (byteCells (List.replicate 32 0)) 36)) wr.heap.size 36 (byteCells (digRow st 0)) := by
    have := RowIs.new wr 36 (byteCells (List.replicate 32 0))
    simpa [digRow, digestTo] using this
   have hb1 : Below B w (wr.alloc (.cells (byteCells (List.replicate 32 0)) 36)) := Hb.out.alloc (by omega) _
   have hBG : B + 1 < wr.heap.size := HH.out.lt
   change Code.wp _ _ _ _ (wr.alloc (.cells (byteCells (List.replicate 32 0)) 36))
   generalize wr.alloc (.cells (byteCells (List.replicate 32 0)) 36) = w7 at *
   generalize wr.heap.size = G at *
   clear HO HH Hb hG hng hy0
   go_loopw [5, 18] (fun _ v wr => ∃ t : Nat, t ≤ 32 ∧ v = .int .i64 t ∧ RowIs wr G 36 (byteCells (digRow st t)) ∧ RowIs wr (B + 1) 98 (wordCells st.list) ∧ RowIs wr B 36 (byteCells (List.replicate 32 0)) ∧ Below B w wr) (fun _ v _ => 32 - (intOf v).toNat)
   case atStart => exact ⟨0, by omega, rfl, hN1, hH1, hO1, hb1⟩
   case round =>
    clear hN1 hH1 hO1 hb1
    obtain ⟨t, ht, rfl, hN, hH, hO, hb⟩ := hrel
    by_cases hlt : t < 32
    ·have hsl : st.list.length = 8 := rfl
     have hdl := digRow_length st t ht
     have hc : wr.cell? ⟨B + 1, t / 4, none⟩ = some (.int .u32 (uw (st.list.getD (t / 4) 0#32))) := by
      rw [hH.word (t / 4) (by omega), List.getD_eq_getElem?_getD, List.getElem?_eq_getElem (by omega)]; rfl
     generalize hX : st.list.getD (t / 4) 0#32 = X at *
     have hset := digRow_set st t hlt
     rw [hX] at hset
     have hv := digest_int X (24 - 8 * (t % 4)) _ rfl
     have hN2 := hN.setByte t (UInt8.ofNat (X.toNat / 2 ^ (24 - 8 * (t % 4)))) _ hv
     rw [hset] at hN2
     have hex : ∃ old : Int, wr.cell? ⟨G, t, none⟩ = some (.int .u8 old) := ⟨_, hN.byte t (by omega)⟩
     obtain ⟨old, hcO⟩ := hex
     have hfO := hN.free t
     have HN2 := Lib.hid hN2
     have HH := Lib.hid (hH.other ⟨G, t, none⟩ (.int .u8 (uw X / 2 ^ (24 - 8 * (t % 4)) % 256)) (by show B + 1 ≠ G; omega))
     have HO := Lib.hid (hO.other ⟨G, t, none⟩ (.int .u8 (uw X / 2 ^ (24 - 8 * (t % 4)) % 256)) (by show B ≠ G; omega))
     have Hb := Lib.hid (hb.setCell (p := ⟨G, t, none⟩) (by show B ≤ G; omega) (.int .u8 (uw X / 2 ^ (24 - 8 * (t % 4)) % 256)))
     clear hN hO hH hb hN2 hset hv hX hdl hsl
     have q1 : (t : Int) / 4 < 8 := by omega
     have q0 : 0 ≤ (t : Int) / 4 := by omega
     have qn : ((t : Int) / 4).toNat = t / 4 := by omega
     have s0 : 0 ≤ 24 - 8 * ((t : Int) % 4) := by omega
     have sn : (24 - 8 * ((t : Int) % 4)).toNat = 24 - 8 * (t % 4) := by omega
     have r0 : 0 ≤ (t : Int) % 4 := by omega
     have r1 : (t : Int) % 4 < 4 := by omega
     go_wp2_with fail
     go_roundw
     case rel => exact ⟨t + 1, by omega, by go_num, HN2.out, HH.out, HO.out, Hb.out⟩
     case measure => simp [intOf]; omega
    ·have ht32 : t = 32 := by omega
     subst ht32
     have hR : digRow st 32 = R := by rw [Hsha.out]; simp [digRow, digest]
     rw [hR] at hN
     have hlen : (byteCells R).size = 32 := by rw [← hR, byteCells_size, digRow_length st 32 (by omega)]
     have hone := byteCells_one R
     clear hR Hsha hH
     generalize hC : byteCells R = C at *
     have HC := Lib.hid hC
     clear hC
     have hsz : (Tryz.prog.info? 36).map (·.size) = some C.size := by rw [hlen]; kernel_rfl
     have hs0 : C.size = (byteCells (List.replicate 32 0)).size := by rw [hlen]; rfl
     have hst : RowIs (wr.setCells B 0 C.toList) B 36 C := store_row hO hs0
     have hthere := hO.there 0 C.size (by rw [hs0]; omega)
     have hbel2 := setCells_below B B (Nat.le_refl B) C.toList 0 w wr hb
     have Hlen := Lib.hid hlen
     have Hst := Lib.hid hst
     have Hbel := Lib.hid hbel2
     clear hlen hst hbel2 hs0
     go_wp2_with (first | (refine wpList_load_row rfl 36 _ rfl G rfl 36 C (0, 0) _ hN Tryz.underlying36 rfl hsz ?_) | (refine wpList_store_mid rfl 36 _ _ rfl B 0 C rfl rfl hthere hsz hone ?_))
     refine bodyPost_ret (v := .agg C) (results_cell_row (p := 2) (ty := 36) (by rfl) _ _ B 36 C (0, 0) _ (by rfl) Hst.out Tryz.underlying36 (by rfl) hsz) (by rfl) ?_
     exact ⟨by rw [HC.out], by rw [HB.out]; exact Hbel.out⟩

end Go.Proofs.YtimkklaidodkdaaGreatDoor
