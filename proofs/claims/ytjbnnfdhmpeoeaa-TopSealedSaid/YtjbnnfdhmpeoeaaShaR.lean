/- The reference's hash, walked: turned, word, constants. -/
import Derived.Test.YtjbnnfdhmpeoeaaSha3
namespace Go.Proofs.Ytjbnnfdhmpeoeaa
open Go.RowKit

theorem turned_int (x : BitVec 32) (k : Nat) (_h : k ≤ 32) : bits .or .u32 (uw x / 2 ^ k) (uw x * 2 ^ (32 - k) % 4294967296) = uw (rotr x k) := by
  have e1 := uw_shl x (32 - k) (2 ^ (32 - k)) (by simp)
  have e2 := uw_shr x k (2 ^ k) (by simp)
  rw [e1, e2, uw_or]
  rfl

set_option maxRecDepth 20000 in
theorem turned_calls (x : BitVec 32) (k : Int) (w : World) (h1 : 1 ≤ k) (h2 : k ≤ 31) :
    Calls Try.prog 62 #[.int .u32 (uw x), .int .u64 k] w fun e w' => e = .returned (.int .u32 (uw (rotr x k.toNat))) ∧ w' = w := by
  obtain ⟨j, rfl⟩ := Int.eq_ofNat_of_zero_le (show 0 ≤ k by omega)
  rw [Int.toNat_natCast]
  have ht := turned_int x j (by omega)
  generalize rotr x j = r at *
  have Ht := Lib.hid ht
  clear ht
  have h32 : (32 : Int) - (j : Int) = ((32 - j : Nat) : Int) := by omega
  have hlo : 0 ≤ (32 : Int) - (j : Int) := by omega
  go_enter Try.func62, Try.ntmps62
  go_wp2
  go_ret
  exact ⟨by rw [← Ht.out]; rfl, rfl⟩

theorem word_int (a b c d : UInt8) : bits .or .u32 (bits .or .u32 (bits .or .u32 ((a.toNat : Int) % 4294967296 * 16777216 % 4294967296) ((b.toNat : Int) % 4294967296 * 65536 % 4294967296)) ((c.toNat : Int) % 4294967296 * 256 % 4294967296)) ((d.toNat : Int) % 4294967296) =
    uw (((w8 a <<< 24 ||| w8 b <<< 16) ||| w8 c <<< 8) ||| w8 d) := by
  have e : ∀ c : UInt8, (c.toNat : Int) % 4294967296 = uw (w8 c) := fun c => by rw [← uw_w8]; exact uw_mod _
  rw [e, e, e, e, uw_shl (w8 a) 24 16777216 rfl, uw_shl (w8 b) 16 65536 rfl, uw_shl (w8 c) 8 256 rfl, uw_or, uw_or, uw_or]

theorem word_at (s : ByteArray) (h : 4 ≤ s.size) : wordAt s.data.toList 0 = ((w8 s[0] <<< 24 ||| w8 s[1] <<< 16) ||| w8 s[2] <<< 8) ||| w8 s[3] := by
  rw [wordAt_eq, getD_data s _ (by omega), getD_data s _ (by omega), getD_data s _ (by omega), getD_data s _ (by omega)]

set_option maxRecDepth 20000 in
theorem word_calls (s : ByteArray) (w : World) (h : 4 ≤ s.size) :
    Calls Try.prog 61 #[.string s] w fun e w' => e = .returned (.int .u32 (uw (wordAt s.data.toList 0))) ∧ Below w.heap.size w w' := by
  rw [word_at s h]
  have h0 : 0 < s.size := by omega
  have h1 : 1 < s.size := by omega
  have h2 : 2 < s.size := by omega
  have h3 : 3 < s.size := by omega
  have i0 : (0 : Int) < s.size := by omega
  have i1 : (1 : Int) < s.size := by omega
  have i2 : (2 : Int) < s.size := by omega
  have i3 : (3 : Int) < s.size := by omega
  have hw := word_int s[0] s[1] s[2] s[3]
  generalize ((w8 s[0] <<< 24 ||| w8 s[1] <<< 16) ||| w8 s[2] <<< 8) ||| w8 s[3] = r at *
  have Hw := Lib.hid hw
  clear hw
  go_enter Try.func61, Try.ntmps61
  go_wp2_with fail
  go_quiet (fail)
  go_wp2
  go_ret
  exact ⟨by rw [← Hw.out]; rfl, below_drewN (Below.refl _ _) nq⟩

set_option maxRecDepth 20000 in
set_option maxHeartbeats 1600000 in
theorem constants_calls (w : World) :
    Calls Try.prog 60 #[] w fun e w' => e = .returned (.agg (wordCells shaK)) ∧ Below w.heap.size w w' := by
  have hrow0 : RowIs (w.alloc (.cells (wordCells (List.replicate 64 0#32)) 101)) w.heap.size 101 (wordCells (List.replicate 64 0#32)) := RowIs.new _ _ _
  have hbel0 : Below w.heap.size w (w.alloc (.cells (wordCells (List.replicate 64 0#32)) 101)) := (Below.refl _ _).alloc (Nat.le_refl _) _
  have hlen : (wordCells shaK).size = 64 := rfl
  have hsz : (Try.prog.info? 101).map (·.size) = some (wordCells shaK).size := by rw [hlen]; kernel_rfl
  have hone := wordCells_one shaK
  have hst : RowIs ((w.alloc (.cells (wordCells (List.replicate 64 0#32)) 101)).setCells w.heap.size 0 (wordCells shaK).toList) w.heap.size 101 (wordCells shaK) := store_row hrow0 rfl
  have hthere := hrow0.there 0 (wordCells shaK).size (by rw [hlen]; exact Nat.le_refl _)
  have hbel2 := setCells_below w.heap.size w.heap.size (Nat.le_refl _) (wordCells shaK).toList 0 w _ hbel0
  have Hst := Lib.hid hst
  have Hbel := Lib.hid hbel2
  have Hthere := Lib.hid hthere
  have Hsz := Lib.hid hsz
  have Hone := Lib.hid hone
  clear hst hbel2 hthere hrow0 hbel0 hsz hlen hone
  go_enter Try.func60, Try.ntmps60
  go_wp2_with (refine wpList_store_mid rfl 101 _ _ rfl w.heap.size 0 (wordCells shaK) rfl rfl Hthere.out Hsz.out Hone.out ?_)
  refine bodyPost_ret (v := .agg (wordCells shaK)) (results_cell_row (p := 0) (ty := 101) (by rfl) _ _ w.heap.size 101 (wordCells shaK) (0, 0) _ (by rfl) Hst.out Try.underlying101 (by rfl) Hsz.out) (by rfl) ?_
  exact ⟨rfl, Hbel.out⟩

end Go.Proofs.Ytjbnnfdhmpeoeaa
