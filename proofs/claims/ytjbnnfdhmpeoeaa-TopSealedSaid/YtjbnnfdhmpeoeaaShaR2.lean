/- The reference's padded, walked. -/
import Derived.Test.YtjbnnfdhmpeoeaaSha3
namespace Go.Proofs.Ytjbnnfdhmpeoeaa
open Go.RowKit

/-- The message while its padding is being made: k zeros. -/
def padZ (l : List UInt8) (k : Nat) : List UInt8 := l ++ 0x80 :: List.replicate k 0
/-- .. and j bytes of the count. -/
def padN (l : List UInt8) (q j : Nat) : List UInt8 := padZ l ((119 - l.length % 64) % 64) ++ (beL q 8).take j

theorem padN_done (l : List UInt8) (q : Nat) (h : q = l.length * 8 % 18446744073709551616) : padN l q 8 = padL l := by
  subst h
  rw [padN, List.take_of_length_le (by rw [beL_length]; exact Nat.le_refl _), padZ, padL, padding]
  simp

theorem beL_get (q : Nat) : ∀ k j, j < k → (beL q k)[j]? = some (UInt8.ofNat (q / 256 ^ (k - 1 - j)))
  | 0, j, h => by omega
  | k + 1, 0, _ => by simp [beL]
  | k + 1, j + 1, h => by
    rw [beL, List.getElem?_cons_succ, beL_get q k j (by omega)]
    have : k + 1 - 1 - (j + 1) = k - 1 - j := by omega
    rw [this]

theorem padN_succ (l : List UInt8) (q j : Nat) (h : j < 8) : padN l q (j + 1) = padN l q j ++ [UInt8.ofNat (q / 256 ^ (7 - j))] := by
  have hg := beL_get q 8 j h
  have e : 8 - 1 - j = 7 - j := by omega
  rw [e] at hg
  rw [padN, padN, List.take_add_one, hg, List.append_assoc]
  rfl

theorem padZ_succ (l : List UInt8) (k : Nat) : padZ l (k + 1) = padZ l k ++ [0] := by
  rw [padZ, padZ, List.replicate_succ', List.append_assoc]
  rfl
theorem padZ_length (l : List UInt8) (k : Nat) : (padZ l k).length = l.length + 1 + k := by simp [padZ]; omega
theorem padN_length (l : List UInt8) (q j : Nat) (h : j ≤ 8) : (padN l q j).length = l.length + 1 + (119 - l.length % 64) % 64 + j := by
  simp [padN, padZ_length, beL_length]; omega

theorem shr_count (q : Nat) (j : Nat) (hj : j < 8) : (q : Int) / 2 ^ (56 - 8 * j) % 256 = ((UInt8.ofNat (q / 256 ^ (7 - j))).toNat : Int) := by
  rw [byte_toNat]
  have e : (2 : Int) ^ (56 - 8 * j) = ((256 ^ (7 - j) : Nat) : Int) := by
    have : 56 - 8 * j = 8 * (7 - j) := by omega
    rw [this]
    have : 256 ^ (7 - j) = 2 ^ (8 * (7 - j)) := by rw [Nat.pow_mul]
    rw [this]; simp
  rw [e]
  generalize 256 ^ (7 - j) = M
  omega

set_option maxRecDepth 20000 in
set_option maxHeartbeats 1600000 in
theorem refpadded_calls (s : ByteArray) (w : World) (hs : s.size ≤ 140737488351232) :
    Calls Try.prog 51 #[.string s] w fun e w' => e = .returned (.string ⟨(padL s.data.toList).toArray⟩) ∧ Below w.heap.size w w' := by
  obtain ⟨q, hq⟩ : ∃ q : Nat, q = s.data.toList.length * 8 % 18446744073709551616 := ⟨_, rfl⟩
  have hdone := padN_done s.data.toList q hq
  rw [← hdone]
  have hlen : s.data.toList.length = s.size := size_data s
  have hq2 : (s.size : Int) * 8 = (q : Int) := by rw [hq, hlen]; omega
  generalize hl : s.data.toList = l at *
  have h80 : (s ++ ⟨#[128]⟩ : ByteArray).data.toList = padZ l 0 := by
    rw [ByteArray.data_append, Array.toList_append, hl, padZ]; rfl
  have hN0 : padZ l ((119 - s.size % 64) % 64) = padN l q 0 := by rw [padN, hlen]; simp
  have hZl := padZ_length l
  have hNl := padN_length l q
  rw [hlen] at hZl hNl
  have HNl := Lib.hid hNl
  have HZl := Lib.hid hZl
  have HN0 := Lib.hid hN0
  clear hdone hl hlen hq hNl hZl hN0
  have hcap : ¬ ((s.size + 1 : Nat) : Int) > IntKind.i64.max := by
    have : IntKind.i64.max = 9223372036854775807 := rfl
    rw [this]; omega
  go_enter Try.func51, Try.ntmps51
  go_wp2_with fail
  generalize s ++ ⟨#[128]⟩ = x at *
  have Hq2 := Lib.hid hq2
  clear hcap hq2
  have hz64 : (119 - s.size % 64) % 64 < 64 := by omega
  go_loopw [0] (fun v0 wr => ∃ k : Nat, ∃ y : ByteArray, k ≤ (119 - s.size % 64) % 64 ∧ v0 = .string y ∧ y.data.toList = padZ l k ∧ Below w.heap.size w wr) (fun v0 _ => s.size + 1 + 64 - (match v0 with | .string y => y.size | _ => 0))
  case atStart => exact ⟨0, x, by omega, rfl, h80, Below.refl _ _⟩
  case round =>
    clear h80
    obtain ⟨k, y, hk, rfl, hy, hb⟩ := hrel
    have hys : y.size = s.size + 1 + k := by rw [← size_data, hy, HZl.out]
    have hcap : ¬ ((y.size + 1 : Nat) : Int) > IntKind.i64.max := by
      have : IntKind.i64.max = 9223372036854775807 := rfl
      rw [this]; omega
    by_cases hlt : k < (119 - s.size % 64) % 64
    · have hne : ¬ (y.size : Int) % 64 = 56 := by omega
      have hy2 : (y ++ ⟨#[0]⟩ : ByteArray).data.toList = padZ l (k + 1) := by
        rw [ByteArray.data_append, Array.toList_append, hy, padZ_succ]
      have hsz2 : (y ++ ⟨#[0]⟩ : ByteArray).size = y.size + 1 := by rw [ByteArray.size_append]; rfl
      have hyb : y.size ≤ 140737488351232 + 200 := by omega
      have Hy2 := Lib.hid hy2
      have Hys := Lib.hid hys
      have Hk := Lib.hid hk
      have Hlt := Lib.hid hlt
      have Hs2 := Lib.hid hsz2
      clear hy2 hsz2 hy hys hk hlt
      go_wp2
      go_roundw
      case rel => exact ⟨k + 1, _, Hlt.out, rfl, Hy2.out, hb⟩
      case measure =>
        have h1 := Hys.out
        have h2 := Hs2.out
        have h3 := Hlt.out
        show s.size + 1 + 64 - (y ++ ⟨#[0]⟩ : ByteArray).size < s.size + 1 + 64 - y.size
        omega
    · have hkz : k = (119 - s.size % 64) % 64 := by omega
      rw [hkz, HN0.out] at hy
      have heq : (y.size : Int) % 64 = 56 := by omega
      clear hkz hlt hk hys
      go_wp2_with fail
      clear heq hcap
      go_loopw [0, 4] (fun v0 i wr => ∃ j : Nat, ∃ y : ByteArray, j ≤ 8 ∧ i = .int .i64 j ∧ v0 = .string y ∧ y.data.toList = padN l q j ∧ Below w.heap.size w wr) (fun _ i _ => 8 - (intOf i).toNat)
      case atStart => exact ⟨0, y, by omega, rfl, rfl, hy, hb⟩
      case round =>
        clear hy hb
        obtain ⟨j, z, hj, rfl, rfl, hz, hb⟩ := hrel
        have hzs : z.size ≤ 140737488351232 + 200 := by rw [← size_data, hz, HNl.out j hj]; omega
        by_cases hlt : j < 8
        · have hconv := conv_one wr _ _ (shr_count q j hlt)
          have hcap : ¬ ((z.size + 1 : Nat) : Int) > IntKind.i64.max := by
            have : IntKind.i64.max = 9223372036854775807 := rfl
            rw [this]; omega
          have hz2 : (z ++ ⟨#[UInt8.ofNat (q / 256 ^ (7 - j))]⟩ : ByteArray).data.toList = padN l q (j + 1) := by
            rw [ByteArray.data_append, Array.toList_append, hz, padN_succ l q j hlt]
          have Hz2 := Lib.hid hz2
          have s0 : 0 ≤ 56 - 8 * (j : Int) := by omega
          have sn : (56 - 8 * (j : Int)).toNat = 56 - 8 * j := by omega
          clear hz2 hz
          go_wp2
          go_roundw
          case rel => exact ⟨j + 1, _, hlt, by go_num, rfl, Hz2.out, hb.alloc hb.size _⟩
          case measure => simp [intOf]; omega
        · have hj8 : j = 8 := by omega
          subst hj8
          have hze : z = ⟨(padN l q 8).toArray⟩ := by
            apply ByteArray.ext; apply Array.ext'; rw [hz]
          subst hze
          go_wp2
          go_ret
          exact ⟨rfl, hb⟩

end Go.Proofs.Ytjbnnfdhmpeoeaa
