/- Words of 32 bits as BitVec 32: how the walk's integers are spelled, and what they are. Plain lemmas, no program. -/
import Derived.Laws.BitsLemmas
import Derived.Laws.Bits64
import Derived.RowKit
namespace Go.Proofs.YtokanfceipkfpaaDoor
open Go.RowKit

/-- A word as the walk's integer. -/
def uw (x : BitVec 32) : Int := ((x.toNat : Nat) : Int)

theorem uw_lo (x : BitVec 32) : 0 ≤ uw x := Int.natCast_nonneg _
theorem uw_hi (x : BitVec 32) : uw x < 4294967296 := by unfold uw; have := x.isLt; omega
theorem uw_hi' (x : BitVec 32) : uw x ≤ 4294967295 := by have := uw_hi x; omega
theorem uw_inj {x y : BitVec 32} (h : uw x = uw y) : x = y := by
  unfold uw at h; exact BitVec.eq_of_toNat_eq (by omega)
theorem uw_of (n : Nat) (h : n < 4294967296) : uw (BitVec.ofNat 32 n) = (n : Int) := by
  unfold uw; rw [BitVec.toNat_ofNat, Nat.mod_eq_of_lt (by simpa using h)]
theorem ofInt_uw (x : BitVec 32) : BitVec.ofInt 32 (uw x) = x := by
  unfold uw; rw [BitVec.ofInt_natCast]; simp
theorem uw_beq (x y : BitVec 32) : (uw x == uw y) = (x == y) := by
  rw [Bool.eq_iff_iff, beq_iff_eq, beq_iff_eq]
  exact ⟨uw_inj, fun h => by rw [h]⟩

theorem uw_xor (x y : BitVec 32) : bits .xor .u32 (uw x) (uw y) = uw (x ^^^ y) := by
  show IntKind.u32.wrap ((BitVec.ofInt 32 (uw x) ^^^ BitVec.ofInt 32 (uw y)).toNat : Int) = _
  rw [ofInt_uw, ofInt_uw, IntKind.wrap_u32]
  have := (x ^^^ y).isLt
  unfold uw; omega
theorem uw_and (x y : BitVec 32) : bits .and .u32 (uw x) (uw y) = uw (x &&& y) := by
  show IntKind.u32.wrap ((BitVec.ofInt 32 (uw x) &&& BitVec.ofInt 32 (uw y)).toNat : Int) = _
  rw [ofInt_uw, ofInt_uw, IntKind.wrap_u32]
  have := (x &&& y).isLt
  unfold uw; omega
theorem uw_or (x y : BitVec 32) : bits .or .u32 (uw x) (uw y) = uw (x ||| y) := by
  show IntKind.u32.wrap ((BitVec.ofInt 32 (uw x) ||| BitVec.ofInt 32 (uw y)).toNat : Int) = _
  rw [ofInt_uw, ofInt_uw, IntKind.wrap_u32]
  have := (x ||| y).isLt
  unfold uw; omega

theorem uw_add (x y : BitVec 32) : (uw x + uw y) % 4294967296 = uw (x + y) := by
  unfold uw; rw [BitVec.toNat_add]; simp only [Nat.reducePow]; omega
theorem uw_neg (x : BitVec 32) : (-uw x) % 4294967296 = uw (-x) := by
  unfold uw; rw [BitVec.toNat_neg]; have := x.isLt; simp only [Nat.reducePow]; omega
theorem uw_shl (x : BitVec 32) (k : Nat) (m : Int) (hm : m = ((2 ^ k : Nat) : Int)) : uw x * m % 4294967296 = uw (x <<< k) := by
  subst hm; unfold uw; rw [BitVec.toNat_shiftLeft, Nat.shiftLeft_eq]; simp only [Nat.reducePow]; omega
theorem uw_shr (x : BitVec 32) (k : Nat) (m : Int) (hm : m = ((2 ^ k : Nat) : Int)) : uw x / m = uw (x >>> k) := by
  subst hm; unfold uw; rw [BitVec.toNat_ushiftRight, Nat.shiftRight_eq_div_pow]; omega
theorem uw_mod (x : BitVec 32) : uw x % 4294967296 = uw x := by
  have := uw_lo x; have := uw_hi x; omega

/-- A byte as a word. -/
def w8 (c : UInt8) : BitVec 32 := BitVec.ofNat 32 c.toNat
theorem uw_w8 (c : UInt8) : uw (w8 c) = (c.toNat : Int) := uw_of _ (by have := c.toNat_lt; omega)

end Go.Proofs.YtokanfceipkfpaaDoor
