/- Words of 32 bits as BitVec 32: how the walk's integers are spelled, and what they are. Plain lemmas, no program. -/
/- The check sum, plainly: what pack.Sum computes (crc), what the document's answer computes (crcRef); that they are one; that it is linear, blind to leading zeros, and tells each turned bit. No program. -/
/- Numbers as bytes, the highest first: plainly. beL: a number's bytes of a width; ofBE: the number that bytes are; there and back, order, leading zeros. No program. -/
/- Nodes as blocks' data, plainly: what is right, how big, the bytes, what is taken back; there and back; one bit turned. No program. -/
/- SHA-256, plainly, over words of 32 bits: schedule, rounds, blocks, padding, digest. No program. -/
/- Heaps, plainly: what is right, what is put, held, dropped, swept; what is kept through it. No program. -/
import Derived.Laws.BitsLemmas
import Derived.Laws.Bits64
import Derived.RowKit
import Derived.Lib.BitFns
import Derived.Lib.Strings
import GoSem.Op.String
import Derived.Lib.TrimByte
namespace Go.Proofs.YtimkklaidodkdaaGreatDoor
open Go.RowKit

/-- A word as the walk's integer. -/
def uw (x : BitVec 32) : Int := ((x.toNat : Nat) : Int)

theorem uw_lo (x : BitVec 32) : 0 ≤ uw x := Int.natCast_nonneg _
theorem uw_hi (x : BitVec 32) : uw x < 4294967296 := by unfold uw; have := x.isLt; omega
theorem uw_hi' (x : BitVec 32) : uw x ≤ 4294967295 := by have := uw_hi x; omega
theorem uw_inj {x y : BitVec 32} (h : uw x = uw y) : x = y := by
 unfold uw at h; exact BitVec.eq_of_toNat_eq (by omega)
theorem uw_of (n : Nat) (h : n < 4294967296) : uw (BitVec.ofNat 32 n) = (n : Int) := by
 unfold uw; rw [BitVec.toNat_ofNat, Nat.mod_eq_of_lt (by simpa using h)]
theorem ofInt_uw (x : BitVec 32) : BitVec.ofInt 32 (uw x) = x := by
 unfold uw; rw [BitVec.ofInt_natCast]; simp
theorem uw_beq (x y : BitVec 32) : (uw x == uw y) = (x == y) := by
 rw [Bool.eq_iff_iff, beq_iff_eq, beq_iff_eq]
 exact ⟨uw_inj, fun h => by rw [h]⟩

theorem uw_xor (x y : BitVec 32) : bits .xor .u32 (uw x) (uw y) = uw (x ^^^ y) := by
 show IntKind.u32.wrap ((BitVec.ofInt 32 (uw x) ^^^ BitVec.ofInt 32 (uw y)).toNat : Int) = _
 rw [ofInt_uw, ofInt_uw, IntKind.wrap_u32]
 have := (x ^^^ y).isLt
 unfold uw; omega
theorem uw_and (x y : BitVec 32) : bits .and .u32 (uw x) (uw y) = uw (x &&& y) := by
 show IntKind.u32.wrap ((BitVec.ofInt 32 (uw x) &&& BitVec.ofInt 32 (uw y)).toNat : Int) = _
 rw [ofInt_uw, ofInt_uw, IntKind.wrap_u32]
 have := (x &&& y).isLt
 unfold uw; omega
theorem uw_or (x y : BitVec 32) : bits .or .u32 (uw x) (uw y) = uw (x ||| y) := by
 show IntKind.u32.wrap ((BitVec.ofInt 32 (uw x) ||| BitVec.ofInt 32 (uw y)).toNat : Int) = _
 rw [ofInt_uw, ofInt_uw, IntKind.wrap_u32]
 have := (x ||| y).isLt
 unfold uw; omega

theorem uw_add (x y : BitVec 32) : (uw x + uw y) % 4294967296 = uw (x + y) := by
 unfold uw; rw [BitVec.toNat_add]; simp only [Nat.reducePow]; omega
theorem uw_neg (x : BitVec 32) : (-uw x) % 4294967296 = uw (-x) := by
 unfold uw; rw [BitVec.toNat_neg]; have := x.isLt; simp only [Nat.reducePow]; omega
theorem uw_shl (x : BitVec 32) (k : Nat) (m : Int) (hm : m = ((2 ^ k : Nat) : Int)) : uw x * m % 4294967296 = uw (x <<< k) := by
 subst hm; unfold uw; rw [BitVec.toNat_shiftLeft, Nat.shiftLeft_eq]; simp only [Nat.reducePow]; omega
theorem uw_shr (x : BitVec 32) (k : Nat) (m : Int) (hm : m = ((2 ^ k : Nat) : Int)) : uw x / m = uw (x >>> k) := by
 subst hm; unfold uw; rw [BitVec.toNat_ushiftRight, Nat.shiftRight_eq_div_pow]; omega
theorem uw_mod (x : BitVec 32) : uw x % 4294967296 = uw x := by
 have := uw_lo x; have := uw_hi x; omega

/-- A byte as a word. -/
def w8 (c : UInt8) : BitVec 32 := BitVec.ofNat 32 c.toNat
theorem uw_w8 (c : UInt8) : uw (w8 c) = (c.toNat : Int) := uw_of _ (by have := c.toNat_lt; omega)

end Go.Proofs.YtimkklaidodkdaaGreatDoor

namespace Go.Proofs.YtimkklaidodkdaaGreatDoor

def crcBit (s : BitVec 32) : BitVec 32 := (s <<< 1) ^^^ (2168537515#32 &&& -(s >>> 31))
def crcN : Nat → BitVec 32 → BitVec 32
 | 0, s => s
 | k + 1, s => crcBit (crcN k s)
def crcByte (s : BitVec 32) (c : UInt8) : BitVec 32 := crcN 8 (s ^^^ (w8 c <<< 24))
def crcFrom (s : BitVec 32) (l : List UInt8) : BitVec 32 := l.foldl crcByte s
def crc (l : List UInt8) : BitVec 32 := crcFrom 0#32 l

theorem crcFrom_snoc (s : BitVec 32) (l : List UInt8) (c : UInt8) : crcFrom s (l ++ [c]) = crcByte (crcFrom s l) c := by
 simp [crcFrom]
theorem crcFrom_append (s : BitVec 32) (l m : List UInt8) : crcFrom s (l ++ m) = crcFrom (crcFrom s l) m := by
 simp [crcFrom]

/-- The document's step: doubled, and the polynomial taken in if the high bit was set. -/
def refBit (s : BitVec 32) : BitVec 32 := if 2147483648 ≤ s.toNat then (s <<< 1) ^^^ 2168537515#32 else s <<< 1

theorem shr31 (s : BitVec 32) : s >>> 31 = if 2147483648 ≤ s.toNat then 1#32 else 0#32 := by
 apply BitVec.eq_of_toNat_eq
 rw [BitVec.toNat_ushiftRight, Nat.shiftRight_eq_div_pow]
 have := s.isLt
 split <;> simp <;> omega

theorem crcBit_ref (s : BitVec 32) : crcBit s = refBit s := by
 unfold crcBit refBit
 rw [shr31]
 split
 ·congr 1
 ·simp

theorem crcBit_xor (a b : BitVec 32) : crcBit (a ^^^ b) = crcBit a ^^^ crcBit b := by
 rw [crcBit_ref, crcBit_ref, crcBit_ref]
 have hx : ∀ s : BitVec 32, (2147483648 ≤ s.toNat) ↔ s.msb = true := fun s => by
  rw [BitVec.msb_eq_decide]; simp
 unfold refBit
 simp only [hx, BitVec.msb_xor]
 cases a.msb <;> cases b.msb <;> simp [BitVec.shiftLeft_xor_distrib]
 ·rw [BitVec.xor_assoc]
 ·rw [BitVec.xor_assoc, BitVec.xor_assoc, BitVec.xor_comm 2168537515#32]
 ·rw [← BitVec.xor_assoc, BitVec.xor_assoc (a <<< 1), BitVec.xor_comm 2168537515#32 (b <<< 1), ← BitVec.xor_assoc, BitVec.xor_assoc, BitVec.xor_self, BitVec.xor_zero]

theorem crcN_xor (k : Nat) (a b : BitVec 32) : crcN k (a ^^^ b) = crcN k a ^^^ crcN k b := by
 induction k with
 | zero => rfl
 | succ k ih => simp only [crcN, ih, crcBit_xor]

theorem crcBit_zero : crcBit 0#32 = 0#32 := by decide
theorem crcN_zero (k : Nat) : crcN k 0#32 = 0#32 := by
 induction k with
 | zero => rfl
 | succ k ih => simp only [crcN, ih, crcBit_zero]

/-- A bit's step loses nothing: the polynomial is odd. -/
theorem crcBit_ne (s : BitVec 32) (h : s ≠ 0#32) : crcBit s ≠ 0#32 := by
 intro e
 rw [crcBit_ref] at e
 unfold refBit at e
 split at e
 ·have e1 : (s <<< 1) = 2168537515#32 := by
   have := congrArg (fun z => z ^^^ 2168537515#32) e
   simpa [BitVec.xor_assoc] using this
  have := congrArg (fun z : BitVec 32 => z.getLsbD 0) e1
  simp at this
 ·rename_i hm
  apply h
  apply BitVec.eq_of_toNat_eq
  have := congrArg BitVec.toNat e
  rw [BitVec.toNat_shiftLeft, Nat.shiftLeft_eq] at this
  have := s.isLt
  simp at *
  omega
theorem crcN_ne (k : Nat) (s : BitVec 32) (h : s ≠ 0#32) : crcN k s ≠ 0#32 := by
 induction k with
 | zero => exact h
 | succ k ih => exact crcBit_ne _ ih

theorem w8_xor (a b : UInt8) : w8 (a ^^^ b) = w8 a ^^^ w8 b := by
 unfold w8
 apply BitVec.eq_of_toNat_eq
 have h1 := a.toNat_lt
 have h2 := b.toNat_lt
 have h3 := (a ^^^ b).toNat_lt
 rw [BitVec.toNat_xor, BitVec.toNat_ofNat, BitVec.toNat_ofNat, BitVec.toNat_ofNat, Nat.mod_eq_of_lt (by omega), Nat.mod_eq_of_lt (by omega), Nat.mod_eq_of_lt (by omega)]
 simp

theorem xor4 (a b c d : BitVec 32) : (a ^^^ b) ^^^ (c ^^^ d) = (a ^^^ c) ^^^ (b ^^^ d) := by
 rw [BitVec.xor_assoc, ← BitVec.xor_assoc b, BitVec.xor_comm b c, BitVec.xor_assoc c, ← BitVec.xor_assoc]

theorem crcByte_xor (s t : BitVec 32) (a b : UInt8) : crcByte (s ^^^ t) (a ^^^ b) = crcByte s a ^^^ crcByte t b := by
 unfold crcByte
 rw [← crcN_xor, w8_xor, BitVec.shiftLeft_xor_distrib, xor4]

theorem crcByte_zero : crcByte 0#32 0 = 0#32 := by
 have : (0#32 ^^^ (w8 0 <<< 24)) = 0#32 := by decide
 unfold crcByte; rw [this, crcN_zero]

theorem crcFrom_xor (l : List UInt8) : ∀ (m : List UInt8) (s t : BitVec 32), l.length = m.length →
  crcFrom (s ^^^ t) (List.zipWith (· ^^^ ·) l m) = crcFrom s l ^^^ crcFrom t m := by
 induction l with
 | nil => intro m s t h; cases m with
  | nil => rfl
  | cons _ _ => simp at h
 | cons c l ih => intro m s t h; cases m with
  | nil => simp at h
  | cons d m =>
   simp only [List.zipWith_cons_cons, crcFrom, List.foldl_cons]
   rw [crcByte_xor]
   exact ih m _ _ (by simpa using h)

theorem crc_xor (l m : List UInt8) (h : l.length = m.length) : crc (List.zipWith (· ^^^ ·) l m) = crc l ^^^ crc m := by
 have := crcFrom_xor l m 0#32 0#32 h
 simpa [crc] using this

theorem crc_zeros (n : Nat) : crc (List.replicate n 0) = 0#32 := by
 induction n with
 | zero => rfl
 | succ n ih => rw [List.replicate_succ', crc, crcFrom_snoc]; rw [crc] at ih; rw [ih, crcByte_zero]

theorem crc_leading (n : Nat) (l : List UInt8) : crc (List.replicate n 0 ++ l) = crc l := by
 have := crc_zeros n
 rw [crc] at this
 rw [crc, crcFrom_append, this, crc]

theorem w8_ne (c : UInt8) (h : c ≠ 0) : (w8 c <<< 24) ≠ 0#32 := by
 intro e
 apply h
 have := congrArg BitVec.toNat e
 unfold w8 at this
 have hc := c.toNat_lt
 rw [BitVec.toNat_shiftLeft, Nat.shiftLeft_eq, BitVec.toNat_ofNat] at this
 simp at this
 apply UInt8.toNat_inj.1
 simp
 omega

theorem crcFrom_ne (l : List UInt8) : ∀ s : BitVec 32, s ≠ 0#32 → crcFrom s (l.map fun _ => 0) ≠ 0#32 := by
 induction l with
 | nil => intro s h; exact h
 | cons c l ih =>
  intro s h
  simp only [List.map_cons, crcFrom, List.foldl_cons]
  apply ih
  unfold crcByte
  have : (w8 0 <<< 24) = 0#32 := by decide
  rw [this, BitVec.xor_zero]
  exact crcN_ne 8 s h

/-- One byte turned: another sum. -/
theorem crc_turned (l m : List UInt8) (a b : UInt8) (h : a ≠ b) : crc (l ++ a :: m) ≠ crc (l ++ b :: m) := by
 intro e
 have hx : crc (l ++ a :: m) ^^^ crc (l ++ b :: m) = 0#32 := by rw [e, BitVec.xor_self]
 rw [← crc_xor _ _ (by simp)] at hx
 rw [List.zipWith_append (by rfl)] at hx
 have hz : ∀ q : List UInt8, List.zipWith (· ^^^ ·) q q = q.map fun _ => 0 := fun q => by
  induction q with
  | nil => rfl
  | cons c q ih => simp
 simp only [List.zipWith_cons_cons, hz] at hx
 have hr : (l.map fun _ => (0 : UInt8)) = List.replicate l.length 0 := List.map_const' ..
 rw [hr, crc_leading] at hx
 have hs : crc ((a ^^^ b) :: m.map fun _ => 0) = crcFrom (crcByte 0#32 (a ^^^ b)) (m.map fun _ => 0) := by simp [crc, crcFrom]
 rw [hs] at hx
 refine crcFrom_ne m _ ?_ hx
 unfold crcByte
 rw [BitVec.zero_xor]
 refine crcN_ne 8 _ (w8_ne _ ?_)
 intro e0
 apply h
 have := congrArg (fun z => z ^^^ b) e0
 simpa [UInt8.xor_assoc] using this

end Go.Proofs.YtimkklaidodkdaaGreatDoor

namespace Go.Proofs.YtimkklaidodkdaaGreatDoor

def beL (n : Nat) : Nat → List UInt8
 | 0 => []
 | k + 1 => UInt8.ofNat (n / 256 ^ k) :: beL n k
def ofBE (l : List UInt8) : Nat := l.foldl (fun a c => a * 256 + c.toNat) 0

theorem beL_length (n k : Nat) : (beL n k).length = k := by
 induction k with
 | zero => rfl
 | succ k ih => simp [beL, ih]

theorem pow256_pos (k : Nat) : 0 < 256 ^ k := Nat.pow_pos (by decide)
theorem pow256_succ (k : Nat) : 256 ^ (k + 1) = 256 ^ k * 256 := Nat.pow_succ ..

theorem byte_toNat (n : Nat) : (UInt8.ofNat n).toNat = n % 256 := UInt8.toNat_ofNat'

theorem foldBE (n k : Nat) : ∀ a, (beL n k).foldl (fun a c => a * 256 + c.toNat) a = a * 256 ^ k + n % 256 ^ k := by
 induction k with
 | zero => intro a; simp [beL, Nat.mod_one]
 | succ k ih =>
  intro a
  simp only [beL, List.foldl_cons, ih, byte_toNat]
  rw [Nat.mod_pow_succ, pow256_succ, Nat.add_mul, Nat.mul_assoc, Nat.mul_comm 256 (256 ^ k), Nat.mul_comm (n / 256 ^ k % 256)]
  omega
theorem ofBE_beL (n k : Nat) : ofBE (beL n k) = n % 256 ^ k := by unfold ofBE; rw [foldBE]; omega

theorem ofBE_from (l : List UInt8) : ∀ a, l.foldl (fun a c => a * 256 + c.toNat) a = a * 256 ^ l.length + ofBE l := by
 induction l with
 | nil => intro a; simp [ofBE]
 | cons c l ih =>
  intro a
  have h0 := ih c.toNat
  have h1 := ih (a * 256 + c.toNat)
  simp only [ofBE, List.foldl_cons, List.length_cons, Nat.zero_mul, Nat.zero_add, pow256_succ] at *
  rw [h1, h0, Nat.add_mul, Nat.mul_assoc, Nat.mul_comm 256 (256 ^ l.length)]
  omega
theorem ofBE_cons (c : UInt8) (l : List UInt8) : ofBE (c :: l) = c.toNat * 256 ^ l.length + ofBE l := by
 have := ofBE_from l c.toNat
 simp only [ofBE, List.foldl_cons, Nat.zero_mul, Nat.zero_add] at *
 exact this
theorem ofBE_snoc (l : List UInt8) (c : UInt8) : ofBE (l ++ [c]) = ofBE l * 256 + c.toNat := by simp [ofBE]
theorem ofBE_lt (l : List UInt8) : ofBE l < 256 ^ l.length := by
 induction l with
 | nil => simp [ofBE]
 | cons c l ih =>
  rw [ofBE_cons, List.length_cons, pow256_succ]
  have hc := c.toNat_lt
  have : c.toNat * 256 ^ l.length ≤ 255 * 256 ^ l.length := Nat.mul_le_mul_right _ (by omega)
  omega

theorem beL_mod (n k : Nat) : ∀ m, n % 256 ^ k = m % 256 ^ k → beL n k = beL m k := by
 induction k with
 | zero => intro m _; rfl
 | succ k ih =>
  intro m h
  rw [Nat.mod_pow_succ, Nat.mod_pow_succ] at h
  have h1 : n % 256 ^ k = m % 256 ^ k := by
   have := congrArg (· % 256 ^ k) h
   simpa [Nat.add_mul_mod_self_left] using this
  have h2 : n / 256 ^ k % 256 = m / 256 ^ k % 256 := by
   rw [h1] at h
   exact Nat.eq_of_mul_eq_mul_left (pow256_pos k) (by omega)
  have h3 : UInt8.ofNat (n / 256 ^ k) = UInt8.ofNat (m / 256 ^ k) := by
   apply UInt8.toNat_inj.1; rw [byte_toNat, byte_toNat, h2]
  simp only [beL, h3, ih m h1]

theorem beL_ofBE (l : List UInt8) : beL (ofBE l) l.length = l := by
 induction l with
 | nil => rfl
 | cons c l ih =>
  have hlt := ofBE_lt l
  have hp := pow256_pos l.length
  have e1 : ofBE (c :: l) / 256 ^ l.length = c.toNat := by
   rw [ofBE_cons, Nat.mul_comm, Nat.mul_add_div hp, Nat.div_eq_of_lt hlt]; omega
  have e2 : beL (ofBE (c :: l)) l.length = beL (ofBE l) l.length := beL_mod _ _ _ (by
   rw [ofBE_cons, Nat.mul_comm, Nat.mul_add_mod])
  simp only [List.length_cons, beL, e1, e2, ih]
  congr 1
  apply UInt8.toNat_inj.1
  rw [byte_toNat]
  have := c.toNat_lt
  omega

theorem beL_inj (a b k : Nat) (ha : a < 256 ^ k) (hb : b < 256 ^ k) (h : beL a k = beL b k) : a = b := by
 have := congrArg ofBE h
 rw [ofBE_beL, ofBE_beL, Nat.mod_eq_of_lt ha, Nat.mod_eq_of_lt hb] at this
 exact this

theorem beL_wide (n a j : Nat) (h : n < 256 ^ a) : beL n (a + j) = List.replicate j 0 ++ beL n a := by
 induction j with
 | zero => simp
 | succ j ih =>
  have : n / 256 ^ (a + j) = 0 := Nat.div_eq_of_lt (Nat.lt_of_lt_of_le h (Nat.pow_le_pow_right (by decide) (by omega)))
  rw [← Nat.add_assoc, beL, this, ih, List.replicate_succ]
  rfl

theorem bytesLess_beL (k : Nat) : ∀ a b, a < 256 ^ k → b < 256 ^ k → Op.bytesLess (beL a k) (beL b k) = decide (a < b) := by
 induction k with
 | zero => intro a b ha hb; simp at ha hb; simp [beL, Op.bytesLess, ha, hb]
 | succ k ih =>
  intro a b ha hb
  have hp := pow256_pos k
  rw [pow256_succ] at ha hb
  have ha' : a / 256 ^ k < 256 := Nat.div_lt_of_lt_mul (by omega)
  have hb' : b / 256 ^ k < 256 := Nat.div_lt_of_lt_mul (by omega)
  have hma := Nat.mod_lt a hp
  have hmb := Nat.mod_lt b hp
  have ea := beL_mod a k (a % 256 ^ k) (by rw [Nat.mod_mod])
  have eb := beL_mod b k (b % 256 ^ k) (by rw [Nat.mod_mod])
  have hih := ih (a % 256 ^ k) (b % 256 ^ k) hma hmb
  simp only [beL, Op.bytesLess]
  rw [ea, eb, hih]
  have da := Nat.div_add_mod a (256 ^ k)
  have db := Nat.div_add_mod b (256 ^ k)
  have l1 : (UInt8.ofNat (a / 256 ^ k) < UInt8.ofNat (b / 256 ^ k)) ↔ a / 256 ^ k < b / 256 ^ k := by
   rw [UInt8.lt_iff_toNat_lt, byte_toNat, byte_toNat, Nat.mod_eq_of_lt ha', Nat.mod_eq_of_lt hb']
  have l2 : (UInt8.ofNat (a / 256 ^ k) == UInt8.ofNat (b / 256 ^ k)) = decide (a / 256 ^ k = b / 256 ^ k) := by
   rw [Bool.eq_iff_iff, beq_iff_eq, decide_eq_true_iff]
   constructor
   ·intro e
    have := congrArg UInt8.toNat e
    rwa [byte_toNat, byte_toNat, Nat.mod_eq_of_lt ha', Nat.mod_eq_of_lt hb'] at this
   ·intro e; rw [e]
  simp only [l1, l2]
  generalize a / 256 ^ k = qa at *
  generalize b / 256 ^ k = qb at *
  generalize a % 256 ^ k = ra at *
  generalize b % 256 ^ k = rb at *
  generalize 256 ^ k = P at *
  rw [Bool.eq_iff_iff]
  simp only [Bool.or_eq_true, Bool.and_eq_true, decide_eq_true_eq]
  rcases Nat.lt_trichotomy qa qb with h | h | h
  ·have : P * (qa + 1) ≤ P * qb := Nat.mul_le_mul_left _ h
   rw [Nat.mul_add] at this
   constructor
   ·intro _; omega
   ·intro _; exact .inl h
  ·subst h
   constructor
   ·rintro (h | ⟨_, h⟩) <;> omega
   ·intro h; exact .inr ⟨rfl, by omega⟩
  ·have : P * (qb + 1) ≤ P * qa := Nat.mul_le_mul_left _ h
   rw [Nat.mul_add] at this
   constructor
   ·rintro (h' | ⟨h', _⟩) <;> omega
   ·intro _; omega

theorem bitLen_fits (n k : Nat) (hk : k ≤ 8) (hn : n < 18446744073709551616) : Lib.bitLen n ≤ 8 * k ↔ n < 256 ^ k := by
 have e : 256 ^ k = 2 ^ (8 * k) := by rw [Nat.pow_mul]
 rw [e]
 constructor
 ·intro h
  by_cases hz : n < 2 ^ (8 * k)
  ·exact hz
  ·exfalso
   have := Lib.bitLen_shift (8 * k) n (by omega) (by simpa using hn)
   have hq : Lib.bitLen (n / 2 ^ (8 * k)) = 0 := by omega
   have hpos : 0 < n / 2 ^ (8 * k) := Nat.div_pos (by omega) (Nat.two_pow_pos _)
   have hlt : n / 2 ^ (8 * k) < 2 ^ 64 := Nat.lt_of_le_of_lt (Nat.div_le_self ..) (by simpa using hn)
   have := Lib.bitLen_half (n / 2 ^ (8 * k)) (by omega) hlt
   omega
 ·intro h
  exact Lib.bitLen_le n (8 * k) (by omega) h

/-- A number's bytes of a width, as a string. -/
def beN (n k : Nat) : ByteArray := ⟨(beL n k).toArray⟩
theorem beN_data (n k : Nat) : (beN n k).data.toList = beL n k := rfl
theorem beN_size (n k : Nat) : (beN n k).size = k := by show (beL n k).toArray.size = k; simp [beL_length]

/-- What TakeNumber tells: the number, what is left, why not. -/
def tkOk (s : ByteArray) (x : Int) : Prop := 1 ≤ x ∧ x ≤ 8 ∧ x ≤ s.size
instance (s : ByteArray) (x : Int) : Decidable (tkOk s x) := inferInstanceAs (Decidable (_ ∧ _ ∧ _))
def tkN (s : ByteArray) (x : Int) : Nat := if tkOk s x then ofBE (s.data.toList.take x.toNat) else 0
def tkS (s : ByteArray) (x : Int) : ByteArray := if tkOk s x then s.extract x.toNat s.size else ⟨#[]⟩
def tkE (s : ByteArray) (x : Int) : Int := if tkOk s x then 0 else if 1 ≤ x ∧ x ≤ 8 then 3 else 1

theorem tkN_lt (s : ByteArray) (x : Int) : tkN s x < 18446744073709551616 := by
 unfold tkN
 split
 ·rename_i h
  have h1 := ofBE_lt (s.data.toList.take x.toNat)
  have h2 : (s.data.toList.take x.toNat).length ≤ 8 := by rw [List.length_take]; have := h.2.1; omega
  have h3 : 256 ^ (s.data.toList.take x.toNat).length ≤ 256 ^ 8 := Nat.pow_le_pow_right (by decide) h2
  have h4 : (256 : Nat) ^ 8 = 18446744073709551616 := by decide
  omega
 ·decide

theorem tkN_lt2 (s : ByteArray) : tkN s 2 < 65536 := by
 unfold tkN
 split
 ·have h1 := ofBE_lt (s.data.toList.take (2 : Int).toNat)
  have h2 : (s.data.toList.take (2 : Int).toNat).length ≤ 2 := by rw [List.length_take]; have : (2 : Int).toNat = 2 := rfl; omega
  have h3 : 256 ^ (s.data.toList.take (2 : Int).toNat).length ≤ 256 ^ 2 := Nat.pow_le_pow_right (by decide) h2
  have h4 : (256 : Nat) ^ 2 = 65536 := by decide
  omega
 ·decide

/-- A text's bytes; what TakeText tells. -/
def txtS (t : ByteArray) : ByteArray := if t.size ≤ 65535 then beN t.size 2 ++ t else ⟨#[]⟩
def txtE (t : ByteArray) : Int := if t.size ≤ 65535 then 0 else 2
def ttOk (s : ByteArray) : Prop := tkOk s 2 ∧ tkN s 2 ≤ (tkS s 2).size
instance (s : ByteArray) : Decidable (ttOk s) := inferInstanceAs (Decidable (_ ∧ _))
def ttT (s : ByteArray) : ByteArray := if ttOk s then (tkS s 2).extract 0 (tkN s 2) else ⟨#[]⟩
def ttR (s : ByteArray) : ByteArray := if ttOk s then (tkS s 2).extract (tkN s 2) (tkS s 2).size else ⟨#[]⟩
def ttE (s : ByteArray) : Int := if ttOk s then 0 else 3

end Go.Proofs.YtimkklaidodkdaaGreatDoor

namespace Go.Proofs.YtimkklaidodkdaaGreatDoor

structure ItemD where
 key : ByteArray
 val : ByteArray
structure KidD where
 key : ByteArray
 num : Nat
 hash : List UInt8
structure VolD where
 name : ByteArray
 kind : Nat
 frm : ByteArray
 born : Nat
 root : Nat
 hash : List UInt8
structure NodeD where
 kind : Nat
 items : List ItemD
 kids : List KidD
 vols : List VolD

def KidD.wf (k : KidD) : Prop := k.num < 4294967296 ∧ k.hash.length = 32
def VolD.wf (v : VolD) : Prop := v.kind < 256 ∧ v.born < 18446744073709551616 ∧ v.root < 4294967296 ∧ v.hash.length = 32
def NodeD.wf (n : NodeD) : Prop := n.kind < 256 ∧ (∀ k ∈ n.kids, k.wf) ∧ (∀ v ∈ n.vols, v.wf)

def lessB (a b : ByteArray) : Bool := Op.bytesLess a.data.toList b.data.toList
def blockN (n : Nat) : Bool := decide (2 ≤ n) && decide (n < 65536)
def noHash : List UInt8 := List.replicate 32 0

def itemOk (b : ByteArray) (x : ItemD) : Bool := lessB b x.key && decide (x.key.size ≤ 48) && decide (x.val.size ≤ 160)
def kidOk (b : ByteArray) (k : KidD) : Bool := lessB b k.key && decide (k.key.size ≤ 48) && blockN k.num
def volOk (b : ByteArray) (v : VolD) : Bool :=
 (blockN v.root || (v.root == 0 && v.hash == noHash)) && lessB b v.name && decide (v.name.size ≤ 16) && decide (v.frm.size ≤ 16) && decide (0 < v.kind) && decide (v.kind < 3)
def noName : ByteArray := ⟨#[]⟩
def itemsOk : ByteArray → List ItemD → Bool
 | _, [] => true
 | b, x :: l => itemOk b x && itemsOk x.key l
def kidsOk : ByteArray → List KidD → Bool
 | _, [] => true
 | b, k :: l => kidOk b k && kidsOk k.key l
def volsOk : ByteArray → List VolD → Bool
 | _, [] => true
 | b, v :: l => volOk b v && volsOk v.name l

def itemS (x : ItemD) : Nat := 2 + x.key.size + x.val.size
def kidS (k : KidD) : Nat := 37 + k.key.size
def volS (v : VolD) : Nat := 47 + v.name.size + v.frm.size
def sizeN (n : NodeD) : Nat :=
 2 + (if n.kind = 1 then (n.items.map itemS).sum else if n.kind = 2 then (n.kids.map kidS).sum else if n.kind = 3 then (n.vols.map volS).sum else 0)
def shapedN (n : NodeD) : Bool :=
 if n.kind = 1 then n.kids.isEmpty && n.vols.isEmpty && decide (0 < n.items.length) && decide (n.items.length ≤ 255) && itemsOk noName n.items
 else if n.kind = 2 then n.items.isEmpty && n.vols.isEmpty && decide (0 < n.kids.length) && decide (n.kids.length ≤ 255) && kidsOk noName n.kids
 else if n.kind = 3 then n.items.isEmpty && n.kids.isEmpty && decide (n.vols.length ≤ 6) && volsOk noName n.vols
 else false
def checkN (n : NodeD) : Int := if shapedN n then (if sizeN n ≤ 508 then 0 else 2) else 4

/-- Where a node leads. -/
def kidNums (n : NodeD) : List Nat := if n.kind = 2 then n.kids.map (·.num) else if n.kind = 3 then (n.vols.filter (fun v => decide (v.root ≠ 0))).map (·.root) else []

def tx1 (s : ByteArray) : List UInt8 := beL s.size 1 ++ s.data.toList
def itemB (x : ItemD) : List UInt8 := tx1 x.key ++ tx1 x.val
def kidB (k : KidD) : List UInt8 := tx1 k.key ++ (beL k.num 4 ++ k.hash)
def volB (v : VolD) : List UInt8 := tx1 v.name ++ (tx1 v.frm ++ (beL v.kind 1 ++ (beL v.born 8 ++ (beL v.root 4 ++ v.hash))))
def itemsB (l : List ItemD) : List UInt8 := l.flatMap itemB
def kidsB (l : List KidD) : List UInt8 := l.flatMap kidB
def volsB (l : List VolD) : List UInt8 := l.flatMap volB
def bytesN (n : NodeD) : List UInt8 := beL n.kind 1 ++ (beL (n.items.length + n.kids.length + n.vols.length) 1 ++ (itemsB n.items ++ (kidsB n.kids ++ volsB n.vols)))

/-- Bytes with zero bytes behind, up to so many. -/
def padTo (n : Nat) (l : List UInt8) : List UInt8 := l ++ List.replicate (n - l.length) 0
def trimR (l : List UInt8) : List UInt8 := Lib.trimRightB l 0
def headed (l : List UInt8) : List UInt8 := beL (crc (padTo 508 l)).toNat 4 ++ padTo 508 l
def wholeL (l : List UInt8) : List UInt8 := trimR (headed l)
def encN (n : NodeD) : List UInt8 := if checkN n = 0 then wholeL (bytesN n) else []

theorem tx1_length (s : ByteArray) : (tx1 s).length = 1 + s.size := by rw [tx1, List.length_append, beL_length, Array.length_toList]; rfl
theorem itemB_length (x : ItemD) : (itemB x).length = itemS x := by rw [itemB, List.length_append, tx1_length, tx1_length, itemS]; omega
theorem kidB_length (k : KidD) (h : k.wf) : (kidB k).length = kidS k := by
 rw [kidB, List.length_append, List.length_append, tx1_length, beL_length, h.2, kidS]; omega
theorem volB_length (v : VolD) (h : v.wf) : (volB v).length = volS v := by
 rw [volB, List.length_append, List.length_append, List.length_append, List.length_append, List.length_append, tx1_length, tx1_length, beL_length, beL_length, beL_length, h.2.2.2, volS]; omega
theorem itemsB_length (l : List ItemD) : (itemsB l).length = (l.map itemS).sum := by
 induction l with
 | nil => rfl
 | cons x l ih => rw [itemsB, List.flatMap_cons, List.length_append, itemB_length, List.map_cons, List.sum_cons, ← ih]; rfl
theorem kidsB_length (l : List KidD) (h : ∀ k ∈ l, k.wf) : (kidsB l).length = (l.map kidS).sum := by
 induction l with
 | nil => rfl
 | cons x l ih => rw [kidsB, List.flatMap_cons, List.length_append, kidB_length _ (h x (by simp)), List.map_cons, List.sum_cons, ← ih (fun k hk => h k (by simp [hk]))]; rfl
theorem volsB_length (l : List VolD) (h : ∀ v ∈ l, v.wf) : (volsB l).length = (l.map volS).sum := by
 induction l with
 | nil => rfl
 | cons x l ih => rw [volsB, List.flatMap_cons, List.length_append, volB_length _ (h x (by simp)), List.map_cons, List.sum_cons, ← ih (fun k hk => h k (by simp [hk]))]; rfl

/-- Of a right node: its bytes are as many as its size says. -/
theorem bytesN_length (n : NodeD) (hw : n.wf) (h : shapedN n = true) : (bytesN n).length = sizeN n := by
 have hi := itemsB_length n.items
 have hk := kidsB_length n.kids hw.2.1
 have hv := volsB_length n.vols hw.2.2
 rw [bytesN, List.length_append, List.length_append, List.length_append, List.length_append, beL_length, beL_length, hi, hk, hv, sizeN]
 unfold shapedN at h
 split at h
 ·rename_i e
  simp only [Bool.and_eq_true, List.isEmpty_iff] at h
  rw [if_pos e, h.1.1.1.1, h.1.1.1.2]; simp; omega
 ·split at h
  ·rename_i e1 e
   simp only [Bool.and_eq_true, List.isEmpty_iff] at h
   rw [if_neg e1, if_pos e, h.1.1.1.1, h.1.1.1.2]; simp; omega
  ·split at h
   ·rename_i e1 e2 e
    simp only [Bool.and_eq_true, List.isEmpty_iff] at h
    rw [if_neg e1, if_neg e2, if_pos e, h.1.1.1, h.1.1.2]; simp; omega
   ·simp at h

/-! ### Padding and trimming -/
theorem trimR_zeros (l : List UInt8) : ∃ k, l = trimR l ++ List.replicate k 0 := by
 unfold trimR Lib.trimRightB
 have h := List.takeWhile_append_dropWhile (p := (· == (0 : UInt8))) (l := l.reverse)
 refine ⟨(l.reverse.takeWhile (· == 0)).length, ?_⟩
 have hz : l.reverse.takeWhile (· == (0 : UInt8)) = List.replicate (l.reverse.takeWhile (· == (0 : UInt8))).length 0 := by
  apply List.eq_replicate_iff.2
  refine ⟨rfl, fun x hx => ?_⟩
  have h2 : ∀ l : List UInt8, ∀ x ∈ l.takeWhile (· == (0 : UInt8)), x = 0 := by
   intro l
   induction l with
   | nil => intro x h; cases h
   | cons a l ih =>
    intro x h
    rw [List.takeWhile_cons] at h
    split at h
    ·rename_i ha
     rcases List.mem_cons.1 h with rfl | h
     ·simpa using ha
     ·exact ih x h
    ·cases h
  exact h2 _ x hx
 have e : l = ((l.reverse.takeWhile (· == (0 : UInt8))) ++ (l.reverse.dropWhile (· == (0 : UInt8)))).reverse := by rw [h, List.reverse_reverse]
 rw [List.reverse_append] at e
 conv => lhs; rw [e]
 rw [hz, List.reverse_replicate, List.length_replicate]
theorem trimR_length (l : List UInt8) : (trimR l).length ≤ l.length := by
 obtain ⟨k, hk⟩ := trimR_zeros l
 have := congrArg List.length hk
 rw [List.length_append, List.length_replicate] at this
 omega
theorem padTo_length (n : Nat) (l : List UInt8) (h : l.length ≤ n) : (padTo n l).length = n := by
 rw [padTo, List.length_append, List.length_replicate]; omega
theorem padTo_trimR (n : Nat) (l : List UInt8) (h : l.length = n) : padTo n (trimR l) = l := by
 obtain ⟨k, hk⟩ := trimR_zeros l
 have hl := congrArg List.length hk
 rw [List.length_append, List.length_replicate] at hl
 have e : n - (trimR l).length = k := by omega
 rw [padTo, e, ← hk]
theorem headed_length (l : List UInt8) (h : l.length ≤ 508) : (headed l).length = 512 := by
 rw [headed, List.length_append, beL_length, padTo_length _ _ h]
theorem wholeL_pad (l : List UInt8) (h : l.length ≤ 508) : padTo 512 (wholeL l) = headed l := padTo_trimR 512 _ (headed_length l h)
theorem wholeL_length (l : List UInt8) (h : l.length ≤ 508) : (wholeL l).length ≤ 512 := by
 have := trimR_length (headed l)
 rw [headed_length l h] at this
 exact this
theorem headed_drop (l : List UInt8) : (headed l).drop 4 = padTo 508 l := by
 rw [headed, List.drop_left' (beL_length _ 4)]
theorem headed_take (l : List UInt8) : (headed l).take 4 = beL (crc (padTo 508 l)).toNat 4 := by
 rw [headed, List.take_left' (beL_length _ 4)]

end Go.Proofs.YtimkklaidodkdaaGreatDoor

namespace Go.Proofs.YtimkklaidodkdaaGreatDoor

structure TkD where
 left : List UInt8
 bad : Bool
def tkOut (t : TkD) (n : Nat) : Bool := t.bad || decide (t.left.length < n)
def tkSome (t : TkD) (n : Nat) : List UInt8 := if tkOut t n then [] else t.left.take n
def tkNext (t : TkD) (n : Nat) : TkD := if tkOut t n then ⟨t.left, true⟩ else ⟨t.left.drop n, false⟩
def numT (t : TkD) (w : Nat) : Nat := ofBE (tkSome t w)
def txT (t : TkD) : List UInt8 := tkSome (tkNext t 1) (numT t 1)
def txN (t : TkD) : TkD := tkNext (tkNext t 1) (numT t 1)
def hashT (t : TkD) : List UInt8 := padTo 32 (tkSome t 32)
def strOf (l : List UInt8) : ByteArray := ⟨l.toArray⟩

def itemT (t : TkD) : ItemD := ⟨strOf (txT t), strOf (txT (txN t))⟩
def itemN (t : TkD) : TkD := txN (txN t)
def kidT (t : TkD) : KidD := ⟨strOf (txT t), numT (txN t) 4, hashT (tkNext (txN t) 4)⟩
def kidN (t : TkD) : TkD := tkNext (tkNext (txN t) 4) 32
def volT (t : TkD) : VolD :=
 ⟨strOf (txT t), numT (txN (txN t)) 1, strOf (txT (txN t)), numT (tkNext (txN (txN t)) 1) 8, numT (tkNext (tkNext (txN (txN t)) 1) 8) 4, hashT (tkNext (tkNext (tkNext (txN (txN t)) 1) 8) 4)⟩
def volN (t : TkD) : TkD := tkNext (tkNext (tkNext (tkNext (txN (txN t)) 1) 8) 4) 32

/-- So many things, one behind the other, till one is bad. -/
def manyT {α : Type} (f : TkD → α) (g : TkD → TkD) : Nat → TkD → List α
 | 0, _ => []
 | c + 1, t => f t :: (if (g t).bad then [] else manyT f g c (g t))
def manyN (g : TkD → TkD) : Nat → TkD → TkD
 | 0, t => t
 | c + 1, t => if (g t).bad then g t else manyN g c (g t)

def kindT (t : TkD) : Nat := numT t 1
def countT (t : TkD) : Nat := numT (tkNext t 1) 1
def bodyT (t : TkD) : TkD := tkNext (tkNext t 1) 1
def takeN (t : TkD) : NodeD :=
 if kindT t = 1 then ⟨1, manyT itemT itemN (countT t) (bodyT t), [], []⟩
 else if kindT t = 2 then ⟨2, [], manyT kidT kidN (countT t) (bodyT t), []⟩
 else if kindT t = 3 then ⟨3, [], [], manyT volT volN (countT t) (bodyT t)⟩
 else ⟨kindT t, [], [], []⟩
def takeX (t : TkD) : TkD :=
 if kindT t = 1 then manyN itemN (countT t) (bodyT t)
 else if kindT t = 2 then manyN kidN (countT t) (bodyT t)
 else if kindT t = 3 then manyN volN (countT t) (bodyT t)
 else if countT t = 0 then bodyT t else ⟨(bodyT t).left, true⟩

def startT (d : List UInt8) : TkD := ⟨(padTo 512 d).drop 4, false⟩
/-- Whether data are a node's, and which. -/
def decOk (d : List UInt8) : Prop := d.length ≤ 512 ∧ (takeX (startT d)).bad = false ∧ checkN (takeN (startT d)) = 0 ∧ encN (takeN (startT d)) = d
def decN (d : List UInt8) : NodeD := takeN (startT d)
instance decOk_dec (d : List UInt8) : Decidable (decOk d) := by unfold decOk; infer_instance
/-- The node that data are; none: one that has nothing. And what is told of them. -/
def nodeL (d : List UInt8) : NodeD := if decOk d then decN d else ⟨0, [], [], []⟩
def decE (d : List UInt8) : Int := if decOk d then 0 else 9

/-! ### There and back -/
theorem out_app (a b : List UInt8) (n : Nat) (h : a.length = n) : tkOut ⟨a ++ b, false⟩ n = false := by
 unfold tkOut
 rw [Bool.false_or, decide_eq_false_iff_not]
 show ¬ (a ++ b).length < n
 rw [List.length_append]; omega
theorem some_app (a b : List UInt8) (n : Nat) (h : a.length = n) : tkSome ⟨a ++ b, false⟩ n = a := by
 rw [tkSome, out_app a b n h]
 exact List.take_left' h
theorem next_app (a b : List UInt8) (n : Nat) (h : a.length = n) : tkNext ⟨a ++ b, false⟩ n = ⟨b, false⟩ := by
 rw [tkNext, out_app a b n h]
 show (⟨(a ++ b).drop n, false⟩ : TkD) = _
 rw [List.drop_left' h]
theorem num_app (n w : Nat) (b : List UInt8) (h : n < 256 ^ w) : numT ⟨beL n w ++ b, false⟩ w = n := by
 rw [numT, some_app _ _ _ (beL_length n w), ofBE_beL, Nat.mod_eq_of_lt h]
theorem numN_app (n w : Nat) (b : List UInt8) : tkNext ⟨beL n w ++ b, false⟩ w = ⟨b, false⟩ := next_app _ _ _ (beL_length n w)
theorem tx_app (s : ByteArray) (b : List UInt8) (h : s.size < 256) : txT ⟨tx1 s ++ b, false⟩ = s.data.toList := by
 rw [txT, tx1, List.append_assoc, numN_app, num_app _ _ _ (by omega), some_app _ _ _ (show s.data.toList.length = s.size from Array.length_toList)]
theorem txN_app (s : ByteArray) (b : List UInt8) (h : s.size < 256) : txN ⟨tx1 s ++ b, false⟩ = ⟨b, false⟩ := by
 rw [txN, tx1, List.append_assoc, numN_app, num_app _ _ _ (by omega), next_app _ _ _ (show s.data.toList.length = s.size from Array.length_toList)]
theorem strOf_data (s : ByteArray) : strOf s.data.toList = s := by cases s; rfl
theorem hash_app (h b : List UInt8) (hl : h.length = 32) : hashT ⟨h ++ b, false⟩ = h := by
 rw [hashT, some_app _ _ _ hl, padTo, hl]; simp

theorem item_app (x : ItemD) (b : List UInt8) (h1 : x.key.size < 256) (h2 : x.val.size < 256) : itemT ⟨itemB x ++ b, false⟩ = x ∧ itemN ⟨itemB x ++ b, false⟩ = ⟨b, false⟩ := by
 rw [itemT, itemN, itemB, List.append_assoc, tx_app _ _ h1, txN_app _ _ h1, tx_app _ _ h2, txN_app _ _ h2, strOf_data, strOf_data]
 exact ⟨rfl, rfl⟩
theorem kid_app (k : KidD) (b : List UInt8) (h1 : k.key.size < 256) (hw : k.wf) : kidT ⟨kidB k ++ b, false⟩ = k ∧ kidN ⟨kidB k ++ b, false⟩ = ⟨b, false⟩ := by
 have hn : k.num < 256 ^ 4 := hw.1
 rw [kidT, kidN, kidB, List.append_assoc, List.append_assoc, tx_app _ _ h1, txN_app _ _ h1, numN_app, num_app _ _ _ hn, hash_app _ _ hw.2, next_app _ _ _ hw.2, strOf_data]
 exact ⟨rfl, rfl⟩
theorem vol_app (v : VolD) (b : List UInt8) (h1 : v.name.size < 256) (h2 : v.frm.size < 256) (hw : v.wf) : volT ⟨volB v ++ b, false⟩ = v ∧ volN ⟨volB v ++ b, false⟩ = ⟨b, false⟩ := by
 have hk : v.kind < 256 ^ 1 := hw.1
 have hb : v.born < 256 ^ 8 := hw.2.1
 have hr : v.root < 256 ^ 4 := hw.2.2.1
 rw [volT, volN, volB]
 simp only [List.append_assoc]
 rw [tx_app _ _ h1, txN_app _ _ h1, tx_app _ _ h2, txN_app _ _ h2, num_app _ _ _ hk, numN_app, num_app _ _ _ hb, numN_app, num_app _ _ _ hr, numN_app, hash_app _ _ hw.2.2.2, next_app _ _ _ hw.2.2.2, strOf_data, strOf_data]
 exact ⟨rfl, rfl⟩

theorem many_app {α : Type} {f : TkD → α} {g : TkD → TkD} {e : α → List UInt8} : ∀ (l : List α) (b : List UInt8), (∀ x ∈ l, ∀ b, f ⟨e x ++ b, false⟩ = x ∧ g ⟨e x ++ b, false⟩ = ⟨b, false⟩) →
  manyT f g l.length ⟨l.flatMap e ++ b, false⟩ = l ∧ manyN g l.length ⟨l.flatMap e ++ b, false⟩ = ⟨b, false⟩
 | [], _, _ => ⟨rfl, rfl⟩
 | x :: l, b, h => by
  have hx := h x (by simp) (l.flatMap e ++ b)
  have ih := many_app l b (fun y hy => h y (by simp [hy]))
  rw [List.flatMap_cons, List.append_assoc, List.length_cons, manyT, manyN, hx.1, hx.2]
  simp only [Bool.false_eq_true, if_false, ih.1, ih.2]
  exact ⟨trivial, trivial⟩

theorem itemsOk_sizes : ∀ (b : ByteArray) (l : List ItemD), itemsOk b l = true → ∀ x ∈ l, x.key.size < 256 ∧ x.val.size < 256
 | _, [], _, _, h => by cases h
 | b, x :: l, h, y, hy => by
  simp only [itemsOk, itemOk, Bool.and_eq_true, decide_eq_true_eq] at h
  rcases List.mem_cons.1 hy with rfl | hy
  ·omega
  ·exact itemsOk_sizes _ l h.2 y hy
theorem kidsOk_sizes : ∀ (b : ByteArray) (l : List KidD), kidsOk b l = true → ∀ x ∈ l, x.key.size < 256
 | _, [], _, _, h => by cases h
 | b, x :: l, h, y, hy => by
  simp only [kidsOk, kidOk, Bool.and_eq_true, decide_eq_true_eq] at h
  rcases List.mem_cons.1 hy with rfl | hy
  ·omega
  ·exact kidsOk_sizes _ l h.2 y hy
theorem volsOk_sizes : ∀ (b : ByteArray) (l : List VolD), volsOk b l = true → ∀ x ∈ l, x.name.size < 256 ∧ x.frm.size < 256
 | _, [], _, _, h => by cases h
 | b, x :: l, h, y, hy => by
  simp only [volsOk, volOk, Bool.and_eq_true, decide_eq_true_eq] at h
  rcases List.mem_cons.1 hy with rfl | hy
  ·omega
  ·exact volsOk_sizes _ l h.2 y hy

theorem take_back (n : NodeD) (hw : n.wf) (h : shapedN n = true) (b : List UInt8) : takeN ⟨bytesN n ++ b, false⟩ = n ∧ takeX ⟨bytesN n ++ b, false⟩ = ⟨b, false⟩ := by
 obtain ⟨kind, items, kids, vols⟩ := n
 have hk : kind < 256 ^ 1 := hw.1
 have e1 : ∀ r, kindT ⟨beL kind 1 ++ r, false⟩ = kind := fun r => num_app _ _ _ hk
 unfold shapedN at h
 simp only [] at h
 split at h
 ·rename_i e
  subst e
  simp only [Bool.and_eq_true, List.isEmpty_iff, decide_eq_true_eq] at h
  obtain ⟨⟨⟨⟨rfl, rfl⟩, _⟩, hc⟩, ho⟩ := h
  have hs := itemsOk_sizes _ _ ho
  have hm := many_app (f := itemT) (g := itemN) (e := itemB) items b (fun x hx c => item_app x c (hs x hx).1 (hs x hx).2)
  have eb : bytesN ⟨1, items, [], []⟩ ++ b = beL 1 1 ++ (beL items.length 1 ++ (items.flatMap itemB ++ b)) := by simp [bytesN, itemsB, kidsB, volsB]
  have ec : countT ⟨beL 1 1 ++ (beL items.length 1 ++ (items.flatMap itemB ++ b)), false⟩ = items.length := by rw [countT, numN_app, num_app _ _ _ (by omega)]
  have ed : bodyT ⟨beL 1 1 ++ (beL items.length 1 ++ (items.flatMap itemB ++ b)), false⟩ = ⟨items.flatMap itemB ++ b, false⟩ := by rw [bodyT, numN_app, numN_app]
  rw [eb, takeN, takeX, e1, if_pos rfl, if_pos rfl, ec, ed, hm.1, hm.2]
  exact ⟨rfl, rfl⟩
 ·split at h
  ·rename_i e
   subst e
   simp only [Bool.and_eq_true, List.isEmpty_iff, decide_eq_true_eq] at h
   obtain ⟨⟨⟨⟨rfl, rfl⟩, _⟩, hc⟩, ho⟩ := h
   have hs := kidsOk_sizes _ _ ho
   have hm := many_app (f := kidT) (g := kidN) (e := kidB) kids b (fun x hx c => kid_app x c (hs x hx) (hw.2.1 x hx))
   have eb : bytesN ⟨2, [], kids, []⟩ ++ b = beL 2 1 ++ (beL kids.length 1 ++ (kids.flatMap kidB ++ b)) := by simp [bytesN, itemsB, kidsB, volsB]
   have ec : countT ⟨beL 2 1 ++ (beL kids.length 1 ++ (kids.flatMap kidB ++ b)), false⟩ = kids.length := by rw [countT, numN_app, num_app _ _ _ (by omega)]
   have ed : bodyT ⟨beL 2 1 ++ (beL kids.length 1 ++ (kids.flatMap kidB ++ b)), false⟩ = ⟨kids.flatMap kidB ++ b, false⟩ := by rw [bodyT, numN_app, numN_app]
   rw [eb, takeN, takeX, e1, if_neg (show ¬ (2 : Nat) = 1 by decide), if_neg (show ¬ (2 : Nat) = 1 by decide), if_pos rfl, if_pos rfl, ec, ed, hm.1, hm.2]
   exact ⟨rfl, rfl⟩
  ·split at h
   ·rename_i e
    subst e
    simp only [Bool.and_eq_true, List.isEmpty_iff, decide_eq_true_eq] at h
    obtain ⟨⟨⟨rfl, rfl⟩, hc⟩, ho⟩ := h
    have hs := volsOk_sizes _ _ ho
    have hm := many_app (f := volT) (g := volN) (e := volB) vols b (fun x hx c => vol_app x c (hs x hx).1 (hs x hx).2 (hw.2.2 x hx))
    have eb : bytesN ⟨3, [], [], vols⟩ ++ b = beL 3 1 ++ (beL vols.length 1 ++ (vols.flatMap volB ++ b)) := by simp [bytesN, itemsB, kidsB, volsB]
    have ec : countT ⟨beL 3 1 ++ (beL vols.length 1 ++ (vols.flatMap volB ++ b)), false⟩ = vols.length := by rw [countT, numN_app, num_app _ _ _ (by omega)]
    have ed : bodyT ⟨beL 3 1 ++ (beL vols.length 1 ++ (vols.flatMap volB ++ b)), false⟩ = ⟨vols.flatMap volB ++ b, false⟩ := by rw [bodyT, numN_app, numN_app]
    rw [eb, takeN, takeX, e1, if_neg (show ¬ (3 : Nat) = 1 by decide), if_neg (show ¬ (3 : Nat) = 1 by decide), if_neg (show ¬ (3 : Nat) = 2 by decide), if_neg (show ¬ (3 : Nat) = 2 by decide), if_pos rfl, if_pos rfl, ec, ed, hm.1, hm.2]
    exact ⟨rfl, rfl⟩
   ·simp at h

theorem check_ok (n : NodeD) : checkN n = 0 ↔ shapedN n = true ∧ sizeN n ≤ 508 := by
 unfold checkN
 split
 ·split <;> simp_all
 ·simp_all
theorem enc_start (n : NodeD) (hw : n.wf) (h : checkN n = 0) : startT (encN n) = ⟨bytesN n ++ List.replicate (508 - (bytesN n).length) 0, false⟩ := by
 obtain ⟨hs, hz⟩ := (check_ok n).1 h
 have hl := bytesN_length n hw hs
 rw [startT, encN, if_pos h, wholeL_pad _ (by omega), headed_drop]
 rfl
theorem enc_length (n : NodeD) (hw : n.wf) : (encN n).length ≤ 512 := by
 unfold encN
 split
 ·rename_i h
  obtain ⟨hs, hz⟩ := (check_ok n).1 h
  have hl := bytesN_length n hw hs
  exact wholeL_length _ (by omega)
 ·simp
/-- What a node is written as is read as it. -/
theorem dec_enc (n : NodeD) (hw : n.wf) (h : checkN n = 0) : decOk (encN n) ∧ decN (encN n) = n := by
 have hb := take_back n hw ((check_ok n).1 h).1 (List.replicate (508 - (bytesN n).length) 0)
 have hs := enc_start n hw h
 rw [← hs] at hb
 refine ⟨⟨enc_length n hw, by rw [hb.2], by rw [hb.1]; exact h, by rw [hb.1]⟩, hb.1⟩
/-- Nodes that are written alike are one. -/
theorem enc_inj (a b : NodeD) (ha : a.wf) (hb : b.wf) (h1 : checkN a = 0) (h2 : checkN b = 0) (h : encN a = encN b) : a = b := by
 rw [← (dec_enc a ha h1).2, h, (dec_enc b hb h2).2]

/-! ### What is taken is well formed -/
theorem numT_lt (t : TkD) (w : Nat) : numT t w < 256 ^ w := by
 unfold numT tkSome
 split
 ·exact pow256_pos w
 ·have h1 := ofBE_lt (t.left.take w)
  have h2 : (t.left.take w).length ≤ w := List.length_take_le ..
  exact Nat.lt_of_lt_of_le h1 (Nat.pow_le_pow_right (by decide) h2)
theorem hashT_length (t : TkD) : (hashT t).length = 32 := by
 unfold hashT
 apply padTo_length
 unfold tkSome
 split
 ·simp
 ·exact List.length_take_le ..
theorem kidT_wf (t : TkD) : (kidT t).wf := ⟨numT_lt _ 4, hashT_length _⟩
theorem volT_wf (t : TkD) : (volT t).wf := ⟨numT_lt _ 1, numT_lt _ 8, numT_lt _ 4, hashT_length _⟩
theorem manyT_mem {α : Type} {f : TkD → α} {g : TkD → TkD} {p : α → Prop} (h : ∀ t, p (f t)) : ∀ (c : Nat) (t : TkD), ∀ x ∈ manyT f g c t, p x
 | 0, _, _, hx => by cases hx
 | c + 1, t, x, hx => by
  unfold manyT at hx
  rcases List.mem_cons.1 hx with rfl | hx
  ·exact h t
  ·split at hx
   ·cases hx
   ·exact manyT_mem h c _ x hx
theorem takeN_wf (t : TkD) : (takeN t).wf := by
 unfold takeN
 split
 ·exact ⟨by show 1 < 256; decide, (by intro k hk; cases hk), (by intro k hk; cases hk)⟩
 ·split
  ·exact ⟨by show 2 < 256; decide, manyT_mem kidT_wf _ _, (by intro k hk; cases hk)⟩
  ·split
   ·exact ⟨by show 3 < 256; decide, (by intro k hk; cases hk), manyT_mem volT_wf _ _⟩
   ·exact ⟨numT_lt t 1, (by intro k hk; cases hk), (by intro k hk; cases hk)⟩

/-! ### One bit turned -/
theorem crc_set' (l : List UInt8) (i : Nat) (d : UInt8) (hi : i < l.length) (hd : d ≠ l[i]) : crc (l.set i d) ≠ crc l := by
 intro h
 have e : l.set i d = l.take i ++ d :: l.drop (i + 1) := List.set_eq_take_append_cons_drop .. |>.trans (by rw [if_pos hi])
 have e2 : l = l.take i ++ l[i] :: l.drop (i + 1) := by simp
 exact crc_turned (l.take i) (l.drop (i + 1)) d l[i] hd (by rw [← e, ← e2]; exact h)

theorem headed_turned (a b : List UInt8) (at_ : Nat) (d : UInt8) (ha : a.length ≤ 508) (hat : at_ < 512) (hd : ∀ h : at_ < (headed a).length, d ≠ (headed a)[at_]) : headed b ≠ (headed a).set at_ d := by
 intro h
 have hl := headed_length a ha
 have hd := hd (by omega)
 by_cases h4 : at_ < 4
 ·have h1 := congrArg (List.drop 4) h
  rw [headed_drop, List.drop_set_of_lt h4, headed_drop] at h1
  have h2 : headed b = headed a := by rw [headed, headed, h1]
  rw [h2] at h
  have h3 : (headed a)[at_]? = some d := by rw [h]; simp [List.getElem?_set]; omega
  rw [List.getElem?_eq_getElem (by omega)] at h3
  exact hd (Option.some_inj.1 h3).symm
 ·have h1 := congrArg (List.drop 4) h
  rw [headed_drop, List.drop_set, if_neg h4, headed_drop] at h1
  have h2 := congrArg (List.take 4) h
  rw [headed_take, List.take_set_of_le (by omega), headed_take] at h2
  have h3 := beL_inj _ _ 4 (crc (padTo 508 b)).isLt (crc (padTo 508 a)).isLt h2
  have h4' : crc (padTo 508 b) = crc (padTo 508 a) := BitVec.eq_of_toNat_eq h3
  rw [h1] at h4'
  have hp := padTo_length 508 a ha
  refine crc_set' (padTo 508 a) (at_ - 4) d (by omega) ?_ h4'
  intro e
  apply hd
  rw [e]
  have hx : (headed a)[at_]? = (padTo 508 a)[at_ - 4]? := by rw [← headed_drop, List.getElem?_drop]; congr 1; omega
  rw [List.getElem?_eq_getElem (by omega), List.getElem?_eq_getElem (by omega)] at hx
  exact (Option.some_inj.1 hx).symm

/-- A node's data with one byte turned, wherever in the block, are none. -/
theorem dec_turned (n : NodeD) (hw : n.wf) (h : checkN n = 0) (at_ : Nat) (d : UInt8) (hat : at_ < 512) (hd : ∀ h : at_ < (padTo 512 (encN n)).length, d ≠ (padTo 512 (encN n))[at_]) :
  ¬ decOk (trimR ((padTo 512 (encN n)).set at_ d)) := by
 obtain ⟨hs, hz⟩ := (check_ok n).1 h
 have hl := bytesN_length n hw hs
 have e1 : padTo 512 (encN n) = headed (bytesN n) := by rw [encN, if_pos h, wholeL_pad _ (by omega)]
 rw [e1] at hd ⊢
 rintro ⟨h1, h2, h3, h4⟩
 generalize hm : takeN (startT (trimR ((headed (bytesN n)).set at_ d))) = m at h3 h4
 have hmw : m.wf := hm ▸ takeN_wf _
 obtain ⟨ms, mz⟩ := (check_ok m).1 h3
 have ml := bytesN_length m hmw ms
 have h5 := congrArg (padTo 512) h4
 rw [encN, if_pos h3, wholeL_pad _ (by omega), padTo_trimR 512 _ (by rw [List.length_set]; exact headed_length _ (by omega))] at h5
 exact headed_turned (bytesN n) (bytesN m) at_ d (by omega) hat hd h5

end Go.Proofs.YtimkklaidodkdaaGreatDoor

namespace Go.Proofs.YtimkklaidodkdaaGreatDoor

def rotr (x : BitVec 32) (k : Nat) : BitVec 32 := (x >>> k) ||| (x <<< (32 - k))
def sig0 (x : BitVec 32) : BitVec 32 := rotr x 7 ^^^ rotr x 18 ^^^ x >>> 3
def sig1 (x : BitVec 32) : BitVec 32 := rotr x 17 ^^^ rotr x 19 ^^^ x >>> 10
def big0 (x : BitVec 32) : BitVec 32 := rotr x 2 ^^^ rotr x 13 ^^^ rotr x 22
def big1 (x : BitVec 32) : BitVec 32 := rotr x 6 ^^^ rotr x 11 ^^^ rotr x 25

/-- The word that is made of i bytes from place 4 t on. -/
def wordPart (l : List UInt8) (t : Nat) : Nat → BitVec 32
 | 0 => 0#32
 | i + 1 => (wordPart l t i <<< 8) ||| w8 (l.getD (4 * t + i) 0)
def wordAt (l : List UInt8) (t : Nat) : BitVec 32 := wordPart l t 4

theorem wordAt_eq (l : List UInt8) (t : Nat) : wordAt l t = ((w8 (l.getD (4 * t) 0) <<< 24 ||| w8 (l.getD (4 * t + 1) 0) <<< 16) ||| w8 (l.getD (4 * t + 2) 0) <<< 8) ||| w8 (l.getD (4 * t + 3) 0) := by
 simp only [wordAt, wordPart, BitVec.shiftLeft_or_distrib, Nat.add_zero]
 simp [← BitVec.shiftLeft_add]

def nextW (l : List UInt8) (ws : List (BitVec 32)) (t : Nat) : BitVec 32 :=
 if t < 16 then wordAt l t else ws.getD (t - 16) 0#32 + ws.getD (t - 7) 0#32 + sig0 (ws.getD (t - 15) 0#32) + sig1 (ws.getD (t - 2) 0#32)
def schedTo (l : List UInt8) : Nat → List (BitVec 32)
 | 0 => []
 | t + 1 => schedTo l t ++ [nextW l (schedTo l t) t]
def sched (l : List UInt8) : List (BitVec 32) := schedTo l 64
theorem schedTo_length (l : List UInt8) (t : Nat) : (schedTo l t).length = t := by
 induction t with
 | zero => rfl
 | succ t ih => simp [schedTo, ih]

structure St where
 a : BitVec 32
 b : BitVec 32
 c : BitVec 32
 d : BitVec 32
 e : BitVec 32
 f : BitVec 32
 g : BitVec 32
 h : BitVec 32

def St.list (s : St) : List (BitVec 32) := [s.a, s.b, s.c, s.d, s.e, s.f, s.g, s.h]
def chP (e f g : BitVec 32) : BitVec 32 := g ^^^ (e &&& (f ^^^ g))
def majP (a b c : BitVec 32) : BitVec 32 := (a &&& b) ||| (c &&& (a ||| b))
def rt1 (s : St) (k w : BitVec 32) : BitVec 32 := s.h + big1 s.e + chP s.e s.f s.g + k + w
def rt2 (s : St) : BitVec 32 := big0 s.a + majP s.a s.b s.c
def round (s : St) (k w : BitVec 32) : St := ⟨rt1 s k w + rt2 s, s.a, s.b, s.c, s.d + rt1 s k w, s.e, s.f, s.g⟩
def roundsTo (ks ws : List (BitVec 32)) (s : St) : Nat → St
 | 0 => s
 | t + 1 => round (roundsTo ks ws s t) (ks.getD t 0#32) (ws.getD t 0#32)
def St.add (s t : St) : St := ⟨s.a + t.a, s.b + t.b, s.c + t.c, s.d + t.d, s.e + t.e, s.f + t.f, s.g + t.g, s.h + t.h⟩
def shaK : List (BitVec 32) := [0x428a2f98#32, 0x71374491#32, 0xb5c0fbcf#32, 0xe9b5dba5#32, 0x3956c25b#32, 0x59f111f1#32, 0x923f82a4#32, 0xab1c5ed5#32, 0xd807aa98#32, 0x12835b01#32, 0x243185be#32, 0x550c7dc3#32, 0x72be5d74#32, 0x80deb1fe#32, 0x9bdc06a7#32, 0xc19bf174#32, 0xe49b69c1#32, 0xefbe4786#32, 0x0fc19dc6#32, 0x240ca1cc#32, 0x2de92c6f#32, 0x4a7484aa#32, 0x5cb0a9dc#32, 0x76f988da#32, 0x983e5152#32, 0xa831c66d#32, 0xb00327c8#32, 0xbf597fc7#32, 0xc6e00bf3#32, 0xd5a79147#32, 0x06ca6351#32, 0x14292967#32, 0x27b70a85#32, 0x2e1b2138#32, 0x4d2c6dfc#32, 0x53380d13#32, 0x650a7354#32, 0x766a0abb#32, 0x81c2c92e#32, 0x92722c85#32, 0xa2bfe8a1#32, 0xa81a664b#32, 0xc24b8b70#32, 0xc76c51a3#32, 0xd192e819#32, 0xd6990624#32, 0xf40e3585#32, 0x106aa070#32, 0x19a4c116#32, 0x1e376c08#32, 0x2748774c#32, 0x34b0bcb5#32, 0x391c0cb3#32, 0x4ed8aa4a#32, 0x5b9cca4f#32, 0x682e6ff3#32, 0x748f82ee#32, 0x78a5636f#32, 0x84c87814#32, 0x8cc70208#32, 0x90befffa#32, 0xa4506ceb#32, 0xbef9a3f7#32, 0xc67178f2#32]
def shaH : St := ⟨0x6a09e667#32, 0xbb67ae85#32, 0x3c6ef372#32, 0xa54ff53a#32, 0x510e527f#32, 0x9b05688c#32, 0x1f83d9ab#32, 0x5be0cd19#32⟩
def compress (s : St) (l : List UInt8) : St := s.add (roundsTo shaK (sched l) s 64)
/-- The state behind n blocks. -/
def blocks (l : List UInt8) : Nat → St
 | 0 => shaH
 | n + 1 => compress (blocks l n) ((l.drop (64 * n)).take 64)
def padding (n : Nat) : List UInt8 := 0x80 :: (List.replicate ((119 - n % 64) % 64) 0 ++ beL (n * 8 % 18446744073709551616) 8)
def padL (l : List UInt8) : List UInt8 := l ++ padding l.length
def digestTo (s : St) : Nat → List UInt8
 | 0 => []
 | i + 1 => digestTo s i ++ [UInt8.ofNat ((s.list.getD (i / 4) 0#32).toNat / 2 ^ (24 - 8 * (i % 4)))]
def digest (s : St) : List UInt8 := digestTo s 32
def sha (l : List UInt8) : List UInt8 := digest (blocks (padL l) ((padL l).length / 64))
theorem digestTo_length (s : St) (i : Nat) : (digestTo s i).length = i := by
 induction i with
 | zero => rfl
 | succ i ih => simp [digestTo, ih]
theorem sha_length (l : List UInt8) : (sha l).length = 32 := digestTo_length _ _

theorem padding_length (n : Nat) : (padding n).length = 9 + (119 - n % 64) % 64 := by
 simp [padding, beL_length]; omega
theorem padL_mod (l : List UInt8) : (padL l).length % 64 = 0 := by
 rw [padL, List.length_append, padding_length]; omega

/-- The document's choice and majority are the same. -/
theorem ch_ref (e f g : BitVec 32) : (e &&& f) ^^^ (~~~e &&& g) = chP e f g := by
 unfold chP
 ext i hi
 simp only [BitVec.getElem_xor, BitVec.getElem_and, BitVec.getElem_not]
 cases e[i] <;> cases f[i] <;> cases g[i] <;> rfl
theorem maj_ref (a b c : BitVec 32) : ((a &&& b) ||| (a &&& c)) ||| (b &&& c) = majP a b c := by
 unfold majP
 ext i hi
 simp only [BitVec.getElem_or, BitVec.getElem_and]
 cases a[i] <;> cases b[i] <;> cases c[i] <;> rfl

end Go.Proofs.YtimkklaidodkdaaGreatDoor

namespace Go.Proofs.YtimkklaidodkdaaGreatDoor

structure CellD where
 num : Nat
 data : ByteArray
 refs : Int
structure HeapD where
 size : Nat
 cells : List CellD

def CellD.d (c : CellD) : List UInt8 := c.data.data.toList
def CellD.node (c : CellD) : NodeD := nodeL c.d
def CellD.hash (c : CellD) : List UInt8 := sha c.d
def namedN (n : NodeD) : List (Nat × List UInt8) := n.kids.map (fun k => (k.num, k.hash)) ++ (n.vols.filter (fun v => decide (v.root ≠ 0))).map (fun v => (v.root, v.hash))
def CellD.kids (c : CellD) : List Nat := kidNums c.node
def findC (l : List CellD) (k : Nat) : Option CellD := l.find? (fun c => c.num == k)
def ledC (l : List CellD) (k : Nat) : Nat := (l.flatMap CellD.kids).count k
/-- Why what a node names is not right. -/
def toldC (l : List CellD) : Int → List (Nat × List UInt8) → Int
 | why, [] => why
 | why, x :: r => match findC l x.1 with
  | none => 5
  | some c => toldC l (if c.hash = x.2 then why else 9) r
def toldN (l : List CellD) (n : NodeD) : Int := toldC l 0 (namedN n)

structure RightH (h : HeapD) : Prop where
 lo : 16 ≤ h.size
 hi : h.size ≤ 65536
 ok : ∀ c ∈ h.cells, decOk c.d ∧ 2 ≤ c.num ∧ c.num < h.size
 asc : h.cells.Pairwise (fun a b => a.num < b.num)
 told : ∀ c ∈ h.cells, toldN h.cells c.node = 0
 led : ∀ c ∈ h.cells, (ledC h.cells c.num : Int) ≤ c.refs
 most : ∀ c ∈ h.cells, c.refs ≤ 16777216

/-- A list of cells midway: some that lead to cells are still to be let go. -/
structure InvC (size : Nat) (l : List CellD) (pend : List Nat) : Prop where
 asc : l.Pairwise (fun a b => a.num < b.num)
 ok : ∀ c ∈ l, decOk c.d ∧ 2 ≤ c.num ∧ c.num < size
 there : ∀ c ∈ l, ∀ x ∈ namedN c.node, ∃ c' ∈ l, c'.num = x.1 ∧ c'.hash = x.2
 led : ∀ c ∈ l, (ledC l c.num : Int) + (pend.count c.num : Int) ≤ c.refs
 most : ∀ c ∈ l, c.refs ≤ 16777216
 pend : ∀ k ∈ pend, ∃ c ∈ l, c.num = k

/-! ### Finding -/
theorem find_mem {l : List CellD} {k : Nat} {c : CellD} (h : findC l k = some c) : c ∈ l ∧ c.num = k := by
 refine ⟨List.mem_of_find?_eq_some h, ?_⟩
 have := List.find?_some h
 simpa using this
theorem find_none {l : List CellD} {k : Nat} : findC l k = none ↔ ∀ c ∈ l, c.num ≠ k := by
 unfold findC
 rw [List.find?_eq_none]
 simp
theorem asc_inj {l : List CellD} (h : l.Pairwise (fun a b => a.num < b.num)) {a b : CellD} (ha : a ∈ l) (hb : b ∈ l) (e : a.num = b.num) : a = b := by
 induction h with
 | nil => cases ha
 | cons hx _ ih =>
  rcases List.mem_cons.1 ha with rfl | ha'
  ·rcases List.mem_cons.1 hb with rfl | hb'
   ·rfl
   ·have := hx b hb'; omega
  ·rcases List.mem_cons.1 hb with rfl | hb'
   ·have := hx a ha'; omega
   ·exact ih ha' hb'
theorem find_of {l : List CellD} (h : l.Pairwise (fun a b => a.num < b.num)) {c : CellD} (hc : c ∈ l) : findC l c.num = some c := by
 cases hf : findC l c.num with
 | none => exact absurd rfl (find_none.1 hf c hc)
 | some d =>
  obtain ⟨hd, hn⟩ := find_mem hf
  rw [asc_inj h hd hc hn]

theorem toldC_zero {l : List CellD} (hl : l.Pairwise (fun a b => a.num < b.num)) : ∀ (r : List (Nat × List UInt8)) (why : Int), why ≠ 0 ∨ True → (toldC l why r = 0 ↔ why = 0 ∧ ∀ x ∈ r, ∃ c ∈ l, c.num = x.1 ∧ c.hash = x.2)
 | [], why, _ => by simp [toldC]
 | x :: r, why, _ => by
  rw [toldC]
  cases hf : findC l x.1 with
  | none =>
   simp only []
   constructor
   ·intro h; cases h
   ·rintro ⟨_, h⟩
    obtain ⟨c, hc, hn, _⟩ := h x List.mem_cons_self
    exact absurd hn (find_none.1 hf c hc)
  | some c =>
   obtain ⟨hc, hn⟩ := find_mem hf
   simp only []
   rw [toldC_zero hl r _ (.inr trivial)]
   by_cases he : c.hash = x.2
   ·rw [if_pos he]
    constructor
    ·rintro ⟨h1, h2⟩
     refine ⟨h1, fun y hy => ?_⟩
     rcases List.mem_cons.1 hy with rfl | hy
     ·exact ⟨c, hc, hn, he⟩
     ·exact h2 y hy
    ·rintro ⟨h1, h2⟩
     exact ⟨h1, fun y hy => h2 y (List.mem_cons_of_mem _ hy)⟩
   ·rw [if_neg he]
    constructor
    ·rintro ⟨h1, _⟩; cases h1
    ·rintro ⟨_, h2⟩
     obtain ⟨d, hd, hdn, hdh⟩ := h2 x List.mem_cons_self
     rw [asc_inj hl hc hd (hn.trans hdn.symm)] at he
     exact absurd hdh he
theorem toldN_zero {l : List CellD} (hl : l.Pairwise (fun a b => a.num < b.num)) (n : NodeD) : toldN l n = 0 ↔ ∀ x ∈ namedN n, ∃ c ∈ l, c.num = x.1 ∧ c.hash = x.2 := by
 unfold toldN
 rw [toldC_zero hl _ _ (.inr trivial)]
 simp

theorem right_inv {h : HeapD} (r : RightH h) : InvC h.size h.cells [] :=
 ⟨r.asc, r.ok, fun c hc => (toldN_zero r.asc _).1 (r.told c hc), fun c hc => by simpa using r.led c hc, r.most, by simp⟩
theorem inv_right {size : Nat} {l : List CellD} (hs : 16 ≤ size) (hs2 : size ≤ 65536) (i : InvC size l []) : RightH ⟨size, l⟩ :=
 ⟨hs, hs2, i.ok, i.asc, fun c hc => (toldN_zero i.asc _).2 (i.there c hc), fun c hc => by simpa using i.led c hc, i.most⟩

/-! ### Kids of a right node -/
theorem dec_shape {d : List UInt8} (h : decOk d) : shapedN (nodeL d) = true := by
 unfold nodeL
 rw [if_pos h]
 exact ((check_ok _).1 h.2.2.1).1
theorem shaped_named (n : NodeD) (h : shapedN n = true) : (namedN n).map (·.1) = kidNums n := by
 unfold shapedN at h
 unfold namedN kidNums
 by_cases h1 : n.kind = 1
 ·rw [if_pos h1] at h
  simp only [Bool.and_eq_true, List.isEmpty_iff] at h
  rw [h.1.1.1.1, h.1.1.1.2]; simp [h1]
 ·rw [if_neg h1] at h
  by_cases h2 : n.kind = 2
  ·rw [if_pos h2] at h
   simp only [Bool.and_eq_true, List.isEmpty_iff] at h
   rw [if_pos h2, h.1.1.1.2]
   simp
  ·rw [if_neg h2] at h
   by_cases h3 : n.kind = 3
   ·rw [if_pos h3] at h
    simp only [Bool.and_eq_true, List.isEmpty_iff] at h
    rw [if_neg h2, if_pos h3, h.1.1.2]
    simp
   ·rw [if_neg h3] at h; cases h
theorem kids_named {c : CellD} (h : decOk c.d) : (namedN c.node).map (·.1) = c.kids := shaped_named _ (dec_shape h)
theorem InvC.kid {size : Nat} {l : List CellD} {p : List Nat} (i : InvC size l p) {c : CellD} (hc : c ∈ l) {k : Nat} (hk : k ∈ c.kids) : ∃ c' ∈ l, c'.num = k := by
 rw [← kids_named (i.ok c hc).1] at hk
 obtain ⟨x, hx, rfl⟩ := List.mem_map.1 hk
 obtain ⟨c', hc', hn, _⟩ := i.there c hc x hx
 exact ⟨c', hc', hn⟩

/-! ### Letting go -/
def decC (l : List CellD) (k : Nat) : List CellD := l.map fun c => if c.num = k then { c with refs := c.refs - 1 } else c
def delC (l : List CellD) (k : Nat) : List CellD := l.filter fun c => decide (c.num ≠ k)
def letF : Nat → List CellD → Nat → List CellD
 | 0, l, _ => l
 | f + 1, l, k => match findC l k with
  | none => l
  | some c => if c.refs - 1 = 0 then c.kids.foldl (letF f) (delC l k) else decC l k
def sweepF : Nat → List CellD → List CellD
 | 0, l => l
 | f + 1, l => match l.find? (fun c => decide (c.refs = 0)) with
  | none => l
  | some c => sweepF f (c.kids.foldl (letF (l.length + 1)) (delC l c.num))

theorem decC_kids (l : List CellD) (k : Nat) : (decC l k).flatMap CellD.kids = l.flatMap CellD.kids := by
 unfold decC
 induction l with
 | nil => rfl
 | cons c l ih =>
  rw [List.map_cons, List.flatMap_cons, List.flatMap_cons, ih]
  split <;> rfl
theorem decC_led (l : List CellD) (k j : Nat) : ledC (decC l k) j = ledC l j := by unfold ledC; rw [decC_kids]
theorem decC_mem {l : List CellD} {k : Nat} {c : CellD} (h : c ∈ decC l k) : ∃ c' ∈ l, c.num = c'.num ∧ c.data = c'.data ∧ c.refs = (if c'.num = k then c'.refs - 1 else c'.refs) := by
 obtain ⟨c', hc', rfl⟩ := List.mem_map.1 h
 refine ⟨c', hc', ?_⟩
 split <;> exact ⟨rfl, rfl, rfl⟩
theorem decC_mem' {l : List CellD} {k : Nat} {c : CellD} (h : c ∈ l) : ∃ c' ∈ decC l k, c'.num = c.num ∧ c'.data = c.data ∧ c'.refs = (if c.num = k then c.refs - 1 else c.refs) := by
 refine ⟨_, List.mem_map.2 ⟨c, h, rfl⟩, ?_⟩
 split <;> exact ⟨rfl, rfl, rfl⟩
theorem data_eq {c c' : CellD} (h : c.data = c'.data) : c.node = c'.node ∧ c.hash = c'.hash ∧ c.kids = c'.kids ∧ c.d = c'.d := by
 unfold CellD.kids CellD.node CellD.hash CellD.d; rw [h]; exact ⟨rfl, rfl, rfl, rfl⟩
theorem asc_dec {l : List CellD} (k : Nat) (h : l.Pairwise (fun a b => a.num < b.num)) : (decC l k).Pairwise (fun a b => a.num < b.num) := by
 unfold decC
 rw [List.pairwise_map]
 refine h.imp ?_
 intro a b hab
 split <;> split <;> exact hab
theorem asc_del {l : List CellD} (k : Nat) (h : l.Pairwise (fun a b => a.num < b.num)) : (delC l k).Pairwise (fun a b => a.num < b.num) := h.filter _

theorem inv_dec {size : Nat} {l : List CellD} {p : List Nat} {k : Nat} (i : InvC size l (k :: p)) : InvC size (decC l k) p where
 asc := asc_dec k i.asc
 ok c hc := by
  obtain ⟨c', hc', hn, hd, _⟩ := decC_mem hc
  rw [hn, (data_eq hd).2.2.2]
  exact i.ok c' hc'
 there c hc x hx := by
  obtain ⟨c', hc', hn, hd, _⟩ := decC_mem hc
  rw [(data_eq hd).1] at hx
  obtain ⟨e, he, h1, h2⟩ := i.there c' hc' x hx
  obtain ⟨e', he', hn', hd', _⟩ := decC_mem' (k := k) he
  exact ⟨e', he', hn'.trans h1, (data_eq hd').2.1.trans h2⟩
 led c hc := by
  obtain ⟨c', hc', hn, hd, hr⟩ := decC_mem hc
  rw [decC_led, hn, hr]
  have := i.led c' hc'
  rw [List.count_cons] at this
  by_cases hk : c'.num = k
  ·rw [if_pos hk]
   simp [hk] at this ⊢
   omega
  ·rw [if_neg hk]
   have hk' : ¬ k = c'.num := fun h => hk h.symm
   simp [hk'] at this
   exact this
 most c hc := by
  obtain ⟨c', hc', hn, hd, hr⟩ := decC_mem hc
  rw [hr]
  have := i.most c' hc'
  split <;> omega
 pend j hj := by
  obtain ⟨c, hc, hn⟩ := i.pend j (List.mem_cons_of_mem _ hj)
  obtain ⟨c', hc', hn', _⟩ := decC_mem' (k := k) hc
  exact ⟨c', hc', hn'.trans hn⟩

theorem led_del {l : List CellD} (h : l.Pairwise (fun a b => a.num < b.num)) {c : CellD} (hc : c ∈ l) (j : Nat) : ledC l j = ledC (delC l c.num) j + c.kids.count j := by
 unfold ledC
 induction h with
 | nil => cases hc
 | cons hx hp ih =>
  rename_i a l
  rcases List.mem_cons.1 hc with rfl | hc'
  ·have e : delC (c :: l) c.num = l := by
    unfold delC
    rw [List.filter_cons]
    simp only [ne_eq, not_true, decide_false, Bool.false_eq_true, if_false]
    rw [List.filter_eq_self]
    intro b hb
    have := hx b hb
    simp; omega
   rw [e, List.flatMap_cons, List.count_append]; omega
  ·have e : delC (a :: l) c.num = a :: delC l c.num := by
    unfold delC
    rw [List.filter_cons]
    have := hx c hc'
    rw [if_pos (by simp; omega)]
   rw [e, List.flatMap_cons, List.flatMap_cons, List.count_append, List.count_append, ih hc']; omega
theorem delC_length {l : List CellD} {c : CellD} (hc : c ∈ l) : (delC l c.num).length < l.length := by
 unfold delC
 refine Nat.lt_of_le_of_ne (List.length_filter_le _ _) (fun q => ?_)
 have := List.length_filter_eq_length_iff.1 q c hc
 simp at this

/-- A cell that nobody holds is taken out: all to which it leads is to be let go. -/
theorem inv_del {size : Nat} {l : List CellD} {p : List Nat} (i : InvC size l p) {c : CellD} (hc : c ∈ l) (h0 : c.refs = 0) : InvC size (delC l c.num) (c.kids ++ p) where
 asc := asc_del _ i.asc
 ok d hd := i.ok d (List.mem_filter.1 hd).1
 there d hd x hx := by
  obtain ⟨e, he, h1, h2⟩ := i.there d (List.mem_filter.1 hd).1 x hx
  refine ⟨e, List.mem_filter.2 ⟨he, ?_⟩, h1, h2⟩
  simp only [ne_eq, decide_eq_true_eq]
  intro hq
  have h3 := i.led c hc
  have h4 : 0 < ledC l c.num := by
   unfold ledC
   rw [List.count_pos_iff, List.mem_flatMap]
   refine ⟨d, (List.mem_filter.1 hd).1, ?_⟩
   rw [← kids_named (i.ok d (List.mem_filter.1 hd).1).1]
   exact List.mem_map.2 ⟨x, hx, by rw [← h1, hq]⟩
  omega
 led d hd := by
  have h1 := i.led d (List.mem_filter.1 hd).1
  have h2 := led_del i.asc hc d.num
  rw [List.count_append]
  omega
 most d hd := i.most d (List.mem_filter.1 hd).1
 pend k hk := by
  have gone : ∀ e ∈ l, e.num = k → 0 < e.refs → ∃ e' ∈ delC l c.num, e'.num = k := fun e he hek hr => ⟨e, List.mem_filter.2 ⟨he, by
   simp only [ne_eq, decide_eq_true_eq]
   intro hq
   have := asc_inj i.asc he hc hq
   subst this; omega⟩, hek⟩
  rcases List.mem_append.1 hk with hk | hk
  ·obtain ⟨e, he, hek⟩ := i.kid hc hk
   refine gone e he hek ?_
   have h1 := i.led e he
   have h4 : 0 < ledC l e.num := by
    unfold ledC
    rw [List.count_pos_iff, List.mem_flatMap]
    exact ⟨c, hc, by rw [hek]; exact hk⟩
   omega
  ·obtain ⟨e, he, hek⟩ := i.pend k hk
   refine gone e he hek ?_
   have h1 := i.led e he
   have h4 : 0 < p.count e.num := by rw [List.count_pos_iff, hek]; exact hk
   omega

theorem delC_decC (l : List CellD) (k : Nat) : delC (decC l k) k = delC l k := by
 unfold delC decC
 rw [List.filter_map]
 have e : (fun c : CellD => decide (c.num ≠ k)) ∘ (fun c => if c.num = k then { c with refs := c.refs - 1 } else c) = fun c => decide (c.num ≠ k) := by
  funext c
  simp only [Function.comp]
  split <;> rfl
 rw [e]
 rw [List.map_congr_left (g := id)]
 ·simp
 ·intro c hc
  have := (List.mem_filter.1 hc).2
  simp only [ne_eq, decide_eq_true_eq] at this
  rw [if_neg this]; rfl

theorem inv_let : ∀ (f : Nat) (l : List CellD) (k : Nat) (p : List Nat) (size : Nat), l.length < f → InvC size l (k :: p) → InvC size (letF f l k) p ∧ (letF f l k).length ≤ l.length := by
 intro f
 induction f with
 | zero => intro l k p size h; omega
 | succ f ih =>
  intro l k p size hf i
  obtain ⟨c, hc, hk⟩ := i.pend k List.mem_cons_self
  subst hk
  have hfind := find_of i.asc hc
  rw [letF, hfind]
  simp only []
  by_cases h0 : c.refs - 1 = 0
  ·rw [if_pos h0]
   have i2 := inv_dec i
   obtain ⟨c', hc', hn, hd, hr⟩ := decC_mem' (k := c.num) hc
   rw [if_pos rfl] at hr
   have i3 := inv_del i2 hc' (by rw [hr]; exact h0)
   rw [hn, (data_eq hd).2.2.1, delC_decC] at i3
   have hl := delC_length hc
   have go : ∀ (ks : List Nat) (m : List CellD), m.length < f → InvC size m (ks ++ p) → InvC size (ks.foldl (letF f) m) p ∧ (ks.foldl (letF f) m).length ≤ m.length := by
    intro ks
    induction ks with
    | nil => intro m _ h; exact ⟨h, Nat.le_refl _⟩
    | cons a ks ihk =>
     intro m hm h
     obtain ⟨h1, h2⟩ := ih m a (ks ++ p) size hm h
     obtain ⟨h3, h4⟩ := ihk (letF f m a) (by omega) h1
     exact ⟨h3, by rw [List.foldl_cons]; omega⟩
   obtain ⟨h3, h4⟩ := go c.kids (delC l c.num) (by omega) i3
   exact ⟨h3, by omega⟩
  ·rw [if_neg h0]
   exact ⟨inv_dec i, by unfold decC; rw [List.length_map]; exact Nat.le_refl _⟩
theorem inv_lets (f : Nat) {size : Nat} {p : List Nat} : ∀ (ks : List Nat) (m : List CellD), m.length < f → InvC size m (ks ++ p) → InvC size (ks.foldl (letF f) m) p ∧ (ks.foldl (letF f) m).length ≤ m.length := by
 intro ks
 induction ks with
 | nil => intro m _ h; exact ⟨h, Nat.le_refl _⟩
 | cons a ks ihk =>
  intro m hm h
  obtain ⟨h1, h2⟩ := inv_let f m a (ks ++ p) size hm h
  obtain ⟨h3, h4⟩ := ihk (letF f m a) (by omega) h1
  exact ⟨h3, by rw [List.foldl_cons]; omega⟩
/-- What is let go does not hang on the measure, if it is great enough. -/
theorem let_fuel : ∀ (f g : Nat) (l : List CellD) (k : Nat) (p : List Nat) (size : Nat), l.length < f → l.length < g → InvC size l (k :: p) → letF f l k = letF g l k := by
 intro f
 induction f with
 | zero => intro g l k p size h; omega
 | succ f ih =>
  intro g l k p size hf hg i
  obtain ⟨g, rfl⟩ : ∃ g', g = g' + 1 := ⟨g - 1, by omega⟩
  obtain ⟨c, hc, hk⟩ := i.pend k List.mem_cons_self
  subst hk
  have hfind := find_of i.asc hc
  rw [letF, letF, hfind]
  simp only []
  by_cases h0 : c.refs - 1 = 0
  ·rw [if_pos h0, if_pos h0]
   have i2 := inv_dec i
   obtain ⟨c', hc', hn, hd, hr⟩ := decC_mem' (k := c.num) hc
   rw [if_pos rfl] at hr
   have i3 := inv_del i2 hc' (by rw [hr]; exact h0)
   rw [hn, (data_eq hd).2.2.1, delC_decC] at i3
   have hl := delC_length hc
   have go : ∀ (ks : List Nat) (m : List CellD), m.length < f → m.length < g → InvC size m (ks ++ p) → ks.foldl (letF f) m = ks.foldl (letF g) m := by
    intro ks
    induction ks with
    | nil => intro m _ _ _; rfl
    | cons a ks ihk =>
     intro m hm hm' h
     obtain ⟨h1, h2⟩ := inv_let f m a (ks ++ p) size hm h
     rw [List.foldl_cons, List.foldl_cons, ← ih g m a (ks ++ p) size hm hm' h]
     exact ihk _ (by omega) (by omega) h1
   exact go c.kids (delC l c.num) (by omega) (by omega) i3
  ·rw [if_neg h0, if_neg h0]

/-! ### What is kept -/
/-- How often a cell is held beyond what leads to it. -/
def slackC (l : List CellD) (p : List Nat) (c : CellD) : Int := c.refs - (ledC l c.num : Int) - (p.count c.num : Int)
structure KeptC (l : List CellD) (p : List Nat) (l' : List CellD) (p' : List Nat) : Prop where
 back : ∀ d' ∈ l', ∃ d ∈ l, d.num = d'.num ∧ d.data = d'.data ∧ slackC l' p' d' = slackC l p d
 stay : ∀ d ∈ l, 0 < slackC l p d → ∃ d' ∈ l', d'.num = d.num ∧ d'.data = d.data ∧ slackC l' p' d' = slackC l p d
theorem KeptC.refl (l : List CellD) (p : List Nat) : KeptC l p l p := ⟨fun d h => ⟨d, h, rfl, rfl, rfl⟩, fun d h _ => ⟨d, h, rfl, rfl, rfl⟩⟩
theorem KeptC.trans {l l' l'' : List CellD} {p p' p'' : List Nat} (a : KeptC l p l' p') (b : KeptC l' p' l'' p'') : KeptC l p l'' p'' where
 back d hd := by
  obtain ⟨e, he, h1, h2, h3⟩ := b.back d hd
  obtain ⟨f, hf, k1, k2, k3⟩ := a.back e he
  exact ⟨f, hf, k1.trans h1, k2.trans h2, h3.trans k3⟩
 stay d hd hp := by
  obtain ⟨e, he, h1, h2, h3⟩ := a.stay d hd hp
  obtain ⟨f, hf, k1, k2, k3⟩ := b.stay e he (by rw [h3]; exact hp)
  exact ⟨f, hf, k1.trans h1, k2.trans h2, k3.trans h3⟩
theorem kept_dec (l : List CellD) (k : Nat) (p : List Nat) : KeptC l (k :: p) (decC l k) p := by
 have e : ∀ c c' : CellD, c'.num = c.num → c'.refs = (if c.num = k then c.refs - 1 else c.refs) → slackC (decC l k) p c' = slackC l (k :: p) c := by
  intro c c' hn hr
  unfold slackC
  rw [decC_led, hn, hr, List.count_cons]
  by_cases h : c.num = k
  ·rw [if_pos h]; simp [h]; omega
  ·have h' : ¬ k = c.num := fun q => h q.symm
   rw [if_neg h]; simp [h']
 refine ⟨fun d hd => ?_, fun d hd _ => ?_⟩
 ·obtain ⟨c, hc, hn, hdd, hr⟩ := decC_mem hd
  exact ⟨c, hc, hn.symm, hdd.symm, e c d hn hr⟩
 ·obtain ⟨c, hc, hn, hdd, hr⟩ := decC_mem' (k := k) hd
  exact ⟨c, hc, hn, hdd, e d c hn hr⟩
theorem kept_del {l : List CellD} (h : l.Pairwise (fun a b => a.num < b.num)) {c : CellD} (hc : c ∈ l) (h0 : c.refs = 0) (p : List Nat) : KeptC l p (delC l c.num) (c.kids ++ p) := by
 have e : ∀ d : CellD, slackC (delC l c.num) (c.kids ++ p) d = slackC l p d := by
  intro d
  unfold slackC
  have := led_del h hc d.num
  rw [List.count_append]; omega
 refine ⟨fun d hd => ⟨d, (List.mem_filter.1 hd).1, rfl, rfl, e d⟩, fun d hd hp => ⟨d, List.mem_filter.2 ⟨hd, ?_⟩, rfl, rfl, e d⟩⟩
 simp only [ne_eq, decide_eq_true_eq]
 intro hq
 have := asc_inj h hd hc hq
 subst this
 unfold slackC at hp
 omega
theorem kept_let : ∀ (f : Nat) (l : List CellD) (k : Nat) (p : List Nat) (size : Nat), l.length < f → InvC size l (k :: p) → KeptC l (k :: p) (letF f l k) p := by
 intro f
 induction f with
 | zero => intro l k p size h; omega
 | succ f ih =>
  intro l k p size hf i
  obtain ⟨c, hc, hk⟩ := i.pend k List.mem_cons_self
  subst hk
  have hfind := find_of i.asc hc
  rw [letF, hfind]
  simp only []
  by_cases h0 : c.refs - 1 = 0
  ·rw [if_pos h0]
   have i2 := inv_dec i
   obtain ⟨c', hc', hn, hd, hr⟩ := decC_mem' (k := c.num) hc
   rw [if_pos rfl] at hr
   have i3 := inv_del i2 hc' (by rw [hr]; exact h0)
   have k3 := kept_del i2.asc hc' (by rw [hr]; exact h0) p
   rw [hn, (data_eq hd).2.2.1, delC_decC] at i3 k3
   have hl := delC_length hc
   have go : ∀ (ks : List Nat) (m : List CellD), m.length < f → InvC size m (ks ++ p) → KeptC m (ks ++ p) (ks.foldl (letF f) m) p := by
    intro ks
    induction ks with
    | nil => intro m _ _; exact KeptC.refl _ _
    | cons a ks ihk =>
     intro m hm h
     obtain ⟨h1, h2⟩ := inv_let f m a (ks ++ p) size hm h
     exact (ih m a (ks ++ p) size hm h).trans (ihk (letF f m a) (by omega) h1)
   exact ((kept_dec l c.num p).trans k3).trans (go c.kids (delC l c.num) (by omega) i3)
  ·rw [if_neg h0]
   exact kept_dec l c.num p
theorem kept_lets (f : Nat) {size : Nat} {p : List Nat} : ∀ (ks : List Nat) (m : List CellD), m.length < f → InvC size m (ks ++ p) → KeptC m (ks ++ p) (ks.foldl (letF f) m) p := by
 intro ks
 induction ks with
 | nil => intro m _ _; exact KeptC.refl _ _
 | cons a ks ihk =>
  intro m hm h
  obtain ⟨h1, h2⟩ := inv_let f m a (ks ++ p) size hm h
  exact (kept_let f m a (ks ++ p) size hm h).trans (ihk (letF f m a) (by omega) h1)

theorem sweep_all : ∀ (f : Nat) (l : List CellD) (size : Nat), l.length ≤ f → InvC size l [] → InvC size (sweepF f l) [] ∧ KeptC l [] (sweepF f l) [] ∧ (∀ c ∈ sweepF f l, c.refs ≠ 0) ∧ (sweepF f l).length ≤ l.length := by
 intro f
 induction f with
 | zero =>
  intro l size h i
  have : l = [] := List.length_eq_zero_iff.1 (by omega)
  subst this
  exact ⟨i, KeptC.refl _ _, by simp [sweepF], Nat.le_refl _⟩
 | succ f ih =>
  intro l size hf i
  rw [sweepF]
  cases hc : l.find? (fun c => decide (c.refs = 0)) with
  | none =>
   simp only []
   refine ⟨i, KeptC.refl _ _, fun c hcm => ?_, Nat.le_refl _⟩
   have := List.find?_eq_none.1 hc c hcm
   simpa using this
  | some c =>
   simp only []
   have hm := List.mem_of_find?_eq_some hc
   have h0 : c.refs = 0 := by simpa using List.find?_some hc
   have i2 := inv_del i hm h0
   have hl := delC_length hm
   obtain ⟨i3, l3⟩ := inv_lets (l.length + 1) (p := []) c.kids (delC l c.num) (by omega) i2
   have k3 := (kept_del i.asc hm h0 []).trans (kept_lets (l.length + 1) (p := []) c.kids (delC l c.num) (by omega) i2)
   obtain ⟨a, b, c1, d⟩ := ih _ size (by omega) i3
   exact ⟨a, k3.trans b, c1, by omega⟩

end Go.Proofs.YtimkklaidodkdaaGreatDoor

namespace Go.Proofs.YtimkklaidodkdaaGreatDoor

/-- The least block from k on that is free. -/
def freeF : List CellD → Nat → Nat
 | [], k => k
 | c :: l, k => if c.num = k then freeF l (k + 1) else k
def freeC (l : List CellD) : Nat := freeF l 2
def lowC (l : List CellD) (k : Nat) : Nat := (l.filter fun x => decide (x.num < k)).length
def insC (l : List CellD) (c : CellD) : List CellD := l.take (lowC l c.num) ++ c :: l.drop (lowC l c.num)
def incC (l : List CellD) (k : Nat) : List CellD := l.map fun c => if c.num = k then { c with refs := c.refs + 1 } else c
def sameC (l : List CellD) (d : List UInt8) : Option CellD := l.find? fun c => decide (c.d = d)
def fullC (l : List CellD) (ks : List Nat) : Bool := ks.any fun k => match findC l k with
 | some c => decide (16777216 - (ks.count k : Int) < c.refs)
 | none => false
def putE (h : HeapD) (n : NodeD) : Int :=
 if checkN n ≠ 0 then checkN n else if toldN h.cells n ≠ 0 then toldN h.cells n else if (sameC h.cells (encN n)).isSome then 0
 else if h.size ≤ freeC h.cells then 8 else if fullC h.cells (kidNums n) then 1 else 0
def newC (l : List CellD) (n : NodeD) : CellD := ⟨freeC l, strOf (encN n), 0⟩
def putL (l : List CellD) (n : NodeD) : List CellD := (kidNums n).foldl incC (insC l (newC l n))
def putH (h : HeapD) (n : NodeD) : HeapD := if putE h n = 0 ∧ sameC h.cells (encN n) = none then ⟨h.size, putL h.cells n⟩ else h
def putN (h : HeapD) (n : NodeD) : Nat := if putE h n = 0 then (match sameC h.cells (encN n) with | some c => c.num | none => freeC h.cells) else 0
def putS (h : HeapD) (n : NodeD) : List UInt8 := if putE h n = 0 then sha (encN n) else List.replicate 32 0

theorem sorted_split {l : List CellD} (h : l.Pairwise (fun a b => a.num < b.num)) (k : Nat) : (∀ c ∈ l.take (lowC l k), c.num < k) ∧ (∀ c ∈ l.drop (lowC l k), k ≤ c.num) := by
 induction h with
 | nil => simp
 | cons hx hp ih =>
  rename_i a l
  by_cases ha : a.num < k
  ·have e : lowC (a :: l) k = lowC l k + 1 := by unfold lowC; rw [List.filter_cons, if_pos (by simpa using ha)]; rfl
   rw [e, List.take_succ_cons, List.drop_succ_cons]
   refine ⟨fun c hc => ?_, ih.2⟩
   rcases List.mem_cons.1 hc with rfl | hc
   ·exact ha
   ·exact ih.1 c hc
  ·have e : lowC (a :: l) k = 0 := by
    unfold lowC
    rw [List.filter_cons, if_neg (by simpa using ha), List.length_eq_zero_iff, List.filter_eq_nil_iff]
    intro c hc
    have := hx c hc
    simp; omega
   rw [e, List.take_zero, List.drop_zero]
   refine ⟨by simp, fun c hc => ?_⟩
   rcases List.mem_cons.1 hc with rfl | hc
   ·omega
   ·have := hx c hc; omega
theorem lowC_le (l : List CellD) (k : Nat) : lowC l k ≤ l.length := List.length_filter_le _ _
theorem ins_mem {l : List CellD} {c x : CellD} : x ∈ insC l c ↔ x = c ∨ x ∈ l := by
 unfold insC
 constructor
 ·intro h
  rcases List.mem_append.1 h with h | h
  ·exact .inr (List.mem_of_mem_take h)
  ·rcases List.mem_cons.1 h with h | h
   ·exact .inl h
   ·exact .inr (List.mem_of_mem_drop h)
 ·rintro (rfl | h)
  ·simp
  ·rw [← List.take_append_drop (lowC l c.num) l] at h
   rcases List.mem_append.1 h with h | h
   ·exact List.mem_append.2 (.inl h)
   ·exact List.mem_append.2 (.inr (List.mem_cons_of_mem _ h))
theorem ins_asc {l : List CellD} (h : l.Pairwise (fun a b => a.num < b.num)) {c : CellD} (hc : ∀ x ∈ l, x.num ≠ c.num) : (insC l c).Pairwise (fun a b => a.num < b.num) := by
 obtain ⟨h1, h2⟩ := sorted_split h c.num
 unfold insC
 have hh : (l.take (lowC l c.num) ++ l.drop (lowC l c.num)).Pairwise (fun a b => a.num < b.num) := by rw [List.take_append_drop]; exact h
 rw [List.pairwise_append] at hh ⊢
 refine ⟨hh.1, ?_, fun a ha b hb => ?_⟩
 ·rw [List.pairwise_cons]
  refine ⟨fun x hx => ?_, hh.2.1⟩
  have := h2 x hx
  have := hc x (List.mem_of_mem_drop hx)
  omega
 ·rcases List.mem_cons.1 hb with rfl | hb
  ·exact h1 a ha
  ·exact hh.2.2 a ha b hb
theorem ins_led (l : List CellD) (c : CellD) (j : Nat) : ledC (insC l c) j = ledC l j + c.kids.count j := by
 unfold ledC insC
 rw [List.flatMap_append, List.flatMap_cons, List.count_append, List.count_append]
 conv => rhs; rw [← List.take_append_drop (lowC l c.num) l, List.flatMap_append, List.count_append]
 omega

theorem free_ge : ∀ (l : List CellD) (k : Nat), k ≤ freeF l k
 | [], _ => Nat.le_refl _
 | c :: l, k => by
  rw [freeF]
  split
  ·exact Nat.le_trans (Nat.le_succ k) (free_ge l (k + 1))
  ·exact Nat.le_refl _
theorem free_not : ∀ (l : List CellD) (k : Nat), l.Pairwise (fun a b => a.num < b.num) → (∀ c ∈ l, k ≤ c.num) → ∀ c ∈ l, c.num ≠ freeF l k
 | [], _, _, _, _, h => by cases h
 | a :: l, k, hp, hk, c, hc => by
  rw [List.pairwise_cons] at hp
  rw [freeF]
  by_cases h : a.num = k
  ·rw [if_pos h]
   rcases List.mem_cons.1 hc with rfl | hc
   ·have := free_ge l (k + 1); omega
   ·exact free_not l (k + 1) hp.2 (fun x hx => by have := hp.1 x hx; omega) c hc
  ·rw [if_neg h]
   have h2 := hk a List.mem_cons_self
   rcases List.mem_cons.1 hc with rfl | hc
   ·exact h
   ·have := hp.1 c hc; omega

theorem inc_mem {l : List CellD} {k : Nat} {c : CellD} (h : c ∈ incC l k) : ∃ c' ∈ l, c.num = c'.num ∧ c.data = c'.data ∧ c.refs = (if c'.num = k then c'.refs + 1 else c'.refs) := by
 obtain ⟨c', hc', rfl⟩ := List.mem_map.1 h
 refine ⟨c', hc', ?_⟩
 split <;> exact ⟨rfl, rfl, rfl⟩
theorem inc_mem' {l : List CellD} {k : Nat} {c : CellD} (h : c ∈ l) : ∃ c' ∈ incC l k, c'.num = c.num ∧ c'.data = c.data ∧ c'.refs = (if c.num = k then c.refs + 1 else c.refs) := by
 refine ⟨_, List.mem_map.2 ⟨c, h, rfl⟩, ?_⟩
 split <;> exact ⟨rfl, rfl, rfl⟩
theorem inc_kids (l : List CellD) (k : Nat) : (incC l k).flatMap CellD.kids = l.flatMap CellD.kids := by
 unfold incC
 induction l with
 | nil => rfl
 | cons c l ih =>
  rw [List.map_cons, List.flatMap_cons, List.flatMap_cons, ih]
  split <;> rfl
theorem inc_led (l : List CellD) (k j : Nat) : ledC (incC l k) j = ledC l j := by unfold ledC; rw [inc_kids]
theorem inc_asc {l : List CellD} (k : Nat) (h : l.Pairwise (fun a b => a.num < b.num)) : (incC l k).Pairwise (fun a b => a.num < b.num) := by
 unfold incC
 rw [List.pairwise_map]
 refine h.imp ?_
 intro a b hab
 split <;> split <;> exact hab
theorem incs_mem (ks : List Nat) : ∀ {l : List CellD} {c : CellD}, c ∈ ks.foldl incC l → ∃ c' ∈ l, c.num = c'.num ∧ c.data = c'.data ∧ c.refs = c'.refs + (ks.count c'.num : Int) := by
 induction ks with
 | nil => intro l c h; exact ⟨c, h, rfl, rfl, by simp⟩
 | cons k ks ih =>
  intro l c h
  obtain ⟨c1, h1, n1, d1, r1⟩ := ih (l := incC l k) h
  obtain ⟨c2, h2, n2, d2, r2⟩ := inc_mem h1
  refine ⟨c2, h2, n1.trans n2, d1.trans d2, ?_⟩
  rw [r1, r2, n2, List.count_cons]
  by_cases e : c2.num = k
  ·rw [if_pos e]; simp [e]; omega
  ·have e' : ¬ k = c2.num := fun q => e q.symm
   rw [if_neg e]; simp [e']
theorem incs_mem' (ks : List Nat) : ∀ {l : List CellD} {c : CellD}, c ∈ l → ∃ c' ∈ ks.foldl incC l, c'.num = c.num ∧ c'.data = c.data ∧ c'.refs = c.refs + (ks.count c.num : Int) := by
 induction ks with
 | nil => intro l c h; exact ⟨c, h, rfl, rfl, by simp⟩
 | cons k ks ih =>
  intro l c h
  obtain ⟨c2, h2, n2, d2, r2⟩ := inc_mem' (k := k) h
  obtain ⟨c1, h1, n1, d1, r1⟩ := ih (l := incC l k) h2
  refine ⟨c1, h1, n1.trans n2, d1.trans d2, ?_⟩
  rw [r1, r2, n2, List.count_cons]
  by_cases e : c.num = k
  ·rw [if_pos e]; simp [e]; omega
  ·have e' : ¬ k = c.num := fun q => e q.symm
   rw [if_neg e]; simp [e']
theorem incs_led (ks : List Nat) : ∀ (l : List CellD) (j : Nat), ledC (ks.foldl incC l) j = ledC l j := by
 induction ks with
 | nil => intro l j; rfl
 | cons k ks ih => intro l j; rw [List.foldl_cons, ih, inc_led]
theorem incs_asc (ks : List Nat) : ∀ {l : List CellD}, l.Pairwise (fun a b => a.num < b.num) → (ks.foldl incC l).Pairwise (fun a b => a.num < b.num) := by
 induction ks with
 | nil => intro l h; exact h
 | cons k ks ih => intro l h; exact ih (inc_asc k h)
theorem incs_length (ks : List Nat) : ∀ (l : List CellD), (ks.foldl incC l).length = l.length := by
 induction ks with
 | nil => intro l; rfl
 | cons k ks ih => intro l; rw [List.foldl_cons, ih]; unfold incC; rw [List.length_map]

/-- The new cell's node is the node that was put. -/
theorem newC_node (l : List CellD) (n : NodeD) (hw : n.wf) (hc : checkN n = 0) : decOk (newC l n).d ∧ (newC l n).node = n := by
 obtain ⟨h1, h2⟩ := dec_enc n hw hc
 have e : (newC l n).d = encN n := rfl
 unfold CellD.node
 rw [e, nodeL, if_pos h1]
 exact ⟨h1, h2⟩
theorem put_zero {h : HeapD} {n : NodeD} (hp : putE h n = 0) : checkN n = 0 ∧ toldN h.cells n = 0 ∧ (sameC h.cells (encN n) = none → freeC h.cells < h.size ∧ fullC h.cells (kidNums n) = false) := by
 unfold putE at hp
 by_cases h1 : checkN n ≠ 0
 ·rw [if_pos h1] at hp; exact absurd hp h1
 ·rw [if_neg h1] at hp
  by_cases h2 : toldN h.cells n ≠ 0
  ·rw [if_pos h2] at hp; exact absurd hp h2
  ·rw [if_neg h2] at hp
   refine ⟨by simpa using h1, by simpa using h2, fun hs => ?_⟩
   rw [hs] at hp
   simp only [Option.isSome_none, Bool.false_eq_true, if_false] at hp
   by_cases h3 : h.size ≤ freeC h.cells
   ·rw [if_pos h3] at hp; cases hp
   ·rw [if_neg h3] at hp
    refine ⟨by omega, ?_⟩
    cases hf : fullC h.cells (kidNums n) with
    | false => rfl
    | true => rw [hf] at hp; cases hp
theorem kids_named_n {n : NodeD} (hc : checkN n = 0) : (namedN n).map (·.1) = kidNums n := shaped_named n ((check_ok n).1 hc).1

theorem putL_right {h : HeapD} {n : NodeD} (r : RightH h) (hw : n.wf) (hp : putE h n = 0) (hs : sameC h.cells (encN n) = none) : RightH ⟨h.size, putL h.cells n⟩ := by
 obtain ⟨hc, ht, hx⟩ := put_zero hp
 obtain ⟨hfree, hfull⟩ := hx hs
 have i := right_inv r
 have hnd := newC_node h.cells n hw hc
 have hnum : (newC h.cells n).num = freeC h.cells := rfl
 have hnot : ∀ c ∈ h.cells, c.num ≠ freeC h.cells := free_not h.cells 2 r.asc (fun c hc => (r.ok c hc).2.1)
 have hkn := kids_named_n hc
 have hthere := (toldN_zero r.asc n).1 ht
 have hkin : ∀ k ∈ kidNums n, ∃ c ∈ h.cells, c.num = k := fun k hk => by
  rw [← hkn] at hk
  obtain ⟨x, hx, rfl⟩ := List.mem_map.1 hk
  obtain ⟨c, hc', hn, _⟩ := hthere x hx
  exact ⟨c, hc', hn⟩
 have hnk : (newC h.cells n).kids = kidNums n := by unfold CellD.kids; rw [hnd.2]
 have hcount0 : (kidNums n).count (freeC h.cells) = 0 := by
  rw [List.count_eq_zero]
  intro hk
  obtain ⟨c, hc', hn⟩ := hkin _ hk
  exact hnot c hc' hn
 have hled0 : ledC h.cells (freeC h.cells) = 0 := by
  unfold ledC
  rw [List.count_eq_zero]
  intro hk
  obtain ⟨c, hc', hk'⟩ := List.mem_flatMap.1 hk
  obtain ⟨e, he, hn⟩ := i.kid hc' hk'
  exact hnot e he hn
 have hthere' : ∀ x : Nat × List UInt8, (∃ c ∈ h.cells, c.num = x.1 ∧ c.hash = x.2) → ∃ c ∈ putL h.cells n, c.num = x.1 ∧ c.hash = x.2 := by
  rintro x ⟨c, hc', h1, h2⟩
  obtain ⟨e, he, n1, d1, _⟩ := incs_mem' (kidNums n) (l := insC h.cells (newC h.cells n)) (ins_mem.2 (.inr hc'))
  exact ⟨e, he, n1.trans h1, (data_eq d1).2.1.trans h2⟩
 have hmem : ∀ c ∈ putL h.cells n, (∃ c' ∈ h.cells, c.num = c'.num ∧ c.data = c'.data ∧ c.refs = c'.refs + ((kidNums n).count c'.num : Int)) ∨ (c.num = freeC h.cells ∧ c.data = (newC h.cells n).data ∧ c.refs = 0) := by
  intro c hc'
  obtain ⟨c1, h1, n1, d1, r1⟩ := incs_mem (kidNums n) hc'
  rcases ins_mem.1 h1 with rfl | h1
  ·right
   rw [hnum, hcount0] at r1
   exact ⟨n1, d1, by rw [r1]; rfl⟩
  ·exact .inl ⟨c1, h1, n1, d1, r1⟩
 have hledn : ∀ j, ledC (putL h.cells n) j = ledC h.cells j + (kidNums n).count j := fun j => by unfold putL; rw [incs_led, ins_led, hnk]
 refine inv_right r.lo r.hi ⟨incs_asc _ (ins_asc r.asc hnot), fun c hc' => ?_, fun c hc' x hx => ?_, fun c hc' => ?_, fun c hc' => ?_, by simp⟩
 ·rcases hmem c hc' with ⟨c', h1, n1, d1, _⟩ | ⟨n1, d1, _⟩
  ·rw [n1, (data_eq d1).2.2.2]; exact r.ok c' h1
  ·rw [n1, (data_eq d1).2.2.2]; exact ⟨hnd.1, free_ge _ _, hfree⟩
 ·rcases hmem c hc' with ⟨c', h1, n1, d1, _⟩ | ⟨n1, d1, _⟩
  ·rw [(data_eq d1).1] at hx
   exact hthere' x (i.there c' h1 x hx)
  ·rw [(data_eq d1).1, hnd.2] at hx
   exact hthere' x (hthere x hx)
 ·rw [hledn]
  rcases hmem c hc' with ⟨c', h1, n1, _, r1⟩ | ⟨n1, _, r1⟩
  ·rw [n1, r1]
   have := r.led c' h1
   simp; omega
  ·rw [n1, r1, hled0, hcount0]; simp
 ·rcases hmem c hc' with ⟨c', h1, n1, _, r1⟩ | ⟨n1, _, r1⟩
  ·rw [r1]
   by_cases hk : c'.num ∈ kidNums n
   ·unfold fullC at hfull
    rw [List.any_eq_false] at hfull
    have h2 := hfull c'.num hk
    rw [find_of r.asc h1] at h2
    simp only [decide_eq_true_eq] at h2
    omega
   ·rw [List.count_eq_zero.2 hk]
    have := r.most c' h1
    simpa using this
  ·rw [r1]; decide
theorem putH_right {h : HeapD} {n : NodeD} (r : RightH h) (hw : n.wf) : RightH (putH h n) := by
 unfold putH
 split
 ·next q => exact putL_right r hw q.1 q.2
 ·exact r

/-! ### Held once more; dropped -/
def holdE (h : HeapD) (k : Nat) : Int := match findC h.cells k with
 | none => 5
 | some c => if c.refs = 16777216 then 1 else 0
def holdH (h : HeapD) (k : Nat) : HeapD := if holdE h k = 0 then ⟨h.size, incC h.cells k⟩ else h
def dropE (h : HeapD) (k : Nat) : Int := match findC h.cells k with
 | none => 5
 | some c => if c.refs = (ledC h.cells c.num : Int) then 7 else 0
def dropH (h : HeapD) (k : Nat) : HeapD := if dropE h k = 0 then ⟨h.size, letF (h.cells.length + 1) h.cells k⟩ else h
def sweepH (h : HeapD) : HeapD := ⟨h.size, sweepF h.cells.length h.cells⟩
theorem hold_zero {h : HeapD} {k : Nat} (he : holdE h k = 0) : ∃ c ∈ h.cells, c.num = k ∧ c.refs ≠ 16777216 := by
 unfold holdE at he
 cases hf : findC h.cells k with
 | none => rw [hf] at he; cases he
 | some c =>
  rw [hf] at he
  obtain ⟨hc, hn⟩ := find_mem hf
  refine ⟨c, hc, hn, fun q => ?_⟩
  simp only [q, if_true] at he
  cases he
theorem holdH_right {h : HeapD} {k : Nat} (r : RightH h) : RightH (holdH h k) := by
 unfold holdH
 split
 ·next he =>
  obtain ⟨c, hc, hn, hr⟩ := hold_zero he
  have i := right_inv r
  refine inv_right r.lo r.hi ⟨inc_asc k r.asc, fun d hd => ?_, fun d hd x hx => ?_, fun d hd => ?_, fun d hd => ?_, by simp⟩
  ·obtain ⟨d', h1, n1, d1, _⟩ := inc_mem hd
   rw [n1, (data_eq d1).2.2.2]; exact r.ok d' h1
  ·obtain ⟨d', h1, n1, d1, _⟩ := inc_mem hd
   rw [(data_eq d1).1] at hx
   obtain ⟨e, he, k1, k2⟩ := i.there d' h1 x hx
   obtain ⟨e', he', n2, d2, _⟩ := inc_mem' (k := k) he
   exact ⟨e', he', n2.trans k1, (data_eq d2).2.1.trans k2⟩
  ·obtain ⟨d', h1, n1, _, r1⟩ := inc_mem hd
   rw [inc_led, n1, r1]
   have := r.led d' h1
   split <;> simp <;> omega
  ·obtain ⟨d', h1, n1, _, r1⟩ := inc_mem hd
   rw [r1]
   have h2 := r.most d' h1
   split
   ·next e =>
    have := asc_inj r.asc h1 hc (e.trans hn.symm)
    subst this
    omega
   ·exact h2
 ·exact r
theorem drop_zero {h : HeapD} {k : Nat} (he : dropE h k = 0) : ∃ c ∈ h.cells, c.num = k ∧ c.refs ≠ (ledC h.cells c.num : Int) := by
 unfold dropE at he
 cases hf : findC h.cells k with
 | none => rw [hf] at he; cases he
 | some c =>
  rw [hf] at he
  obtain ⟨hc, hn⟩ := find_mem hf
  refine ⟨c, hc, hn, fun q => ?_⟩
  simp only [] at he
  rw [if_pos q] at he
  cases he
theorem drop_inv {h : HeapD} {k : Nat} (r : RightH h) (he : dropE h k = 0) : InvC h.size h.cells [k] := by
 obtain ⟨c, hc, hn, hr⟩ := drop_zero he
 have i := right_inv r
 refine ⟨i.asc, i.ok, i.there, fun d hd => ?_, i.most, fun j hj => ?_⟩
 ·have h1 := r.led d hd
  by_cases e : d.num = k
  ·have := asc_inj r.asc hd hc (e.trans hn.symm)
   subst this
   subst e
   simp; omega
  ·have e' : ¬ k = d.num := fun q => e q.symm
   simp [e']; omega
 ·have : j = k := by simpa using hj
  subst this
  exact ⟨c, hc, hn⟩
theorem dropH_right {h : HeapD} {k : Nat} (r : RightH h) : RightH (dropH h k) := by
 unfold dropH
 split
 ·next he => exact inv_right r.lo r.hi (inv_let _ _ _ [] h.size (Nat.lt_succ_self _) (drop_inv r he)).1
 ·exact r
theorem sweepH_right {h : HeapD} (r : RightH h) : RightH (sweepH h) := inv_right r.lo r.hi (sweep_all _ _ h.size (Nat.le_refl _) (right_inv r)).1

/-! ### How often a cell is held -/
def heldC (h : HeapD) (c : CellD) : Int := c.refs - (ledC h.cells c.num : Int)
theorem held_slack (h : HeapD) (c : CellD) : slackC h.cells [] c = heldC h c := by unfold slackC heldC; simp

end Go.Proofs.YtimkklaidodkdaaGreatDoor
