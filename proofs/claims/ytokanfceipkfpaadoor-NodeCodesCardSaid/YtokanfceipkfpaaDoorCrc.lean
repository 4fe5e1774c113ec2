/- The check sum, plainly: what pack.Sum computes (crc), what the document's answer computes (crcRef); that they are one; that it is linear, blind to leading zeros, and tells each turned bit. No program. -/
import Derived.Test.YtokanfceipkfpaaDoorBits
namespace Go.Proofs.YtokanfceipkfpaaDoor

def crcBit (s : BitVec 32) : BitVec 32 := (s <<< 1) ^^^ (2168537515#32 &&& -(s >>> 31))
def crcN : Nat → BitVec 32 → BitVec 32
  | 0, s => s
  | k + 1, s => crcBit (crcN k s)
def crcByte (s : BitVec 32) (c : UInt8) : BitVec 32 := crcN 8 (s ^^^ (w8 c <<< 24))
def crcFrom (s : BitVec 32) (l : List UInt8) : BitVec 32 := l.foldl crcByte s
def crc (l : List UInt8) : BitVec 32 := crcFrom 0#32 l

theorem crcFrom_snoc (s : BitVec 32) (l : List UInt8) (c : UInt8) : crcFrom s (l ++ [c]) = crcByte (crcFrom s l) c := by
  simp [crcFrom]
theorem crcFrom_append (s : BitVec 32) (l m : List UInt8) : crcFrom s (l ++ m) = crcFrom (crcFrom s l) m := by
  simp [crcFrom]

/-- The document's step: doubled, and the polynomial taken in if the high bit was set. -/
def refBit (s : BitVec 32) : BitVec 32 := if 2147483648 ≤ s.toNat then (s <<< 1) ^^^ 2168537515#32 else s <<< 1

theorem shr31 (s : BitVec 32) : s >>> 31 = if 2147483648 ≤ s.toNat then 1#32 else 0#32 := by
  apply BitVec.eq_of_toNat_eq
  rw [BitVec.toNat_ushiftRight, Nat.shiftRight_eq_div_pow]
  have := s.isLt
  split <;> simp <;> omega

theorem crcBit_ref (s : BitVec 32) : crcBit s = refBit s := by
  unfold crcBit refBit
  rw [shr31]
  split
  · congr 1
  · simp

theorem crcBit_xor (a b : BitVec 32) : crcBit (a ^^^ b) = crcBit a ^^^ crcBit b := by
  rw [crcBit_ref, crcBit_ref, crcBit_ref]
  have hx : ∀ s : BitVec 32, (2147483648 ≤ s.toNat) ↔ s.msb = true := fun s => by
    rw [BitVec.msb_eq_decide]; simp
  unfold refBit
  simp only [hx, BitVec.msb_xor]
  cases a.msb <;> cases b.msb <;> simp [BitVec.shiftLeft_xor_distrib]
  · rw [BitVec.xor_assoc]
  · rw [BitVec.xor_assoc, BitVec.xor_assoc, BitVec.xor_comm 2168537515#32]
  · rw [← BitVec.xor_assoc, BitVec.xor_assoc (a <<< 1), BitVec.xor_comm 2168537515#32 (b <<< 1), ← BitVec.xor_assoc, BitVec.xor_assoc, BitVec.xor_self, BitVec.xor_zero]

theorem crcN_xor (k : Nat) (a b : BitVec 32) : crcN k (a ^^^ b) = crcN k a ^^^ crcN k b := by
  induction k with
  | zero => rfl
  | succ k ih => simp only [crcN, ih, crcBit_xor]

theorem crcBit_zero : crcBit 0#32 = 0#32 := by decide
theorem crcN_zero (k : Nat) : crcN k 0#32 = 0#32 := by
  induction k with
  | zero => rfl
  | succ k ih => simp only [crcN, ih, crcBit_zero]

/-- A bit's step loses nothing: the polynomial is odd. -/
theorem crcBit_ne (s : BitVec 32) (h : s ≠ 0#32) : crcBit s ≠ 0#32 := by
  intro e
  rw [crcBit_ref] at e
  unfold refBit at e
  split at e
  · have e1 : (s <<< 1) = 2168537515#32 := by
      have := congrArg (fun z => z ^^^ 2168537515#32) e
      simpa [BitVec.xor_assoc] using this
    have := congrArg (fun z : BitVec 32 => z.getLsbD 0) e1
    simp at this
  · rename_i hm
    apply h
    apply BitVec.eq_of_toNat_eq
    have := congrArg BitVec.toNat e
    rw [BitVec.toNat_shiftLeft, Nat.shiftLeft_eq] at this
    have := s.isLt
    simp at *
    omega
theorem crcN_ne (k : Nat) (s : BitVec 32) (h : s ≠ 0#32) : crcN k s ≠ 0#32 := by
  induction k with
  | zero => exact h
  | succ k ih => exact crcBit_ne _ ih

theorem w8_xor (a b : UInt8) : w8 (a ^^^ b) = w8 a ^^^ w8 b := by
  unfold w8
  apply BitVec.eq_of_toNat_eq
  have h1 := a.toNat_lt
  have h2 := b.toNat_lt
  have h3 := (a ^^^ b).toNat_lt
  rw [BitVec.toNat_xor, BitVec.toNat_ofNat, BitVec.toNat_ofNat, BitVec.toNat_ofNat, Nat.mod_eq_of_lt (by omega), Nat.mod_eq_of_lt (by omega), Nat.mod_eq_of_lt (by omega)]
  simp

theorem xor4 (a b c d : BitVec 32) : (a ^^^ b) ^^^ (c ^^^ d) = (a ^^^ c) ^^^ (b ^^^ d) := by
  rw [BitVec.xor_assoc, ← BitVec.xor_assoc b, BitVec.xor_comm b c, BitVec.xor_assoc c, ← BitVec.xor_assoc]

theorem crcByte_xor (s t : BitVec 32) (a b : UInt8) : crcByte (s ^^^ t) (a ^^^ b) = crcByte s a ^^^ crcByte t b := by
  unfold crcByte
  rw [← crcN_xor, w8_xor, BitVec.shiftLeft_xor_distrib, xor4]

theorem crcByte_zero : crcByte 0#32 0 = 0#32 := by
  have : (0#32 ^^^ (w8 0 <<< 24)) = 0#32 := by decide
  unfold crcByte; rw [this, crcN_zero]

theorem crcFrom_xor (l : List UInt8) : ∀ (m : List UInt8) (s t : BitVec 32), l.length = m.length →
    crcFrom (s ^^^ t) (List.zipWith (· ^^^ ·) l m) = crcFrom s l ^^^ crcFrom t m := by
  induction l with
  | nil => intro m s t h; cases m with
    | nil => rfl
    | cons _ _ => simp at h
  | cons c l ih => intro m s t h; cases m with
    | nil => simp at h
    | cons d m =>
      simp only [List.zipWith_cons_cons, crcFrom, List.foldl_cons]
      rw [crcByte_xor]
      exact ih m _ _ (by simpa using h)

theorem crc_xor (l m : List UInt8) (h : l.length = m.length) : crc (List.zipWith (· ^^^ ·) l m) = crc l ^^^ crc m := by
  have := crcFrom_xor l m 0#32 0#32 h
  simpa [crc] using this

theorem crc_zeros (n : Nat) : crc (List.replicate n 0) = 0#32 := by
  induction n with
  | zero => rfl
  | succ n ih => rw [List.replicate_succ', crc, crcFrom_snoc]; rw [crc] at ih; rw [ih, crcByte_zero]

theorem crc_leading (n : Nat) (l : List UInt8) : crc (List.replicate n 0 ++ l) = crc l := by
  have := crc_zeros n
  rw [crc] at this
  rw [crc, crcFrom_append, this, crc]

theorem w8_ne (c : UInt8) (h : c ≠ 0) : (w8 c <<< 24) ≠ 0#32 := by
  intro e
  apply h
  have := congrArg BitVec.toNat e
  unfold w8 at this
  have hc := c.toNat_lt
  rw [BitVec.toNat_shiftLeft, Nat.shiftLeft_eq, BitVec.toNat_ofNat] at this
  simp at this
  apply UInt8.toNat_inj.1
  simp
  omega

theorem crcFrom_ne (l : List UInt8) : ∀ s : BitVec 32, s ≠ 0#32 → crcFrom s (l.map fun _ => 0) ≠ 0#32 := by
  induction l with
  | nil => intro s h; exact h
  | cons c l ih =>
    intro s h
    simp only [List.map_cons, crcFrom, List.foldl_cons]
    apply ih
    unfold crcByte
    have : (w8 0 <<< 24) = 0#32 := by decide
    rw [this, BitVec.xor_zero]
    exact crcN_ne 8 s h

/-- One byte turned: another sum. -/
theorem crc_turned (l m : List UInt8) (a b : UInt8) (h : a ≠ b) : crc (l ++ a :: m) ≠ crc (l ++ b :: m) := by
  intro e
  have hx : crc (l ++ a :: m) ^^^ crc (l ++ b :: m) = 0#32 := by rw [e, BitVec.xor_self]
  rw [← crc_xor _ _ (by simp)] at hx
  rw [List.zipWith_append (by rfl)] at hx
  have hz : ∀ q : List UInt8, List.zipWith (· ^^^ ·) q q = q.map fun _ => 0 := fun q => by
    induction q with
    | nil => rfl
    | cons c q ih => simp
  simp only [List.zipWith_cons_cons, hz] at hx
  have hr : (l.map fun _ => (0 : UInt8)) = List.replicate l.length 0 := List.map_const' ..
  rw [hr, crc_leading] at hx
  have hs : crc ((a ^^^ b) :: m.map fun _ => 0) = crcFrom (crcByte 0#32 (a ^^^ b)) (m.map fun _ => 0) := by simp [crc, crcFrom]
  rw [hs] at hx
  refine crcFrom_ne m _ ?_ hx
  unfold crcByte
  rw [BitVec.zero_xor]
  refine crcN_ne 8 _ (w8_ne _ ?_)
  intro e0
  apply h
  have := congrArg (fun z => z ^^^ b) e0
  simpa [UInt8.xor_assoc] using this

end Go.Proofs.YtokanfceipkfpaaDoor
