/- Numbers as bytes, the highest first: plainly. beL: a number's bytes of a width; ofBE: the number that bytes are; there and back, order, leading zeros. No program. -/
import Derived.Laws.BitsLemmas
import Derived.Lib.BitFns
import Derived.Lib.Strings
import GoSem.Op.String
namespace Go.Proofs.YtokanfceipkfpaaDoor

def beL (n : Nat) : Nat → List UInt8
  | 0 => []
  | k + 1 => UInt8.ofNat (n / 256 ^ k) :: beL n k
def ofBE (l : List UInt8) : Nat := l.foldl (fun a c => a * 256 + c.toNat) 0

theorem beL_length (n k : Nat) : (beL n k).length = k := by
  induction k with
  | zero => rfl
  | succ k ih => simp [beL, ih]

theorem pow256_pos (k : Nat) : 0 < 256 ^ k := Nat.pow_pos (by decide)
theorem pow256_succ (k : Nat) : 256 ^ (k + 1) = 256 ^ k * 256 := Nat.pow_succ ..

theorem byte_toNat (n : Nat) : (UInt8.ofNat n).toNat = n % 256 := UInt8.toNat_ofNat'

theorem foldBE (n k : Nat) : ∀ a, (beL n k).foldl (fun a c => a * 256 + c.toNat) a = a * 256 ^ k + n % 256 ^ k := by
  induction k with
  | zero => intro a; simp [beL, Nat.mod_one]
  | succ k ih =>
    intro a
    simp only [beL, List.foldl_cons, ih, byte_toNat]
    rw [Nat.mod_pow_succ, pow256_succ, Nat.add_mul, Nat.mul_assoc, Nat.mul_comm 256 (256 ^ k), Nat.mul_comm (n / 256 ^ k % 256)]
    omega
theorem ofBE_beL (n k : Nat) : ofBE (beL n k) = n % 256 ^ k := by unfold ofBE; rw [foldBE]; omega

theorem ofBE_from (l : List UInt8) : ∀ a, l.foldl (fun a c => a * 256 + c.toNat) a = a * 256 ^ l.length + ofBE l := by
  induction l with
  | nil => intro a; simp [ofBE]
  | cons c l ih =>
    intro a
    have h0 := ih c.toNat
    have h1 := ih (a * 256 + c.toNat)
    simp only [ofBE, List.foldl_cons, List.length_cons, Nat.zero_mul, Nat.zero_add, pow256_succ] at *
    rw [h1, h0, Nat.add_mul, Nat.mul_assoc, Nat.mul_comm 256 (256 ^ l.length)]
    omega
theorem ofBE_cons (c : UInt8) (l : List UInt8) : ofBE (c :: l) = c.toNat * 256 ^ l.length + ofBE l := by
  have := ofBE_from l c.toNat
  simp only [ofBE, List.foldl_cons, Nat.zero_mul, Nat.zero_add] at *
  exact this
theorem ofBE_snoc (l : List UInt8) (c : UInt8) : ofBE (l ++ [c]) = ofBE l * 256 + c.toNat := by simp [ofBE]
theorem ofBE_lt (l : List UInt8) : ofBE l < 256 ^ l.length := by
  induction l with
  | nil => simp [ofBE]
  | cons c l ih =>
    rw [ofBE_cons, List.length_cons, pow256_succ]
    have hc := c.toNat_lt
    have : c.toNat * 256 ^ l.length ≤ 255 * 256 ^ l.length := Nat.mul_le_mul_right _ (by omega)
    omega

theorem beL_mod (n k : Nat) : ∀ m, n % 256 ^ k = m % 256 ^ k → beL n k = beL m k := by
  induction k with
  | zero => intro m _; rfl
  | succ k ih =>
    intro m h
    rw [Nat.mod_pow_succ, Nat.mod_pow_succ] at h
    have h1 : n % 256 ^ k = m % 256 ^ k := by
      have := congrArg (· % 256 ^ k) h
      simpa [Nat.add_mul_mod_self_left] using this
    have h2 : n / 256 ^ k % 256 = m / 256 ^ k % 256 := by
      rw [h1] at h
      exact Nat.eq_of_mul_eq_mul_left (pow256_pos k) (by omega)
    have h3 : UInt8.ofNat (n / 256 ^ k) = UInt8.ofNat (m / 256 ^ k) := by
      apply UInt8.toNat_inj.1; rw [byte_toNat, byte_toNat, h2]
    simp only [beL, h3, ih m h1]

theorem beL_ofBE (l : List UInt8) : beL (ofBE l) l.length = l := by
  induction l with
  | nil => rfl
  | cons c l ih =>
    have hlt := ofBE_lt l
    have hp := pow256_pos l.length
    have e1 : ofBE (c :: l) / 256 ^ l.length = c.toNat := by
      rw [ofBE_cons, Nat.mul_comm, Nat.mul_add_div hp, Nat.div_eq_of_lt hlt]; omega
    have e2 : beL (ofBE (c :: l)) l.length = beL (ofBE l) l.length := beL_mod _ _ _ (by
      rw [ofBE_cons, Nat.mul_comm, Nat.mul_add_mod])
    simp only [List.length_cons, beL, e1, e2, ih]
    congr 1
    apply UInt8.toNat_inj.1
    rw [byte_toNat]
    have := c.toNat_lt
    omega

theorem beL_inj (a b k : Nat) (ha : a < 256 ^ k) (hb : b < 256 ^ k) (h : beL a k = beL b k) : a = b := by
  have := congrArg ofBE h
  rw [ofBE_beL, ofBE_beL, Nat.mod_eq_of_lt ha, Nat.mod_eq_of_lt hb] at this
  exact this

theorem beL_wide (n a j : Nat) (h : n < 256 ^ a) : beL n (a + j) = List.replicate j 0 ++ beL n a := by
  induction j with
  | zero => simp
  | succ j ih =>
    have : n / 256 ^ (a + j) = 0 := Nat.div_eq_of_lt (Nat.lt_of_lt_of_le h (Nat.pow_le_pow_right (by decide) (by omega)))
    rw [← Nat.add_assoc, beL, this, ih, List.replicate_succ]
    rfl

theorem bytesLess_beL (k : Nat) : ∀ a b, a < 256 ^ k → b < 256 ^ k → Op.bytesLess (beL a k) (beL b k) = decide (a < b) := by
  induction k with
  | zero => intro a b ha hb; simp at ha hb; simp [beL, Op.bytesLess, ha, hb]
  | succ k ih =>
    intro a b ha hb
    have hp := pow256_pos k
    rw [pow256_succ] at ha hb
    have ha' : a / 256 ^ k < 256 := Nat.div_lt_of_lt_mul (by omega)
    have hb' : b / 256 ^ k < 256 := Nat.div_lt_of_lt_mul (by omega)
    have hma := Nat.mod_lt a hp
    have hmb := Nat.mod_lt b hp
    have ea := beL_mod a k (a % 256 ^ k) (by rw [Nat.mod_mod])
    have eb := beL_mod b k (b % 256 ^ k) (by rw [Nat.mod_mod])
    have hih := ih (a % 256 ^ k) (b % 256 ^ k) hma hmb
    simp only [beL, Op.bytesLess]
    rw [ea, eb, hih]
    have da := Nat.div_add_mod a (256 ^ k)
    have db := Nat.div_add_mod b (256 ^ k)
    have l1 : (UInt8.ofNat (a / 256 ^ k) < UInt8.ofNat (b / 256 ^ k)) ↔ a / 256 ^ k < b / 256 ^ k := by
      rw [UInt8.lt_iff_toNat_lt, byte_toNat, byte_toNat, Nat.mod_eq_of_lt ha', Nat.mod_eq_of_lt hb']
    have l2 : (UInt8.ofNat (a / 256 ^ k) == UInt8.ofNat (b / 256 ^ k)) = decide (a / 256 ^ k = b / 256 ^ k) := by
      rw [Bool.eq_iff_iff, beq_iff_eq, decide_eq_true_iff]
      constructor
      · intro e
        have := congrArg UInt8.toNat e
        rwa [byte_toNat, byte_toNat, Nat.mod_eq_of_lt ha', Nat.mod_eq_of_lt hb'] at this
      · intro e; rw [e]
    simp only [l1, l2]
    generalize a / 256 ^ k = qa at *
    generalize b / 256 ^ k = qb at *
    generalize a % 256 ^ k = ra at *
    generalize b % 256 ^ k = rb at *
    generalize 256 ^ k = P at *
    rw [Bool.eq_iff_iff]
    simp only [Bool.or_eq_true, Bool.and_eq_true, decide_eq_true_eq]
    rcases Nat.lt_trichotomy qa qb with h | h | h
    · have : P * (qa + 1) ≤ P * qb := Nat.mul_le_mul_left _ h
      rw [Nat.mul_add] at this
      constructor
      · intro _; omega
      · intro _; exact .inl h
    · subst h
      constructor
      · rintro (h | ⟨_, h⟩) <;> omega
      · intro h; exact .inr ⟨rfl, by omega⟩
    · have : P * (qb + 1) ≤ P * qa := Nat.mul_le_mul_left _ h
      rw [Nat.mul_add] at this
      constructor
      · rintro (h' | ⟨h', _⟩) <;> omega
      · intro _; omega

theorem bitLen_fits (n k : Nat) (hk : k ≤ 8) (hn : n < 18446744073709551616) : Lib.bitLen n ≤ 8 * k ↔ n < 256 ^ k := by
  have e : 256 ^ k = 2 ^ (8 * k) := by rw [Nat.pow_mul]
  rw [e]
  constructor
  · intro h
    by_cases hz : n < 2 ^ (8 * k)
    · exact hz
    · exfalso
      have := Lib.bitLen_shift (8 * k) n (by omega) (by simpa using hn)
      have hq : Lib.bitLen (n / 2 ^ (8 * k)) = 0 := by omega
      have hpos : 0 < n / 2 ^ (8 * k) := Nat.div_pos (by omega) (Nat.two_pow_pos _)
      have hlt : n / 2 ^ (8 * k) < 2 ^ 64 := Nat.lt_of_le_of_lt (Nat.div_le_self ..) (by simpa using hn)
      have := Lib.bitLen_half (n / 2 ^ (8 * k)) (by omega) hlt
      omega
  · intro h
    exact Lib.bitLen_le n (8 * k) (by omega) h

/-- A number's bytes of a width, as a string. -/
def beN (n k : Nat) : ByteArray := ⟨(beL n k).toArray⟩
theorem beN_data (n k : Nat) : (beN n k).data.toList = beL n k := rfl
theorem beN_size (n k : Nat) : (beN n k).size = k := by show (beL n k).toArray.size = k; simp [beL_length]

/-- What TakeNumber tells: the number, what is left, why not. -/
def tkOk (s : ByteArray) (x : Int) : Prop := 1 ≤ x ∧ x ≤ 8 ∧ x ≤ s.size
instance (s : ByteArray) (x : Int) : Decidable (tkOk s x) := inferInstanceAs (Decidable (_ ∧ _ ∧ _))
def tkN (s : ByteArray) (x : Int) : Nat := if tkOk s x then ofBE (s.data.toList.take x.toNat) else 0
def tkS (s : ByteArray) (x : Int) : ByteArray := if tkOk s x then s.extract x.toNat s.size else ⟨#[]⟩
def tkE (s : ByteArray) (x : Int) : Int := if tkOk s x then 0 else if 1 ≤ x ∧ x ≤ 8 then 3 else 1

theorem tkN_lt (s : ByteArray) (x : Int) : tkN s x < 18446744073709551616 := by
  unfold tkN
  split
  · rename_i h
    have h1 := ofBE_lt (s.data.toList.take x.toNat)
    have h2 : (s.data.toList.take x.toNat).length ≤ 8 := by rw [List.length_take]; have := h.2.1; omega
    have h3 : 256 ^ (s.data.toList.take x.toNat).length ≤ 256 ^ 8 := Nat.pow_le_pow_right (by decide) h2
    have h4 : (256 : Nat) ^ 8 = 18446744073709551616 := by decide
    omega
  · decide

theorem tkN_lt2 (s : ByteArray) : tkN s 2 < 65536 := by
  unfold tkN
  split
  · have h1 := ofBE_lt (s.data.toList.take (2 : Int).toNat)
    have h2 : (s.data.toList.take (2 : Int).toNat).length ≤ 2 := by rw [List.length_take]; have : (2 : Int).toNat = 2 := rfl; omega
    have h3 : 256 ^ (s.data.toList.take (2 : Int).toNat).length ≤ 256 ^ 2 := Nat.pow_le_pow_right (by decide) h2
    have h4 : (256 : Nat) ^ 2 = 65536 := by decide
    omega
  · decide

/-- A text's bytes; what TakeText tells. -/
def txtS (t : ByteArray) : ByteArray := if t.size ≤ 65535 then beN t.size 2 ++ t else ⟨#[]⟩
def txtE (t : ByteArray) : Int := if t.size ≤ 65535 then 0 else 2
def ttOk (s : ByteArray) : Prop := tkOk s 2 ∧ tkN s 2 ≤ (tkS s 2).size
instance (s : ByteArray) : Decidable (ttOk s) := inferInstanceAs (Decidable (_ ∧ _))
def ttT (s : ByteArray) : ByteArray := if ttOk s then (tkS s 2).extract 0 (tkN s 2) else ⟨#[]⟩
def ttR (s : ByteArray) : ByteArray := if ttOk s then (tkS s 2).extract (tkN s 2) (tkS s 2).size else ⟨#[]⟩
def ttE (s : ByteArray) : Int := if ttOk s then 0 else 3

end Go.Proofs.YtokanfceipkfpaaDoor
