/- Digits of a hash, plainly. No program. -/
import Derived.Laws.BitsLemmas
import GoSem.Op.String
import Derived.Lib.Strings
namespace Go.Proofs.Ytjbnnfdhmpeoeaa

def hexDig (n : Nat) : UInt8 := UInt8.ofNat (if n < 10 then 48 + n else 87 + n)
def hexL : List UInt8 → List UInt8
  | [] => []
  | c :: l => hexDig (c.toNat / 16) :: hexDig (c.toNat % 16) :: hexL l
theorem hexL_snoc (l : List UInt8) (c : UInt8) : hexL (l ++ [c]) = hexL l ++ [hexDig (c.toNat / 16), hexDig (c.toNat % 16)] := by
  induction l with
  | nil => rfl
  | cons d l ih => simp [hexL, ih]
theorem hexL_length (l : List UInt8) : (hexL l).length = 2 * l.length := by
  induction l with
  | nil => rfl
  | cons c l ih => simp only [hexL, List.length_cons, ih]; omega
def hexS (l : List UInt8) : ByteArray := ⟨(hexL l).toArray⟩
theorem hexS_data (l : List UInt8) : (hexS l).data.toList = hexL l := rfl
theorem hexS_size (l : List UInt8) : (hexS l).size = 2 * l.length := by show (hexL l).toArray.size = _; simp [hexL_length]

/-- A digit's value. -/
def isDig (b : UInt8) : Bool := (48 ≤ b.toNat && b.toNat ≤ 57) || (97 ≤ b.toNat && b.toNat ≤ 102)
def digV (b : UInt8) : Nat := if b.toNat ≤ 57 then b.toNat - 48 else b.toNat - 87
theorem digV_lt (b : UInt8) (h : isDig b = true) : digV b < 16 := by
  unfold isDig at h; unfold digV
  simp only [Bool.or_eq_true, Bool.and_eq_true, decide_eq_true_eq] at h
  split <;> omega
theorem hexDig_toNat (n : Nat) (h : n < 16) : (hexDig n).toNat = if n < 10 then 48 + n else 87 + n := by
  unfold hexDig
  split <;> (rw [UInt8.toNat_ofNat']; omega)
theorem hexDig_is (n : Nat) (h : n < 16) : isDig (hexDig n) = true := by
  unfold isDig; rw [hexDig_toNat n h]
  simp only [Bool.or_eq_true, Bool.and_eq_true, decide_eq_true_eq]
  split <;> omega
theorem digV_hexDig (n : Nat) (h : n < 16) : digV (hexDig n) = n := by
  unfold digV; rw [hexDig_toNat n h]
  split <;> split <;> omega
theorem hexDig_digV (b : UInt8) (h : isDig b = true) : hexDig (digV b) = b := by
  apply UInt8.toNat_inj.1
  rw [hexDig_toNat _ (digV_lt b h)]
  unfold isDig at h; unfold digV
  simp only [Bool.or_eq_true, Bool.and_eq_true, decide_eq_true_eq] at h
  split <;> split <;> omega

/-- What digits are read as, two by two. -/
def unhex : List UInt8 → List UInt8
  | a :: b :: l => UInt8.ofNat (digV a * 16 + digV b) :: unhex l
  | _ => []
theorem unhex_hexL (l : List UInt8) : unhex (hexL l) = l := by
  induction l with
  | nil => rfl
  | cons c l ih =>
    have hc := c.toNat_lt
    simp only [hexL, unhex, ih]
    rw [digV_hexDig _ (by omega), digV_hexDig _ (by omega)]
    congr 1
    apply UInt8.toNat_inj.1
    rw [UInt8.toNat_ofNat']
    omega
theorem hexL_digits (l : List UInt8) : (hexL l).all isDig = true := by
  induction l with
  | nil => rfl
  | cons c l ih =>
    have hc := c.toNat_lt
    simp only [hexL, List.all_cons, hexDig_is _ (show c.toNat / 16 < 16 by omega), hexDig_is _ (show c.toNat % 16 < 16 by omega), ih, Bool.and_self]
theorem hexL_unhex : ∀ (n : Nat) (l : List UInt8), l.length = 2 * n → l.all isDig = true → hexL (unhex l) = l
  | 0, l, hl, _ => by
    have : l = [] := List.length_eq_zero_iff.1 (by omega)
    subst this; rfl
  | n + 1, l, hl, h => by
    match l, hl, h with
    | a :: b :: l, hl, h =>
      simp only [List.all_cons, Bool.and_eq_true] at h
      obtain ⟨ha, hb, h⟩ := h
      have ih := hexL_unhex n l (by simp at hl; omega) h
      have h1 := digV_lt a ha
      have h2 := digV_lt b hb
      simp only [unhex, hexL, ih]
      have e : (UInt8.ofNat (digV a * 16 + digV b)).toNat = digV a * 16 + digV b := by rw [UInt8.toNat_ofNat']; omega
      rw [e]
      have e1 : (digV a * 16 + digV b) / 16 = digV a := by omega
      have e2 : (digV a * 16 + digV b) % 16 = digV b := by omega
      rw [e1, e2, hexDig_digV a ha, hexDig_digV b hb]
theorem unhex_length : ∀ (n : Nat) (l : List UInt8), l.length = 2 * n → (unhex l).length = n
  | 0, l, hl => by
    have : l = [] := List.length_eq_zero_iff.1 (by omega)
    subst this; rfl
  | n + 1, l, hl => by
    match l, hl with
    | a :: b :: l, hl => simp only [unhex, List.length_cons, unhex_length n l (by simp at hl; omega)]

/-- What Parse tells. -/
def parseOk (s : ByteArray) : Bool := s.size == 64 && s.data.toList.all isDig
def parseH (s : ByteArray) : List UInt8 := if parseOk s then unhex s.data.toList else List.replicate 32 0
def parseE (s : ByteArray) : Int := if parseOk s then 0 else 4
theorem parseH_length (s : ByteArray) : (parseH s).length = 32 := by
  unfold parseH
  split
  · rename_i h
    unfold parseOk at h
    simp only [Bool.and_eq_true, beq_iff_eq] at h
    exact unhex_length 32 _ (by rw [Array.length_toList]; exact h.1)
  · simp

end Go.Proofs.Ytjbnnfdhmpeoeaa
