/- How a row of bytes is made of digits, one by one: plainly. No program. -/
import Derived.Test.YtjbnnfdhmpeoeaaHexPure
namespace Go.Proofs.Ytjbnnfdhmpeoeaa

/-- The bytes that i digits have made. -/
def rowTo (l : List UInt8) : Nat → List UInt8
  | 0 => List.replicate 32 0
  | i + 1 => (rowTo l i).set (i / 2) (UInt8.ofNat (((rowTo l i).getD (i / 2) 0).toNat * 16 % 256 ||| digV (l.getD i 0)))
theorem rowTo_length (l : List UInt8) (i : Nat) : (rowTo l i).length = 32 := by
  induction i with
  | zero => simp [rowTo]
  | succ i ih => simp [rowTo, ih]

def pairV (l : List UInt8) (k : Nat) : UInt8 := UInt8.ofNat (digV (l.getD (2 * k) 0) * 16 + digV (l.getD (2 * k + 1) 0))

theorem unhex_get : ∀ (n : Nat) (l : List UInt8) (k : Nat), l.length = 2 * n → k < n → (unhex l).getD k 0 = pairV l k
  | 0, _, _, _, h => absurd h (by omega)
  | n + 1, l, k, hl, hk => by
    match l, hl with
    | a :: b :: l, hl =>
      cases k with
      | zero => rfl
      | succ k =>
        have := unhex_get n l k (by simp at hl; omega) (by omega)
        simp only [unhex, List.getD_cons_succ, this]
        unfold pairV
        have e : 2 * (k + 1) = (2 * k + 1) + 1 := by omega
        rw [e, List.getD_cons_succ, List.getD_cons_succ, List.getD_cons_succ, List.getD_cons_succ]

theorem or_dig (a b : Nat) (ha : a < 16) (hb : b < 16) : a * 16 % 256 ||| b = a * 16 + b := by
  have e : a * 16 % 256 = 2 ^ 4 * a := by omega
  rw [e, ← Nat.two_pow_add_eq_or_of_lt (by omega)]
  omega

theorem getD_set (l : List UInt8) (i k : Nat) (x : UInt8) (hi : i < l.length) : (l.set i x).getD k 0 = if k = i then x else l.getD k 0 := by
  simp only [List.getD_eq_getElem?_getD, List.getElem?_set]
  by_cases h : k = i
  · subst h; simp [hi]
  · rw [if_neg h, if_neg (fun e => h e.symm)]

theorem rowTo_get (l : List UInt8) (hd : ∀ j, j < 64 → isDig (l.getD j 0) = true) : ∀ m, m ≤ 32 → ∀ k, k < 32 → (rowTo l (2 * m)).getD k 0 = if k < m then pairV l k else 0 := by
  intro m
  induction m with
  | zero =>
    intro _ k hk
    show (List.replicate 32 0).getD k 0 = _
    rw [List.getD_eq_getElem?_getD, List.getElem?_replicate, if_pos hk, if_neg (by omega)]
    rfl
  | succ m ih =>
    intro hm k hk
    have ih := ih (by omega)
    have ha := digV_lt _ (hd (2 * m) (by omega))
    have hb := digV_lt _ (hd (2 * m + 1) (by omega))
    have e0 : 2 * m / 2 = m := by omega
    have e1 : (2 * m + 1) / 2 = m := by omega
    have l0 := rowTo_length l (2 * m)
    show (rowTo l (2 * m + 1 + 1)).getD k 0 = _
    have r1 : rowTo l (2 * m + 1) = (rowTo l (2 * m)).set m (UInt8.ofNat (digV (l.getD (2 * m) 0))) := by
      show (rowTo l (2 * m)).set (2 * m / 2) _ = _
      rw [e0, ih m (by omega), if_neg (by omega)]
      simp
    have g1 : (rowTo l (2 * m + 1)).getD m 0 = UInt8.ofNat (digV (l.getD (2 * m) 0)) := by
      rw [r1, getD_set _ _ _ _ (by omega), if_pos rfl]
    have r2 : rowTo l (2 * m + 1 + 1) = (rowTo l (2 * m + 1)).set m (pairV l m) := by
      show (rowTo l (2 * m + 1)).set ((2 * m + 1) / 2) _ = _
      rw [e1, g1, UInt8.toNat_ofNat', Nat.mod_eq_of_lt (show digV (l.getD (2 * m) 0) < 2 ^ 8 by omega), or_dig _ _ ha hb]
      rfl
    rw [r2, getD_set _ _ _ _ (by rw [rowTo_length]; omega)]
    by_cases h : k = m
    · subst h; rw [if_pos rfl, if_pos (by omega)]
    · rw [if_neg h, r1, getD_set _ _ _ _ (by omega), if_neg h, ih k hk]
      by_cases h2 : k < m
      · rw [if_pos h2, if_pos (by omega)]
      · rw [if_neg h2, if_neg (by omega)]

theorem rowTo_all (l : List UInt8) (hl : l.length = 64) (hd : ∀ j, j < 64 → isDig (l.getD j 0) = true) : rowTo l 64 = unhex l := by
  have hu := unhex_length 32 l (by omega)
  have hr := rowTo_length l 64
  apply List.ext_getElem (by omega)
  intro k h1 h2
  have a := rowTo_get l hd 32 (by omega) k (by omega)
  have b := unhex_get 32 l k (by omega) (by omega)
  rw [if_pos (by omega), ← b] at a
  simpa [List.getD_eq_getElem?_getD, List.getElem?_eq_getElem h1, List.getElem?_eq_getElem h2] using a

theorem parse_fin (s : ByteArray) (hs : s.size = 64) (hd : ∀ j, j < 64 → isDig (s.data.toList.getD j 0) = true) : parseH s = rowTo s.data.toList 64 ∧ parseE s = 0 := by
  have hl : s.data.toList.length = 64 := by rw [Array.length_toList]; exact hs
  have ho : parseOk s = true := by
    unfold parseOk
    rw [Bool.and_eq_true, beq_iff_eq, List.all_eq_true]
    refine ⟨hs, fun x hx => ?_⟩
    obtain ⟨j, hj, rfl⟩ := List.getElem_of_mem hx
    have := hd j (by omega)
    rw [List.getD_eq_getElem?_getD, List.getElem?_eq_getElem hj] at this
    exact this
  rw [parseH, parseE, if_pos ho, if_pos ho, rowTo_all _ hl hd]
  exact ⟨rfl, rfl⟩

theorem parse_bad (s : ByteArray) (hs : s.size = 64) (t : Nat) (ht : t < 64) (hd : isDig (s.data.toList.getD t 0) = false) : parseH s = List.replicate 32 0 ∧ parseE s = 4 := by
  have hl : s.data.toList.length = 64 := by rw [Array.length_toList]; exact hs
  have ho : ¬ parseOk s = true := by
    unfold parseOk
    rw [Bool.and_eq_true, List.all_eq_true]
    rintro ⟨_, h⟩
    have hj : t < s.data.toList.length := by omega
    have := h _ (List.getElem_mem hj)
    rw [List.getD_eq_getElem?_getD, List.getElem?_eq_getElem hj] at hd
    exact absurd (hd.symm.trans this) (by simp)
  rw [parseH, parseE, if_neg ho, if_neg ho]
  exact ⟨rfl, rfl⟩

end Go.Proofs.Ytjbnnfdhmpeoeaa
