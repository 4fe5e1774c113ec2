/- The laws of numbers and texts, walked: PackNumbers, PackOrder, PackWide, PackTexts, PackBack, PackShort return true. -/
import Derived.Test.YtjbnnfdhmpeoeaaNum
namespace Go.Proofs.Ytjbnnfdhmpeoeaa
open Go.RowKit

theorem numbers_value : numS 258 2 = ⟨#[1, 2]⟩ ∧ numE 258 2 = 0 ∧ tkN ⟨#[1, 2, 120]⟩ 2 = 258 ∧ tkS ⟨#[1, 2, 120]⟩ 2 = ⟨#[120]⟩ ∧ tkE ⟨#[1, 2, 120]⟩ 2 = 0 := by
  refine ⟨?_, ?_, ?_, ?_, ?_⟩ <;> decide
theorem texts_value : txtS ⟨#[97]⟩ = ⟨#[0, 1, 97]⟩ ∧ txtE ⟨#[97]⟩ = 0 ∧ ttT ⟨#[0, 1, 97, 98]⟩ = ⟨#[97]⟩ ∧ ttR ⟨#[0, 1, 97, 98]⟩ = ⟨#[98]⟩ ∧ ttE ⟨#[0, 1, 97, 98]⟩ = 0 := by
  refine ⟨?_, ?_, ?_, ?_, ?_⟩ <;> decide

set_option maxRecDepth 20000 in
set_option maxHeartbeats 800000 in
theorem numbers_calls (w : World) : Calls Try.prog 27 #[] w fun e w' => e = .returned (.bool true) ∧ Below w.heap.size w w' := by
  obtain ⟨h1, h2, h3, h4, h5⟩ := numbers_value
  go_enter Try.func27, Try.ntmps27
  go_wp2_with fail
  refine (number_calls 258 2 _ (by omega)).mono ?_
  rintro e w1 ⟨rfl, hb1⟩
  rw [h1, h2]
  clear h1 h2
  go_wp2_with fail
  refine (take_calls ⟨#[1, 2, 120]⟩ 2 _ (by simp [ByteArray.size, maxLen])).mono ?_
  rintro e w2 ⟨rfl, hb2⟩
  rw [h3, h4, h5]
  clear h3 h4 h5
  go_wp2
  go_ret
  exact ⟨rfl, hb1.trans (hb2.mono hb1.size)⟩

set_option maxRecDepth 20000 in
set_option maxHeartbeats 800000 in
theorem texts_calls (w : World) : Calls Try.prog 32 #[] w fun e w' => e = .returned (.bool true) ∧ Below w.heap.size w w' := by
  obtain ⟨h1, h2, h3, h4, h5⟩ := texts_value
  go_enter Try.func32, Try.ntmps32
  go_wp2_with fail
  refine (text_calls ⟨#[97]⟩ _ (by simp [ByteArray.size, maxLen])).mono ?_
  rintro e w1 ⟨rfl, hb1⟩
  rw [h1, h2]
  clear h1 h2
  go_wp2_with fail
  refine (taketext_calls ⟨#[0, 1, 97, 98]⟩ _ (by simp [ByteArray.size, maxLen])).mono ?_
  rintro e w2 ⟨rfl, hb2⟩
  rw [h3, h4, h5]
  clear h3 h4 h5
  go_wp2
  go_ret
  exact ⟨rfl, hb1.trans (hb2.mono hb1.size)⟩

set_option maxRecDepth 20000 in
set_option maxHeartbeats 800000 in
theorem packNumbers_calls (n : Nat) (x : Int) (s : ByteArray) (w : World) (hn : n < 18446744073709551616) (hs : s.size ≤ maxLen) :
    Calls Try.prog 7 #[.int .u64 (n : Int), .int .i64 x, .string s] w fun e w' => e = .returned (.bool true) ∧ Below w.heap.size w w' := by
  go_enter Try.func7, Try.ntmps7
  go_wp2_with fail
  refine (number_calls n x _ hn).mono ?_
  rintro e w1 ⟨rfl, hb1⟩
  go_wp2_with fail
  refine (refnumber_calls n x _ hn).mono ?_
  rintro e w2 ⟨rfl, hb2⟩
  go_wp2_with fail
  refine (take_calls s x _ hs).mono ?_
  rintro e w3 ⟨rfl, hb3⟩
  go_wp2_with fail
  refine (reftake_calls s x _ hs).mono ?_
  rintro e w4 ⟨rfl, hb4⟩
  go_wp2_with fail
  refine (numbers_calls _).mono ?_
  rintro e w5 ⟨rfl, hb5⟩
  go_wp2
  go_ret
  have := hb1.size
  have := hb2.size
  have := hb3.size
  have := hb4.size
  exact ⟨rfl, hb1.trans ((hb2.mono (by omega)).trans ((hb3.mono (by omega)).trans ((hb4.mono (by omega)).trans (hb5.mono (by omega)))))⟩

set_option maxRecDepth 20000 in
set_option maxHeartbeats 800000 in
theorem packTexts_calls (t s : ByteArray) (w : World) (ht : t.size ≤ 140737488351232) (hs : s.size ≤ maxLen) :
    Calls Try.prog 10 #[.string t, .string s] w fun e w' => e = .returned (.bool true) ∧ Below w.heap.size w w' := by
  go_enter Try.func10, Try.ntmps10
  go_wp2_with fail
  refine (text_calls t _ (reach ht)).mono ?_
  rintro e w1 ⟨rfl, hb1⟩
  go_wp2_with fail
  refine (reftext_calls t _ (reach ht)).mono ?_
  rintro e w2 ⟨rfl, hb2⟩
  go_wp2_with fail
  refine (taketext_calls s _ hs).mono ?_
  rintro e w3 ⟨rfl, hb3⟩
  go_wp2_with fail
  refine (reftaketext_calls s _ hs).mono ?_
  rintro e w4 ⟨rfl, hb4⟩
  go_wp2_with fail
  refine (texts_calls _).mono ?_
  rintro e w5 ⟨rfl, hb5⟩
  go_wp2
  go_ret
  have := hb1.size
  have := hb2.size
  have := hb3.size
  have := hb4.size
  exact ⟨rfl, hb1.trans ((hb2.mono (by omega)).trans ((hb3.mono (by omega)).trans ((hb4.mono (by omega)).trans (hb5.mono (by omega)))))⟩

theorem numOk_cases (n : Nat) (x : Int) : (∃ k : Nat, x = (k : Int) ∧ 1 ≤ k ∧ k ≤ 8 ∧ n < 256 ^ k ∧ numS n x = beN n k ∧ numE n x = 0) ∨ (¬ numOk n x ∧ numS n x = ⟨#[]⟩ ∧ numE n x = 1) := by
  by_cases h : numOk n x
  · refine .inl ⟨x.toNat, by have := h.1; omega, by have := h.1; omega, by have := h.2.1; omega, h.2.2, by simp [numS, h], by simp [numE, h]⟩
  · exact .inr ⟨h, by simp [numS, h], by simp [numE, h]⟩

theorem beN_less (a b k : Nat) (ha : a < 256 ^ k) (hb : b < 256 ^ k) : Op.bytesLess (beN a k).toList (beN b k).toList = decide (a < b) := by
  rw [Lib.toList_data, Lib.toList_data, beN_data, beN_data, bytesLess_beL k a b ha hb]

set_option maxRecDepth 20000 in
set_option maxHeartbeats 800000 in
theorem packOrder_calls (a b : Nat) (x : Int) (w : World) (ha : a < 18446744073709551616) (hb : b < 18446744073709551616) :
    Calls Try.prog 8 #[.int .u64 (a : Int), .int .u64 (b : Int), .int .i64 x] w fun e w' => e = .returned (.bool true) ∧ Below w.heap.size w w' := by
  go_enter Try.func8, Try.ntmps8
  go_wp2_with fail
  refine (numbers_calls _).mono ?_
  rintro e w1 ⟨rfl, hb1⟩
  go_wp2_with fail
  refine (number_calls a x _ ha).mono ?_
  rintro e w2 ⟨rfl, hb2⟩
  go_wp2_with fail
  refine (number_calls b x _ hb).mono ?_
  rintro e w3 ⟨rfl, hb3⟩
  have s1 := hb1.size
  have s2 := hb2.size
  have hfin : Below w.heap.size w w3 := hb1.trans ((hb2.mono (by omega)).trans (hb3.mono (by omega)))
  clear hb1 hb2 hb3
  rcases numOk_cases a x with ⟨k, rfl, h1, h8, hk, hS, hE⟩ | ⟨hno, hS, hE⟩
  · rcases numOk_cases b k with ⟨k', hkk, _, _, hk', hS', hE'⟩ | ⟨hno, hS', hE'⟩
    · obtain rfl : k = k' := by omega
      rw [hS, hE, hS', hE']
      have hl := beN_less a b k hk hk'
      generalize beN a k = A at *
      generalize beN b k = B at *
      clear hS hE hS' hE' hk hk'
      go_wp2
      go_ret
      exact ⟨ret_bool (by simp), hfin⟩
    · rw [hS, hE, hS', hE']
      clear hS hE hS' hE' hno
      go_wp2
      go_ret
      exact ⟨rfl, hfin⟩
  · rw [hS, hE]
    clear hS hE hno
    go_wp2
    go_ret
    exact ⟨rfl, hfin⟩

end Go.Proofs.Ytjbnnfdhmpeoeaa
