/- PackWide, PackBack, PackShort return true. -/
import Derived.Test.YtjbnnfdhmpeoeaaNumLaws
import Derived.Test.YtjbnnfdhmpeoeaaRegion
namespace Go.Proofs.Ytjbnnfdhmpeoeaa
open Go.RowKit

theorem beN_wide (n a j : Nat) (h : n < 256 ^ a) : (beN n (a + j)).extract j (beN n (a + j)).size = beN n a ∧ (beN n (a + j)).extract 0 j = ⟨(List.replicate j 0).toArray⟩ := by
  have e : beN n (a + j) = ⟨(List.replicate j (0 : UInt8)).toArray⟩ ++ beN n a := by
    apply ByteArray.ext
    simp [beN, beL_wide n a j h]
  have hz : (⟨(List.replicate j (0 : UInt8)).toArray⟩ : ByteArray).size = j := by show (List.replicate j (0 : UInt8)).toArray.size = j; simp
  have hs : (beN n (a + j)).size = j + (beN n a).size := by rw [e, ByteArray.size_append, hz]
  rw [hs, e]
  generalize (⟨(List.replicate j (0 : UInt8)).toArray⟩ : ByteArray) = Z at hz
  subst hz
  constructor
  · rw [ByteArray.extract_append]
    apply ByteArray.ext
    simp
  · rw [ByteArray.extract_append]; simp

set_option linter.unusedSimpArgs false in
set_option maxRecDepth 20000 in
set_option maxHeartbeats 1600000 in
theorem packWide_calls (n : Nat) (a b : Int) (w : World) (hn : n < 18446744073709551616) :
    Calls Try.prog 9 #[.int .u64 (n : Int), .int .i64 a, .int .i64 b] w fun e w' => e = .returned (.bool true) ∧ Below w.heap.size w w' := by
  go_enter Try.func9, Try.ntmps9
  go_wp2_with fail
  refine (numbers_calls _).mono ?_
  rintro e w1 ⟨rfl, hb1⟩
  go_wp2_with fail
  refine (number_calls n a _ hn).mono ?_
  rintro e w2 ⟨rfl, hb2⟩
  go_wp2_with fail
  refine (number_calls n b _ hn).mono ?_
  rintro e w3 ⟨rfl, hb3⟩
  have s1 := hb1.size
  have s2 := hb2.size
  have s3 := hb3.size
  have hfin : Below w.heap.size w w3 := hb1.trans ((hb2.mono (by omega)).trans (hb3.mono (by omega)))
  have hle : w.heap.size ≤ w3.heap.size := by omega
  clear hb1 hb2 hb3 s1 s2 s3
  rcases numOk_cases n a with ⟨k, rfl, h1, h8, hk, hS, hE⟩ | ⟨hno, hS, hE⟩
  · rw [hS, hE]
    by_cases hlo : b < k
    · clear hS hE hk
      go_wp2
      go_ret
      exact ⟨rfl, hfin⟩
    by_cases hhi : 8 < b
    · clear hS hE hk
      go_wp2
      go_ret
      exact ⟨rfl, hfin⟩
    obtain ⟨j, rfl⟩ : ∃ j : Nat, b = ((k + j : Nat) : Int) := ⟨(b - k).toNat, by omega⟩
    have hok : numOk n ((k + j : Nat) : Int) := ⟨by omega, by omega, by
      rw [Int.toNat_natCast]
      exact Nat.lt_of_lt_of_le hk (Nat.pow_le_pow_right (by decide) (by omega))⟩
    have hS' : numS n ((k + j : Nat) : Int) = beN n (k + j) := by rw [numS, if_pos hok]; rfl
    have hE' : numE n ((k + j : Nat) : Int) = 0 := by rw [numE, if_pos hok]
    rw [hS', hE']
    obtain ⟨hx1, hx2⟩ := beN_wide n k j hk
    have hsz := beN_size n (k + j)
    rw [hsz] at hx1
    have hsub : ((k + j : Nat) : Int) - (k : Int) = (j : Int) := by omega
    obtain ⟨W4, hmake, hrow, hb4, hz4⟩ := make_bytes w3.drew .i64 j (by omega)
    generalize hbw : w3.drew.heap.size = bw at hrow hmake hb4 hz4
    have hback := conv_back W4 bw j j (List.replicate j 0) (by simp) hrow
    generalize (⟨(List.replicate j (0 : UInt8)).toArray⟩ : ByteArray) = Z at *
    generalize beN n (k + j) = T at *
    generalize beN n k = S at *
    have hT : T.size ≤ 8 := by omega
    have hTj : j ≤ T.size := by omega
    have hj8 : k + j ≤ 8 := by omega
    have he1 : ((T.extract j T.size).toList == S.toList) = true := by rw [hsz, hx1]; simp
    have he2 : ((T.extract 0 j).toList == Z.toList) = true := by rw [hx2]; simp
    have Hsz := Lib.hid hsz
    have Hbw := Lib.hid hbw
    clear hS hE hS' hE' hk hok hx1 hx2 hsz hbw
    have hw1 : IntKind.i64.wrap (((k + j : Nat) : Int) - (k : Int)) = (j : Int) := by rw [IntKind.wrap_i64]; omega
    have hw2 : IntKind.i64.wrap ((k : Int) + (j : Int) - (k : Int)) = (j : Int) := by rw [IntKind.wrap_i64]; omega
    have hw3 : IntKind.i64.wrap (j : Int) = (j : Int) := by rw [IntKind.wrap_i64]; omega
    have hb0 : (0 : Int) ≤ (j : Int) := by omega
    have hb1 : (j : Int) ≤ (T.size : Int) := by omega
    clear hsub
    go_wp2
    refine wp_region_held_drew (S := fun _ => True) (by kernel_rfl) trivial (fun hHeld => ?_)
    refine take_N (i := 0) (v := ?_) (some 36) #[true, false, false, false, false, false, false, false, false, false, false, false, false, false, false, false, false, false, false, false, false, false, false, false, false] rfl rfl (by kernel_rfl) (by kernel_rfl) (by kernel_rfl) (by kernel_rfl) (fun _ _ _ h => h) (by assumption) (Or.inl ⟨by rfl, ?_⟩) ?_
    rotate_left
    · intro w_ hSw_; go_simp; try with_reducible rfl
    simp only [Act.put, List.setIfInBounds_toArray, List.set_cons_zero, List.set_cons_succ]
    refine take_N (i := 1) (v := ?_) (some 37) #[true, true, false, false, false, false, false, false, false, false, false, false, false, false, false, false, false, false, false, false, false, false, false, false, false] rfl rfl (by kernel_rfl) (by kernel_rfl) (by kernel_rfl) (by kernel_rfl) (fun _ _ _ h => h) (by assumption) (Or.inl ⟨by rfl, ?_⟩) ?_
    rotate_left
    · intro w_ hSw_; go_simp; try with_reducible rfl
    simp only [Act.put, List.setIfInBounds_toArray, List.set_cons_zero, List.set_cons_succ]
    refine take_N (i := 2) (v := ?_) (some 38) #[true, true, true, false, false, false, false, false, false, false, false, false, false, false, false, false, false, false, false, false, false, false, false, false, false] rfl rfl (by kernel_rfl) (by kernel_rfl) (by kernel_rfl) (by kernel_rfl) (fun _ _ _ h => h) (by assumption) (Or.inl ⟨by rfl, ?_⟩) ?_
    rotate_left
    · intro w_ hSw_; go_simp; try with_reducible rfl
    simp only [Act.put, List.setIfInBounds_toArray, List.set_cons_zero, List.set_cons_succ]
    refine take_N (i := 3) (v := ?_) (some 39) #[true, true, true, true, false, false, false, false, false, false, false, false, false, false, false, false, false, false, false, false, false, false, false, false, false] rfl rfl (by kernel_rfl) (by kernel_rfl) (by kernel_rfl) (by kernel_rfl) (fun _ _ _ h => h) (by assumption) (Or.inl ⟨by rfl, ?_⟩) ?_
    rotate_left
    · intro w_ hSw_; go_simp; try with_reducible rfl
    simp only [Act.put, List.setIfInBounds_toArray, List.set_cons_zero, List.set_cons_succ]
    refine take_N (i := 4) (v := ?_) (some 40) #[true, true, true, true, true, false, false, false, false, false, false, false, false, false, false, false, false, false, false, false, false, false, false, false, false] rfl rfl (by kernel_rfl) (by kernel_rfl) (by kernel_rfl) (by kernel_rfl) (fun _ _ _ h => h) (by assumption) (Or.inl ⟨by rfl, ?_⟩) ?_
    rotate_left
    · intro w_ hSw_; go_simp; try with_reducible rfl
    simp only [Act.put, List.setIfInBounds_toArray, List.set_cons_zero, List.set_cons_succ]
    refine take_N (i := 5) (v := ?_) (some 41) #[true, true, true, true, true, true, false, false, false, false, false, false, false, false, false, false, false, false, false, false, false, false, false, false, false] rfl rfl (by kernel_rfl) (by kernel_rfl) (by kernel_rfl) (by kernel_rfl) (fun _ _ _ h => h) (by assumption) (Or.inl ⟨by rfl, ?_⟩) ?_
    rotate_left
    · intro w_ hSw_; go_simp; try with_reducible rfl
    simp only [Act.put, List.setIfInBounds_toArray, List.set_cons_zero, List.set_cons_succ]
    refine take_N (i := 6) (v := ?_) (some 42) #[true, true, true, true, true, true, true, false, false, false, false, false, false, false, false, false, false, false, false, false, false, false, false, false, false] rfl rfl (by kernel_rfl) (by kernel_rfl) (by kernel_rfl) (by kernel_rfl) (fun _ _ _ h => h) (by assumption) (Or.inl ⟨by rfl, ?_⟩) ?_
    rotate_left
    · intro w_ hSw_; go_simp; try with_reducible rfl
    simp only [Act.put, List.setIfInBounds_toArray, List.set_cons_zero, List.set_cons_succ]
    refine take_N (i := 7) (v := ?_) (some 43) #[true, true, true, true, true, true, true, true, false, false, false, false, false, false, false, false, false, false, false, false, false, false, false, false, false] rfl rfl (by kernel_rfl) (by kernel_rfl) (by kernel_rfl) (by kernel_rfl) (fun _ _ _ h => h) (by assumption) (Or.inl ⟨by rfl, ?_⟩) ?_
    rotate_left
    · intro w_ hSw_; go_simp; try with_reducible rfl
    simp only [Act.put, List.setIfInBounds_toArray, List.set_cons_zero, List.set_cons_succ]
    refine take_N (i := 8) (v := ?_) (some 44) #[true, true, true, true, true, true, true, true, true, false, false, false, false, false, false, false, false, false, false, false, false, false, false, false, false] rfl rfl (by kernel_rfl) (by kernel_rfl) (by kernel_rfl) (by kernel_rfl) (fun _ _ _ h => h) (by assumption) (Or.inl ⟨by rfl, ?_⟩) ?_
    rotate_left
    · intro w_ hSw_; go_simp; try with_reducible rfl
    simp only [Act.put, List.setIfInBounds_toArray, List.set_cons_zero, List.set_cons_succ]
    refine take_N (i := 9) (v := ?_) (some 45) #[true, true, true, true, true, true, true, true, true, true, false, false, false, false, false, false, false, false, false, false, false, false, false, false, false] rfl rfl (by kernel_rfl) (by kernel_rfl) (by kernel_rfl) (by kernel_rfl) (fun _ _ _ h => h) (by assumption) (Or.inl ⟨by rfl, ?_⟩) ?_
    rotate_left
    · intro w_ hSw_; go_simp; try with_reducible rfl
    simp only [Act.put, List.setIfInBounds_toArray, List.set_cons_zero, List.set_cons_succ]
    refine take_N (i := 10) (v := ?_) (some 46) #[true, true, true, true, true, true, true, true, true, true, true, false, false, false, false, false, false, false, false, false, false, false, false, false, false] rfl rfl (by kernel_rfl) (by kernel_rfl) (by kernel_rfl) (by kernel_rfl) (fun _ _ _ h => h) (by assumption) (Or.inl ⟨by rfl, ?_⟩) ?_
    rotate_left
    · intro w_ hSw_; go_simp; try with_reducible rfl
    simp only [Act.put, List.setIfInBounds_toArray, List.set_cons_zero, List.set_cons_succ]
    refine take_N (i := 11) (v := ?_) (some 47) #[true, true, true, true, true, true, true, true, true, true, true, true, false, false, false, false, false, false, false, false, false, false, false, false, false] rfl rfl (by kernel_rfl) (by kernel_rfl) (by kernel_rfl) (by kernel_rfl) (fun _ _ _ h => h) (by assumption) (Or.inl ⟨by rfl, ?_⟩) ?_
    rotate_left
    · intro w_ hSw_; go_simp; try with_reducible rfl
    simp only [Act.put, List.setIfInBounds_toArray, List.set_cons_zero, List.set_cons_succ]
    refine take_N (i := 12) (v := ?_) (some 48) #[true, true, true, true, true, true, true, true, true, true, true, true, true, false, false, false, false, false, false, false, false, false, false, false, false] rfl rfl (by kernel_rfl) (by kernel_rfl) (by kernel_rfl) (by kernel_rfl) (fun _ _ _ h => h) (by assumption) (Or.inl ⟨by rfl, ?_⟩) ?_
    rotate_left
    · intro w_ hSw_; go_simp; try with_reducible rfl
    simp only [Act.put, List.setIfInBounds_toArray, List.set_cons_zero, List.set_cons_succ]
    refine take_N (i := 13) (v := ?_) (some 49) #[true, true, true, true, true, true, true, true, true, true, true, true, true, true, false, false, false, false, false, false, false, false, false, false, false] rfl rfl (by kernel_rfl) (by kernel_rfl) (by kernel_rfl) (by kernel_rfl) (fun _ _ _ h => h) (by assumption) (Or.inl ⟨by rfl, ?_⟩) ?_
    rotate_left
    · intro w_ hSw_; go_simp; try with_reducible rfl
    simp only [Act.put, List.setIfInBounds_toArray, List.set_cons_zero, List.set_cons_succ]
    refine take_N (i := 14) (v := ?_) (some 50) #[true, true, true, true, true, true, true, true, true, true, true, true, true, true, true, false, false, false, false, false, false, false, false, false, false] rfl rfl (by kernel_rfl) (by kernel_rfl) (by kernel_rfl) (by kernel_rfl) (fun _ _ _ h => h) (by assumption) (Or.inl ⟨by rfl, ?_⟩) ?_
    rotate_left
    · intro w_ hSw_; go_simp; try with_reducible rfl
    simp only [Act.put, List.setIfInBounds_toArray, List.set_cons_zero, List.set_cons_succ]
    refine take_N (i := 15) (v := ?_) (some 51) #[true, true, true, true, true, true, true, true, true, true, true, true, true, true, true, true, false, false, false, false, false, false, false, false, false] rfl rfl (by kernel_rfl) (by kernel_rfl) (by kernel_rfl) (by kernel_rfl) (fun _ _ _ h => h) (by assumption) (Or.inl ⟨by rfl, ?_⟩) ?_
    rotate_left
    · intro w_ hSw_; go_simp; try with_reducible rfl
    simp only [Act.put, List.setIfInBounds_toArray, List.set_cons_zero, List.set_cons_succ]
    refine take_N (i := 16) (v := ?_) (some 52) #[true, true, true, true, true, true, true, true, true, true, true, true, true, true, true, true, true, false, false, false, false, false, false, false, false] rfl rfl (by kernel_rfl) (by kernel_rfl) (by kernel_rfl) (by kernel_rfl) (fun _ _ _ h => h) (by assumption) (Or.inl ⟨by rfl, ?_⟩) ?_
    rotate_left
    · intro w_ hSw_; go_simp; try with_reducible rfl
    simp only [Act.put, List.setIfInBounds_toArray, List.set_cons_zero, List.set_cons_succ]
    refine take_N (i := 17) (v := ?_) (some 53) #[true, true, true, true, true, true, true, true, true, true, true, true, true, true, true, true, true, true, false, false, false, false, false, false, false] rfl rfl (by kernel_rfl) (by kernel_rfl) (by kernel_rfl) (by kernel_rfl) (fun _ _ _ h => h) (by assumption) (Or.inl ⟨by rfl, ?_⟩) ?_
    rotate_left
    · intro w_ hSw_; go_simp; try with_reducible rfl
    simp only [Act.put, List.setIfInBounds_toArray, List.set_cons_zero, List.set_cons_succ]
    refine take_N (i := 18) (v := ?_) (some 54) #[true, true, true, true, true, true, true, true, true, true, true, true, true, true, true, true, true, true, true, false, false, false, false, false, false] rfl rfl (by kernel_rfl) (by kernel_rfl) (by kernel_rfl) (by kernel_rfl) (fun _ _ _ h => h) (by assumption) (Or.inl ⟨by rfl, ?_⟩) ?_
    rotate_left
    · intro w_ hSw_; go_simp; try with_reducible rfl
    simp only [Act.put, List.setIfInBounds_toArray, List.set_cons_zero, List.set_cons_succ]
    refine take_N (i := 19) (v := ?_) (some 55) #[true, true, true, true, true, true, true, true, true, true, true, true, true, true, true, true, true, true, true, true, false, false, false, false, false] rfl rfl (by kernel_rfl) (by kernel_rfl) (by kernel_rfl) (by kernel_rfl) (fun _ _ _ h => h) (by assumption) (Or.inl ⟨by rfl, ?_⟩) ?_
    rotate_left
    · intro w_ hSw_; go_simp; try with_reducible rfl
    simp only [Act.put, List.setIfInBounds_toArray, List.set_cons_zero, List.set_cons_succ]
    refine step_N (i := 20) #[true, true, true, true, true, true, true, true, true, true, true, true, true, true, true, true, true, true, true, true, true, false, false, false, false] rfl (by kernel_rfl) (by kernel_rfl) (fun K hK => ?_)
    go_simp
    refine hK.out _ _ trivial ?_
    clear hK K
    refine step_N (i := 21) #[true, true, true, true, true, true, true, true, true, true, true, true, true, true, true, true, true, true, true, true, true, true, false, false, false] rfl (by kernel_rfl) (by kernel_rfl) (fun K hK => ?_)
    go_simp
    refine hK.out _ _ trivial ?_
    clear hK K
    refine take_N (i := 22) (v := ?_) (some 58) #[true, true, true, true, true, true, true, true, true, true, true, true, true, true, true, true, true, true, true, true, true, true, true, false, false] rfl rfl (by kernel_rfl) (by kernel_rfl) (by kernel_rfl) (by kernel_rfl) (fun _ _ _ h => h) (by assumption) (Or.inl ⟨by rfl, ?_⟩) ?_
    rotate_left
    · intro w_ hSw_; go_simp; try with_reducible rfl
    simp only [Act.put, List.setIfInBounds_toArray, List.set_cons_zero, List.set_cons_succ]
    refine take_N (i := 23) (v := ?_) (some 59) #[true, true, true, true, true, true, true, true, true, true, true, true, true, true, true, true, true, true, true, true, true, true, true, true, false] rfl rfl (by kernel_rfl) (by kernel_rfl) (by kernel_rfl) (by kernel_rfl) (fun _ _ _ h => h) (by assumption) (Or.inl ⟨by rfl, ?_⟩) ?_
    rotate_left
    · intro w_ hSw_; go_simp; try with_reducible rfl
    simp only [Act.put, List.setIfInBounds_toArray, List.set_cons_zero, List.set_cons_succ]
    refine take_N (i := 24) (v := ?_) (some 6) #[true, true, true, true, true, true, true, true, true, true, true, true, true, true, true, true, true, true, true, true, true, true, true, true, true] rfl rfl (by kernel_rfl) (by kernel_rfl) (by kernel_rfl) (by kernel_rfl) (fun _ _ _ h => h) (by assumption) (Or.inl ⟨by rfl, ?_⟩) ?_
    rotate_left
    · intro w_ hSw_; go_simp; try with_reducible rfl
    simp only [Act.put, List.setIfInBounds_toArray, List.set_cons_zero, List.set_cons_succ]
    refine wpAnyH_done (by kernel_rfl) ?_ _
    go_wp2
    go_ret
    exact ⟨rfl, hfin.trans (((Below.refl _ _).drew.trans hb4).mono (by have := Hbw.out; simp at this; omega))⟩
  · rw [hS, hE]
    clear hS hE hno
    go_wp2
    go_ret
    exact ⟨rfl, hfin⟩

theorem tk_back (n k : Nat) (rest : ByteArray) (h1 : 1 ≤ k) (h8 : k ≤ 8) (hk : n < 256 ^ k) :
    tkN (beN n k ++ rest) (k : Int) = n ∧ tkS (beN n k ++ rest) (k : Int) = rest ∧ tkE (beN n k ++ rest) (k : Int) = 0 := by
  have hs : (beN n k ++ rest).size = k + rest.size := by rw [ByteArray.size_append, beN_size]
  have hok : tkOk (beN n k ++ rest) (k : Int) := ⟨by omega, by omega, by rw [hs]; omega⟩
  have hd : (beN n k ++ rest).data.toList = beL n k ++ rest.data.toList := by simp [beN]
  have ht : (beN n k ++ rest).data.toList.take k = beL n k := by
    rw [hd]; exact List.take_left' (beL_length n k)
  refine ⟨?_, ?_, ?_⟩
  · rw [tkN, if_pos hok, Int.toNat_natCast, ht, ofBE_beL, Nat.mod_eq_of_lt hk]
  · rw [tkS, if_pos hok, Int.toNat_natCast]
    have e := beN_size n k
    generalize beN n k = A at *
    subst e
    rw [ByteArray.extract_append]
    apply ByteArray.ext
    simp
  · rw [tkE, if_pos hok]

theorem tt_back (t rest : ByteArray) (ht : t.size ≤ 65535) : ttT (txtS t ++ rest) = t ∧ ttR (txtS t ++ rest) = rest ∧ ttE (txtS t ++ rest) = 0 := by
  have e : txtS t ++ rest = beN t.size 2 ++ (t ++ rest) := by
    rw [txtS, if_pos ht]; exact ByteArray.append_assoc ..
  obtain ⟨h1, h2, h3⟩ := tk_back t.size 2 (t ++ rest) (by omega) (by omega) (by have : (256 : Nat) ^ 2 = 65536 := by decide
                                                                                omega)
  have c2 : ((2 : Nat) : Int) = 2 := rfl
  rw [c2] at h1 h2 h3
  have hok : ttOk (txtS t ++ rest) := by
    rw [e]
    refine ⟨?_, by rw [h1, h2, ByteArray.size_append]; omega⟩
    exact ⟨by decide, by decide, by rw [ByteArray.size_append, beN_size]; omega⟩
  rw [ttT, ttR, ttE, if_pos hok, if_pos hok, if_pos hok, e, h1, h2]
  refine ⟨?_, ?_, rfl⟩
  · rw [ByteArray.extract_append]; apply ByteArray.ext; simp
  · rw [ByteArray.extract_append]; apply ByteArray.ext; simp

theorem txt_cases (t : ByteArray) : (t.size ≤ 65535 ∧ txtS t = beN t.size 2 ++ t ∧ txtE t = 0) ∨ (65535 < t.size ∧ txtS t = ⟨#[]⟩ ∧ txtE t = 2) := by
  by_cases h : t.size ≤ 65535
  · exact .inl ⟨h, by simp [txtS, h], by simp [txtE, h]⟩
  · exact .inr ⟨by omega, by simp [txtS, h], by simp [txtE, h]⟩

set_option maxRecDepth 20000 in
set_option maxHeartbeats 1600000 in
theorem packBack_calls (n : Nat) (x : Int) (t rest : ByteArray) (w : World) (hn : n < 18446744073709551616) (ht : t.size ≤ 140737488351232) (hr : rest.size ≤ 140737488351232) :
    Calls Try.prog 11 #[.int .u64 (n : Int), .int .i64 x, .string t, .string rest] w fun e w' => e = .returned (.bool true) ∧ Below w.heap.size w w' := by
  go_enter Try.func11, Try.ntmps11
  go_wp2_with fail
  refine (numbers_calls _).mono ?_
  rintro e w1 ⟨rfl, hb1⟩
  go_wp2_with fail
  refine (texts_calls _).mono ?_
  rintro e w2 ⟨rfl, hb2⟩
  go_wp2_with fail
  refine (number_calls n x _ hn).mono ?_
  rintro e w3 ⟨rfl, hb3⟩
  have s1 := hb1.size
  have s2 := hb2.size
  have s3 := hb3.size
  have hfin : Below w.heap.size w w3 := hb1.trans ((hb2.mono (by omega)).trans (hb3.mono (by omega)))
  have hle : w.heap.size ≤ w3.heap.size := by omega
  clear hb1 hb2 hb3 s1 s2 s3
  rcases numOk_cases n x with ⟨k, rfl, h1, h8, hk, hS, hE⟩ | ⟨hno, hS, hE⟩
  · rw [hS, hE]
    obtain ⟨b1, b2, b3⟩ := tk_back n k rest h1 h8 hk
    have hsz := beN_size n k
    generalize beN n k = S at *
    have hS8 : S.size ≤ 8 := by omega
    have hSr : (S ++ rest).size ≤ maxLen := by rw [ByteArray.size_append]; unfold maxLen; omega
    have Hsz := Lib.hid hsz
    clear hS hE hk hsz
    go_wp2_with fail
    refine (take_calls (S ++ rest) k _ hSr).mono ?_
    rintro e w4 ⟨rfl, hb4⟩
    rw [b1, b2, b3]
    clear b1 b2 b3
    have hsk : ((S.size : Int) != (k : Int)) = false := by rw [Hsz.out]; simp
    go_wp2_with fail
    refine (text_calls t _ (reach ht)).mono ?_
    rintro e w5 ⟨rfl, hb5⟩
    have s4 := hb4.size
    have s5 := hb5.size
    have hfin2 : Below w.heap.size w w5 := hfin.trans ((hb4.mono hle).trans (hb5.mono (by omega)))
    have hle2 : w.heap.size ≤ w5.heap.size := by omega
    clear hb4 hb5 s4 s5
    rcases txt_cases t with ⟨hfit, hT, hTE⟩ | ⟨hfit, hT, hTE⟩
    · obtain ⟨c1, c2, c3⟩ := tt_back t rest hfit
      have hTs : (txtS t).size ≤ 70000 := by rw [hT, ByteArray.size_append, beN_size]; omega
      rw [hTE]
      generalize txtS t = U at *
      have hUr : (U ++ rest).size ≤ maxLen := by rw [ByteArray.size_append]; unfold maxLen; omega
      clear hT hTE
      go_wp2_with fail
      refine (taketext_calls (U ++ rest) _ hUr).mono ?_
      rintro e w6 ⟨rfl, hb6⟩
      rw [c1, c2, c3]
      clear c1 c2 c3
      go_wp2
      go_ret
      exact ⟨rfl, hfin2.trans (hb6.mono hle2)⟩
    · rw [hT, hTE]
      clear hT hTE
      go_wp2
      go_ret
      exact ⟨rfl, hfin2⟩
  · rw [hS, hE]
    clear hS hE hno
    go_wp2_with fail
    refine (text_calls t _ (reach ht)).mono ?_
    rintro e w5 ⟨rfl, hb5⟩
    have s5 := hb5.size
    have hfin2 : Below w.heap.size w w5 := hfin.trans (hb5.mono hle)
    have hle2 : w.heap.size ≤ w5.heap.size := by omega
    clear hb5 s5
    rcases txt_cases t with ⟨hfit, hT, hTE⟩ | ⟨hfit, hT, hTE⟩
    · obtain ⟨c1, c2, c3⟩ := tt_back t rest hfit
      have hTs : (txtS t).size ≤ 70000 := by rw [hT, ByteArray.size_append, beN_size]; omega
      rw [hTE]
      generalize txtS t = U at *
      have hUr : (U ++ rest).size ≤ maxLen := by rw [ByteArray.size_append]; unfold maxLen; omega
      clear hT hTE
      go_wp2_with fail
      refine (taketext_calls (U ++ rest) _ hUr).mono ?_
      rintro e w6 ⟨rfl, hb6⟩
      rw [c1, c2, c3]
      clear c1 c2 c3
      go_wp2
      go_ret
      exact ⟨rfl, hfin2.trans (hb6.mono hle2)⟩
    · rw [hT, hTE]
      clear hT hTE
      go_wp2
      go_ret
      exact ⟨rfl, hfin2⟩

theorem tk_short (s : ByteArray) (k c : Nat) (h1 : 1 ≤ k) (h8 : k ≤ 8) (hc : c < k) : tkE (s.extract 0 c) (k : Int) = 3 := by
  have hs : (s.extract 0 c).size ≤ c := by rw [ByteArray.size_extract]; omega
  have hno : ¬ tkOk (s.extract 0 c) (k : Int) := fun h => by have := h.2.2; omega
  rw [tkE, if_neg hno, if_pos ⟨by omega, by omega⟩]

theorem tt_short (t : ByteArray) (c : Nat) (ht : t.size ≤ 65535) (hc : c < (txtS t).size) : ttE ((txtS t).extract 0 c) = 3 := by
  have hT : txtS t = beN t.size 2 ++ t := by rw [txtS, if_pos ht]
  have hTs : (txtS t).size = 2 + t.size := by rw [hT, ByteArray.size_append, beN_size]
  have hs : ((txtS t).extract 0 c).size = c := by rw [ByteArray.size_extract]; omega
  have hno : ¬ ttOk ((txtS t).extract 0 c) := by
    rintro ⟨h1, h2⟩
    have h2c : 2 ≤ c := by have := h1.2.2; omega
    have e : (txtS t).extract 0 c = beN t.size 2 ++ t.extract 0 (c - 2) := by
      rw [hT]
      have e2 := beN_size t.size 2
      generalize beN t.size 2 = A at *
      rw [ByteArray.extract_append]
      have : A.extract 0 c = A := by
        apply ByteArray.ext
        rw [ByteArray.data_extract]
        have : A.data.size ≤ c := by show A.size ≤ c; omega
        rw [Array.extract_eq_self_of_le this]
      rw [this]
      congr 2
      · omega
      · rw [e2]
    rw [e] at h2
    obtain ⟨b1, b2, _⟩ := tk_back t.size 2 (t.extract 0 (c - 2)) (by omega) (by omega) (by have : (256 : Nat) ^ 2 = 65536 := by decide
                                                                                           omega)
    have c2 : ((2 : Nat) : Int) = 2 := rfl
    rw [c2] at b1 b2
    rw [b1, b2, ByteArray.size_extract] at h2
    omega
  rw [ttE, if_neg hno]

set_option maxRecDepth 20000 in
set_option maxHeartbeats 1600000 in
theorem packShort_calls (n : Nat) (x : Int) (t : ByteArray) (cut : Int) (w : World) (hn : n < 18446744073709551616) (ht : t.size ≤ 140737488351232) :
    Calls Try.prog 12 #[.int .u64 (n : Int), .int .i64 x, .string t, .int .i64 cut] w fun e w' => e = .returned (.bool true) ∧ Below w.heap.size w w' := by
  go_enter Try.func12, Try.ntmps12
  go_wp2_with fail
  refine (numbers_calls _).mono ?_
  rintro e w1 ⟨rfl, hb1⟩
  go_wp2_with fail
  refine (texts_calls _).mono ?_
  rintro e w2 ⟨rfl, hb2⟩
  go_wp2_with fail
  refine (number_calls n x _ hn).mono ?_
  rintro e w3 ⟨rfl, hb3⟩
  have s1 := hb1.size
  have s2 := hb2.size
  have s3 := hb3.size
  have hfin : Below w.heap.size w w3 := hb1.trans ((hb2.mono (by omega)).trans (hb3.mono (by omega)))
  have hle : w.heap.size ≤ w3.heap.size := by omega
  clear hb1 hb2 hb3 s1 s2 s3
  rcases numOk_cases n x with ⟨k, rfl, h1, h8, hk, hS, hE⟩ | ⟨hno, hS, hE⟩
  · rw [hS, hE]
    have hsz := beN_size n k
    generalize beN n k = S at *
    have hS8 : S.size ≤ 8 := by omega
    clear hS hE hk
    by_cases hneg : cut < 0
    · have Hsz := Lib.hid hsz
      clear hsz
      go_wp2_with fail
      refine (text_calls t _ (reach ht)).mono ?_
      rintro e w5 ⟨rfl, hb5⟩
      have s5 := hb5.size
      have hfin2 : Below w.heap.size w w5 := hfin.trans (hb5.mono (by omega))
      have hle2 : w.heap.size ≤ w5.heap.size := by omega
      clear hb5 s5
      rcases txt_cases t with ⟨hfit, hT, hTE⟩ | ⟨hfit, hT, hTE⟩
      · rw [hTE]
        generalize txtS t = U at *
        clear hT hTE
        go_wp2
        go_ret
        exact ⟨rfl, hfin2⟩
      · rw [hT, hTE]
        clear hT hTE
        go_wp2
        go_ret
        exact ⟨rfl, hfin2⟩
    · obtain ⟨d, hd⟩ := Int.eq_ofNat_of_zero_le (show 0 ≤ cut by omega)
      have hd0 : 0 ≤ cut := by omega
      subst hd
      clear hneg
      by_cases hdc : d < S.size
      · have hsh := tk_short S k d h1 h8 (by omega)
        have hSr : (S.extract 0 d).size ≤ maxLen := by rw [ByteArray.size_extract]; unfold maxLen; omega
        have Hsz := Lib.hid hsz
        clear hsz
        go_wp2_with fail
        refine (take_calls (S.extract 0 d) k _ hSr).mono ?_
        rintro e w4 ⟨rfl, hb4⟩
        rw [hsh]
        clear hsh
        generalize tkN (S.extract 0 d) k = tn
        generalize tkS (S.extract 0 d) k = ts
        have s4 := hb4.size
        have hfin4 : Below w.heap.size w w4 := hfin.trans (hb4.mono hle)
        clear hb4
        generalize hcut : (d : Int) = cut at *
        have Hcut := Lib.hid hcut
        clear hcut
        go_wp2_with fail
        refine (text_calls t _ (reach ht)).mono ?_
        rintro e w5 ⟨rfl, hb5⟩
        have s5 := hb5.size
        have hfin2 : Below w.heap.size w w5 := hfin4.trans (hb5.mono (by omega))
        have hle2 : w.heap.size ≤ w5.heap.size := by omega
        clear hb5 s5
        rcases txt_cases t with ⟨hfit, hT, hTE⟩ | ⟨hfit, hT, hTE⟩
        · by_cases h0 : cut < 0
          · rw [hTE]
            clear hT hTE
            go_wp2
            go_ret
            exact ⟨rfl, hfin2⟩
          · obtain ⟨c, rfl⟩ := Int.eq_ofNat_of_zero_le (show 0 ≤ cut by omega)
            by_cases hc : c < (txtS t).size
            · have hshort := tt_short t c hfit hc
              have hTs : (txtS t).size ≤ 70000 := by rw [hT, ByteArray.size_append, beN_size]; omega
              rw [hTE]
              generalize txtS t = U at *
              have hUr : (U.extract 0 c).size ≤ maxLen := by rw [ByteArray.size_extract]; unfold maxLen; omega
              clear hT hTE
              go_wp2_with fail
              refine (taketext_calls (U.extract 0 c) _ hUr).mono ?_
              rintro e w6 ⟨rfl, hb6⟩
              rw [hshort]
              clear hshort
              go_wp2
              go_ret
              exact ⟨rfl, hfin2.trans (hb6.mono hle2)⟩
            · rw [hTE]
              generalize txtS t = U at *
              clear hT hTE
              go_wp2
              go_ret
              exact ⟨rfl, hfin2⟩
        · rw [hT, hTE]
          clear hT hTE
          go_wp2
          go_ret
          exact ⟨rfl, hfin2⟩
      · have Hsz := Lib.hid hsz
        clear hsz
        go_wp2_with fail
        refine (text_calls t _ (reach ht)).mono ?_
        rintro e w5 ⟨rfl, hb5⟩
        have s5 := hb5.size
        have hfin2 : Below w.heap.size w w5 := hfin.trans (hb5.mono (by omega))
        have hle2 : w.heap.size ≤ w5.heap.size := by omega
        clear hb5 s5
        generalize hcut : (d : Int) = cut at *
        have Hcut := Lib.hid hcut
        clear hcut
        rcases txt_cases t with ⟨hfit, hT, hTE⟩ | ⟨hfit, hT, hTE⟩
        · by_cases h0 : cut < 0
          · rw [hTE]
            clear hT hTE
            go_wp2
            go_ret
            exact ⟨rfl, hfin2⟩
          · obtain ⟨c, rfl⟩ := Int.eq_ofNat_of_zero_le (show 0 ≤ cut by omega)
            by_cases hc : c < (txtS t).size
            · have hshort := tt_short t c hfit hc
              have hTs : (txtS t).size ≤ 70000 := by rw [hT, ByteArray.size_append, beN_size]; omega
              rw [hTE]
              generalize txtS t = U at *
              have hUr : (U.extract 0 c).size ≤ maxLen := by rw [ByteArray.size_extract]; unfold maxLen; omega
              clear hT hTE
              go_wp2_with fail
              refine (taketext_calls (U.extract 0 c) _ hUr).mono ?_
              rintro e w6 ⟨rfl, hb6⟩
              rw [hshort]
              clear hshort
              go_wp2
              go_ret
              exact ⟨rfl, hfin2.trans (hb6.mono hle2)⟩
            · rw [hTE]
              generalize txtS t = U at *
              clear hT hTE
              go_wp2
              go_ret
              exact ⟨rfl, hfin2⟩
        · rw [hT, hTE]
          clear hT hTE
          go_wp2
          go_ret
          exact ⟨rfl, hfin2⟩
  · rw [hS, hE]
    clear hS hE hno
    go_wp2_with fail
    refine (text_calls t _ (reach ht)).mono ?_
    rintro e w5 ⟨rfl, hb5⟩
    have s5 := hb5.size
    have hfin2 : Below w.heap.size w w5 := hfin.trans (hb5.mono (by omega))
    have hle2 : w.heap.size ≤ w5.heap.size := by omega
    clear hb5 s5
    rcases txt_cases t with ⟨hfit, hT, hTE⟩ | ⟨hfit, hT, hTE⟩
    · by_cases h0 : cut < 0
      · rw [hTE]
        clear hT hTE
        go_wp2
        go_ret
        exact ⟨rfl, hfin2⟩
      · obtain ⟨c, rfl⟩ := Int.eq_ofNat_of_zero_le (show 0 ≤ cut by omega)
        by_cases hc : c < (txtS t).size
        · have hshort := tt_short t c hfit hc
          have hTs : (txtS t).size ≤ 70000 := by rw [hT, ByteArray.size_append, beN_size]; omega
          rw [hTE]
          generalize txtS t = U at *
          have hUr : (U.extract 0 c).size ≤ maxLen := by rw [ByteArray.size_extract]; unfold maxLen; omega
          clear hT hTE
          go_wp2_with fail
          refine (taketext_calls (U.extract 0 c) _ hUr).mono ?_
          rintro e w6 ⟨rfl, hb6⟩
          rw [hshort]
          clear hshort
          go_wp2
          go_ret
          exact ⟨rfl, hfin2.trans (hb6.mono hle2)⟩
        · rw [hTE]
          generalize txtS t = U at *
          clear hT hTE
          go_wp2
          go_ret
          exact ⟨rfl, hfin2⟩
    · rw [hT, hTE]
      clear hT hTE
      go_wp2
      go_ret
      exact ⟨rfl, hfin2⟩

end Go.Proofs.Ytjbnnfdhmpeoeaa
