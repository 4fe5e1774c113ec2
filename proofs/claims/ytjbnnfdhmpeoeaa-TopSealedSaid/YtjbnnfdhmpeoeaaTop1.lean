/- TopSealed: a text with its hash's digits, and the sum of both behind: walked. -/
import Derived.Test.YtjbnnfdhmpeoeaaHashLaws
import Derived.Test.YtjbnnfdhmpeoeaaSumLaws
import Derived.Test.YtjbnnfdhmpeoeaaNumLaws2
import Derived.Test.YtjbnnfdhmpeoeaaRegion2
namespace Go.Proofs.Ytjbnnfdhmpeoeaa
open Go.RowKit

theorem sha_abc0 : ∃ c l, sha [97, 98, 99] = c :: l ∧ c = 0xba ∧ l.length = 31 := by
  have h := sha_abc.1
  have hl := sha_length [97, 98, 99]
  generalize sha [97, 98, 99] = R at *
  cases R with
  | nil => simp at hl
  | cons a t =>
    refine ⟨a, t, rfl, by simpa using h, by simpa using hl⟩

set_option maxRecDepth 20000 in
set_option maxHeartbeats 1600000 in
theorem begins_calls (w : World) : Calls Try.prog 33 #[] w fun e w' => e = .returned (.bool true) ∧ Below w.heap.size w w' := by
  have h1 := fun w => sum_calls ⟨#[49, 50, 51, 52, 53, 54, 55, 56, 57]⟩ w (by decide)
  rw [sums_value] at h1
  have h2 := fun w => shasum_calls ⟨#[97, 98, 99]⟩ w (by decide)
  rw [show (⟨#[97, 98, 99]⟩ : ByteArray).data.toList = [97, 98, 99] from rfl] at h2
  obtain ⟨c, l, hE, hc, hl⟩ := sha_abc0
  rw [hE] at h2
  have hi : ∀ w, (Instr.index 45 (.agg (byteCells (c :: l))) (.int .i64 0)).run Try.prog w = .ok (.int .u8 186) w := by
    intro w
    have := index_byte Try.underlying45 (c :: l) 0 (by simp) (by simp [hl]) w
    rw [List.getElem_cons_zero, hc] at this
    rw [hc]
    exact this
  have hu : uw 0x3010bf7f#32 = 806403967 := by decide
  rw [hu] at h1
  generalize byteCells (c :: l) = Z at *
  go_enter Try.func33, Try.ntmps33
  go_wp2_with fail
  refine (h1 _).mono ?_
  rintro e w1 ⟨rfl, hb1⟩
  go_wp2_with fail
  refine (h2 _).mono ?_
  rintro e w2 ⟨rfl, hb2⟩
  have hb3 := hb1.trans (hb2.mono hb1.size)
  clear hb1 hb2
  go_wp2_with fail
  go_ret
  exact ⟨rfl, hb3⟩

/-- What TopSealed takes apart again. -/
theorem sealed_apart (t H : ByteArray) (c : BitVec 32) (ht : t.size ≤ 65535) (hH : H.size = 64) :
    ttT ((txtS t ++ txtS H) ++ beN c.toNat 4) = t ∧ ttR ((txtS t ++ txtS H) ++ beN c.toNat 4) = txtS H ++ beN c.toNat 4 ∧ ttE ((txtS t ++ txtS H) ++ beN c.toNat 4) = 0 ∧
    ttT (txtS H ++ beN c.toNat 4) = H ∧ ttR (txtS H ++ beN c.toNat 4) = beN c.toNat 4 ∧ ttE (txtS H ++ beN c.toNat 4) = 0 ∧
    tkN (beN c.toNat 4) 4 = c.toNat ∧ tkS (beN c.toNat 4) 4 = ⟨#[]⟩ ∧ tkE (beN c.toNat 4) 4 = 0 := by
  have h1 := tt_back t (txtS H ++ beN c.toNat 4) ht
  have h2 := tt_back H (beN c.toNat 4) (by omega)
  have h3 := tk_back c.toNat 4 ⟨#[]⟩ (by omega) (by omega) (by have := c.isLt; have e : (256 : Nat) ^ 4 = 2 ^ 32 := by decide
                                                               omega)
  have ea : (txtS t ++ txtS H) ++ beN c.toNat 4 = txtS t ++ (txtS H ++ beN c.toNat 4) := ByteArray.append_assoc ..
  have eb : beN c.toNat 4 ++ (⟨#[]⟩ : ByteArray) = beN c.toNat 4 := by apply ByteArray.ext; simp
  rw [eb] at h3
  rw [ea]
  exact ⟨h1.1, h1.2.1, h1.2.2, h2.1, h2.2.1, h2.2.2, h3.1, h3.2.1, h3.2.2⟩

set_option maxRecDepth 20000 in
set_option maxHeartbeats 6400000 in
theorem topSealed_calls (t : ByteArray) (at_ : Int) (bit : UInt8) (w : World) (hs : t.size ≤ 140737488351232) :
    Calls Try.prog 13 #[.string t, .int .i64 at_, .int .u8 (bit.toNat : Int)] w fun e w' => e = .returned (.bool true) ∧ Below w.heap.size w w' := by
  have htx := fun w => text_calls t w (reach hs)
  have hsha := fun w => shasum_calls t w hs
  have hnot := fun (x : Bool) (w : World) => (rfl : (Op.unary .not (.bool x)).run Try.prog w = .ok (.bool (!x)) w)
  have hRl := sha_length t.data.toList
  have hhex := fun w => hex_calls (sha t.data.toList) w hRl
  have hHs : (hexS (sha t.data.toList)).size = 64 := by rw [hexS_size, hRl]
  have htx2 := fun w => text_calls (hexS (sha t.data.toList)) w (by rw [hHs]; decide)
  have hpar := fun w => parse_calls (hexS (sha t.data.toList)) w
  rw [(parse_hexS _ hRl).1, (parse_hexS _ hRl).2] at hpar
  have hRsz := load_row_32 hRl
  have hRone := byteCells_one (sha t.data.toList)
  have hReq := eq_bytes_self hRl
  have has := fun w => alloc_store w hRl
  generalize hexS (sha t.data.toList) = H at *
  generalize byteCells (sha t.data.toList) = R at *
  rcases txt_cases t with ⟨hts, hte, htE⟩ | ⟨hts, hte, htE⟩
  · have hHx : txtE H = 0 := by rw [txtE, if_pos (by omega)]
    obtain ⟨whole, hwhole⟩ : ∃ whole, whole = txtS t ++ txtS H := ⟨_, rfl⟩
    have hbz : (txtS t).size = 2 + t.size := by rw [hte, ByteArray.size_append, beN_size]
    have hdz : (txtS H).size = 66 := by rw [txtS, if_pos (by omega), ByteArray.size_append, beN_size, hHs]
    have hwz : whole.size = 68 + t.size := by rw [hwhole, ByteArray.size_append, hbz, hdz]; omega
    have hcrc := fun w => sum_calls whole w (by rw [hwz]; unfold maxLen; omega)
    have hcl := (crc whole.data.toList).isLt
    have hnum := fun w => number_calls (crc whole.data.toList).toNat 4 w (by omega)
    have hnok : numOk (crc whole.data.toList).toNat 4 := ⟨by omega, by omega, by have e : (256 : Nat) ^ (4 : Int).toNat = 2 ^ 32 := by decide
                                                                                 omega⟩
    have hnS : numS (crc whole.data.toList).toNat 4 = beN (crc whole.data.toList).toNat 4 := by rw [numS, if_pos hnok]; rfl
    have hnE : numE (crc whole.data.toList).toNat 4 = 0 := by rw [numE, if_pos hnok]
    have happ := sealed_apart t H (crc whole.data.toList) hts hHs
    rw [← hwhole] at happ
    have hez := beN_size (crc whole.data.toList).toNat 4
    have hrest : (txtS H ++ beN (crc whole.data.toList).toNat 4).size = 70 := by rw [ByteArray.size_append, hdz, hez]
    have hall : (whole ++ beN (crc whole.data.toList).toNat 4).size = 72 + t.size := by rw [ByteArray.size_append, hwz, hez]; omega
    have ht1 := fun w => taketext_calls (whole ++ beN (crc whole.data.toList).toNat 4) w (by rw [hall]; unfold maxLen; omega)
    have ht2 := fun w => taketext_calls (txtS H ++ beN (crc whole.data.toList).toNat 4) w (by rw [hrest]; decide)
    have ht3 := fun w => take_calls (beN (crc whole.data.toList).toNat 4) 4 w (by rw [hez]; decide)
    rw [happ.1, happ.2.1, happ.2.2.1] at ht1
    rw [happ.2.2.2.1, happ.2.2.2.2.1, happ.2.2.2.2.2.1] at ht2
    rw [happ.2.2.2.2.2.2.1, happ.2.2.2.2.2.2.2.1, happ.2.2.2.2.2.2.2.2] at ht3
    rw [hnS, hnE] at hnum
    rw [htE] at htx
    rw [hHx] at htx2
    have huw : uw (crc whole.data.toList) = ((crc whole.data.toList).toNat : Int) := rfl
    rw [huw] at hcrc
    have hset := crc_set whole.data.toList
    have hcnv := fun w => conv_bytes w whole
    have hsum2 := fun s w h => sum_calls s w h
    have hwd := size_data whole
    have Hset := Lib.hid hset
    have Hcnv := Lib.hid hcnv
    have Hsum2 := Lib.hid hsum2
    have Hwd := Lib.hid hwd
    clear happ hnok hnS hnE hRl huw hset hcnv hsum2 hwd hte htE hHx
    generalize txtS t = body at *
    generalize txtS H = dig at *
    have hwhole2 : body ++ dig = whole := hwhole.symm
    clear hwhole
    generalize hcn : (crc whole.data.toList).toNat = cn at *
    generalize beN cn 4 = endS at *
    generalize hrs : dig ++ endS = rest1 at *
    generalize hal : whole ++ endS = all1 at *
    have Hcn := Lib.hid hcn
    clear hcn hrs
    go_enter Try.func13, Try.ntmps13
    go_wp2_with fail
    refine (begins_calls w).mono ?_
    rintro e w1 ⟨rfl, hb1⟩
    go_wp2_with fail
    refine (htx w1).mono ?_
    rintro e w2 ⟨rfl, hb2⟩
    replace hb2 := hb1.trans (hb2.mono hb1.size)
    clear hb1
    go_wp2_with fail
    refine (hsha w2).mono ?_
    rintro e w3 ⟨rfl, hb3⟩
    replace hb3 := hb2.trans (hb3.mono hb2.size)
    clear hb2
    go_wp2_with fail
    refine (hhex w3).mono ?_
    rintro e w4 ⟨rfl, hb4⟩
    replace hb4 := hb3.trans (hb4.mono hb3.size)
    clear hb3
    go_wp2_with fail
    refine (htx2 w4).mono ?_
    rintro e w5 ⟨rfl, hb5⟩
    replace hb5 := hb4.trans (hb5.mono hb4.size)
    clear hb4
    go_wp2_with fail
    refine (hcrc w5).mono ?_
    rintro e w6 ⟨rfl, hb6⟩
    replace hb6 := hb5.trans (hb6.mono hb5.size)
    clear hb5
    go_wp2_with fail
    refine (hnum w6).mono ?_
    rintro e w7 ⟨rfl, hb7⟩
    replace hb7 := hb6.trans (hb7.mono hb6.size)
    clear hb6
    go_wp2_with fail
    refine (ht1 w7).mono ?_
    rintro e w8 ⟨rfl, hb8⟩
    replace hb8 := hb7.trans (hb8.mono hb7.size)
    clear hb7
    go_wp2_with fail
    refine (ht2 w8).mono ?_
    rintro e w9 ⟨rfl, hb9⟩
    replace hb9 := hb8.trans (hb9.mono hb8.size)
    clear hb8
    go_wp2_with fail
    refine (ht3 w9).mono ?_
    rintro e w10 ⟨rfl, hb10⟩
    replace hb10 := hb9.trans (hb10.mono hb9.size)
    clear hb9
    go_wp2_with fail
    refine (hpar w10).mono ?_
    rintro e w11 ⟨rfl, hb11⟩
    replace hb11 := hb10.trans (hb11.mono hb10.size)
    clear hb10
    obtain ⟨W, W2, hW, hW2, hQ, hbQ, hthere⟩ := has w11
    replace hbQ := hb11.trans (hbQ.mono hb11.size)
    have HW := Lib.hid hW
    have HW2 := Lib.hid hW2
    clear hW hW2 hb11
    go_wp2_with (first | (refine wpList_world HW.out ?_) | (refine wpList_store_mid rfl 45 _ _ rfl w11.heap.size 0 R rfl rfl hthere hRsz hRone ?_; refine wpList_world HW2.out ?_))
    clear HW HW2 hthere
    generalize w11.heap.size = Q0 at *
    generalize hB : w.heap.size = B at *
    have HB := Lib.hid hB
    clear hB
    have hb : Below B w W2.drew := hbQ.drew
    have hle : B ≤ W2.drew.heap.size := by rw [← HB.out]; exact hbQ.size
    replace hQ := hQ.drew
    clear hbQ
    have hwu : IntKind.u64.wrap (cn : Int) = (cn : Int) := by rw [IntKind.wrap_u64]; omega
    have hne0 : (ByteArray.toList ⟨#[]⟩ == ByteArray.toList ⟨#[]⟩) = true := by simp
    refine wp_region_held_drew (S := fun w' => RowIs w' Q0 45 R ∧ Below B w w') (by kernel_rfl) ⟨hQ, hb⟩ (fun hHeld => ?_)
    refine take_N (i := 0) (v := ?_) (some 78) #[true, false, false, false, false, false, false, false, false, false, false, false, false, false, false, false, false, false, false, false, false, false, false, false, false, false, false, false, false, false, false, false, false, false, false, false, false, false, false, false, false, false, false, false] rfl rfl (by kernel_rfl) (by kernel_rfl) (by kernel_rfl) (by kernel_rfl) (fun _ _ _ h => h) ⟨hQ, hb⟩ (Or.inl ⟨by rfl, ?_⟩) ?_
    rotate_left
    · intro w_ hSw_; go_simp; try with_reducible rfl
    try simp only [Act.put, List.setIfInBounds_toArray, List.set_cons_zero, List.set_cons_succ]
    refine take_N (i := 1) (v := ?_) (some 79) #[true, true, false, false, false, false, false, false, false, false, false, false, false, false, false, false, false, false, false, false, false, false, false, false, false, false, false, false, false, false, false, false, false, false, false, false, false, false, false, false, false, false, false, false] rfl rfl (by kernel_rfl) (by kernel_rfl) (by kernel_rfl) (by kernel_rfl) (fun _ _ _ h => h) ⟨hQ, hb⟩ (Or.inl ⟨by rfl, ?_⟩) ?_
    rotate_left
    · intro w_ hSw_; go_simp; try with_reducible rfl
    try simp only [Act.put, List.setIfInBounds_toArray, List.set_cons_zero, List.set_cons_succ]
    refine take_N (i := 2) (v := ?_) (some 80) #[true, true, true, false, false, false, false, false, false, false, false, false, false, false, false, false, false, false, false, false, false, false, false, false, false, false, false, false, false, false, false, false, false, false, false, false, false, false, false, false, false, false, false, false] rfl rfl (by kernel_rfl) (by kernel_rfl) (by kernel_rfl) (by kernel_rfl) (fun _ _ _ h => h) ⟨hQ, hb⟩ (Or.inl ⟨by rfl, ?_⟩) ?_
    rotate_left
    · intro w_ hSw_; go_simp; try with_reducible rfl
    try simp only [Act.put, List.setIfInBounds_toArray, List.set_cons_zero, List.set_cons_succ]
    refine take_N (i := 3) (v := ?_) (some 81) #[true, true, true, true, false, false, false, false, false, false, false, false, false, false, false, false, false, false, false, false, false, false, false, false, false, false, false, false, false, false, false, false, false, false, false, false, false, false, false, false, false, false, false, false] rfl rfl (by kernel_rfl) (by kernel_rfl) (by kernel_rfl) (by kernel_rfl) (fun _ _ _ h => h) ⟨hQ, hb⟩ (Or.inl ⟨by rfl, ?_⟩) ?_
    rotate_left
    · intro w_ hSw_; go_simp; try with_reducible rfl
    try simp only [Act.put, List.setIfInBounds_toArray, List.set_cons_zero, List.set_cons_succ]
    refine take_N (i := 4) (v := ?_) (some 82) #[true, true, true, true, true, false, false, false, false, false, false, false, false, false, false, false, false, false, false, false, false, false, false, false, false, false, false, false, false, false, false, false, false, false, false, false, false, false, false, false, false, false, false, false] rfl rfl (by kernel_rfl) (by kernel_rfl) (by kernel_rfl) (by kernel_rfl) (fun _ _ _ h => h) ⟨hQ, hb⟩ (Or.inl ⟨by rfl, ?_⟩) ?_
    rotate_left
    · intro w_ hSw_; go_simp; try with_reducible rfl
    try simp only [Act.put, List.setIfInBounds_toArray, List.set_cons_zero, List.set_cons_succ]
    refine take_N (i := 5) (v := ?_) (some 83) #[true, true, true, true, true, true, false, false, false, false, false, false, false, false, false, false, false, false, false, false, false, false, false, false, false, false, false, false, false, false, false, false, false, false, false, false, false, false, false, false, false, false, false, false] rfl rfl (by kernel_rfl) (by kernel_rfl) (by kernel_rfl) (by kernel_rfl) (fun _ _ _ h => h) ⟨hQ, hb⟩ (Or.inl ⟨by rfl, ?_⟩) ?_
    rotate_left
    · intro w_ hSw_; go_simp; try with_reducible rfl
    try simp only [Act.put, List.setIfInBounds_toArray, List.set_cons_zero, List.set_cons_succ]
    refine take_N (i := 6) (v := ?_) (some 84) #[true, true, true, true, true, true, true, false, false, false, false, false, false, false, false, false, false, false, false, false, false, false, false, false, false, false, false, false, false, false, false, false, false, false, false, false, false, false, false, false, false, false, false, false] rfl rfl (by kernel_rfl) (by kernel_rfl) (by kernel_rfl) (by kernel_rfl) (fun _ _ _ h => h) ⟨hQ, hb⟩ (Or.inl ⟨by rfl, ?_⟩) ?_
    rotate_left
    · intro w_ hSw_; go_simp; try with_reducible rfl
    try simp only [Act.put, List.setIfInBounds_toArray, List.set_cons_zero, List.set_cons_succ]
    refine take_N (i := 7) (v := ?_) (some 85) #[true, true, true, true, true, true, true, true, false, false, false, false, false, false, false, false, false, false, false, false, false, false, false, false, false, false, false, false, false, false, false, false, false, false, false, false, false, false, false, false, false, false, false, false] rfl rfl (by kernel_rfl) (by kernel_rfl) (by kernel_rfl) (by kernel_rfl) (fun _ _ _ h => h) ⟨hQ, hb⟩ (Or.inl ⟨by rfl, ?_⟩) ?_
    rotate_left
    · intro w_ hSw_; go_simp; try with_reducible rfl
    try simp only [Act.put, List.setIfInBounds_toArray, List.set_cons_zero, List.set_cons_succ]
    refine take_N (i := 8) (v := ?_) (some 86) #[true, true, true, true, true, true, true, true, true, false, false, false, false, false, false, false, false, false, false, false, false, false, false, false, false, false, false, false, false, false, false, false, false, false, false, false, false, false, false, false, false, false, false, false] rfl rfl (by kernel_rfl) (by kernel_rfl) (by kernel_rfl) (by kernel_rfl) (fun _ _ _ h => h) ⟨hQ, hb⟩ (Or.inl ⟨by rfl, ?_⟩) ?_
    rotate_left
    · intro w_ hSw_; go_simp; try with_reducible rfl
    try simp only [Act.put, List.setIfInBounds_toArray, List.set_cons_zero, List.set_cons_succ]
    refine take_N (i := 9) (v := ?_) (some 87) #[true, true, true, true, true, true, true, true, true, true, false, false, false, false, false, false, false, false, false, false, false, false, false, false, false, false, false, false, false, false, false, false, false, false, false, false, false, false, false, false, false, false, false, false] rfl rfl (by kernel_rfl) (by kernel_rfl) (by kernel_rfl) (by kernel_rfl) (fun _ _ _ h => h) ⟨hQ, hb⟩ (Or.inl ⟨by rfl, ?_⟩) ?_
    rotate_left
    · intro w_ hSw_; go_simp; try with_reducible rfl
    try simp only [Act.put, List.setIfInBounds_toArray, List.set_cons_zero, List.set_cons_succ]
    refine take_N (i := 10) (v := ?_) (some 88) #[true, true, true, true, true, true, true, true, true, true, true, false, false, false, false, false, false, false, false, false, false, false, false, false, false, false, false, false, false, false, false, false, false, false, false, false, false, false, false, false, false, false, false, false] rfl rfl (by kernel_rfl) (by kernel_rfl) (by kernel_rfl) (by kernel_rfl) (fun _ _ _ h => h) ⟨hQ, hb⟩ (Or.inl ⟨by rfl, ?_⟩) ?_
    rotate_left
    · intro w_ hSw_; go_simp; try with_reducible rfl
    try simp only [Act.put, List.setIfInBounds_toArray, List.set_cons_zero, List.set_cons_succ]
    refine take_N (i := 11) (v := ?_) (some 89) #[true, true, true, true, true, true, true, true, true, true, true, true, false, false, false, false, false, false, false, false, false, false, false, false, false, false, false, false, false, false, false, false, false, false, false, false, false, false, false, false, false, false, false, false] rfl rfl (by kernel_rfl) (by kernel_rfl) (by kernel_rfl) (by kernel_rfl) (fun _ _ _ h => h) ⟨hQ, hb⟩ (Or.inl ⟨by rfl, ?_⟩) ?_
    rotate_left
    · intro w_ hSw_; go_simp; try with_reducible rfl
    try simp only [Act.put, List.setIfInBounds_toArray, List.set_cons_zero, List.set_cons_succ]
    refine take_N (i := 12) (v := ?_) (some 90) #[true, true, true, true, true, true, true, true, true, true, true, true, true, false, false, false, false, false, false, false, false, false, false, false, false, false, false, false, false, false, false, false, false, false, false, false, false, false, false, false, false, false, false, false] rfl rfl (by kernel_rfl) (by kernel_rfl) (by kernel_rfl) (by kernel_rfl) (fun _ _ _ h => h) ⟨hQ, hb⟩ (Or.inl ⟨by rfl, ?_⟩) ?_
    rotate_left
    · intro w_ hSw_; go_simp; try with_reducible rfl
    try simp only [Act.put, List.setIfInBounds_toArray, List.set_cons_zero, List.set_cons_succ]
    refine take_N (i := 13) (v := ?_) (some 91) #[true, true, true, true, true, true, true, true, true, true, true, true, true, true, false, false, false, false, false, false, false, false, false, false, false, false, false, false, false, false, false, false, false, false, false, false, false, false, false, false, false, false, false, false] rfl rfl (by kernel_rfl) (by kernel_rfl) (by kernel_rfl) (by kernel_rfl) (fun _ _ _ h => h) ⟨hQ, hb⟩ (Or.inl ⟨by rfl, ?_⟩) ?_
    rotate_left
    · intro w_ hSw_; go_simp; try with_reducible rfl
    try simp only [Act.put, List.setIfInBounds_toArray, List.set_cons_zero, List.set_cons_succ]
    refine take_N (i := 14) (v := ?_) (some 92) #[true, true, true, true, true, true, true, true, true, true, true, true, true, true, true, false, false, false, false, false, false, false, false, false, false, false, false, false, false, false, false, false, false, false, false, false, false, false, false, false, false, false, false, false] rfl rfl (by kernel_rfl) (by kernel_rfl) (by kernel_rfl) (by kernel_rfl) (fun _ _ _ h => h) ⟨hQ, hb⟩ (Or.inl ⟨by rfl, ?_⟩) ?_
    rotate_left
    · intro w_ hSw_; go_simp; try with_reducible rfl
    try simp only [Act.put, List.setIfInBounds_toArray, List.set_cons_zero, List.set_cons_succ]
    refine take_N (i := 15) (v := ?_) (some 93) #[true, true, true, true, true, true, true, true, true, true, true, true, true, true, true, true, false, false, false, false, false, false, false, false, false, false, false, false, false, false, false, false, false, false, false, false, false, false, false, false, false, false, false, false] rfl rfl (by kernel_rfl) (by kernel_rfl) (by kernel_rfl) (by kernel_rfl) (fun _ _ _ h => h) ⟨hQ, hb⟩ (Or.inl ⟨by rfl, ?_⟩) ?_
    rotate_left
    · intro w_ hSw_; go_simp; try with_reducible rfl
    try simp only [Act.put, List.setIfInBounds_toArray, List.set_cons_zero, List.set_cons_succ]
    refine take_N (i := 16) (v := ?_) (some 94) #[true, true, true, true, true, true, true, true, true, true, true, true, true, true, true, true, true, false, false, false, false, false, false, false, false, false, false, false, false, false, false, false, false, false, false, false, false, false, false, false, false, false, false, false] rfl rfl (by kernel_rfl) (by kernel_rfl) (by kernel_rfl) (by kernel_rfl) (fun _ _ _ h => h) ⟨hQ, hb⟩ (Or.inl ⟨by rfl, ?_⟩) ?_
    rotate_left
    · intro w_ hSw_; go_simp; try with_reducible rfl
    try simp only [Act.put, List.setIfInBounds_toArray, List.set_cons_zero, List.set_cons_succ]
    refine take_N (i := 17) (v := ?_) (some 95) #[true, true, true, true, true, true, true, true, true, true, true, true, true, true, true, true, true, true, false, false, false, false, false, false, false, false, false, false, false, false, false, false, false, false, false, false, false, false, false, false, false, false, false, false] rfl rfl (by kernel_rfl) (by kernel_rfl) (by kernel_rfl) (by kernel_rfl) (fun _ _ _ h => h) ⟨hQ, hb⟩ (Or.inl ⟨by rfl, ?_⟩) ?_
    rotate_left
    · intro w_ hSw_; go_simp; try with_reducible rfl
    try simp only [Act.put, List.setIfInBounds_toArray, List.set_cons_zero, List.set_cons_succ]
    refine take_N (i := 18) (v := ?_) (some 96) #[true, true, true, true, true, true, true, true, true, true, true, true, true, true, true, true, true, true, true, false, false, false, false, false, false, false, false, false, false, false, false, false, false, false, false, false, false, false, false, false, false, false, false, false] rfl rfl (by kernel_rfl) (by kernel_rfl) (by kernel_rfl) (by kernel_rfl) (fun _ _ _ h => h) ⟨hQ, hb⟩ (Or.inl ⟨by rfl, ?_⟩) ?_
    rotate_left
    · intro w_ hSw_; go_simp; try with_reducible rfl
    try simp only [Act.put, List.setIfInBounds_toArray, List.set_cons_zero, List.set_cons_succ]
    refine take_N (i := 19) (v := ?_) (some 97) #[true, true, true, true, true, true, true, true, true, true, true, true, true, true, true, true, true, true, true, true, false, false, false, false, false, false, false, false, false, false, false, false, false, false, false, false, false, false, false, false, false, false, false, false] rfl rfl (by kernel_rfl) (by kernel_rfl) (by kernel_rfl) (by kernel_rfl) (fun _ _ _ h => h) ⟨hQ, hb⟩ (Or.inl ⟨by rfl, ?_⟩) ?_
    rotate_left
    · intro w_ hSw_; go_simp; try with_reducible rfl
    try simp only [Act.put, List.setIfInBounds_toArray, List.set_cons_zero, List.set_cons_succ]
    refine take_N (i := 20) (v := ?_) (some 98) #[true, true, true, true, true, true, true, true, true, true, true, true, true, true, true, true, true, true, true, true, true, false, false, false, false, false, false, false, false, false, false, false, false, false, false, false, false, false, false, false, false, false, false, false] rfl rfl (by kernel_rfl) (by kernel_rfl) (by kernel_rfl) (by kernel_rfl) (fun _ _ _ h => h) ⟨hQ, hb⟩ (Or.inl ⟨by rfl, ?_⟩) ?_
    rotate_left
    · intro w_ hSw_; go_simp; try with_reducible rfl
    try simp only [Act.put, List.setIfInBounds_toArray, List.set_cons_zero, List.set_cons_succ]
    refine take_N (i := 21) (v := ?_) (some 99) #[true, true, true, true, true, true, true, true, true, true, true, true, true, true, true, true, true, true, true, true, true, true, false, false, false, false, false, false, false, false, false, false, false, false, false, false, false, false, false, false, false, false, false, false] rfl rfl (by kernel_rfl) (by kernel_rfl) (by kernel_rfl) (by kernel_rfl) (fun _ _ _ h => h) ⟨hQ, hb⟩ (Or.inl ⟨by rfl, ?_⟩) ?_
    rotate_left
    · intro w_ hSw_; go_simp; try with_reducible rfl
    try simp only [Act.put, List.setIfInBounds_toArray, List.set_cons_zero, List.set_cons_succ]
    refine take_N (i := 22) (v := ?_) (some 100) #[true, true, true, true, true, true, true, true, true, true, true, true, true, true, true, true, true, true, true, true, true, true, true, false, false, false, false, false, false, false, false, false, false, false, false, false, false, false, false, false, false, false, false, false] rfl rfl (by kernel_rfl) (by kernel_rfl) (by kernel_rfl) (by kernel_rfl) (fun _ _ _ h => h) ⟨hQ, hb⟩ (Or.inl ⟨by rfl, ?_⟩) ?_
    rotate_left
    · intro w_ hSw_; go_simp; try with_reducible rfl
    try simp only [Act.put, List.setIfInBounds_toArray, List.set_cons_zero, List.set_cons_succ]
    refine take_N (i := 23) (v := ?_) (some 101) #[true, true, true, true, true, true, true, true, true, true, true, true, true, true, true, true, true, true, true, true, true, true, true, true, false, false, false, false, false, false, false, false, false, false, false, false, false, false, false, false, false, false, false, false] rfl rfl (by kernel_rfl) (by kernel_rfl) (by kernel_rfl) (by kernel_rfl) (fun _ _ _ h => h) ⟨hQ, hb⟩ (Or.inl ⟨by rfl, ?_⟩) ?_
    rotate_left
    · intro w_ hSw_; go_simp; try with_reducible rfl
    try simp only [Act.put, List.setIfInBounds_toArray, List.set_cons_zero, List.set_cons_succ]
    refine take_N (i := 24) (v := ?_) (some 102) #[true, true, true, true, true, true, true, true, true, true, true, true, true, true, true, true, true, true, true, true, true, true, true, true, true, false, false, false, false, false, false, false, false, false, false, false, false, false, false, false, false, false, false, false] rfl rfl (by kernel_rfl) (by kernel_rfl) (by kernel_rfl) (by kernel_rfl) (fun _ _ _ h => h) ⟨hQ, hb⟩ (Or.inl ⟨by rfl, ?_⟩) ?_
    rotate_left
    · intro w_ hSw_; go_simp; try with_reducible rfl
    try simp only [Act.put, List.setIfInBounds_toArray, List.set_cons_zero, List.set_cons_succ]
    refine take_N (i := 25) (v := ?_) (some 103) #[true, true, true, true, true, true, true, true, true, true, true, true, true, true, true, true, true, true, true, true, true, true, true, true, true, true, false, false, false, false, false, false, false, false, false, false, false, false, false, false, false, false, false, false] rfl rfl (by kernel_rfl) (by kernel_rfl) (by kernel_rfl) (by kernel_rfl) (fun _ _ _ h => h) ⟨hQ, hb⟩ (Or.inl ⟨by rfl, ?_⟩) ?_
    rotate_left
    · intro w_ hSw_; go_simp; try with_reducible rfl
    try simp only [Act.put, List.setIfInBounds_toArray, List.set_cons_zero, List.set_cons_succ]
    refine step_N (i := 26) #[true, true, true, true, true, true, true, true, true, true, true, true, true, true, true, true, true, true, true, true, true, true, true, true, true, true, true, false, false, false, false, false, false, false, false, false, false, false, false, false, false, false, false, false] rfl (by kernel_rfl) (by kernel_rfl) (fun K hK => ?_)
    rw [if_pos (by rfl)]
    go_simp
    refine (hcrc _).mono ?_
    rintro e w20 ⟨rfl, hbn⟩
    replace hQ := RowIs.below hQ hbn hQ.lt
    replace hb := Below.trans hb (hbn.mono hle)
    replace hle := Nat.le_trans hle hbn.size
    clear hbn
    refine hK.out _ _ ⟨hQ, hb⟩ ?_
    clear hK K
    refine take_N (i := 27) (v := ?_) (some 105) #[true, true, true, true, true, true, true, true, true, true, true, true, true, true, true, true, true, true, true, true, true, true, true, true, true, true, true, true, false, false, false, false, false, false, false, false, false, false, false, false, false, false, false, false] rfl rfl (by kernel_rfl) (by kernel_rfl) (by kernel_rfl) (by kernel_rfl) (fun _ _ _ h => h) ⟨hQ, hb⟩ (Or.inl ⟨by rfl, ?_⟩) ?_
    rotate_left
    · intro w_ hSw_; go_simp; try with_reducible rfl
    try simp only [Act.put, List.setIfInBounds_toArray, List.set_cons_zero, List.set_cons_succ]
    refine take_N (i := 28) (v := ?_) (some 106) #[true, true, true, true, true, true, true, true, true, true, true, true, true, true, true, true, true, true, true, true, true, true, true, true, true, true, true, true, true, false, false, false, false, false, false, false, false, false, false, false, false, false, false, false] rfl rfl (by kernel_rfl) (by kernel_rfl) (by kernel_rfl) (by kernel_rfl) (fun _ _ _ h => h) ⟨hQ, hb⟩ (Or.inl ⟨by rfl, ?_⟩) ?_
    rotate_left
    · intro w_ hSw_; go_simp; try with_reducible rfl
    try simp only [Act.put, List.setIfInBounds_toArray, List.set_cons_zero, List.set_cons_succ]
    refine take_N (i := 29) (v := ?_) (some 107) #[true, true, true, true, true, true, true, true, true, true, true, true, true, true, true, true, true, true, true, true, true, true, true, true, true, true, true, true, true, true, false, false, false, false, false, false, false, false, false, false, false, false, false, false] rfl rfl (by kernel_rfl) (by kernel_rfl) (by kernel_rfl) (by kernel_rfl) (fun _ _ _ h => h) ⟨hQ, hb⟩ (Or.inl ⟨by rfl, ?_⟩) ?_
    rotate_left
    · intro w_ hSw_; go_simp; try with_reducible rfl
    try simp only [Act.put, List.setIfInBounds_toArray, List.set_cons_zero, List.set_cons_succ]
    refine take_N (i := 30) (v := ?_) (some 108) #[true, true, true, true, true, true, true, true, true, true, true, true, true, true, true, true, true, true, true, true, true, true, true, true, true, true, true, true, true, true, true, false, false, false, false, false, false, false, false, false, false, false, false, false] rfl rfl (by kernel_rfl) (by kernel_rfl) (by kernel_rfl) (by kernel_rfl) (fun _ _ _ h => h) ⟨hQ, hb⟩ (Or.inl ⟨by rfl, ?_⟩) ?_
    rotate_left
    · intro w_ hSw_; go_simp; try with_reducible rfl
    try simp only [Act.put, List.setIfInBounds_toArray, List.set_cons_zero, List.set_cons_succ]
    refine take_N (i := 31) (v := ?_) (some 109) #[true, true, true, true, true, true, true, true, true, true, true, true, true, true, true, true, true, true, true, true, true, true, true, true, true, true, true, true, true, true, true, true, false, false, false, false, false, false, false, false, false, false, false, false] rfl rfl (by kernel_rfl) (by kernel_rfl) (by kernel_rfl) (by kernel_rfl) (fun _ _ _ h => h) ⟨hQ, hb⟩ (Or.inl ⟨by rfl, ?_⟩) ?_
    rotate_left
    · intro w_ hSw_; go_simp; try with_reducible rfl
    try simp only [Act.put, List.setIfInBounds_toArray, List.set_cons_zero, List.set_cons_succ]
    refine take_N (i := 32) (v := ?_) (some 110) #[true, true, true, true, true, true, true, true, true, true, true, true, true, true, true, true, true, true, true, true, true, true, true, true, true, true, true, true, true, true, true, true, true, false, false, false, false, false, false, false, false, false, false, false] rfl rfl (by kernel_rfl) (by kernel_rfl) (by kernel_rfl) (by kernel_rfl) (fun _ _ _ h => h) ⟨hQ, hb⟩ (Or.inl ⟨by rfl, ?_⟩) ?_
    rotate_left
    · intro w_ hSw_; go_simp; try with_reducible rfl
    try simp only [Act.put, List.setIfInBounds_toArray, List.set_cons_zero, List.set_cons_succ]
    refine take_N (i := 33) (v := ?_) (some 111) #[true, true, true, true, true, true, true, true, true, true, true, true, true, true, true, true, true, true, true, true, true, true, true, true, true, true, true, true, true, true, true, true, true, true, false, false, false, false, false, false, false, false, false, false] rfl rfl (by kernel_rfl) (by kernel_rfl) (by kernel_rfl) (by kernel_rfl) (fun _ _ _ h => h) ⟨hQ, hb⟩ (Or.inl ⟨by rfl, ?_⟩) ?_
    rotate_left
    · intro w_ hSw_; go_simp; try with_reducible rfl
    try simp only [Act.put, List.setIfInBounds_toArray, List.set_cons_zero, List.set_cons_succ]
    refine take_N (i := 34) (v := ?_) (some 112) #[true, true, true, true, true, true, true, true, true, true, true, true, true, true, true, true, true, true, true, true, true, true, true, true, true, true, true, true, true, true, true, true, true, true, true, false, false, false, false, false, false, false, false, false] rfl rfl (by kernel_rfl) (by kernel_rfl) (by kernel_rfl) (by kernel_rfl) (fun _ _ _ h => h) ⟨hQ, hb⟩ (Or.inl ⟨by rfl, ?_⟩) ?_
    rotate_left
    · intro w_ hSw_; go_simp; try with_reducible rfl
    try simp only [Act.put, List.setIfInBounds_toArray, List.set_cons_zero, List.set_cons_succ]
    refine take_N (i := 35) (v := ?_) (some 113) #[true, true, true, true, true, true, true, true, true, true, true, true, true, true, true, true, true, true, true, true, true, true, true, true, true, true, true, true, true, true, true, true, true, true, true, true, false, false, false, false, false, false, false, false] rfl rfl (by kernel_rfl) (by kernel_rfl) (by kernel_rfl) (by kernel_rfl) (fun _ _ _ h => h) ⟨hQ, hb⟩ (Or.inl ⟨by rfl, ?_⟩) ?_
    rotate_left
    · intro w_ hSw_; go_simp; try with_reducible rfl
    try simp only [Act.put, List.setIfInBounds_toArray, List.set_cons_zero, List.set_cons_succ]
    refine take_N (i := 36) (v := ?_) (some 114) #[true, true, true, true, true, true, true, true, true, true, true, true, true, true, true, true, true, true, true, true, true, true, true, true, true, true, true, true, true, true, true, true, true, true, true, true, true, false, false, false, false, false, false, false] rfl rfl (by kernel_rfl) (by kernel_rfl) (by kernel_rfl) (by kernel_rfl) (fun _ _ _ h => h) ⟨hQ, hb⟩ (Or.inl ⟨by rfl, ?_⟩) ?_
    rotate_left
    · intro w_ hSw_; go_simp; try with_reducible rfl
    try simp only [Act.put, List.setIfInBounds_toArray, List.set_cons_zero, List.set_cons_succ]
    refine take_N (i := 37) (v := ?_) (some 115) #[true, true, true, true, true, true, true, true, true, true, true, true, true, true, true, true, true, true, true, true, true, true, true, true, true, true, true, true, true, true, true, true, true, true, true, true, true, true, false, false, false, false, false, false] rfl rfl (by kernel_rfl) (by kernel_rfl) (by kernel_rfl) (by kernel_rfl) (fun _ _ _ h => h) ⟨hQ, hb⟩ (Or.inl ⟨by rfl, ?_⟩) ?_
    rotate_left
    · intro w_ hSw_; go_simp; try with_reducible rfl
    try simp only [Act.put, List.setIfInBounds_toArray, List.set_cons_zero, List.set_cons_succ]
    refine take_N (i := 38) (v := ?_) (some 116) #[true, true, true, true, true, true, true, true, true, true, true, true, true, true, true, true, true, true, true, true, true, true, true, true, true, true, true, true, true, true, true, true, true, true, true, true, true, true, true, false, false, false, false, false] rfl rfl (by kernel_rfl) (by kernel_rfl) (by kernel_rfl) (by kernel_rfl) (fun _ _ _ h => h) ⟨hQ, hb⟩ (Or.inl ⟨by rfl, ?_⟩) ?_
    rotate_left
    · intro w_ hSw_; go_simp; try with_reducible rfl
    try simp only [Act.put, List.setIfInBounds_toArray, List.set_cons_zero, List.set_cons_succ]
    refine take_N (i := 39) (v := (.agg R)) (some 117) #[true, true, true, true, true, true, true, true, true, true, true, true, true, true, true, true, true, true, true, true, true, true, true, true, true, true, true, true, true, true, true, true, true, true, true, true, true, true, true, true, false, false, false, false] rfl rfl (by kernel_rfl) (by kernel_rfl) (by kernel_rfl) (by kernel_rfl) (fun _ _ _ h => h) ⟨hQ, hb⟩ (Or.inl ⟨by rfl, ?_⟩) ?_
    · intro w_ hSw_; exact exec_load_row 45 _ (by rfl) Q0 (by rfl) 45 R (0, 0) _ hSw_.1 Try.underlying45 rfl hRsz
    try simp only [Act.put, List.setIfInBounds_toArray, List.set_cons_zero, List.set_cons_succ]
    refine take_N (i := 40) (v := ?_) (some 118) #[true, true, true, true, true, true, true, true, true, true, true, true, true, true, true, true, true, true, true, true, true, true, true, true, true, true, true, true, true, true, true, true, true, true, true, true, true, true, true, true, true, false, false, false] rfl rfl (by kernel_rfl) (by kernel_rfl) (by kernel_rfl) (by kernel_rfl) (fun _ _ _ h => h) ⟨hQ, hb⟩ (Or.inl ⟨by rfl, ?_⟩) ?_
    rotate_left
    · intro w_ hSw_; go_simp; try with_reducible rfl
    try simp only [Act.put, List.setIfInBounds_toArray, List.set_cons_zero, List.set_cons_succ]
    refine step_N (i := 41) #[true, true, true, true, true, true, true, true, true, true, true, true, true, true, true, true, true, true, true, true, true, true, true, true, true, true, true, true, true, true, true, true, true, true, true, true, true, true, true, true, true, true, false, false] rfl (by kernel_rfl) (by kernel_rfl) (fun K hK => ?_)
    rw [if_pos (by rfl)]
    go_simp
    refine (hsha _).mono ?_
    rintro e w21 ⟨rfl, hbn⟩
    replace hQ := RowIs.below hQ hbn hQ.lt
    replace hb := Below.trans hb (hbn.mono hle)
    replace hle := Nat.le_trans hle hbn.size
    clear hbn
    refine hK.out _ _ ⟨hQ, hb⟩ ?_
    clear hK K
    refine take_N (i := 42) (v := ?_) (some 120) #[true, true, true, true, true, true, true, true, true, true, true, true, true, true, true, true, true, true, true, true, true, true, true, true, true, true, true, true, true, true, true, true, true, true, true, true, true, true, true, true, true, true, true, false] rfl rfl (by kernel_rfl) (by kernel_rfl) (by kernel_rfl) (by kernel_rfl) (fun _ _ _ h => h) ⟨hQ, hb⟩ (Or.inl ⟨by rfl, ?_⟩) ?_
    rotate_left
    · intro w_ hSw_; go_simp; try with_reducible rfl
    try simp only [Act.put, List.setIfInBounds_toArray, List.set_cons_zero, List.set_cons_succ]
    refine take_N (i := 43) (v := ?_) (some 121) #[true, true, true, true, true, true, true, true, true, true, true, true, true, true, true, true, true, true, true, true, true, true, true, true, true, true, true, true, true, true, true, true, true, true, true, true, true, true, true, true, true, true, true, true] rfl rfl (by kernel_rfl) (by kernel_rfl) (by kernel_rfl) (by kernel_rfl) (fun _ _ _ h => h) ⟨hQ, hb⟩ (Or.inl ⟨by rfl, ?_⟩) ?_
    rotate_left
    · intro w_ hSw_; go_simp; try with_reducible rfl
    try simp only [Act.put, List.setIfInBounds_toArray, List.set_cons_zero, List.set_cons_succ]
    refine wpAnyH_done (by kernel_rfl) ?_ _
    have Hwz := Lib.hid hwz
    clear hHeld hReq hRone hRsz hne0 hwz
    by_cases h0 : at_ < 0
    · go_wp2_with fail
      go_ret
      exact ⟨rfl, by rw [HB.out]; exact hb⟩
    · obtain ⟨k, rfl⟩ := Int.eq_ofNat_of_zero_le (show 0 ≤ at_ by omega)
      by_cases hk : whole.size ≤ k
      · go_wp2_with fail
        go_ret
        exact ⟨rfl, by rw [HB.out]; exact hb⟩
      · obtain ⟨cap, W5, hconv, hcap, hrow, hb2, hz2⟩ := Hcnv.out w21
        have hkl : k < whole.data.toList.length := by rw [Hwd.out]; omega
        have hcell := hrow.cell k hkl
        have hfree := hrow.free k hkl
        generalize hX : w21.heap.size = X at hrow hcell hfree hconv hb2 hz2
        have hbit0 : 0 ≤ (bit.toNat : Int) % 8 := by omega
        have hbit1 : (bit.toNat : Int) % 8 ≤ 7 := by omega
        have HX := Lib.hid hX
        clear hX hQ
        go_wp2_with fail
        obtain ⟨d, hd, hne⟩ := turned_byte whole.data[k] (bit.toNat % 8) (by omega)
        rw [hd]
        have hrow2 := hrow.set k d _ rfl hkl
        have hcrc := Hset.out k d hkl hne
        have hlen : (whole.data.toList.set k d).length = whole.size := by rw [List.length_set, Hwd.out]
        generalize whole.data.toList.set k d = l2 at hrow2 hcrc hlen
        have hb3 : Below X w21 (W5.setCell ⟨X, k, none⟩ (.int .u8 (d.toNat : Int))) := hb2.setCell (p := ⟨X, k, none⟩) (Nat.le_refl X) _
        generalize W5.setCell ⟨X, k, none⟩ (.int .u8 (d.toNat : Int)) = W6 at hrow2 hb3
        have hback := conv_back W6 X whole.size cap l2 hlen.symm hrow2
        have hs2 : (⟨l2.toArray⟩ : ByteArray).size ≤ maxLen := by show l2.toArray.size ≤ maxLen; have hz := Hwz.out; unfold maxLen; simp [hlen]; omega
        clear hd hconv hcell hfree hlen
        rw [hback]
        go_wp2_with fail
        refine (Hsum2.out _ _ hs2).mono ?_
        rintro e w24 ⟨rfl, hb4⟩
        have hn : (uw (crc l2) != (cn : Int)) = true := by
          rw [bne_iff_ne, ← Hcn.out]; exact fun e => hcrc (uw_inj e)
        have huu : IntKind.u64.wrap (uw (crc l2)) = uw (crc l2) := by
          have h1 := uw_lo (crc l2)
          have h2 := uw_hi (crc l2)
          rw [IntKind.wrap_u64]; omega
        clear hback hcrc hrow hrow2
        generalize uw (crc l2) = z at *
        go_wp2_with fail
        go_ret
        have hbX : B ≤ X := by rw [← HX.out]; exact hle
        have hXz : X ≤ W6.heap.size := by have := hb3.size; rw [HX.out] at this; exact this
        exact ⟨rfl, by rw [HB.out]; exact hb.trans ((hb3.mono hbX).trans (hb4.mono (by omega)))⟩
  · have hHx : txtE H = 0 := by rw [txtE, if_pos (by omega)]
    rw [hHx] at htx2
    rw [htE] at htx
    have hbig : (65535 : Int) < (t.size : Int) := by omega
    clear hpar hRsz hRone hReq has hte htE hHx
    go_enter Try.func13, Try.ntmps13
    go_wp2_with fail
    refine (begins_calls w).mono ?_
    rintro e w1 ⟨rfl, hb1⟩
    go_wp2_with fail
    refine (htx w1).mono ?_
    rintro e w2 ⟨rfl, hb2⟩
    replace hb2 := hb1.trans (hb2.mono hb1.size)
    clear hb1
    go_wp2_with fail
    refine (hsha w2).mono ?_
    rintro e w3 ⟨rfl, hb3⟩
    replace hb3 := hb2.trans (hb3.mono hb2.size)
    clear hb2
    go_wp2_with fail
    refine (hhex w3).mono ?_
    rintro e w4 ⟨rfl, hb4⟩
    replace hb4 := hb3.trans (hb4.mono hb3.size)
    clear hb3
    go_wp2_with fail
    refine (htx2 w4).mono ?_
    rintro e w5 ⟨rfl, hb5⟩
    replace hb5 := hb4.trans (hb5.mono hb4.size)
    clear hb4
    go_wp2_with fail
    go_ret
    exact ⟨rfl, hb5⟩

end Go.Proofs.Ytjbnnfdhmpeoeaa
