/- The reference's Bag, Filled, Whole: walked. -/
import Derived.Test.YtokanfceipkfpaaDoorTakerH
namespace Go.Proofs.YtokanfceipkfpaaDoor
open Go.RowKit

/-- A Bag in memory. -/
def BgAt (w : World) (b : Nat) (t : TkD) : Prop := RowIs w b 72 #[.string (strOf t.left), .bool t.bad]
def bgSome (t : TkD) (n : Nat) : List UInt8 := if tkOut t n then List.replicate n 0 else t.left.take n

theorem zeros_calls (w : World) (n : Nat) (hn : n ≤ 281474976710656) : ∃ W2, (Instr.makeSlice 43 (.int .i64 (n : Int)) (.int .i64 (n : Int))).run Tryd.prog w = .ok (.slice (some ⟨w.heap.size, 0, none⟩) n n) W2 ∧
    (convert 43 9 (.slice (some ⟨w.heap.size, 0, none⟩) n n)).run Tryd.prog W2 = .ok (.string (strOf (List.replicate n 0))) W2 ∧ Below w.heap.size w W2 := by
  obtain ⟨W2, hmk, hrow, hb2, _⟩ := make_bytes w .i64 n hn
  refine ⟨W2, hmk, ?_, hb2⟩
  have := conv_back W2 w.heap.size n n (List.replicate n 0) (by rw [List.length_replicate]) hrow
  exact this

set_option maxRecDepth 20000 in
theorem rfilled_calls (s : ByteArray) (w : World) (hs : s.size ≤ 140737488351232) :
    Calls Tryd.prog 25 #[.string s] w fun e w' => e = .returned (.string (strOf (padTo 512 s.data.toList))) ∧ Below w.heap.size w w' := by
  have e : s.data.toList.length = s.size := Array.length_toList
  by_cases h : 512 ≤ s.size
  · have i1 : (512 : Int) ≤ (s.size : Int) := by omega
    have hR : strOf (padTo 512 s.data.toList) = s := by
      rw [padTo, e, show 512 - s.size = 0 by omega]
      simp [strOf]
    rw [hR]
    clear hR e
    go_enter Tryd.func25, Tryd.ntmps25
    go_wp2_with fail
    go_ret
    exact ⟨rfl, Below.refl _ _⟩
  · have i1 : ¬ (512 : Int) ≤ (s.size : Int) := by omega
    obtain ⟨W2, hmk, hcv, hb2⟩ := zeros_calls w (512 - s.size) (by omega)
    have hcast : ((512 - s.size : Nat) : Int) = 512 - (s.size : Int) := by omega
    have hcat : s ++ strOf (List.replicate (512 - s.size) 0) = strOf (padTo 512 s.data.toList) := by
      apply ByteArray.ext
      apply Array.ext'
      simp [strOf, padTo, e]
    rw [hcast] at hmk
    have Hcat := Lib.hid hcat
    have hZ : (strOf (List.replicate (512 - s.size) 0)).size ≤ 512 := by rw [strOf_size, List.length_replicate]; omega
    clear hcat hcast e
    generalize strOf (List.replicate (512 - s.size) 0) = Z at *
    generalize 512 - s.size = n at *
    go_enter Tryd.func25, Tryd.ntmps25
    go_wp2_with fail
    go_ret
    exact ⟨by rw [← Hcat.out]; rfl, hb2⟩

def strLen : Value → Nat
  | .string S => S.size
  | _ => 0
theorem trimR_zeros_at1 (l : List UInt8) : trimR (l ++ [0]) = trimR l := by
  unfold trimR Lib.trimRightB
  rw [List.reverse_append, List.reverse_singleton, List.singleton_append, List.dropWhile_cons]; simp
theorem trimR_last1 (l : List UInt8) (c : UInt8) (h : c ≠ 0) : trimR (l ++ [c]) = l ++ [c] := by
  unfold trimR Lib.trimRightB
  rw [List.reverse_append, List.reverse_singleton, List.singleton_append, List.dropWhile_cons, if_neg (by simpa using h)]
  simp

set_option maxRecDepth 20000 in
set_option maxHeartbeats 800000 in
theorem rwhole_calls (s : ByteArray) (w : World) (hs : s.size ≤ 508) :
    Calls Tryd.prog 21 #[.string s] w fun e w' => e = .returned (.string (strOf (wholeL s.data.toList))) ∧ Below w.heap.size w w' := by
  have e : s.data.toList.length = s.size := Array.length_toList
  have hpl : (padTo 508 s.data.toList).length = 508 := padTo_length 508 _ (by omega)
  obtain ⟨W2, hmk, hcv, hb2⟩ := zeros_calls w (508 - s.size) (by omega)
  have hcast : ((508 - s.size : Nat) : Int) = 508 - (s.size : Int) := by omega
  have hcat : s ++ strOf (List.replicate (508 - s.size) 0) = strOf (padTo 508 s.data.toList) := by
    apply ByteArray.ext
    apply Array.ext'
    simp [strOf, padTo, e]
  rw [hcast] at hmk
  have hsum := fun w => refsum_calls (strOf (padTo 508 s.data.toList)) w (by rw [strOf_size, hpl]; decide)
  rw [show (strOf (padTo 508 s.data.toList)).data.toList = padTo 508 s.data.toList from rfl] at hsum
  have hwr : IntKind.u64.wrap (uw (crc (padTo 508 s.data.toList))) = ((crc (padTo 508 s.data.toList)).toNat : Int) := by
    rw [IntKind.wrap_u64]
    have := (crc (padTo 508 s.data.toList)).isLt
    unfold uw; omega
  have hby := fun w => refbytes_calls (crc (padTo 508 s.data.toList)).toNat 4 w (by have := (crc (padTo 508 s.data.toList)).isLt; omega) (by omega)
  rw [show ((4 : Nat) : Int) = 4 from rfl] at hby
  have hfin : trimR (beN (crc (padTo 508 s.data.toList)).toNat 4 ++ strOf (padTo 508 s.data.toList)).data.toList = wholeL s.data.toList := by
    rw [ByteArray.data_append, Array.toList_append]
    rfl
  have hsz : (beN (crc (padTo 508 s.data.toList)).toNat 4 ++ strOf (padTo 508 s.data.toList)).size ≤ 512 := by
    rw [ByteArray.size_append, strOf_size, hpl]
    have : (beN (crc (padTo 508 s.data.toList)).toNat 4).size = 4 := beN_size _ _
    omega
  have hZ : (strOf (List.replicate (508 - s.size) 0)).size ≤ 512 := by rw [strOf_size, List.length_replicate]; omega
  have hB4 : (beN (crc (padTo 508 s.data.toList)).toNat 4).size = 4 := beN_size _ _
  have hS1 : (strOf (padTo 508 s.data.toList)).size = 508 := by rw [strOf_size, hpl]
  generalize wholeL s.data.toList = R at *
  generalize strOf (padTo 508 s.data.toList) = S1 at *
  generalize strOf (List.replicate (508 - s.size) 0) = Z at *
  generalize uw (crc (padTo 508 s.data.toList)) = U at *
  generalize beN (crc (padTo 508 s.data.toList)).toNat 4 = B4 at *
  generalize ((crc (padTo 508 s.data.toList)).toNat : Int) = UI at *
  generalize 508 - s.size = n at *
  have Hfin := Lib.hid hfin
  clear hcast e hpl hfin
  go_enter Tryd.func21, Tryd.ntmps21
  go_wp2_with fail
  refine (hsum W2).mono ?_
  rintro e w3 ⟨rfl, rfl⟩
  go_wp2_with fail
  refine (hby W2).mono ?_
  rintro e w4 ⟨rfl, hb4⟩
  have hb5 := hb2.trans (hb4.mono hb2.size)
  clear hcat hmk hcv hsum hby hb2 hb4
  go_wp2_with fail
  go_loop [0] (fun v => ∃ S : ByteArray, v = .string S ∧ S.size ≤ 512 ∧ trimR S.data.toList = R) strLen
  case atStart => exact ⟨_, rfl, hsz, Hfin.out⟩
  case round =>
    obtain ⟨S, rfl, hS, hR⟩ := hrel
    clear Hfin
    by_cases h0 : S.size = 0
    · have hS0 : S = ⟨#[]⟩ := by
        apply ByteArray.ext
        exact Array.eq_empty_of_size_eq_zero h0
      subst hS0
      have HR := Lib.hid hR
      clear hR
      go_wp2_with fail
      go_ret
      exact ⟨by rw [← HR.out]; rfl, hb5⟩
    · have hlt : S.size - 1 < S.size := by omega
      have i1 : ((S.size : Int) - 1).toNat = S.size - 1 := by omega
      have i2 : (0 : Int) ≤ (S.size : Int) - 1 := by omega
      have i3 : (S.size : Int) - 1 < (S.size : Int) := by omega
      have n1 : S.toList.isEmpty = false := by
        rw [ByteArray.toList_eq, Bool.eq_false_iff]
        intro q
        rw [List.isEmpty_iff] at q
        exact h0 (by rw [← size_data, q]; rfl)
      have n2 : ¬ S.toList = [] := by
        rw [← List.isEmpty_iff, n1]; decide
      by_cases hz : S[S.size - 1] = 0
      · have hR2 : trimR (S.extract 0 (S.size - 1)).data.toList = R := by
          rw [← hR]
          have e1 : S.data.toList = S.data.toList.take (S.size - 1) ++ [S[S.size - 1]] := by
            have := take_snoc S (S.size - 1) hlt
            rw [show S.size - 1 + 1 = S.size by omega, List.take_of_length_le (by rw [size_data]; omega)] at this
            exact this
          have e2 : (S.extract 0 (S.size - 1)).data.toList = S.data.toList.take (S.size - 1) := by
            have := size_data S
            simp only [ByteArray.data_extract, Array.toList_extract, List.extract_eq_take_drop, List.drop_zero, Nat.sub_zero]
          rw [e2]
          conv => rhs; rw [e1, hz]
          exact (trimR_zeros_at1 _).symm
        have hz2 : (S.extract 0 (S.size - 1)).size = S.size - 1 := by rw [ByteArray.size_extract]; omega
        have HR := Lib.hid (And.intro hR2 hz2)
        clear hR hR2 hz2
        go_wp2_with fail
        go_round
        case rel => exact ⟨_, rfl, by have := HR.out.2; omega, HR.out.1⟩
        case measure => have := HR.out.2; simp only [strLen]; omega
      · have hR2 : trimR S.data.toList = S.data.toList := by
          have e1 : S.data.toList = S.data.toList.take (S.size - 1) ++ [S[S.size - 1]] := by
            have := take_snoc S (S.size - 1) hlt
            rw [show S.size - 1 + 1 = S.size by omega, List.take_of_length_le (by rw [size_data]; omega)] at this
            exact this
          rw [e1]
          exact trimR_last1 _ _ hz
        have hne0 : ((S[S.size - 1].toNat : Int) == 0) = false := by
          rw [Bool.eq_false_iff]
          intro q
          have q2 : (S[S.size - 1].toNat : Int) = 0 := by simpa using q
          exact hz (UInt8.toNat_inj.1 (by simpa using q2))
        have HR := Lib.hid (hR.symm.trans hR2)
        clear hR hR2
        go_wp2_with fail
        go_ret
        exact ⟨by rw [HR.out, strOf_data]; rfl, hb5⟩

set_option maxRecDepth 20000 in
theorem bgsome_calls (b : Nat) (t : TkD) (n : Nat) (w : World) (h : BgAt w b t) (hn : n ≤ 255) :
    Calls Tryd.prog 67 #[.pointer (some ⟨b, 0, none⟩), .int .i64 (n : Int)] w fun e w' => e = .returned (.string (strOf (bgSome t n))) ∧ BgAt w' b (tkNext t n) ∧ But b w w' := by
  have c0 : w.cell? ⟨b, 0, none⟩ = some (.string (strOf t.left)) := by rw [h.cell]; rfl
  have c1 : w.cell? ⟨b, 1, none⟩ = some (.bool t.bad) := by rw [h.cell]; rfl
  have f0 := h.free 0
  have f1 := h.free 1
  have hsz := strOf_size t.left
  have hout : tkOut t n = (t.bad || decide (t.left.length < n)) := rfl
  have r1 : ∀ v, RowIs (w.setCell ⟨b, 1, none⟩ v) b 72 #[.string (strOf t.left), v] := fun v => h.set 1 v
  have r0 : ∀ u, RowIs (w.setCell ⟨b, 0, none⟩ u) b 72 #[u, .bool t.bad] := fun u => h.set 0 u
  have hbt1 := (But.refl b w).setCell 1 (.bool true)
  have hzz : (w.setCell ⟨b, 1, none⟩ (.bool true)).heap.size = w.heap.size := by simp [World.setCell]
  obtain ⟨W2, hmk, hcv, hb2⟩ := zeros_calls (w.setCell ⟨b, 1, none⟩ (.bool true)) n (by omega)
  rw [hzz] at hmk hcv
  have hbt2 := hbt1.trans (But.of hb2)
  have hr2 := RowIs.below (r1 (.bool true)) hb2 (by rw [hzz]; exact h.lt)
  cases hb : t.bad with
  | true =>
    rw [hb] at c1 hout
    have hS : bgSome t n = List.replicate n 0 := by rw [bgSome, hout]; rfl
    have hN : tkNext t n = ⟨t.left, true⟩ := by rw [tkNext, hout]; rfl
    have hr : BgAt W2 b (tkNext t n) := by rw [hN]; exact hr2
    rw [hS]
    generalize tkNext t n = N at *
    generalize strOf (List.replicate n 0) = Z at *
    have HR := Lib.hid hr
    generalize strOf t.left = S at *
    clear h r1 r0 hS hN hr hout hb hr2
    go_enter Tryd.func67, Tryd.ntmps67
    go_wp2_with fail
    go_ret
    exact ⟨rfl, HR.out, hbt2⟩
  | false =>
    rw [hb] at c1 hout
    by_cases hn : t.left.length < n
    · have i1 : ((strOf t.left).size : Int) < (n : Int) := by rw [hsz]; omega
      rw [decide_eq_true hn] at hout
      have hS : bgSome t n = List.replicate n 0 := by rw [bgSome, hout]; rfl
      have hN : tkNext t n = ⟨t.left, true⟩ := by rw [tkNext, hout]; rfl
      have hr : BgAt W2 b (tkNext t n) := by rw [hN]; exact hr2
      rw [hS]
      generalize tkNext t n = N at *
      generalize strOf (List.replicate n 0) = Z at *
      have HR := Lib.hid hr
      generalize strOf t.left = S at *
      clear h r1 r0 hS hN hr hout hb hr2 hsz
      go_enter Tryd.func67, Tryd.ntmps67
      go_wp2_with fail
      go_ret
      exact ⟨rfl, HR.out, hbt2⟩
    · have i1 : ¬ ((strOf t.left).size : Int) < (n : Int) := by rw [hsz]; omega
      have i2 : (n : Int) ≤ ((strOf t.left).size : Int) := by rw [hsz]; omega
      rw [decide_eq_false hn] at hout
      have hS : strOf (bgSome t n) = (strOf t.left).extract 0 n := by rw [bgSome, hout, strOf_take]; rfl
      have hN : tkNext t n = ⟨t.left.drop n, false⟩ := by rw [tkNext, hout]; rfl
      have hr : BgAt (w.setCell ⟨b, 0, none⟩ (.string ((strOf t.left).extract n (strOf t.left).size))) b (tkNext t n) := by rw [hN, strOf_drop]; have := r0 (.string (strOf (t.left.drop n))); rw [hb] at this; exact this
      have hbt := (But.refl b w).setCell 0 (.string ((strOf t.left).extract n (strOf t.left).size))
      rw [hS]
      generalize tkNext t n = N at *
      have HR := Lib.hid hr
      generalize strOf t.left = S at *
      clear h r1 r0 hS hN hr hout hb hsz hmk hcv hb2 hbt2 hr2 hbt1 hzz
      go_enter Tryd.func67, Tryd.ntmps67
      go_wp2_with fail
      go_ret
      exact ⟨rfl, HR.out, hbt⟩

theorem ofBE_zeros : ∀ n, ofBE (List.replicate n 0) = 0
  | 0 => rfl
  | n + 1 => by
    rw [List.replicate_succ', ofBE_snoc, ofBE_zeros n]; rfl
theorem bg_num (t : TkD) (k : Nat) (h1 : 1 ≤ k) (h8 : k ≤ 8) : tkN (strOf (bgSome t k)) (k : Int) = numT t k := by
  have hl : (bgSome t k).length = k := by
    unfold bgSome
    cases h : tkOut t k with
    | true => simp
    | false =>
      have : ¬ t.left.length < k := by
        unfold tkOut at h
        rw [Bool.or_eq_false_iff, decide_eq_false_iff_not] at h
        exact h.2
      simp; omega
  have hok : tkOk (strOf (bgSome t k)) (k : Int) := ⟨by omega, by omega, by rw [strOf_size, hl]; exact Int.le_refl _⟩
  rw [tkN, if_pos hok, show (strOf (bgSome t k)).data.toList = bgSome t k from rfl, Int.toNat_natCast, List.take_of_length_le (by omega), numT, bgSome, tkSome]
  cases h : tkOut t k with
  | true =>
    show ofBE (List.replicate k 0) = ofBE []
    rw [ofBE_zeros]; rfl
  | false => rfl
theorem bgSome_length (t : TkD) (n : Nat) : (bgSome t n).length = n := by
  unfold bgSome
  cases h : tkOut t n with
  | true => simp
  | false =>
    have : ¬ t.left.length < n := by
      unfold tkOut at h
      rw [Bool.or_eq_false_iff, decide_eq_false_iff_not] at h
      exact h.2
    simp; omega

set_option maxRecDepth 20000 in
theorem bgnumber_calls (b : Nat) (t : TkD) (k : Nat) (w : World) (h : BgAt w b t) (h1 : 1 ≤ k) (h8 : k ≤ 8) :
    Calls Tryd.prog 45 #[.pointer (some ⟨b, 0, none⟩), .int .i64 (k : Int)] w fun e w' => e = .returned (.int .u64 (numT t k : Int)) ∧ BgAt w' b (tkNext t k) ∧ But b w w' := by
  have hso := bgsome_calls b t k w h (by omega)
  have htk := fun w => reftake_calls (strOf (bgSome t k)) (k : Int) w (by rw [strOf_size, bgSome_length]; unfold maxLen; omega)
  rw [bg_num t k h1 h8] at htk
  generalize numT t k = N at *
  generalize tkNext t k = T at *
  generalize strOf (bgSome t k) = S at *
  generalize tkS S (k : Int) = S2 at *
  generalize tkE S (k : Int) = E2 at *
  go_enter Tryd.func45, Tryd.ntmps45
  go_wp2_with fail
  refine hso.mono ?_
  rintro e w1 ⟨rfl, hT, hb⟩
  go_wp2_with fail
  refine (htk w1).mono ?_
  rintro e w2 ⟨rfl, hb2⟩
  have hT2 : BgAt w2 b T := RowIs.below hT hb2 (RowIs.lt hT)
  have hb3 := hb.trans (But.of hb2)
  have HT2 := Lib.hid hT2
  clear hT hb hb2 hT2
  go_wp2_with fail
  go_ret
  exact ⟨rfl, HT2.out, hb3⟩

end Go.Proofs.YtokanfceipkfpaaDoor
