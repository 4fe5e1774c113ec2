/- The reference's Bag, Filled, Whole: walked. -/
/- cambiumref05.text: walked. -/
/- cambiumref05.Bag.hash: walked; what the reference takes, plainly. -/
import Derived.Test.YtimkklaidodkdaaGreatDoorTakerH
import Derived.Test.YtimkklaidodkdaaGreatDoorTake5
namespace Go.Proofs.YtimkklaidodkdaaGreatDoor
open Go.RowKit

/-- A Bag in memory. -/
def BgAt (w : World) (b : Nat) (t : TkD) : Prop := RowIs w b 159 #[.string (strOf t.left), .bool t.bad]
def bgSome (t : TkD) (n : Nat) : List UInt8 := if tkOut t n then List.replicate n 0 else t.left.take n

theorem zeros_calls (w : World) (n : Nat) (hn : n ≤ 281474976710656) : ∃ W2, (Instr.makeSlice 75 (.int .i64 (n : Int)) (.int .i64 (n : Int))).run Tryz.prog w = .ok (.slice (some ⟨w.heap.size, 0, none⟩) n n) W2 ∧
  (convert 75 9 (.slice (some ⟨w.heap.size, 0, none⟩) n n)).run Tryz.prog W2 = .ok (.string (strOf (List.replicate n 0))) W2 ∧ Below w.heap.size w W2 := by
 obtain ⟨W2, hmk, hrow, hb2, _⟩ := make_bytes w .i64 n hn
 refine ⟨W2, hmk, ?_, hb2⟩
 have := conv_back W2 w.heap.size n n (List.replicate n 0) (by rw [List.length_replicate]) hrow
 exact this

set_option maxRecDepth 20000 in
theorem rfilled_calls (s : ByteArray) (w : World) (hs : s.size ≤ 140737488351232) :
  Calls Tryz.prog 85 #[.string s] w fun e w' => e = .returned (.string (strOf (padTo 512 s.data.toList))) ∧ Below w.heap.size w w' := by
 have e : s.data.toList.length = s.size := Array.length_toList
 by_cases h : 512 ≤ s.size
 ·have i1 : (512 : Int) ≤ (s.size : Int) := by omega
  have hR : strOf (padTo 512 s.data.toList) = s := by
   rw [padTo, e, show 512 - s.size = 0 by omega]
   simp [strOf]
  rw [hR]
  clear hR e
  go_enter Tryz.func85, Tryz.ntmps85
  go_wp2_with fail
  go_ret
  exact ⟨rfl, Below.refl _ _⟩
 ·have i1 : ¬ (512 : Int) ≤ (s.size : Int) := by omega
  obtain ⟨W2, hmk, hcv, hb2⟩ := zeros_calls w (512 - s.size) (by omega)
  have hcast : ((512 - s.size : Nat) : Int) = 512 - (s.size : Int) := by omega
  have hcat : s ++ strOf (List.replicate (512 - s.size) 0) = strOf (padTo 512 s.data.toList) := by
   apply ByteArray.ext
   apply Array.ext'
   simp [strOf, padTo, e]
  rw [hcast] at hmk
  have Hcat := Lib.hid hcat
  have hZ : (strOf (List.replicate (512 - s.size) 0)).size ≤ 512 := by rw [strOf_size, List.length_replicate]; omega
  clear hcat hcast e
  generalize strOf (List.replicate (512 - s.size) 0) = Z at *
  generalize 512 - s.size = n at *
  go_enter Tryz.func85, Tryz.ntmps85
  go_wp2_with fail
  go_ret
  exact ⟨by rw [← Hcat.out]; rfl, hb2⟩

def strLen : Value → Nat
 | .string S => S.size
 | _ => 0
theorem trimR_zeros_at1 (l : List UInt8) : trimR (l ++ [0]) = trimR l := by
 unfold trimR Lib.trimRightB
 rw [List.reverse_append, List.reverse_singleton, List.singleton_append, List.dropWhile_cons]; simp
theorem trimR_last1 (l : List UInt8) (c : UInt8) (h : c ≠ 0) : trimR (l ++ [c]) = l ++ [c] := by
 unfold trimR Lib.trimRightB
 rw [List.reverse_append, List.reverse_singleton, List.singleton_append, List.dropWhile_cons, if_neg (by simpa using h)]
 simp

set_option maxRecDepth 20000 in
set_option maxHeartbeats 800000 in
theorem rwhole_calls (s : ByteArray) (w : World) (hs : s.size ≤ 508) :
  Calls Tryz.prog 119 #[.string s] w fun e w' => e = .returned (.string (strOf (wholeL s.data.toList))) ∧ Below w.heap.size w w' := by
 have e : s.data.toList.length = s.size := Array.length_toList
 have hpl : (padTo 508 s.data.toList).length = 508 := padTo_length 508 _ (by omega)
 obtain ⟨W2, hmk, hcv, hb2⟩ := zeros_calls w (508 - s.size) (by omega)
 have hcast : ((508 - s.size : Nat) : Int) = 508 - (s.size : Int) := by omega
 have hcat : s ++ strOf (List.replicate (508 - s.size) 0) = strOf (padTo 508 s.data.toList) := by
  apply ByteArray.ext
  apply Array.ext'
  simp [strOf, padTo, e]
 rw [hcast] at hmk
 have hsum := fun w => refsum_calls (strOf (padTo 508 s.data.toList)) w (by rw [strOf_size, hpl]; decide)
 rw [show (strOf (padTo 508 s.data.toList)).data.toList = padTo 508 s.data.toList from rfl] at hsum
 have hwr : IntKind.u64.wrap (uw (crc (padTo 508 s.data.toList))) = ((crc (padTo 508 s.data.toList)).toNat : Int) := by
  rw [IntKind.wrap_u64]
  have := (crc (padTo 508 s.data.toList)).isLt
  unfold uw; omega
 have hby := fun w => refbytes_calls (crc (padTo 508 s.data.toList)).toNat 4 w (by have := (crc (padTo 508 s.data.toList)).isLt; omega) (by omega)
 rw [show ((4 : Nat) : Int) = 4 from rfl] at hby
 have hfin : trimR (beN (crc (padTo 508 s.data.toList)).toNat 4 ++ strOf (padTo 508 s.data.toList)).data.toList = wholeL s.data.toList := by
  rw [ByteArray.data_append, Array.toList_append]
  rfl
 have hsz : (beN (crc (padTo 508 s.data.toList)).toNat 4 ++ strOf (padTo 508 s.data.toList)).size ≤ 512 := by
  rw [ByteArray.size_append, strOf_size, hpl]
  have : (beN (crc (padTo 508 s.data.toList)).toNat 4).size = 4 := beN_size _ _
  omega
 have hZ : (strOf (List.replicate (508 - s.size) 0)).size ≤ 512 := by rw [strOf_size, List.length_replicate]; omega
 have hB4 : (beN (crc (padTo 508 s.data.toList)).toNat 4).size = 4 := beN_size _ _
 have hS1 : (strOf (padTo 508 s.data.toList)).size = 508 := by rw [strOf_size, hpl]
 generalize wholeL s.data.toList = R at *
 generalize strOf (padTo 508 s.data.toList) = S1 at *
 generalize strOf (List.replicate (508 - s.size) 0) = Z at *
 generalize uw (crc (padTo 508 s.data.toList)) = U at *
 generalize beN (crc (padTo 508 s.data.toList)).toNat 4 = B4 at *
 generalize ((crc (padTo 508 s.data.toList)).toNat : Int) = UI at *
 generalize 508 - s.size = n at *
 have Hfin := Lib.hid hfin
 clear hcast e hpl hfin
 go_enter Tryz.func119, Tryz.ntmps119
 go_wp2_with fail
 refine (hsum W2).mono ?_
 rintro e w3 ⟨rfl, rfl⟩
 go_wp2_with fail
 refine (hby W2).mono ?_
 rintro e w4 ⟨rfl, hb4⟩
 have hb5 := hb2.trans (hb4.mono hb2.size)
 clear hcat hmk hcv hsum hby hb2 hb4
 go_wp2_with fail
 go_loop [0] (fun v => ∃ S : ByteArray, v = .string S ∧ S.size ≤ 512 ∧ trimR S.data.toList = R) strLen
 case atStart => exact ⟨_, rfl, hsz, Hfin.out⟩
 case round =>
  obtain ⟨S, rfl, hS, hR⟩ := hrel
  clear Hfin
  by_cases h0 : S.size = 0
  ·have hS0 : S = ⟨#[]⟩ := by
    apply ByteArray.ext
    exact Array.eq_empty_of_size_eq_zero h0
   subst hS0
   have HR := Lib.hid hR
   clear hR
   go_wp2_with fail
   go_ret
   exact ⟨by rw [← HR.out]; rfl, hb5⟩
  ·have hlt : S.size - 1 < S.size := by omega
   have i1 : ((S.size : Int) - 1).toNat = S.size - 1 := by omega
   have i2 : (0 : Int) ≤ (S.size : Int) - 1 := by omega
   have i3 : (S.size : Int) - 1 < (S.size : Int) := by omega
   have n1 : S.toList.isEmpty = false := by
    rw [ByteArray.toList_eq, Bool.eq_false_iff]
    intro q
    rw [List.isEmpty_iff] at q
    exact h0 (by rw [← size_data, q]; rfl)
   have n2 : ¬ S.toList = [] := by
    rw [← List.isEmpty_iff, n1]; decide
   by_cases hz : S[S.size - 1] = 0
   ·have hR2 : trimR (S.extract 0 (S.size - 1)).data.toList = R := by
     rw [← hR]
     have e1 : S.data.toList = S.data.toList.take (S.size - 1) ++ [S[S.size - 1]] := by
      have := take_snoc S (S.size - 1) hlt
      rw [show S.size - 1 + 1 = S.size by omega, List.take_of_length_le (by rw [size_data]; omega)] at this
      exact this
     have e2 : (S.extract 0 (S.size - 1)).data.toList = S.data.toList.take (S.size - 1) := by
      have := size_data S
      simp only [ByteArray.data_extract, Array.toList_extract, List.extract_eq_take_drop, List.drop_zero, Nat.sub_zero]
     rw [e2]
     conv => rhs; rw [e1, hz]
     exact (trimR_zeros_at1 _).symm
    have hz2 : (S.extract 0 (S.size - 1)).size = S.size - 1 := by rw [ByteArray.size_extract]; omega
    have HR := Lib.hid (And.intro hR2 hz2)
    clear hR hR2 hz2
    go_wp2_with fail
    go_round
    case rel => exact ⟨_, rfl, by have := HR.out.2; omega, HR.out.1⟩
    case measure => have := HR.out.2; simp only [strLen]; omega
   ·have hR2 : trimR S.data.toList = S.data.toList := by
     have e1 : S.data.toList = S.data.toList.take (S.size - 1) ++ [S[S.size - 1]] := by
      have := take_snoc S (S.size - 1) hlt
      rw [show S.size - 1 + 1 = S.size by omega, List.take_of_length_le (by rw [size_data]; omega)] at this
      exact this
     rw [e1]
     exact trimR_last1 _ _ hz
    have hne0 : ((S[S.size - 1].toNat : Int) == 0) = false := by
     rw [Bool.eq_false_iff]
     intro q
     have q2 : (S[S.size - 1].toNat : Int) = 0 := by simpa using q
     exact hz (UInt8.toNat_inj.1 (by simpa using q2))
    have HR := Lib.hid (hR.symm.trans hR2)
    clear hR hR2
    go_wp2_with fail
    go_ret
    exact ⟨by rw [HR.out, strOf_data]; rfl, hb5⟩

set_option maxRecDepth 20000 in
theorem bgsome_calls (b : Nat) (t : TkD) (n : Nat) (w : World) (h : BgAt w b t) (hn : n ≤ 255) :
  Calls Tryz.prog 141 #[.pointer (some ⟨b, 0, none⟩), .int .i64 (n : Int)] w fun e w' => e = .returned (.string (strOf (bgSome t n))) ∧ BgAt w' b (tkNext t n) ∧ But b w w' := by
 have c0 : w.cell? ⟨b, 0, none⟩ = some (.string (strOf t.left)) := by rw [h.cell]; rfl
 have c1 : w.cell? ⟨b, 1, none⟩ = some (.bool t.bad) := by rw [h.cell]; rfl
 have f0 := h.free 0
 have f1 := h.free 1
 have hsz := strOf_size t.left
 have hout : tkOut t n = (t.bad || decide (t.left.length < n)) := rfl
 have r1 : ∀ v, RowIs (w.setCell ⟨b, 1, none⟩ v) b 159 #[.string (strOf t.left), v] := fun v => h.set 1 v
 have r0 : ∀ u, RowIs (w.setCell ⟨b, 0, none⟩ u) b 159 #[u, .bool t.bad] := fun u => h.set 0 u
 have hbt1 := (But.refl b w).setCell 1 (.bool true)
 have hzz : (w.setCell ⟨b, 1, none⟩ (.bool true)).heap.size = w.heap.size := by simp [World.setCell]
 obtain ⟨W2, hmk, hcv, hb2⟩ := zeros_calls (w.setCell ⟨b, 1, none⟩ (.bool true)) n (by omega)
 rw [hzz] at hmk hcv
 have hbt2 := hbt1.trans (But.of hb2)
 have hr2 := RowIs.below (r1 (.bool true)) hb2 (by rw [hzz]; exact h.lt)
 cases hb : t.bad with
 | true =>
  rw [hb] at c1 hout
  have hS : bgSome t n = List.replicate n 0 := by rw [bgSome, hout]; rfl
  have hN : tkNext t n = ⟨t.left, true⟩ := by rw [tkNext, hout]; rfl
  have hr : BgAt W2 b (tkNext t n) := by rw [hN]; exact hr2
  rw [hS]
  generalize tkNext t n = N at *
  generalize strOf (List.replicate n 0) = Z at *
  have HR := Lib.hid hr
  generalize strOf t.left = S at *
  clear h r1 r0 hS hN hr hout hb hr2
  go_enter Tryz.func141, Tryz.ntmps141
  go_wp2_with fail
  go_ret
  exact ⟨rfl, HR.out, hbt2⟩
 | false =>
  rw [hb] at c1 hout
  by_cases hn : t.left.length < n
  ·have i1 : ((strOf t.left).size : Int) < (n : Int) := by rw [hsz]; omega
   rw [decide_eq_true hn] at hout
   have hS : bgSome t n = List.replicate n 0 := by rw [bgSome, hout]; rfl
   have hN : tkNext t n = ⟨t.left, true⟩ := by rw [tkNext, hout]; rfl
   have hr : BgAt W2 b (tkNext t n) := by rw [hN]; exact hr2
   rw [hS]
   generalize tkNext t n = N at *
   generalize strOf (List.replicate n 0) = Z at *
   have HR := Lib.hid hr
   generalize strOf t.left = S at *
   clear h r1 r0 hS hN hr hout hb hr2 hsz
   go_enter Tryz.func141, Tryz.ntmps141
   go_wp2_with fail
   go_ret
   exact ⟨rfl, HR.out, hbt2⟩
  ·have i1 : ¬ ((strOf t.left).size : Int) < (n : Int) := by rw [hsz]; omega
   have i2 : (n : Int) ≤ ((strOf t.left).size : Int) := by rw [hsz]; omega
   rw [decide_eq_false hn] at hout
   have hS : strOf (bgSome t n) = (strOf t.left).extract 0 n := by rw [bgSome, hout, strOf_take]; rfl
   have hN : tkNext t n = ⟨t.left.drop n, false⟩ := by rw [tkNext, hout]; rfl
   have hr : BgAt (w.setCell ⟨b, 0, none⟩ (.string ((strOf t.left).extract n (strOf t.left).size))) b (tkNext t n) := by rw [hN, strOf_drop]; have := r0 (.string (strOf (t.left.drop n))); rw [hb] at this; exact this
   have hbt := (But.refl b w).setCell 0 (.string ((strOf t.left).extract n (strOf t.left).size))
   rw [hS]
   generalize tkNext t n = N at *
   have HR := Lib.hid hr
   generalize strOf t.left = S at *
   clear h r1 r0 hS hN hr hout hb hsz hmk hcv hb2 hbt2 hr2 hbt1 hzz
   go_enter Tryz.func141, Tryz.ntmps141
   go_wp2_with fail
   go_ret
   exact ⟨rfl, HR.out, hbt⟩

theorem ofBE_zeros : ∀ n, ofBE (List.replicate n 0) = 0
 | 0 => rfl
 | n + 1 => by
  rw [List.replicate_succ', ofBE_snoc, ofBE_zeros n]; rfl
theorem bg_num (t : TkD) (k : Nat) (h1 : 1 ≤ k) (h8 : k ≤ 8) : tkN (strOf (bgSome t k)) (k : Int) = numT t k := by
 have hl : (bgSome t k).length = k := by
  unfold bgSome
  cases h : tkOut t k with
  | true => simp
  | false =>
   have : ¬ t.left.length < k := by
    unfold tkOut at h
    rw [Bool.or_eq_false_iff, decide_eq_false_iff_not] at h
    exact h.2
   simp; omega
 have hok : tkOk (strOf (bgSome t k)) (k : Int) := ⟨by omega, by omega, by rw [strOf_size, hl]; exact Int.le_refl _⟩
 rw [tkN, if_pos hok, show (strOf (bgSome t k)).data.toList = bgSome t k from rfl, Int.toNat_natCast, List.take_of_length_le (by omega), numT, bgSome, tkSome]
 cases h : tkOut t k with
 | true =>
  show ofBE (List.replicate k 0) = ofBE []
  rw [ofBE_zeros]; rfl
 | false => rfl
theorem bgSome_length (t : TkD) (n : Nat) : (bgSome t n).length = n := by
 unfold bgSome
 cases h : tkOut t n with
 | true => simp
 | false =>
  have : ¬ t.left.length < n := by
   unfold tkOut at h
   rw [Bool.or_eq_false_iff, decide_eq_false_iff_not] at h
   exact h.2
  simp; omega

set_option maxRecDepth 20000 in
theorem bgnumber_calls (b : Nat) (t : TkD) (k : Nat) (w : World) (h : BgAt w b t) (h1 : 1 ≤ k) (h8 : k ≤ 8) :
  Calls Tryz.prog 115 #[.pointer (some ⟨b, 0, none⟩), .int .i64 (k : Int)] w fun e w' => e = .returned (.int .u64 (numT t k : Int)) ∧ BgAt w' b (tkNext t k) ∧ But b w w' := by
 have hso := bgsome_calls b t k w h (by omega)
 have htk := fun w => reftake_calls (strOf (bgSome t k)) (k : Int) w (by rw [strOf_size, bgSome_length]; unfold maxLen; omega)
 rw [bg_num t k h1 h8] at htk
 generalize numT t k = N at *
 generalize tkNext t k = T at *
 generalize strOf (bgSome t k) = S at *
 generalize tkS S (k : Int) = S2 at *
 generalize tkE S (k : Int) = E2 at *
 go_enter Tryz.func115, Tryz.ntmps115
 go_wp2_with fail
 refine hso.mono ?_
 rintro e w1 ⟨rfl, hT, hb⟩
 go_wp2_with fail
 refine (htk w1).mono ?_
 rintro e w2 ⟨rfl, hb2⟩
 have hT2 : BgAt w2 b T := RowIs.below hT hb2 (RowIs.lt hT)
 have hb3 := hb.trans (But.of hb2)
 have HT2 := Lib.hid hT2
 clear hT hb hb2 hT2
 go_wp2_with fail
 go_ret
 exact ⟨rfl, HT2.out, hb3⟩

end Go.Proofs.YtimkklaidodkdaaGreatDoor

namespace Go.Proofs.YtimkklaidodkdaaGreatDoor
open Go.RowKit

theorem rtext_calls (s : ByteArray) (w : World) (hs : s.size ≤ 140737488351232) :
  Calls Tryz.prog 148 #[.string s] w fun e w' => e = .returned (.string (beN s.size 1 ++ s)) ∧ Below w.heap.size w w' := by
 have hb := refbytes_calls s.size 1 w (by omega) (by omega)
 have hw : IntKind.u64.wrap (s.size : Int) = (s.size : Int) := by rw [IntKind.wrap_u64]; omega
 rw [show ((1 : Nat) : Int) = 1 from rfl] at hb
 have hT1 : (beN s.size 1).size = 1 := by show (beL s.size 1).toArray.size = 1; rw [List.size_toArray, beL_length]
 generalize beN s.size 1 = T at *
 have hT : ¬ 9223372036854775807 < T.size + s.size := by omega
 clear hT1
 go_enter Tryz.func148, Tryz.ntmps148
 go_wp2_with fail
 refine hb.mono ?_
 rintro e w1 ⟨rfl, hq⟩
 go_wp2_with fail
 go_ret
 exact ⟨rfl, hq⟩

/-- A text, taken by the reference. -/
def bgTx (t : TkD) : List UInt8 := bgSome (tkNext t 1) (numT t 1)
set_option maxRecDepth 20000 in
theorem bgtext_calls (b : Nat) (t : TkD) (w : World) (h : BgAt w b t) :
  Calls Tryz.prog 116 #[.pointer (some ⟨b, 0, none⟩)] w fun e w' => e = .returned (.string (strOf (bgTx t))) ∧ BgAt w' b (txN t) ∧ But b w w' := by
 have hnu := bgnumber_calls b t 1 w h (by omega) (by omega)
 rw [show ((1 : Nat) : Int) = 1 from rfl] at hnu
 have hN : numT t 1 ≤ 255 := by
  have := numT_lt t 1
  omega
 have hso := fun w (h : BgAt w b (tkNext t 1)) => bgsome_calls b (tkNext t 1) (numT t 1) w h hN
 have hw : IntKind.i64.wrap (numT t 1 : Int) = (numT t 1 : Int) := by rw [IntKind.wrap_i64]; omega
 unfold bgTx txN
 generalize tkNext (tkNext t 1) (numT t 1) = T2 at *
 generalize strOf (bgSome (tkNext t 1) (numT t 1)) = S at *
 generalize tkNext t 1 = T at *
 generalize numT t 1 = N at *
 clear h
 go_enter Tryz.func116, Tryz.ntmps116
 go_wp2_with fail
 refine hnu.mono ?_
 rintro e w1 ⟨rfl, hT, hb⟩
 have hcall := hso w1 hT
 clear hnu hso hT
 go_wp2_with fail
 refine hcall.mono ?_
 rintro e w2 ⟨rfl, hT2, hb2⟩
 have HF := Lib.hid (And.intro hT2 (hb.trans hb2))
 clear hcall hT2 hb hb2
 go_wp2_with fail
 go_ret
 exact ⟨rfl, HF.out⟩

end Go.Proofs.YtimkklaidodkdaaGreatDoor

namespace Go.Proofs.YtimkklaidodkdaaGreatDoor
open Go.RowKit

theorem hashT_bg (t : TkD) : hashT t = bgSome t 32 := by
 unfold hashT bgSome tkSome
 cases h : tkOut t 32 with
 | true => rfl
 | false =>
  have h2 : ¬ t.left.length < 32 := by
   unfold tkOut at h
   rw [Bool.or_eq_false_iff, decide_eq_false_iff_not] at h
   exact h.2
  have h3 : (t.left.take 32).length = 32 := by rw [List.length_take]; omega
  show padTo 32 (t.left.take 32) = t.left.take 32
  rw [padTo, h3]; simp
theorem out_bad {t : TkD} {n : Nat} (h : (tkNext t n).bad = false) : tkOut t n = false := by
 unfold tkNext at h
 cases ho : tkOut t n with
 | true => rw [ho, if_pos rfl] at h; cases h
 | false => rfl
theorem next_ok {t : TkD} {n : Nat} (h : (tkNext t n).bad = false) : t.bad = false := by
 have := out_bad h
 unfold tkOut at this
 exact (Bool.or_eq_false_iff.1 this).1
theorem bgTx_ok {t : TkD} (h : (txN t).bad = false) : bgTx t = txT t := by
 unfold txN at h
 have := out_bad h
 unfold bgTx txT bgSome tkSome
 rw [this]; rfl
theorem txN_ok {t : TkD} (h : (txN t).bad = false) : t.bad = false := next_ok (next_ok h)

def itemTR (t : TkD) : ItemD := ⟨strOf (bgTx t), strOf (bgTx (txN t))⟩
def kidTR (t : TkD) : KidD := ⟨strOf (bgTx t), numT (txN t) 4, hashT (tkNext (txN t) 4)⟩
def volTR (t : TkD) : VolD := { volT t with name := strOf (bgTx t), frm := strOf (bgTx (txN t)) }
theorem itemTR_ok {t : TkD} (h : (itemN t).bad = false) : itemTR t = itemT t := by
 unfold itemTR itemT
 rw [bgTx_ok (txN_ok h), bgTx_ok h]
theorem kidTR_ok {t : TkD} (h : (kidN t).bad = false) : kidTR t = kidT t := by
 unfold kidTR kidT
 rw [bgTx_ok (next_ok (next_ok h))]
theorem volTR_ok {t : TkD} (h : (volN t).bad = false) : volTR t = volT t := by
 have h1 := next_ok (next_ok (next_ok (next_ok h)))
 unfold volTR
 rw [bgTx_ok h1, bgTx_ok (txN_ok h1)]
 rfl
/-- As manyT, manyN, but nothing is taken where it is bad ahead. -/
def manyTR {α : Type} (f : TkD → α) (g : TkD → TkD) (c : Nat) (t : TkD) : List α := if t.bad then [] else manyT f g c t
def manyNR (g : TkD → TkD) (c : Nat) (t : TkD) : TkD := if t.bad then t else manyN g c t
theorem manyR_end {α : Type} {f : TkD → α} {g : TkD → TkD} {c : Nat} {t : TkD} (h : c = 0 ∨ t.bad = true) : manyTR f g c t = [] ∧ manyNR g c t = t := by
 unfold manyTR manyNR
 rcases h with rfl | h
 ·simp [manyT, manyN]
 ·simp [h]
theorem manyR_more {α : Type} {f : TkD → α} {g : TkD → TkD} {c : Nat} {t : TkD} (hc : c ≠ 0) (h : t.bad = false) : manyTR f g c t = f t :: manyTR f g (c - 1) (g t) ∧ manyNR g c t = manyNR g (c - 1) (g t) := by
 cases c with
 | zero => exact absurd rfl hc
 | succ c =>
  unfold manyTR manyNR
  rw [h, manyT, manyN]
  exact ⟨rfl, rfl⟩
theorem many_congr {α : Type} {f f' : TkD → α} {g : TkD → TkD} (hf : ∀ t, (g t).bad = false → f t = f' t) : ∀ (c : Nat) (t : TkD), (manyN g c t).bad = false → manyT f g c t = manyT f' g c t
 | 0, _, _ => rfl
 | c + 1, t, h => by
  rw [manyN] at h
  rw [manyT, manyT]
  cases hb : (g t).bad with
  | true => rw [hb, if_pos rfl] at h; exact absurd (hb.symm.trans h) (by decide)
  | false =>
   rw [hb, if_neg (by decide)] at h
   rw [hf t hb, many_congr hf c (g t) h]
/-- A body that is bad has no count. -/
theorem body_count (t : TkD) (h : (bodyT t).bad = true) : countT t = 0 := by
 unfold bodyT tkNext at h
 unfold countT numT tkSome
 cases ho : tkOut (tkNext t 1) 1 with
 | true => rfl
 | false =>
  change (if tkOut (tkNext t 1) 1 = true then (⟨(tkNext t 1).left, true⟩ : TkD) else ⟨(tkNext t 1).left.drop 1, false⟩).bad = true at h
  rw [ho] at h
  cases h
theorem manyR_start {α : Type} (f : TkD → α) (g : TkD → TkD) (t : TkD) : manyTR f g (countT t) (bodyT t) = manyT f g (countT t) (bodyT t) ∧ manyNR g (countT t) (bodyT t) = manyN g (countT t) (bodyT t) := by
 unfold manyTR manyNR
 cases h : (bodyT t).bad with
 | false => exact ⟨rfl, rfl⟩
 | true => rw [body_count t h]; exact ⟨rfl, rfl⟩
/-- What the reference takes. -/
def takeNR (t : TkD) : NodeD :=
 if kindT t = 1 then ⟨1, manyT itemTR itemN (countT t) (bodyT t), [], []⟩
 else if kindT t = 2 then ⟨2, [], manyT kidTR kidN (countT t) (bodyT t), []⟩
 else if kindT t = 3 then ⟨3, [], [], manyT volTR volN (countT t) (bodyT t)⟩
 else ⟨kindT t, [], [], []⟩
theorem takeNR_ok (t : TkD) (h : (takeX t).bad = false) : takeNR t = takeN t := by
 unfold takeX at h
 unfold takeNR takeN
 by_cases h1 : kindT t = 1
 ·rw [if_pos h1] at h
  rw [if_pos h1, if_pos h1, many_congr (fun t => itemTR_ok) _ _ h]
 rw [if_neg h1] at h
 rw [if_neg h1, if_neg h1]
 by_cases h2 : kindT t = 2
 ·rw [if_pos h2] at h
  rw [if_pos h2, if_pos h2, many_congr (fun t => kidTR_ok) _ _ h]
 rw [if_neg h2] at h
 rw [if_neg h2, if_neg h2]
 by_cases h3 : kindT t = 3
 ·rw [if_pos h3] at h
  rw [if_pos h3, if_pos h3, many_congr (fun t => volTR_ok) _ _ h]
 ·rw [if_neg h3, if_neg h3]
theorem kidTR_wf (t : TkD) : (kidTR t).wf := ⟨numT_lt _ 4, hashT_length _⟩
theorem volTR_wf (t : TkD) : (volTR t).wf := volT_wf t
theorem takeNR_wf (t : TkD) : (takeNR t).wf := by
 have hk : kindT t < 256 := numT_lt t 1
 unfold takeNR
 split
 ·exact ⟨by simp, by simp, by simp⟩
 ·split
  ·exact ⟨by simp, fun k hk => manyT_mem (p := KidD.wf) (fun t => kidTR_wf t) _ _ k hk, by simp⟩
  ·split
   ·exact ⟨by simp, by simp, fun v hv => manyT_mem (p := VolD.wf) (fun t => volTR_wf t) _ _ v hv⟩
   ·exact ⟨hk, by simp, by simp⟩

set_option maxRecDepth 20000 in
set_option maxHeartbeats 1600000 in
theorem bghash_calls (b : Nat) (t : TkD) (w : World) (h : BgAt w b t) :
  Calls Tryz.prog 117 #[.pointer (some ⟨b, 0, none⟩)] w fun e w' => e = .returned (.agg (byteCells (hashT t))) ∧ BgAt w' b (tkNext t 32) ∧ But b w w' := by
 obtain ⟨G, hG⟩ : ∃ G, G = w.heap.size := ⟨_, rfl⟩
 obtain ⟨W0, hW0⟩ : ∃ W, W = w.alloc (.cells (byteCells (List.replicate 32 0)) 36) := ⟨_, rfl⟩
 obtain ⟨H, hH⟩ : ∃ H, H = W0.heap.size := ⟨_, rfl⟩
 obtain ⟨W, hW⟩ : ∃ W, W = W0.alloc (.cells (byteCells (List.replicate 32 0)) 36) := ⟨_, rfl⟩
 have hGb : G ≠ b := by rw [hG]; have := RowIs.lt h; omega
 have hT0 : BgAt W0 b t := by rw [hW0]; exact RowIs.alloc h _
 have hHb : H ≠ b := by rw [hH]; have := RowIs.lt hT0; omega
 have hP0 : RowIs W0 G 36 (byteCells (List.replicate 32 0)) := by rw [hW0, hG]; exact RowIs.new w _ _
 have hGH : G ≠ H := by rw [hH]; have := hP0.lt; omega
 have hT1 : BgAt W b t := by rw [hW]; exact RowIs.alloc hT0 _
 have hP1 : RowIs W G 36 (byteCells (List.replicate 32 0)) := by rw [hW]; exact RowIs.alloc hP0 _
 have hR1 : RowIs W H 36 (byteCells (List.replicate 32 0)) := by rw [hW, hH]; exact RowIs.new W0 _ _
 have hB0 : But b w W0 := by rw [hW0]; exact (But.refl b w).alloc _
 have hB1 : But b w W := by rw [hW]; exact hB0.alloc _
 have hGw : w.heap.size ≤ G := by rw [hG]; exact Nat.le_refl _
 have hHw : w.heap.size ≤ H := by rw [hH]; exact hB0.size
 have hso := fun w h => bgsome_calls b t 32 w h (by decide)
 have hRl := hashT_length t
 rw [← hashT_bg] at hso
 have hrow : ∀ w2, RowIs w2 H 36 (byteCells (List.replicate 32 0)) → RowIs (w2.setCells H 0 ((strOf (hashT t)).data.toList.map fun x => Value.int .u8 (x.toNat : Int))) H 36 (byteCells (hashT t)) := by
  intro w2 h2
  have hd : (strOf (hashT t)).data.toList = hashT t := rfl
  rw [hd]
  exact store_row (D := byteCells (hashT t)) h2 (by rw [byteCells_size, byteCells_size, hRl]; rfl)
 have hbut : ∀ (X : Nat), w.heap.size ≤ X → ∀ w2, But b w w2 → ∀ (vs : List Value) (o : Nat), But b w (w2.setCells X o vs) := by
  intro X hX w2 hb vs
  induction vs generalizing w2 with
  | nil => intro o; exact hb
  | cons x vs ih =>
   intro o
   refine ih _ ?_ _
   exact ⟨hb.os, hb.tape, hb.output, by simpa [World.setCell] using hb.size, fun k hk hne => by
    rw [← hb.block k hk hne]
    exact Below.heap_setCell _ _ _ _ (fun q => by simp at q; omega)⟩
 have hbutH := hbut H hHw
 have hbutG := hbut G hGw
 have hSle : (strOf (hashT t)).size ≤ 32 := by rw [strOf_size, hRl]; exact Nat.le_refl _
 have hone := byteCells_one (hashT t)
 have hsz : (Tryz.prog.info? 36).map (·.size) = some (byteCells (hashT t)).size := by rw [byteCells_size, hRl]; kernel_rfl
 have hcs : (byteCells (hashT t)).size = 32 := by rw [byteCells_size, hRl]
 generalize tkNext t 32 = T at *
 generalize hashT t = R at *
 generalize strOf R = S at *
 have HW := Lib.hid hW
 have HW0 := Lib.hid hW0
 have HH := Lib.hid hH
 have HG := Lib.hid hG
 have HGH := Lib.hid (show G + 1 = H by rw [hH, hW0, hG]; exact (Array.size_push _).symm)
 clear hW hH hW0 hG h hRl hbut hT0 hP0 hB0
 rw [show ((32 : Nat) : Int) = 32 from rfl] at hso
 go_enter Tryz.func117, Tryz.ntmps117
 go_wp2_with fail
 change Code.wp _ _ _ _ ((w.alloc (.cells (byteCells (List.replicate 32 0)) 36)).alloc (.cells (byteCells (List.replicate 32 0)) 36))
 rw [← HG.out, ← HW0.out, ← HW.out, HGH.out]
 refine wp_region_held_drew (S := fun _ => True) (by kernel_rfl) trivial (fun hHeld => ?_)
 have hTv := RowIs.drew hT1
 have hRv := RowIs.drew hR1
 have hPv := RowIs.drew hP1
 have hBv := But.drew hB1
 generalize W.drew = wv at *
 refine take_N (i := 0) (v := ?_) (some 4) #[true, false, false, false] rfl rfl (by kernel_rfl) (by kernel_rfl) (by kernel_rfl) (by kernel_rfl) (fun _ _ _ h => h) trivial (Or.inl ⟨by rfl, ?_⟩) ?_
 rotate_left
 ·intro w_ hSw_; go_simp; try with_reducible rfl
 try simp only [Act.put, List.setIfInBounds_toArray, List.set_cons_zero, List.set_cons_succ]
 refine take_N (i := 1) (v := ?_) (some 5) #[true, true, false, false] rfl rfl (by kernel_rfl) (by kernel_rfl) (by kernel_rfl) (by kernel_rfl) (fun _ _ _ h => h) trivial (Or.inl ⟨by rfl, ?_⟩) ?_
 rotate_left
 ·intro w_ hSw_; go_simp; try with_reducible rfl
 try simp only [Act.put, List.setIfInBounds_toArray, List.set_cons_zero, List.set_cons_succ]
 refine step_N (i := 2) #[true, true, true, false] rfl (by kernel_rfl) (by kernel_rfl) (fun K hK => ?_)
 rw [if_pos (by rfl)]
 go_simp
 refine (hso wv hTv).mono ?_
 rintro e w2 ⟨rfl, hT2, hb2⟩
 have hR2 := hRv.but hb2 hHb
 have hP2 := hPv.but hb2 hGb
 have hB2 := hBv.trans hb2
 clear hb2 hTv hRv hPv hBv hso
 refine hK.out _ _ trivial ?_
 clear hK K
 refine step_N (i := 3) #[true, true, true, true] rfl (by kernel_rfl) (by kernel_rfl) (fun K hK => ?_)
 refine step_copy_string rfl _ _ 75 9 rfl 5 Tryz.underlying75 Tryz.sizeOf5 H 0 32 32 (by rfl) S (by rfl) hSle (fun j hj => by rw [Nat.zero_add, hR2.byte j (by simp; omega)]; rfl) (fun j _ => hR2.free _) ?_
 have hrw : RowIs (w2.setCells H 0 (S.data.toList.map fun x => Value.int .u8 (x.toNat : Int))) H 36 (byteCells R) := hrow w2 hR2
 have hT3 : BgAt (w2.setCells H 0 (S.data.toList.map fun x => Value.int .u8 (x.toNat : Int))) b T := (setCells_other H b (fun q => hHb q.symm) _ 0 w2).trans hT2
 have hP3 : RowIs (w2.setCells H 0 (S.data.toList.map fun x => Value.int .u8 (x.toNat : Int))) G 36 (byteCells (List.replicate 32 0)) := (setCells_other H G hGH _ 0 w2).trans hP2
 have hB3 := hbutH w2 hB2 (S.data.toList.map fun x => Value.int .u8 (x.toNat : Int)) 0
 generalize w2.setCells H 0 (S.data.toList.map fun x => Value.int .u8 (x.toNat : Int)) = w3 at *
 clear hrow hbutH hR2 hT2 hB2 hP2
 refine hK.out _ _ trivial ?_
 clear hK K
 refine wpAnyH_done (by kernel_rfl) ?_ _
 clear hHeld
 have hthere := hP3.there 0 (byteCells R).size (by rw [hcs, byteCells_size]; exact Nat.le_refl _)
 have hst := store_row hP3 (D := byteCells R) (by rw [hcs, byteCells_size]; rfl)
 have hT4 : BgAt (w3.setCells G 0 (byteCells R).toList) b T := (setCells_other G b (fun q => hGb q.symm) _ 0 w3).trans hT3
 have hB4 := hbutG w3 hB3 (byteCells R).toList 0
 have Hst := Lib.hid hst
 have HT4 := Lib.hid hT4
 have HB4 := Lib.hid hB4
 clear hst hT4 hB4 hbutG
 go_wp2_with (first | (refine wpList_load_row rfl 36 _ rfl H rfl 36 (byteCells R) (0, 0) _ hrw Tryz.underlying36 rfl hsz ?_) | (refine wpList_store_mid rfl 36 _ _ rfl G 0 (byteCells R) rfl rfl hthere hsz hone ?_))
 refine bodyPost_ret (v := .agg (byteCells R)) (results_cell_row (p := 2) (ty := 36) (by rfl) _ _ G 36 (byteCells R) (0, 0) _ (by rfl) Hst.out Tryz.underlying36 (by rfl) hsz) (by rfl) ?_
 exact ⟨rfl, HT4.out, HB4.out⟩

end Go.Proofs.YtimkklaidodkdaaGreatDoor
