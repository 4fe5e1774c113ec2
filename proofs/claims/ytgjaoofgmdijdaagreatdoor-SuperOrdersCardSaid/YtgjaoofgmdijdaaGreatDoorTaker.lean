/- node.Taker: Some, Number, text: walked. -/
import Derived.Test.YtgjaoofgmdijdaaGreatDoorNodeEnc
namespace Go.Proofs.YtgjaoofgmdijdaaGreatDoor
open Go.RowKit

/-- A Taker in memory. -/
def TkAt (w : World) (b : Nat) (t : TkD) : Prop := RowIs w b 54 #[.string (strOf t.left), .bool t.bad]
theorem strOf_size (l : List UInt8) : (strOf l).size = l.length := by show l.toArray.size = _; simp
theorem strOf_nil : strOf [] = ⟨#[]⟩ := rfl
theorem strOf_take (l : List UInt8) (n : Nat) : (strOf l).extract 0 n = strOf (l.take n) := by
  apply ByteArray.ext; simp [strOf]
theorem strOf_drop (l : List UInt8) (n : Nat) : (strOf l).extract n (strOf l).size = strOf (l.drop n) := by
  apply ByteArray.ext
  have e := strOf_size l
  rw [e]
  simp [strOf]
  rw [List.take_of_length_le]
  rw [List.length_drop]; omega

set_option maxRecDepth 20000 in
theorem some_calls (b : Nat) (t : TkD) (n : Nat) (w : World) (h : TkAt w b t) (_hl : t.left.length ≤ 1048576) :
    Calls Tryz.prog 26 #[.pointer (some ⟨b, 0, none⟩), .int .i64 (n : Int)] w fun e w' => e = .returned (.string (strOf (tkSome t n))) ∧ TkAt w' b (tkNext t n) ∧ But b w w' := by
  have c0 : w.cell? ⟨b, 0, none⟩ = some (.string (strOf t.left)) := by rw [h.cell]; rfl
  have c1 : w.cell? ⟨b, 1, none⟩ = some (.bool t.bad) := by rw [h.cell]; rfl
  have f0 := h.free 0
  have f1 := h.free 1
  have hsz := strOf_size t.left
  have hout : tkOut t n = (t.bad || decide (t.left.length < n)) := rfl
  have r1 : ∀ v, RowIs (w.setCell ⟨b, 1, none⟩ v) b 54 #[.string (strOf t.left), v] := fun v => h.set 1 v
  have r2 : ∀ v u, RowIs ((w.setCell ⟨b, 1, none⟩ v).setCell ⟨b, 0, none⟩ u) b 54 #[u, v] := fun v u => (r1 v).set 0 u
  cases hb : t.bad with
  | true =>
    rw [hb] at c1 hout
    have hS : tkSome t n = [] := by rw [tkSome, hout]; rfl
    have hN : tkNext t n = ⟨t.left, true⟩ := by rw [tkNext, hout]; rfl
    have hr : TkAt (w.setCell ⟨b, 1, none⟩ (.bool true)) b (tkNext t n) := by rw [hN]; exact r1 _
    have hbt := (But.refl b w).setCell 1 (.bool true)
    rw [hS, strOf_nil]
    generalize tkNext t n = N at *
    have HR := Lib.hid hr
    generalize strOf t.left = S at *
    clear h r1 r2 hS hN hr hout hb
    go_enter Tryz.func26, Tryz.ntmps26
    go_wp2_with fail
    go_ret
    exact ⟨rfl, HR.out, hbt⟩
  | false =>
    rw [hb] at c1 hout
    by_cases hn : t.left.length < n
    · have i1 : ((strOf t.left).size : Int) < (n : Int) := by rw [hsz]; omega
      rw [decide_eq_true hn] at hout
      have hS : tkSome t n = [] := by rw [tkSome, hout]; rfl
      have hN : tkNext t n = ⟨t.left, true⟩ := by rw [tkNext, hout]; rfl
      have hr : TkAt (w.setCell ⟨b, 1, none⟩ (.bool true)) b (tkNext t n) := by rw [hN]; exact r1 _
      have hbt := (But.refl b w).setCell 1 (.bool true)
      rw [hS, strOf_nil]
      generalize tkNext t n = N at *
      have HR := Lib.hid hr
      generalize strOf t.left = S at *
      clear h r1 r2 hS hN hr hout hb hsz
      go_enter Tryz.func26, Tryz.ntmps26
      go_wp2_with fail
      go_ret
      exact ⟨rfl, HR.out, hbt⟩
    · have i1 : ¬ ((strOf t.left).size : Int) < (n : Int) := by rw [hsz]; omega
      have i2 : (n : Int) ≤ ((strOf t.left).size : Int) := by rw [hsz]; omega
      rw [decide_eq_false hn] at hout
      have hS : strOf (tkSome t n) = (strOf t.left).extract 0 n := by rw [tkSome, hout, strOf_take]; rfl
      have hN : tkNext t n = ⟨t.left.drop n, false⟩ := by rw [tkNext, hout]; rfl
      have hr : TkAt ((w.setCell ⟨b, 1, none⟩ (.bool false)).setCell ⟨b, 0, none⟩ (.string ((strOf t.left).extract n (strOf t.left).size))) b (tkNext t n) := by rw [hN, strOf_drop]; exact r2 _ _
      have hbt := ((But.refl b w).setCell 1 (.bool false)).setCell 0 (.string ((strOf t.left).extract n (strOf t.left).size))
      rw [hS]
      generalize tkNext t n = N at *
      have HR := Lib.hid hr
      generalize strOf t.left = S at *
      clear h r1 r2 hS hN hr hout hb hsz
      go_enter Tryz.func26, Tryz.ntmps26
      go_wp2_with fail
      go_ret
      exact ⟨rfl, HR.out, hbt⟩

theorem some_length (t : TkD) (n : Nat) : (tkSome t n).length = n ∨ tkSome t n = [] := by
  unfold tkSome tkOut
  cases hb : t.bad with
  | true => right; rfl
  | false =>
    by_cases h : t.left.length < n
    · right; simp [h]
    · left; rw [decide_eq_false h]
      show (t.left.take n).length = n
      rw [List.length_take]; omega
theorem next_left (t : TkD) (n : Nat) : (tkNext t n).left.length ≤ t.left.length := by
  unfold tkNext
  split
  · exact Nat.le_refl _
  · show (t.left.drop n).length ≤ _
    rw [List.length_drop]; omega
theorem tkN_num (t : TkD) (k : Nat) (h1 : 1 ≤ k) (h8 : k ≤ 8) : tkN (strOf (tkSome t k)) (k : Int) = numT t k := by
  have hd : (strOf (tkSome t k)).data.toList = tkSome t k := rfl
  rcases some_length t k with h | h
  · have hok : tkOk (strOf (tkSome t k)) (k : Int) := ⟨by omega, by omega, by rw [strOf_size, h]; exact Int.le_refl _⟩
    rw [tkN, if_pos hok, hd, Int.toNat_natCast, List.take_of_length_le (by omega)]
    rfl
  · rw [numT, h]
    have hno : ¬ tkOk (strOf ([] : List UInt8)) (k : Int) := by
      rintro ⟨_, _, q⟩
      rw [strOf_size] at q
      simp at q; omega
    rw [tkN, if_neg hno]; rfl

set_option maxRecDepth 20000 in
theorem tnumber_calls (b : Nat) (t : TkD) (k : Nat) (w : World) (h : TkAt w b t) (hl : t.left.length ≤ 1048576) (h1 : 1 ≤ k) (h8 : k ≤ 8) :
    Calls Tryz.prog 25 #[.pointer (some ⟨b, 0, none⟩), .int .i64 (k : Int)] w fun e w' => e = .returned (.int .u64 (numT t k : Int)) ∧ TkAt w' b (tkNext t k) ∧ But b w w' := by
  have hso := some_calls b t k w h hl
  have htk := fun w => take_calls (strOf (tkSome t k)) (k : Int) w (by rw [strOf_size]; rcases some_length t k with q | q <;> rw [q] <;> unfold maxLen <;> first | omega | decide)
  rw [tkN_num t k h1 h8] at htk
  generalize numT t k = N at *
  generalize tkNext t k = T at *
  generalize strOf (tkSome t k) = S at *
  generalize tkS S (k : Int) = S2 at *
  generalize tkE S (k : Int) = E2 at *
  go_enter Tryz.func25, Tryz.ntmps25
  go_wp2_with fail
  refine hso.mono ?_
  rintro e w1 ⟨rfl, hT, hb⟩
  go_wp2_with fail
  refine (htk w1).mono ?_
  rintro e w2 ⟨rfl, hb2⟩
  have hT2 : TkAt w2 b T := RowIs.below hT hb2 (RowIs.lt hT)
  have hb3 := hb.trans (But.of hb2)
  have HT2 := Lib.hid hT2
  clear hT hb hb2 hT2
  go_wp2_with fail
  go_ret
  exact ⟨rfl, HT2.out, hb3⟩

set_option maxRecDepth 20000 in
theorem ttext_calls (b : Nat) (t : TkD) (w : World) (h : TkAt w b t) (hl : t.left.length ≤ 1048576) :
    Calls Tryz.prog 46 #[.pointer (some ⟨b, 0, none⟩)] w fun e w' => e = .returned (.string (strOf (txT t))) ∧ TkAt w' b (txN t) ∧ But b w w' := by
  have hnum := tnumber_calls b t 1 w h hl (by omega) (by omega)
  have hlt := numT_lt t 1
  have hnl := next_left t 1
  have hso := fun w h => some_calls b (tkNext t 1) (numT t 1) w h (by omega)
  have hT : tkSome (tkNext t 1) (numT t 1) = txT t := rfl
  have hN : tkNext (tkNext t 1) (numT t 1) = txN t := rfl
  rw [hT, hN] at hso
  rw [show ((1 : Nat) : Int) = 1 from rfl] at hnum
  have hw : IntKind.i64.wrap (numT t 1 : Int) = (numT t 1 : Int) := by rw [IntKind.wrap_i64]; omega
  generalize strOf (txT t) = S at *
  generalize txN t = T at *
  generalize numT t 1 = n at *
  generalize tkNext t 1 = T1 at *
  clear hT hN
  go_enter Tryz.func46, Tryz.ntmps46
  go_wp2_with fail
  refine hnum.mono ?_
  rintro e w1 ⟨rfl, hT1, hb⟩
  have hso1 := hso w1 hT1
  clear hso hT1
  go_wp2_with fail
  refine hso1.mono ?_
  rintro e w2 ⟨rfl, hT2, hb2⟩
  have hb3 := hb.trans hb2
  have HT2 := Lib.hid hT2
  clear hT2 hb hb2
  go_wp2_with fail
  go_ret
  exact ⟨rfl, HT2.out, hb3⟩

end Go.Proofs.YtgjaoofgmdijdaaGreatDoor
