/- HashBack: there and back: walked. -/
import Derived.Test.YtjbnnfdhmpeoeaaHashLaws
import Derived.Test.YtjbnnfdhmpeoeaaArr
namespace Go.Proofs.Ytjbnnfdhmpeoeaa
open Go.RowKit

theorem run_not' (x : Bool) (w : World) : (Op.unary .not (.bool x)).run Try.prog w = .ok (.bool (!x)) w := rfl
theorem parseE_two (s : ByteArray) : parseE s = 0 ∨ parseE s = 4 := by unfold parseE; split <;> simp

set_option maxRecDepth 20000 in
set_option maxHeartbeats 3200000 in
theorem hashBack_calls (l : List UInt8) (s : ByteArray) (w : World) (hl : l.length = 32) :
    Calls Try.prog 17 #[.agg (byteCells l), .string s] w fun e w' => e = .returned (.bool true) ∧ Below w.heap.size w w' := by
  have hhex := fun w => hex_calls l w hl
  have hhex2 := fun w => hex_calls (parseH s) w (parseH_length s)
  have hps := fun w => parse_calls (hexS l) w
  rw [(parse_hexS l hl).1, (parse_hexS l hl).2] at hps
  have hps2 := fun w => parse_calls s w
  have hal := parseH_length s
  have hback := hexS_parse s
  have hE := parseE_two s
  have hasz := load_row_32 hal
  have haone := byteCells_one (parseH s)
  have has := fun w => alloc_store w hal
  have hlsz := load_row_32 hl
  have hlone := byteCells_one l
  have hls := fun w => alloc_store w hl
  have hleq := eq_bytes_self hl
  have hnot := run_not'
  generalize hexS (parseH s) = S2 at *
  generalize hexS l = S at *
  generalize byteCells (parseH s) = A at *
  generalize parseE s = E at *
  have hR0 : RowIs (w.alloc (.cells (byteCells l) 45)) w.heap.size 45 (byteCells l) := RowIs.new w _ _
  have hB0 : Below w.heap.size w (w.alloc (.cells (byteCells l) 45)) := (Below.refl _ _).alloc (Nat.le_refl _) _
  generalize byteCells l = L at *
  go_enter Try.func17, Try.ntmps17
  go_wp2_with fail
  generalize w.alloc (.cells L 45) = w1 at *
  generalize hB : w.heap.size = B at *
  have HB := Lib.hid hB
  clear hB
  refine (codes_calls w1).mono ?_
  rintro e w2 ⟨rfl, hb2⟩
  have hR2 := hR0.below hb2 hR0.lt
  have hB2 := hB0.trans (hb2.mono (Nat.le_of_lt hR0.lt))
  clear hR0 hB0 hb2
  go_wp2_with (refine wpList_load_rowG 45 _ rfl B rfl rfl 45 L (0, 0) _ hR2 Try.underlying45 rfl hlsz ?_)
  refine (hhex w2).mono ?_
  rintro e w3 ⟨rfl, hb3⟩
  have hR3 := hR2.below hb3 hR2.lt
  have hB3 := hB2.trans (hb3.mono (Nat.le_of_lt hR2.lt))
  clear hR2 hB2 hb3
  go_wp2_with fail
  refine (hps w3).mono ?_
  rintro e w4 ⟨rfl, hb4⟩
  have hR4 := hR3.below hb4 hR3.lt
  have hB4 := hB3.trans (hb4.mono (Nat.le_of_lt hR3.lt))
  clear hR3 hB3 hb4
  obtain ⟨W, W2, hW, hW2, hG, hb5, hthere⟩ := hls w4
  have hR5 := hR4.below hb5 hR4.lt
  have hB5 := hB4.trans (hb5.mono (Nat.le_of_lt hR4.lt))
  have HW := Lib.hid hW
  have HW2 := Lib.hid hW2
  have hBG : B < w4.heap.size := hR4.lt
  clear hR4 hB4 hb5 hW hW2
  go_wp2_with (first | (refine wpList_world HW.out ?_) | (refine wpList_store_mid rfl 45 _ _ rfl w4.heap.size 0 L rfl rfl hthere hlsz hlone ?_; refine wpList_world HW2.out ?_))
  clear HW HW2 hthere
  generalize w4.heap.size = G at *
  refine (hps2 W2).mono ?_
  rintro e w5 ⟨rfl, hb5⟩
  have hR6 := hR5.below hb5 hR5.lt
  have hG6 := hG.below hb5 hG.lt
  have hB6 := hB5.trans (hb5.mono (Nat.le_of_lt hR5.lt))
  clear hR5 hB5 hb5 hG
  obtain ⟨W, W2, hW, hW2, hK, hb6, hthere⟩ := has w5
  have hR7 := hR6.below hb6 hR6.lt
  have hG7 := hG6.below hb6 hG6.lt
  have hB7 := hB6.trans (hb6.mono (Nat.le_of_lt hR6.lt))
  have HW := Lib.hid hW
  have HW2 := Lib.hid hW2
  have hGK : G < w5.heap.size := hG6.lt
  clear hR6 hB6 hb6 hW hW2 hG6
  rcases hE with rfl | rfl
  · have hS2 := hback rfl
    subst hS2
    go_wp2_with (first | (refine wpList_world HW.out ?_) | (refine wpList_store_mid rfl 45 _ _ rfl w5.heap.size 0 A rfl rfl hthere hasz haone ?_; refine wpList_world HW2.out ?_) | (refine wpList_load_rowG 45 _ rfl B rfl rfl 45 L (0, 0) _ hR7 Try.underlying45 rfl hlsz ?_) | (refine wpList_load_rowG 45 _ rfl G rfl rfl 45 L (0, 0) _ hG7 Try.underlying45 rfl hlsz ?_) | (refine wpList_load_rowG 45 _ rfl w5.heap.size rfl rfl 45 A (0, 0) _ hK Try.underlying45 rfl hasz ?_))
    refine (hhex2 W2).mono ?_
    rintro e w8 ⟨rfl, hb8⟩
    have hB8 := hB7.trans (hb8.mono (Nat.le_of_lt hR7.lt))
    go_wp2_with fail
    go_ret
    exact ⟨rfl, by rw [HB.out]; exact hB8⟩
  · go_wp2_with (first | (refine wpList_world HW.out ?_) | (refine wpList_store_mid rfl 45 _ _ rfl w5.heap.size 0 A rfl rfl hthere hasz haone ?_; refine wpList_world HW2.out ?_) | (refine wpList_load_rowG 45 _ rfl B rfl rfl 45 L (0, 0) _ hR7 Try.underlying45 rfl hlsz ?_) | (refine wpList_load_rowG 45 _ rfl G rfl rfl 45 L (0, 0) _ hG7 Try.underlying45 rfl hlsz ?_))
    go_ret
    exact ⟨rfl, by rw [HB.out]; exact hB7⟩

end Go.Proofs.Ytjbnnfdhmpeoeaa
