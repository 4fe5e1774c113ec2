/- cambiumref05.text: walked. -/
import Derived.Test.YtokanfceipkfpaaDoorRefBag
namespace Go.Proofs.YtokanfceipkfpaaDoor
open Go.RowKit

theorem rtext_calls (s : ByteArray) (w : World) (hs : s.size ≤ 140737488351232) :
    Calls Tryd.prog 41 #[.string s] w fun e w' => e = .returned (.string (beN s.size 1 ++ s)) ∧ Below w.heap.size w w' := by
  have hb := refbytes_calls s.size 1 w (by omega) (by omega)
  have hw : IntKind.u64.wrap (s.size : Int) = (s.size : Int) := by rw [IntKind.wrap_u64]; omega
  rw [show ((1 : Nat) : Int) = 1 from rfl] at hb
  have hT1 : (beN s.size 1).size = 1 := by show (beL s.size 1).toArray.size = 1; rw [List.size_toArray, beL_length]
  generalize beN s.size 1 = T at *
  have hT : ¬ 9223372036854775807 < T.size + s.size := by omega
  clear hT1
  go_enter Tryd.func41, Tryd.ntmps41
  go_wp2_with fail
  refine hb.mono ?_
  rintro e w1 ⟨rfl, hq⟩
  go_wp2_with fail
  go_ret
  exact ⟨rfl, hq⟩

/-- A text, taken by the reference. -/
def bgTx (t : TkD) : List UInt8 := bgSome (tkNext t 1) (numT t 1)
set_option maxRecDepth 20000 in
theorem bgtext_calls (b : Nat) (t : TkD) (w : World) (h : BgAt w b t) :
    Calls Tryd.prog 46 #[.pointer (some ⟨b, 0, none⟩)] w fun e w' => e = .returned (.string (strOf (bgTx t))) ∧ BgAt w' b (txN t) ∧ But b w w' := by
  have hnu := bgnumber_calls b t 1 w h (by omega) (by omega)
  rw [show ((1 : Nat) : Int) = 1 from rfl] at hnu
  have hN : numT t 1 ≤ 255 := by
    have := numT_lt t 1
    omega
  have hso := fun w (h : BgAt w b (tkNext t 1)) => bgsome_calls b (tkNext t 1) (numT t 1) w h hN
  have hw : IntKind.i64.wrap (numT t 1 : Int) = (numT t 1 : Int) := by rw [IntKind.wrap_i64]; omega
  unfold bgTx txN
  generalize tkNext (tkNext t 1) (numT t 1) = T2 at *
  generalize strOf (bgSome (tkNext t 1) (numT t 1)) = S at *
  generalize tkNext t 1 = T at *
  generalize numT t 1 = N at *
  clear h
  go_enter Tryd.func46, Tryd.ntmps46
  go_wp2_with fail
  refine hnu.mono ?_
  rintro e w1 ⟨rfl, hT, hb⟩
  have hcall := hso w1 hT
  clear hnu hso hT
  go_wp2_with fail
  refine hcall.mono ?_
  rintro e w2 ⟨rfl, hT2, hb2⟩
  have HF := Lib.hid (And.intro hT2 (hb.trans hb2))
  clear hcall hT2 hb hb2
  go_wp2_with fail
  go_ret
  exact ⟨rfl, HF.out⟩

end Go.Proofs.YtokanfceipkfpaaDoor
