/- node.Filled: walked. -/
import Derived.Test.YtokanfceipkfpaaDoorTakerH
namespace Go.Proofs.YtokanfceipkfpaaDoor
open Go.RowKit

set_option maxRecDepth 20000 in
theorem filled_calls (s : ByteArray) (w : World) (hs : s.size ≤ 140737488351232) :
    Calls Tryd.prog 23 #[.string s] w fun e w' => e = .returned (.string (strOf (padTo 512 s.data.toList))) ∧ Below w.heap.size w w' := by
  have hrep := fun w => Tryd.strings_Repeat ⟨#[0]⟩ (512 - s.size) w (by omega) (by show 1 * (512 - s.size) ≤ _; omega)
  rw [repeat_zero] at hrep
  have hcat : s ++ ⟨(List.replicate (512 - s.size) (0 : UInt8)).toArray⟩ = strOf (padTo 512 s.data.toList) := by
    apply ByteArray.ext
    apply Array.ext'
    have e : s.data.toList.length = s.size := Array.length_toList
    simp [strOf, padTo, e]
  have hrz : (⟨(List.replicate (512 - s.size) (0 : UInt8)).toArray⟩ : ByteArray).size = 512 - s.size := by show (List.replicate _ _).toArray.size = _; simp
  generalize strOf (padTo 512 s.data.toList) = R at *
  by_cases h : s.size ≤ 512
  · have hcast : ((512 - s.size : Nat) : Int) = 512 - (s.size : Int) := by omega
    rw [hcast] at hrep
    have hmax : max (0 : Int) (512 - (s.size : Int)) = 512 - (s.size : Int) := by omega
    have h1 : ¬ (512 - (s.size : Int)) < 0 := by omega
    have h2 : (0 : Int) ≤ 512 - (s.size : Int) := by omega
    generalize (⟨(List.replicate (512 - s.size) (0 : UInt8)).toArray⟩ : ByteArray) = Z at *
    go_enter Tryd.func23, Tryd.ntmps23
    go_wp2_with fail
    refine (hrep w).mono ?_
    rintro e w1 ⟨rfl, hb1⟩
    go_wp2_with fail
    go_ret
    exact ⟨rfl, hb1⟩
  · have hz0 : 512 - s.size = 0 := by omega
    rw [hz0] at hrep hcat hrz
    have h1 : (512 - (s.size : Int)) < 0 := by omega
    have h2 : ¬ (0 : Int) ≤ 512 - (s.size : Int) := by omega
    rw [show ((0 : Nat) : Int) = 0 from rfl] at hrep
    generalize (⟨(List.replicate 0 (0 : UInt8)).toArray⟩ : ByteArray) = Z at *
    go_enter Tryd.func23, Tryd.ntmps23
    go_wp2_with fail
    rw [show max (0 : Int) (512 - (s.size : Int)) = 0 by omega]
    refine (hrep w).mono ?_
    rintro e w1 ⟨rfl, hb1⟩
    go_wp2_with fail
    go_ret
    exact ⟨rfl, hb1⟩

end Go.Proofs.YtokanfceipkfpaaDoor
