/- The superblocks that a slice owns, one by one. -/
import Derived.Test.YtgjaoofgmdijdaaGreatDoorSuperLives2
import Derived.Test.YtgjaoofgmdijdaaGreatDoorSuperNewP
namespace Go.Proofs.YtgjaoofgmdijdaaGreatDoor
open Go.RowKit Go.Sort

theorem own_rng {w : World} {B : Nat} {v : Value} {l : List SupW} (h : w.ownsRow B 26 35 v l.length (l.flatMap supE)) :
    ∃ p cap, v = .slice p l.length cap ∧ ∀ t (ht : t < l.length), ∃ g, p = some ⟨g, 0, none⟩ ∧ B ≤ g ∧ g < w.heap.size ∧ w.rangeAt g (t * 35) (supV l[t].1) := by
  obtain ⟨_, ⟨hv, hn⟩ | ⟨g, cap, cur, hv, hg, hh, hnc, hcm, hcs, hxs⟩⟩ := h
  · exact ⟨none, 0, by rw [hv, hn], fun t ht => absurd ht (by omega)⟩
  · refine ⟨_, cap, hv, fun t ht => ⟨g, rfl, hg, lt_of_block hh, fun j u hj => ?_⟩⟩
    have hj35 : j < 35 := by
      have := (List.getElem?_eq_some_iff.1 hj).1
      rwa [supV_length l[t].2] at this
    have hf := flat_get (f := supE) (z := 35) l (fun x _ => supE_length x) t j hj35
    rw [List.getElem?_eq_getElem ht, Option.map_some, Option.getD_some, supE, hj, ← hxs, List.getElem?_take] at hf
    have hlt : t * 35 + j < l.length * 35 := by
      have := Nat.mul_le_mul_right 35 (show t + 1 ≤ l.length from ht)
      omega
    rw [if_pos hlt, Array.getElem?_toList] at hf
    simp only [World.cell?, hh]
    simpa using hf
theorem rng_gen {w : World} {g t : Nat} {s : SupD} (h : w.rangeAt g (t * 35) (supV s)) : w.cell? ⟨g, t * 35 + 1, none⟩ = some (.int .u64 (s.gen : Int)) := h 1 _ rfl

end Go.Proofs.YtgjaoofgmdijdaaGreatDoor
