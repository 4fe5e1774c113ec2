/- Superblocks in a row that a slice owns: sorted in place. -/
import Derived.Test.YtgjaoofgmdijdaaGreatDoorSuper3
import Derived.Test.YtgjaoofgmdijdaaGreatDoorSort
namespace Go.Proofs.YtgjaoofgmdijdaaGreatDoor
open Go.RowKit Go.Sort

abbrev SupW := {s : SupD // s.hash.length = 32}
instance : Inhabited SupW := ⟨⟨zeroS, rfl⟩⟩
def supE (x : SupW) : List Value := supV x.1
theorem supE_length (x : SupW) : (supE x).length = 35 := supV_length x.2
def cfS (x y : SupW) : Int := if y.1.gen < x.1.gen then -1 else if x.1.gen < y.1.gen then 1 else 0

theorem flat_get! {α : Type} [Inhabited α] {f : α → List Value} {z : Nat} (hz : ∀ x, (f x).length = z) (d : Array α) (t : Nat) (ht : t < d.size * z) : (d.toList.flatMap f)[t]? = some (flatK f z d)[t]! := by
  have z0 : 0 < z := by rcases Nat.eq_zero_or_pos z with h | h; · subst h; simp at ht
                        · exact h
  have hi : t / z < d.size := (Nat.div_lt_iff_lt_mul z0).2 ht
  have h := flat_get (f := f) (z := z) d.toList (fun x _ => hz x) (t / z) (t % z) (Nat.mod_lt _ z0)
  rw [Nat.div_add_mod' t z] at h
  have hm : t % z < (f d[t / z]).length := by rw [hz]; exact Nat.mod_lt _ z0
  have hq : (d.toList[t / z]?).map f = some (f d[t / z]) := by rw [List.getElem?_eq_getElem (by simpa using hi), Option.map_some, Array.getElem_toList]
  rw [hq, Option.getD_some, List.getElem?_eq_getElem hm] at h
  rw [h, get_flatK _ _ _ _ ht, getElem!_pos d (t / z) hi, getElem!_pos (f d[t / z]) (t % z) hm]

theorem flatS_len {α : Type} {f : α → List Value} {z : Nat} : ∀ (l : List α), (∀ x, (f x).length = z) → (l.flatMap f).length = l.length * z
  | [], _ => by simp
  | x :: l, h => by rw [List.flatMap_cons, List.length_append, h, flatS_len l h, List.length_cons, Nat.succ_mul]; omega

theorem own_holds {α : Type} [Inhabited α] {f : α → List Value} {z : Nat} (hz : ∀ x, (f x).length = z) {w : World} {base g n cap : Nat} {e : TypeId} {d : Array α} (hn : d.size = n)
    (h : w.ownsRow base e z (.slice (some ⟨g, 0, none⟩) n cap) n (d.toList.flatMap f)) : HoldsK f z w g 0 d := by
  subst hn
  obtain ⟨_, ⟨hv, _⟩ | ⟨g', cap', cur, hv, hg, hh, hnc, hcm, hcs, hxs⟩⟩ := h
  · cases hv
  · injection hv with h1 h2 h3
    injection h1 with h1
    injection h1 with h1
    subst h1
    intro j hj
    have hj' : j < d.size * z := by simpa using hj
    have hq := flat_get! hz d j hj'
    rw [← hxs, List.getElem?_take, if_pos hj', Array.getElem?_toList] at hq
    refine ⟨?_, ?_⟩
    · simp only [World.cell?, hh, Nat.zero_add]
      simpa using hq
    · simp [World.frozen?, hh]

theorem own_sorted {α : Type} [Inhabited α] {f : α → List Value} {z : Nat} (hz : ∀ x, (f x).length = z) {w : World} {base g n cap m : Nat} {os : Array Obj} {e : TypeId} {d d' : Array α} (hn : d.size = n) (hd : d'.size = n)
    (h : w.ownsRow base e z (.slice (some ⟨g, 0, none⟩) n cap) n (d.toList.flatMap f)) :
    (sortWorldK f z w g 0 m d' os).ownsRow base e z (.slice (some ⟨g, 0, none⟩) n cap) n (d'.toList.flatMap f) ∧ But g w (sortWorldK f z w g 0 m d' os) := by
  obtain ⟨hl, ⟨hv, _⟩ | ⟨g', cap', cur, hv, hg, hh, hnc, hcm, hcs, hxs⟩⟩ := h
  · cases hv
  · injection hv with h1 h2 h3
    injection h1 with h1
    injection h1 with h1
    subst h1; subst h3; subst hd
    have hglt : g < w.heap.size := lt_of_block hh
    have hblk : ∀ k, k < w.heap.size → (sortWorldK f z w g 0 m d' os).heap[k]? = if k = g then (w.heap[k]?).map (onCells (putCells id 0 (flatK f z d'))) else w.heap[k]? := fun k hk => by
      simp only [sortWorldK, grow, putRowK, putRow, mapBlock, heap_ahead]
      rw [Array.getElem?_append_left (by simpa using hk), Array.getElem?_modify]
      by_cases hkg : g = k
      · subst hkg; simp
      · rw [if_neg hkg, if_neg (Ne.symm hkg)]
    refine ⟨⟨?_, .inr ⟨g, cap, putCells id 0 (flatK f z d') cur, rfl, hg, ?_, hnc, hcm, ?_, ?_⟩⟩, ⟨rfl, rfl, rfl, ?_, fun k hk hne => ?_⟩⟩
    · rw [flatS_len d'.toList hz, Array.length_toList]
    · rw [hblk g hglt, if_pos rfl, hh]; rfl
    · rw [← hcs]; simp [putCells]
    · apply List.ext_getElem?
      intro t
      rw [List.getElem?_take]
      by_cases ht : t < d'.size * z
      · rw [if_pos ht, flat_get! hz d' t ht, Array.getElem?_toList]
        have hc : t < cur.size := by rw [hcs]; exact Nat.lt_of_lt_of_le ht (Nat.mul_le_mul_right z hnc)
        simp only [putCells, Array.getElem?_mapIdx, Array.getElem?_eq_getElem hc, Option.map_some]
        rw [if_pos ⟨Nat.zero_le _, by simpa using ht⟩]; rfl
      · rw [if_neg ht, List.getElem?_eq_none]
        rw [flatS_len d'.toList hz, Array.length_toList]; omega
    · simp only [sortWorldK, grow, putRowK, Array.size_append, size_putRow, heap_ahead]; omega
    · rw [hblk k hk, if_neg hne]

theorem sorted2 (l : List SupW) (h : l.length ≤ 2) : (Sort.insertionSort (ltOf cfS) l.toArray 0 l.length).toList.map (·.1) = sortS (l.map (·.1)) ∧ (Sort.insertionSort (ltOf cfS) l.toArray 0 l.length).size = l.length := by
  match l, h with
  | [], _ => simp [insertionSort, insOuter, sortS]
  | [a], _ => simp [insertionSort, insOuter, sortS]
  | [a, b], _ =>
    have e : ltOf cfS b a = decide (a.1.gen < b.1.gen) := by
      unfold ltOf cfS
      by_cases q : a.1.gen < b.1.gen
      · simp [q]
      · by_cases q2 : b.1.gen < a.1.gen <;> simp [q, q2]
    by_cases q : a.1.gen < b.1.gen
    · simp [insertionSort, insOuter, insInner, sortS, e, q, swp]
    · simp [insertionSort, insOuter, insInner, sortS, e, q]

end Go.Proofs.YtgjaoofgmdijdaaGreatDoor
