/- Which of two blocks' data are superblocks: the plain law of SuperNewest. -/
import Derived.Test.YtgjaoofgmdijdaaGreatDoorSuperPure
namespace Go.Proofs.YtgjaoofgmdijdaaGreatDoor

theorem nil_noS : ¬ decOkS [] := by
  intro h
  have h1 := h.2.1
  revert h1
  decide +kernel
theorem atSlot_nil (i : Nat) : atSlot [] i = [] := by rw [atSlot, if_neg (fun q => nil_noS q.1)]
theorem atSlot_length (d : List UInt8) (i : Nat) : (atSlot d i).length ≤ 1 := by
  rw [atSlot]; split <;> simp
theorem sortS_length (l : List SupD) : (sortS l).length = l.length := by
  unfold sortS
  split
  · split <;> rfl
  · rfl
theorem sortS_mem {l : List SupD} {s : SupD} (h : s ∈ sortS l) : s ∈ l := by
  unfold sortS at h
  split at h
  · split at h
    · simp only [List.mem_cons, List.not_mem_nil, or_false] at h ⊢; exact h.symm
    · exact h
  · exact h
theorem orderS_length (a b : List UInt8) : (orderS a b).length = (orderS a []).length + (orderS [] b).length := by
  rw [orderS, orderS, orderS, sortS_length, sortS_length, sortS_length, atSlot_nil, atSlot_nil, List.length_append, List.append_nil, List.nil_append]
theorem orderS_length2 (a b : List UInt8) : (orderS a b).length ≤ 2 := by
  have h1 := atSlot_length a 0
  have h2 := atSlot_length b 1
  rw [orderS, sortS_length, List.length_append]; omega
theorem atSlot_mem {d : List UInt8} {i : Nat} {s : SupD} (h : s ∈ atSlot d i) : okS s = true ∧ encS s = d ∧ s.gen % 2 = i ∧ s.wf := by
  rw [atSlot] at h
  split at h
  · next q =>
    have e : s = supL d := by simpa using h
    subst e
    have := decS_enc q.1
    exact ⟨this.1, this.2, q.2, supL_wf d⟩
  · simp at h
/-- Each that is read is right, and is its slot's block. -/
theorem orderS_mem {a b : List UInt8} {s : SupD} (h : s ∈ orderS a b) : okS s = true ∧ s.wf ∧ ((s.gen % 2 = 0 ∧ encS s = a) ∨ (s.gen % 2 = 1 ∧ encS s = b)) := by
  rcases List.mem_append.1 (sortS_mem h) with q | q
  · have := atSlot_mem q; exact ⟨this.1, this.2.2.2, .inl ⟨this.2.2.1, this.2.1⟩⟩
  · have := atSlot_mem q; exact ⟨this.1, this.2.2.2, .inr ⟨this.2.2.1, this.2.1⟩⟩
/-- The first of two is not the older one. -/
theorem orderS_first {a b : List UInt8} {x y : SupD} (h : orderS a b = [x, y]) : y.gen ≤ x.gen := by
  rw [orderS] at h
  match hl : atSlot a 0 ++ atSlot b 1 with
  | [] => rw [hl] at h; cases h
  | [_] => rw [hl] at h; cases h
  | [p, q] =>
    rw [hl, sortS] at h
    split at h <;> (injection h with h1 h2; injection h2 with h2 _; subst h1; subst h2; omega)
  | _ :: _ :: _ :: _ => rw [hl] at h; cases h

end Go.Proofs.YtgjaoofgmdijdaaGreatDoor
