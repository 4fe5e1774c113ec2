/- Leaves that are put into a heap, and a branch over them: plainly. -/
import Derived.Test.YtimkklaidodkdaaGreatDoorHeapLivesC
namespace Go.Proofs.YtimkklaidodkdaaGreatDoor

def leafI (l : List ItemD) : NodeD := ⟨1, l, [], []⟩
theorem leafI_wf (l : List ItemD) : (leafI l).wf := ⟨by show (1 : Nat) < 256; omega, by simp [leafI], by simp [leafI]⟩
theorem leafI_named (l : List ItemD) : namedN (leafI l) = [] := rfl
theorem leafI_kids (l : List ItemD) : kidNums (leafI l) = [] := rfl
theorem told_leaf (c : List CellD) (l : List ItemD) : toldN c (leafI l) = 0 := by unfold toldN; rw [leafI_named]; rfl
theorem first_leaf (h : HeapD) (l : List ItemD) : firstE h (leafI l) = checkN (leafI l) := by
  unfold firstE
  rw [told_leaf]
  split <;> omega
theorem full_leaf (c : List CellD) (l : List ItemD) : fullC c (kidNums (leafI l)) = false := by rw [leafI_kids]; rfl
def cellN (k : Nat) (n : NodeD) (r : Int) : CellD := ⟨k, strOf (encN n), r⟩
theorem cellN_d (k : Nat) (n : NodeD) (r : Int) : (cellN k n r).d = encN n := rfl
theorem cellN_hash (k : Nat) (n : NodeD) (r : Int) : (cellN k n r).hash = sha (encN n) := rfl
theorem cellN_node (k : Nat) (n : NodeD) (r : Int) (hw : n.wf) (hc : checkN n = 0) : (cellN k n r).node = n := by
  unfold CellD.node
  rw [cellN_d, node_enc n hw hc]
/-- The first leaf is put. -/
theorem top_put1 (a : List ItemD) : putE hv0 (leafI a) = checkN (leafI a) ∧ (checkN (leafI a) = 0 → putN hv0 (leafI a) = 2 ∧ putS hv0 (leafI a) = sha (encN (leafI a)) ∧ putH hv0 (leafI a) = ⟨16, [cellN 2 (leafI a) 0]⟩) := by
  by_cases h : checkN (leafI a) = 0
  · obtain ⟨h1, h2, h3, h4⟩ := put_new (h := hv0) (n := leafI a) (by rw [first_leaf]; exact h) rfl (by decide) (full_leaf _ _)
    exact ⟨h1.trans h.symm, fun _ => ⟨h2, h3, h4⟩⟩
  · exact ⟨by rw [put_first (by rw [first_leaf]; exact h), first_leaf], fun q => absurd q h⟩
def two (a b : List ItemD) : List CellD := [cellN 2 (leafI a) 0, cellN 3 (leafI b) 0]
theorem enc_leaf {a b : List ItemD} (ha : checkN (leafI a) = 0) (hb : checkN (leafI b) = 0) : encN (leafI a) = encN (leafI b) ↔ a = b := by
  constructor
  · intro h
    have := enc_inj _ _ (leafI_wf a) (leafI_wf b) ha hb h
    exact congrArg NodeD.items this
  · rintro rfl; rfl
/-- The second one. -/
theorem top_put2 (a b : List ItemD) : putE ⟨16, [cellN 2 (leafI a) 0]⟩ (leafI b) = checkN (leafI b) ∨ (checkN (leafI b) = 0 ∧ checkN (leafI a) ≠ 0) := by
  by_cases h : checkN (leafI b) = 0
  · by_cases ha : checkN (leafI a) = 0
    · left
      cases hs : sameC [cellN 2 (leafI a) 0] (encN (leafI b)) with
      | some c => exact (put_same (h := ⟨16, [cellN 2 (leafI a) 0]⟩) (n := leafI b) (c := c) (by rw [first_leaf]; exact h) hs).1.trans h.symm
      | none => exact (put_new (h := ⟨16, [cellN 2 (leafI a) 0]⟩) (n := leafI b) (by rw [first_leaf]; exact h) hs (show (3 : Nat) < 16 by omega) (full_leaf _ _)).1.trans h.symm
    · exact .inr ⟨h, ha⟩
  · left
    rw [put_first (by rw [first_leaf]; exact h), first_leaf]
theorem top_same (a : List ItemD) (h : checkN (leafI a) = 0) : putN ⟨16, [cellN 2 (leafI a) 0]⟩ (leafI a) = 2 ∧ putS ⟨16, [cellN 2 (leafI a) 0]⟩ (leafI a) = sha (encN (leafI a)) := by
  obtain ⟨h1, h2, h3, h4⟩ := put_same (h := ⟨16, [cellN 2 (leafI a) 0]⟩) (n := leafI a) (c := cellN 2 (leafI a) 0) (by rw [first_leaf]; exact h) (same_one _ _ (cellN_d _ _ _))
  exact ⟨h2, h3⟩
theorem top_apart (a b : List ItemD) (ha : checkN (leafI a) = 0) (hb : checkN (leafI b) = 0) (hab : a ≠ b) : putN ⟨16, [cellN 2 (leafI a) 0]⟩ (leafI b) = 3 ∧ putS ⟨16, [cellN 2 (leafI a) 0]⟩ (leafI b) = sha (encN (leafI b)) ∧ putH ⟨16, [cellN 2 (leafI a) 0]⟩ (leafI b) = ⟨16, two a b⟩ := by
  obtain ⟨h1, h2, h3, h4⟩ := put_new (h := ⟨16, [cellN 2 (leafI a) 0]⟩) (n := leafI b) (by rw [first_leaf]; exact hb) (same_not _ _ (by rw [cellN_d]; exact fun q => hab ((enc_leaf ha hb).1 q))) (show (3 : Nat) < 16 by omega) (full_leaf _ _)
  exact ⟨h2, h3, by rw [h4]; rfl⟩
theorem top_right1 {a : List ItemD} (ha : checkN (leafI a) = 0) : RightH ⟨16, [cellN 2 (leafI a) 0]⟩ := by
  rw [← ((top_put1 a).2 ha).2.2]
  exact putH_right right0 (leafI_wf a)
theorem top_right2 {a b : List ItemD} (ha : checkN (leafI a) = 0) (hb : checkN (leafI b) = 0) (hab : a ≠ b) : RightH ⟨16, two a b⟩ := by
  rw [← (top_apart a b ha hb hab).2.2]
  exact putH_right (top_right1 ha) (leafI_wf b)

/-! ### The branch -/
def upN (ka kb : ByteArray) (a b : List ItemD) : NodeD := ⟨2, [], [⟨ka, 2, sha (encN (leafI a))⟩, ⟨kb, 3, sha (encN (leafI b))⟩], []⟩
theorem up_wf (ka kb : ByteArray) (a b : List ItemD) : (upN ka kb a b).wf := ⟨by show (2 : Nat) < 256; omega, fun k hk => by
  simp only [upN, List.mem_cons, List.not_mem_nil, or_false] at hk
  rcases hk with rfl | rfl
  · exact ⟨by show (2 : Nat) < _; omega, sha_length _⟩
  · exact ⟨by show (3 : Nat) < _; omega, sha_length _⟩, by simp [upN]⟩
theorem leaf_first {l : List ItemD} (h : checkN (leafI l) = 0) : ∃ x r, l = x :: r ∧ lessB noName x.key = true ∧ x.key.size ≤ 48 := by
  have hs := ((check_ok _).1 h).1
  unfold shapedN at hs
  rw [if_pos (show (leafI l).kind = 1 from rfl)] at hs
  cases l with
  | nil => simp [leafI] at hs
  | cons x r =>
    simp only [leafI, Bool.and_eq_true, itemsOk, itemOk, decide_eq_true_eq] at hs
    exact ⟨x, r, rfl, hs.2.1.1.1, hs.2.1.1.2⟩
theorem up_check {ka kb : ByteArray} {a b : List ItemD} (h1 : lessB noName ka = true) (h2 : ka.size ≤ 48) (h3 : lessB ka kb = true) (h4 : kb.size ≤ 48) : checkN (upN ka kb a b) = 0 := by
  have hs : shapedN (upN ka kb a b) = true := by
    unfold shapedN
    rw [if_neg (show ¬ (upN ka kb a b).kind = 1 from (by show ¬ (2 : Nat) = 1; omega)), if_pos (show (upN ka kb a b).kind = 2 from rfl)]
    have b2 : blockN 2 = true := rfl
    have b3 : blockN 3 = true := rfl
    simp only [upN, kidsOk, kidOk, h1, h3, decide_eq_true h2, decide_eq_true h4, b2, b3, List.isEmpty_nil, List.length_cons, List.length_nil, Bool.and_true, Bool.true_and]
    rfl
  have hz : sizeN (upN ka kb a b) ≤ 508 := by
    unfold sizeN
    rw [if_neg (show ¬ (upN ka kb a b).kind = 1 from (by show ¬ (2 : Nat) = 1; omega)), if_pos (show (upN ka kb a b).kind = 2 from rfl)]
    simp only [upN, List.map_cons, List.map_nil, List.sum_cons, List.sum_nil, kidS]
    omega
  unfold checkN
  rw [if_pos hs, if_pos hz]
theorem up_named (ka kb : ByteArray) (a b : List ItemD) : namedN (upN ka kb a b) = [(2, sha (encN (leafI a))), (3, sha (encN (leafI b)))] := rfl
theorem up_kids (ka kb : ByteArray) (a b : List ItemD) : kidNums (upN ka kb a b) = [2, 3] := rfl
def h3N (ka kb : ByteArray) (a b : List ItemD) : HeapD := ⟨16, [cellN 2 (leafI a) 1, cellN 3 (leafI b) 1, cellN 4 (upN ka kb a b) 0]⟩
theorem top_put3 {ka kb : ByteArray} {a b : List ItemD} (ha : checkN (leafI a) = 0) (hb : checkN (leafI b) = 0) (hu : checkN (upN ka kb a b) = 0) :
    putE ⟨16, two a b⟩ (upN ka kb a b) = 0 ∧ putN ⟨16, two a b⟩ (upN ka kb a b) = 4 ∧ putS ⟨16, two a b⟩ (upN ka kb a b) = sha (encN (upN ka kb a b)) ∧ putH ⟨16, two a b⟩ (upN ka kb a b) = h3N ka kb a b := by
  have e : two a b = [cellN 2 (leafI a) 0, cellN 3 (leafI b) 0] := rfl
  rw [e]
  have ht : toldN [cellN 2 (leafI a) 0, cellN 3 (leafI b) 0] (upN ka kb a b) = 0 := by
    unfold toldN
    rw [up_named]
    have f2 : findC [cellN 2 (leafI a) 0, cellN 3 (leafI b) 0] 2 = some (cellN 2 (leafI a) 0) := rfl
    have f3 : findC [cellN 2 (leafI a) 0, cellN 3 (leafI b) 0] 3 = some (cellN 3 (leafI b) 0) := rfl
    simp only [toldC, f2, f3, cellN_hash, if_true]
  have hne : ∀ l : List ItemD, checkN (leafI l) = 0 → encN (leafI l) ≠ encN (upN ka kb a b) := fun l hl q => by
    have := enc_inj _ _ (leafI_wf l) (up_wf ka kb a b) hl hu q
    have h2 : (1 : Nat) = 2 := congrArg NodeD.kind this
    omega
  have hs : sameC [cellN 2 (leafI a) 0, cellN 3 (leafI b) 0] (encN (upN ka kb a b)) = none := by
    unfold sameC
    rw [List.find?_eq_none]
    intro c hc
    simp only [List.mem_cons, List.not_mem_nil, or_false] at hc
    rcases hc with rfl | rfl
    · rw [cellN_d]; simpa using hne a ha
    · rw [cellN_d]; simpa using hne b hb
  have hf : fullC [cellN 2 (leafI a) 0, cellN 3 (leafI b) 0] (kidNums (upN ka kb a b)) = false := by
    rw [up_kids]
    unfold fullC
    simp only [List.any_cons, List.any_nil]
    rfl
  obtain ⟨h1, h2, h3, h4⟩ := put_new (h := ⟨16, [cellN 2 (leafI a) 0, cellN 3 (leafI b) 0]⟩) (n := upN ka kb a b) (by unfold firstE; rw [hu, if_neg (by simp)]; exact ht) hs (show (4 : Nat) < 16 by omega) hf
  refine ⟨h1, h2, h3, ?_⟩
  rw [h4]
  unfold putL
  rw [up_kids]
  rfl
theorem top_right3 {ka kb : ByteArray} {a b : List ItemD} (hab : a ≠ b) (ha : checkN (leafI a) = 0) (hb : checkN (leafI b) = 0) (hu : checkN (upN ka kb a b) = 0) : RightH (h3N ka kb a b) := by
  rw [← (top_put3 ha hb hu).2.2.2]
  exact putH_right (top_right2 ha hb hab) (up_wf ka kb a b)
theorem top_find {ka kb : ByteArray} {a b : List ItemD} : findC (h3N ka kb a b).cells 4 = some (cellN 4 (upN ka kb a b) 0) := rfl

end Go.Proofs.YtimkklaidodkdaaGreatDoor
