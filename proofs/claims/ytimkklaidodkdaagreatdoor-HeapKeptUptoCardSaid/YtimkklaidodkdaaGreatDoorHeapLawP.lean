/- What is swept, put twice, and kept: plainly. -/
import Derived.Test.YtimkklaidodkdaaGreatDoorHeapLivesC
import Derived.Test.YtimkklaidodkdaaGreatDoorHeapSweep
namespace Go.Proofs.YtimkklaidodkdaaGreatDoor

/-! ### Swept -/
theorem swept_refs {h : HeapD} (r : RightH h) : ∀ c ∈ (sweepH h).cells, c.refs ≠ 0 := (sweep_all _ _ h.size (Nat.le_refl _) (right_inv r)).2.2.1
theorem swept_end {h : HeapD} (r : RightH h) : sweepH (sweepH h) = sweepH h := by
  have hr := swept_refs r
  generalize sweepH h = g at *
  obtain ⟨size, l⟩ := g
  unfold sweepH
  simp only []
  rw [sweep_end (fun q hq => hr _ (List.getElem_mem hq))]
theorem swept_held {h : HeapD} (r : RightH h) {c : CellD} (hc : c ∈ h.cells) (h0 : 0 < heldC h c) : ∃ d, findC (sweepH h).cells c.num = some d ∧ heldC (sweepH h) d = heldC h c := by
  have hk := (sweep_all _ _ h.size (Nat.le_refl _) (right_inv r)).2.1
  obtain ⟨d, hd, hn, _, hs⟩ := hk.stay c hc (by rw [held_slack]; exact h0)
  rw [held_slack] at hs
  have h2 := held_slack (sweepH h) d
  have hd2 : d ∈ (sweepH h).cells := hd
  refine ⟨d, ?_, h2.symm.trans hs⟩
  rw [← hn]
  exact find_of (sweepH_right r).asc hd2

theorem asc_idx3 {l : List CellD} (h : l.Pairwise (fun a b => a.num < b.num)) (h2 : ∀ c ∈ l, 2 ≤ c.num) : ∀ i (hi : i < l.length), i + 2 ≤ l[i].num
  | 0, hi => by have := h2 _ (List.getElem_mem hi); omega
  | i + 1, hi => by
    have := asc_idx3 h h2 i (by omega)
    have := (List.pairwise_iff_getElem.1 h) i (i + 1) (by omega) hi (Nat.lt_succ_self _)
    omega
theorem RightH.len2 {h : HeapD} (r : RightH h) : h.cells.length + 2 ≤ h.size := by
  rcases Nat.eq_zero_or_pos h.cells.length with h0 | h0
  · have := r.lo; omega
  · have h1 := asc_idx3 r.asc (fun c hc => (r.ok c hc).2.1) (h.cells.length - 1) (by omega)
    have h2 := (r.ok _ (List.getElem_mem (show h.cells.length - 1 < h.cells.length by omega))).2.2
    omega

/-! ### Put twice -/
theorem insC_length (l : List CellD) (c : CellD) : (insC l c).length = l.length + 1 := by
  have := lowC_le l c.num
  unfold insC
  rw [List.length_append, List.length_take, List.length_cons, List.length_drop]
  omega
theorem once_put {h : HeapD} {n : NodeD} (r : RightH h) (hw : n.wf) (hp : putE h n = 0) :
    putE (putH h n) n = 0 ∧ putN (putH h n) n = putN h n ∧ putS (putH h n) n = putS h n ∧ putH (putH h n) n = putH h n ∧ (∃ c, findC (putH h n).cells (putN h n) = some c ∧ c.node = n) ∧
    ((putH h n).size = h.size ∧ ((putH h n).cells.length = h.cells.length ∨ (putH h n).cells.length = h.cells.length + 1)) := by
  obtain ⟨hc, ht, hx⟩ := put_zero hp
  have hfirst : firstE h n = 0 := by unfold firstE; rw [if_neg (by omega)]; exact ht
  cases hs : sameC h.cells (encN n) with
  | some c =>
    obtain ⟨h1, h2, h3, h4⟩ := put_same hfirst hs
    rw [h4]
    have hm : c ∈ h.cells := List.mem_of_find?_eq_some hs
    have hd : c.d = encN n := by simpa using List.find?_some hs
    refine ⟨h1, rfl, rfl, h4, ⟨c, by rw [h2]; exact find_of r.asc hm, ?_⟩, rfl, .inl rfl⟩
    unfold CellD.node
    rw [hd, node_enc n hw hc]
  | none =>
    obtain ⟨hfree, hfull⟩ := hx hs
    obtain ⟨h1, h2, h3, h4⟩ := put_new hfirst hs hfree hfull
    have hra := putH_right r hw (n := n)
    rw [h4] at hra ⊢
    have hthere := (toldN_zero r.asc n).1 ht
    have htold : toldN (putL h.cells n) n = 0 := (toldN_zero hra.asc n).2 fun x hx => by
      obtain ⟨c, hc', k1, k2⟩ := hthere x hx
      obtain ⟨e, he, n1, d1, _⟩ := incs_mem' (kidNums n) (l := insC h.cells (newC h.cells n)) (ins_mem.2 (.inr hc'))
      exact ⟨e, he, n1.trans k1, (data_eq d1).2.1.trans k2⟩
    have hfa : firstE ⟨h.size, putL h.cells n⟩ n = 0 := by unfold firstE; rw [if_neg (by omega)]; exact htold
    obtain ⟨e, he, n1, d1, _⟩ := incs_mem' (kidNums n) (l := insC h.cells (newC h.cells n)) (c := newC h.cells n) (ins_mem.2 (.inl rfl))
    have hed : e.d = encN n := (data_eq d1).2.2.2
    have hnum : ∀ c ∈ putL h.cells n, c.d = encN n → c.num = freeC h.cells := by
      intro c hcm hcd
      obtain ⟨c1, k1, m1, dd1, _⟩ := incs_mem (kidNums n) hcm
      rcases ins_mem.1 k1 with rfl | k1
      · exact m1
      · exfalso
        have := List.find?_eq_none.1 hs c1 k1
        rw [← (data_eq dd1).2.2.2] at this
        simp [hcd] at this
    cases hsa : sameC (putL h.cells n) (encN n) with
    | none =>
      have := List.find?_eq_none.1 hsa e he
      simp [hed] at this
    | some c =>
      have hm : c ∈ putL h.cells n := List.mem_of_find?_eq_some hsa
      have hd : c.d = encN n := by simpa using List.find?_some hsa
      obtain ⟨q1, q2, q3, q4⟩ := put_same hfa hsa
      refine ⟨q1, ?_, ?_, q4, ⟨c, ?_, ?_⟩, rfl, .inr ?_⟩
      · rw [q2, h2, hnum c hm hd]
      · rw [q3, h3]
      · rw [h2, ← hnum c hm hd]; exact find_of hra.asc hm
      · unfold CellD.node
        rw [hd, node_enc n hw hc]
      · show (putL h.cells n).length = _
        unfold putL
        rw [incs_length, insC_length]

/-! ### Kept -/
/-- A cell of that number and those data is there, and held. -/
def HeldIn (h : HeapD) (k : Nat) (d : ByteArray) : Prop := ∃ c ∈ h.cells, c.num = k ∧ c.data = d ∧ 0 < heldC h c
theorem held_find {h : HeapD} {k : Nat} {d : ByteArray} (r : RightH h) (hi : HeldIn h k d) : ∃ c, findC h.cells k = some c ∧ c.data = d := by
  obtain ⟨c, hc, rfl, hd, _⟩ := hi
  exact ⟨c, find_of r.asc hc, hd⟩
theorem find_held {h : HeapD} {k : Nat} {c : CellD} (hf : findC h.cells k = some c) (h0 : 0 < heldC h c) : HeldIn h k c.data := ⟨c, (find_mem hf).1, (find_mem hf).2, rfl, h0⟩
theorem kept_put {h : HeapD} {n : NodeD} (_ : RightH h) (hw : n.wf) {k : Nat} {d : ByteArray} (hi : HeldIn h k d) : HeldIn (putH h n) k d := by
  unfold putH
  split
  · next q =>
    obtain ⟨hc, ht, hx⟩ := put_zero q.1
    obtain ⟨c, hcm, hn, hd, h0⟩ := hi
    obtain ⟨e, he, n1, d1, r1⟩ := incs_mem' (kidNums n) (l := insC h.cells (newC h.cells n)) (ins_mem.2 (.inr hcm))
    have hnk : (newC h.cells n).kids = kidNums n := by unfold CellD.kids; rw [(newC_node h.cells n hw hc).2]
    refine ⟨e, he, n1.trans hn, d1.trans hd, ?_⟩
    show 0 < e.refs - (ledC (putL h.cells n) e.num : Int)
    have hl : ledC (putL h.cells n) e.num = ledC h.cells c.num + (kidNums n).count c.num := by unfold putL; rw [incs_led, ins_led, hnk, n1]
    unfold heldC at h0
    rw [hl, r1]
    omega
  · exact hi
theorem kept_hold {h : HeapD} {j : Nat} {k : Nat} {d : ByteArray} (hi : HeldIn h k d) : HeldIn (holdH h j) k d := by
  unfold holdH
  split
  · obtain ⟨c, hcm, hn, hd, h0⟩ := hi
    obtain ⟨e, he, n1, d1, r1⟩ := inc_mem' (k := j) hcm
    refine ⟨e, he, n1.trans hn, d1.trans hd, ?_⟩
    show 0 < e.refs - (ledC (incC h.cells j) e.num : Int)
    unfold heldC at h0
    rw [inc_led, r1, n1]
    split <;> omega
  · exact hi
theorem kept_drop {h : HeapD} (r : RightH h) {j : Nat} {k : Nat} (hjk : j ≠ k) {d : ByteArray} (hi : HeldIn h k d) : HeldIn (dropH h j) k d := by
  unfold dropH
  split
  · next he =>
    have hk := kept_let (h.cells.length + 1) h.cells j [] h.size (Nat.lt_succ_self _) (drop_inv r he)
    obtain ⟨c, hcm, hn, hd, h0⟩ := hi
    have h1 : slackC h.cells [j] c = heldC h c := by
      unfold slackC heldC
      have : ¬ j = c.num := fun q => hjk (q.trans hn)
      simp [this]
    obtain ⟨e, hem, n1, d1, s1⟩ := hk.stay c hcm (by rw [h1]; exact h0)
    refine ⟨e, hem, n1.trans hn, d1.trans hd, ?_⟩
    have := held_slack ⟨h.size, letF (h.cells.length + 1) h.cells j⟩ e
    rw [← this]
    show 0 < slackC (letF (h.cells.length + 1) h.cells j) [] e
    rw [s1, h1]; exact h0
  · exact hi
theorem kept_sweep {h : HeapD} (r : RightH h) {k : Nat} {d : ByteArray} (hi : HeldIn h k d) : HeldIn (sweepH h) k d := by
  have hk := (sweep_all _ _ h.size (Nat.le_refl _) (right_inv r)).2.1
  obtain ⟨c, hcm, hn, hd, h0⟩ := hi
  obtain ⟨e, hem, n1, d1, s1⟩ := hk.stay c hcm (by rw [held_slack]; exact h0)
  refine ⟨e, hem, n1.trans hn, d1.trans hd, ?_⟩
  rw [← held_slack (sweepH h) e]
  show 0 < slackC (sweepF h.cells.length h.cells) [] e
  rw [s1, held_slack]; exact h0

end Go.Proofs.YtimkklaidodkdaaGreatDoor
