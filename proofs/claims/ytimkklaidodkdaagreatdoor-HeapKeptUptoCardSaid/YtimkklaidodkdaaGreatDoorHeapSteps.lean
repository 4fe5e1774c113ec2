/- A slice of steps as an argument. -/
import Derived.Test.YtimkklaidodkdaaGreatDoorBulk
import Derived.Test.YtimkklaidodkdaaGreatDoorHeapKept
namespace Go.Proofs.YtimkklaidodkdaaGreatDoor
open Go.RowKit Go.ChangeShapes Go.WideShapes Go.Deep

section
variable {H : Type} {enc : TypeId × Value → H} {W : World} {base : Nat} {spare : Nat → Bool} {held : Bool}
theorem open_slR {α : Type} {R : DataW H → Prop} {f : α → List Value} {Q : α → Prop} {t e : TypeId} {z by_ : Nat} (ht : Tryz.prog.underlying t = some (.slice e)) (hC : Tryz.prog.cellsOf e = z) (hby : Tryz.prog.bytesOf e = by_) (hz : 0 < z)
    (elem : ∀ fuel cs (x : DataW H × List MemPlace), DataW.trod enc Tryz.prog W base spare held fuel e cs = some x → Weighs e x.1 → R x.1 → (∀ q ∈ x.2, q.block < W.heap.size) → ∃ a : α, cs = f a ∧ Q a)
    {fuel : Nat} {cs : List Value} {x : DataW H × List MemPlace} (h : DataW.trod enc Tryz.prog W base spare held fuel t cs = some x) (hw : Weighs t x.1) (hR : ∀ elems spare, x.1 = .slice elems spare → ∀ d ∈ elems, R d) (hlt : ∀ q ∈ x.2, q.block < W.heap.size) :
    ∃ (v : Value) (l : List α), cs = [v] ∧ SlAt W.heap.size W v l.length (fun i => (l[i]?.map f).getD []) z ∧ (∀ a ∈ l, Q a) ∧ l.length * by_ ≤ reachBytes := by
  rcases open_slice ht h with ⟨rfl, rfl⟩ | ⟨a, len, cap, m, n, D, Pl, rfl, hb, hl, hm, hmm, hx, hi⟩
  · exact ⟨_, [], rfl, ⟨none, 0, rfl, Nat.zero_le _, fun h0 => absurd h0 (Nat.lt_irrefl 0)⟩, by simp, by simp⟩
  · subst hx
    have hlm : len ≤ m := by rw [hmm]; split <;> omega
    have hwd : ∀ i, i < len → Weighs e (D i) := fun i hi k hk => by
      refine hw k ?_
      rw [DataW.weights, ht]
      simp only [List.mem_cons, List.mem_append]
      exact .inr (.inl (weightsAll_mem (List.mem_map.2 ⟨i, List.mem_range.2 hi, rfl⟩) k hk))
    have hlen : len * by_ ≤ reachBytes := by
      have := hw ((len + (m - len)) * by_) (by rw [DataW.weights, ht]; simp [hby])
      refine Nat.le_trans (Nat.mul_le_mul_right _ (by omega)) this
    have hch : ∀ i, i < len → ∃ c : α, W.cells? base (a.add (i * z)) z = some (f c) ∧ Q c := fun i hi' => by
      obtain ⟨cs', hc, ht'⟩ := hi i (by omega)
      rw [hC] at hc
      obtain ⟨c, hcf, hq⟩ := elem n cs' (D i, Pl i) ht' (hwd i hi') (hR _ _ rfl _ (List.mem_map.2 ⟨i, List.mem_range.2 hi', rfl⟩)) (fun q hq => hlt q (List.mem_append_right _ (List.mem_flatMap.2 ⟨i, List.mem_range.2 (by omega), hq⟩)))
      exact ⟨c, by rw [hc, hcf], hq⟩
    obtain ⟨l, hll, hr⟩ := choose_list len hch
    refine ⟨_, l, rfl, ?_, ?_, by rw [hll]; exact hlen⟩
    · rw [hll]
      refine ⟨some a, cap, rfl, by omega, fun h0 => ?_⟩
      obtain ⟨b, off, spot⟩ := a
      have hspot : spot = none := by
        obtain ⟨hcell, _⟩ := hr 0 (by omega)
        obtain ⟨_, hcl, hat⟩ := World.cells?_some hcell
        have h1 := hat 0 hz
        have h2 : (f l[0])[0]? = some ((f l[0])[0]'(by omega)) := List.getElem?_eq_getElem (by omega)
        rw [h2] at h1
        simpa [Addr.add] using World.cell?_spot h1
      subst hspot
      have hbl : b < W.heap.size := by
        obtain ⟨hcell, _⟩ := hr 0 (by omega)
        obtain ⟨_, hcl, hat⟩ := World.cells?_some hcell
        have h1 := hat 0 hz
        have h2 : (f l[0])[0]? = some ((f l[0])[0]'(by omega)) := List.getElem?_eq_getElem (by omega)
        rw [h2, Addr.add_mid] at h1
        exact World.block_lt_of_cell? W _ h1
      refine ⟨b, off, rfl, hbl, fun i hi' j v hv => ?_⟩
      obtain ⟨hcell, _⟩ := hr i (by omega)
      obtain ⟨_, hcl, hat⟩ := World.cells?_some hcell
      have hi2 : i < l.length := by omega
      replace hv : (f l[i])[j]? = some v := by
        have hv2 : ((l[i]?.map f).getD [])[j]? = some v := hv
        rw [List.getElem?_eq_getElem hi2] at hv2
        exact hv2
      have hjl := (List.getElem?_eq_some_iff.1 hv).1
      have h1 := hat j (by omega)
      rw [Addr.add_mid, Addr.add_mid] at h1
      rw [← hv, ← h1]
    · intro c hc
      obtain ⟨i, hi', rfl⟩ := List.getElem_of_mem hc
      exact (hr i hi').2

set_option maxRecDepth 20000 in
theorem elem_step (fuel : Nat) (cs : List Value) (x : DataW H × List MemPlace) (h : DataW.trod enc Tryz.prog W base spare held fuel 67 cs = some x) (hw : Weighs 67 x.1) (hR : Rows.uptoBulk x.1 ≤ 1048576) (hlt : ∀ q ∈ x.2, q.block < W.heap.size) :
    ∃ a : StepM, cs = a.cells ∧ StepAt W.heap.size W a := by
  obtain ⟨xs, m, _, rfl, hl, hxl, hg⟩ := DataW.trod_struct Tryz.underlying67 h
  have hc : Tryz.prog.cellsOf 67 = 6 := by kernel_rfl
  have hcn : Tryz.prog.cellsOf 28 = 4 := by kernel_rfl
  have hcu : Tryz.prog.cellsOf 32 = 1 := by kernel_rfl
  have hck : Tryz.prog.cellsOf 5 = 1 := by kernel_rfl
  rw [hc] at hl
  match xs, hxl with
  | [y0, y1, y2], _ =>
    have g0 : DataW.trod enc Tryz.prog W base spare held m 5 ((cs.drop 0).take (Tryz.prog.cellsOf 5)) = some y0 := hg 0 _ rfl
    rw [hck] at g0
    have g1 : DataW.trod enc Tryz.prog W base spare held m 28 ((cs.drop 1).take (Tryz.prog.cellsOf 28)) = some y1 := hg 1 _ rfl
    rw [hcn] at g1
    have g2 : DataW.trod enc Tryz.prog W base spare held m 32 ((cs.drop 5).take (Tryz.prog.cellsOf 32)) = some y2 := hg 2 _ rfl
    rw [hcu] at g2
    have l1 : ∀ q ∈ y1.2, q.block < W.heap.size := fun q hq => hlt q (by simp [hq])
    obtain ⟨z0, e0, _, w0⟩ := DataW.trod_int Tryz.underlying5 g0
    obtain ⟨kind, rfl, _⟩ := u8_lt w0
    obtain ⟨z2, e2, _, w2⟩ := DataW.trod_int Tryz.underlying32 g2
    obtain ⟨num, rfl, _⟩ := u32_lt w2
    obtain ⟨n, hn, hf⟩ := cells_node g1 (weighs_part (j := 1) Tryz.underlying67 hw rfl rfl) l1
    have hb := cells_node_bulk g1 hn
    have hby : Rows.uptoBulk y1.1 ≤ 1048576 := by
      simp only [List.map_cons, List.map_nil, Rows.uptoBulk, Rows.uptoBulkAll] at hR
      omega
    refine ⟨⟨kind, n, (cs.drop 1).take 4, num⟩, ?_, hn, hf, by simp only []; omega⟩
    match cs, hl with
    | [c0, c1, c2, c3, c4, c5], _ =>
      simp at e0 e2
      rw [e0, e2]; rfl
set_option maxRecDepth 20000 in
theorem open_steps {base2 : Nat} {v : Value} {d : DataW H} {ps : List MemPlace} (hv : Value.okWide Tryz.prog W .any base2 65 v) (h : DataW.Trod enc Tryz.prog W base spare held 65 v d ps) (hw : Weighs 65 d) (hlt : ∀ q ∈ ps, q.block < W.heap.size) (hb : Rows.uptoBulk d ≤ 1048576) :
    ∃ l : List StepM, SlAt W.heap.size W v l.length (fun i => (l[i]?.map StepM.cells).getD []) 6 ∧ ∀ s ∈ l, StepAt W.heap.size W s := by
  obtain ⟨fuel, hf⟩ := h
  have hslice : ∃ a n c, v = .slice a n c := okWide_slice Tryz.underlying65 hv
  obtain ⟨a, n, c, rfl⟩ := hslice
  obtain ⟨v', l, e, hs, hq, _⟩ := open_slR (R := fun d => Rows.uptoBulk d ≤ 1048576) (f := StepM.cells) (Q := StepAt W.heap.size W) (z := 6) (by_ := 96) Tryz.underlying65 (by kernel_rfl) (by kernel_rfl) (by decide) elem_step (x := (d, ps)) hf hw (fun elems spare he x hx => by
    have he : d = .slice elems spare := he
    subst he
    have := bulk_part hx
    simp only [Rows.uptoBulk] at hb
    omega) hlt
  obtain rfl : v' = .slice a n c := by simpa [Value.cells] using e.symm
  exact ⟨l, hs, hq⟩
end

end Go.Proofs.YtimkklaidodkdaaGreatDoor
