/- cambiumref06.Copy: walked. -/
import Derived.Test.YtimkklaidodkdaaGreatDoorHeapFree
import Derived.Test.YtimkklaidodkdaaGreatDoorKids2
namespace Go.Proofs.YtimkklaidodkdaaGreatDoor
open Go.RowKit

section
variable {P : Program}
theorem run_append_nil (w : World) (base : Nat) (t ty e : TypeId) (i : TypeInfo) (size : Nat) (ht : P.underlying t = some (.slice e)) (hi : P.info? e = some i) (v : Value) (n c : Nat) (xs : List Value) (hown : w.ownsRow base e size v n xs) :
    (Builtin.append_ #[t, t] ty #[v, .slice none 0 c]).run P w = .ok v w := by
  rcases hown.2 with ⟨rfl, rfl⟩ | ⟨g, cap, cur, rfl, _, _, hnc, _⟩
  · simp [Builtin.append_, run_underlying ht, sizeOf, typeInfo, hi, Builtin.lenOf, Builtin.firstCells]
  · simp [Builtin.append_, run_underlying ht, sizeOf, typeInfo, hi, Builtin.lenOf, Builtin.firstCells, hnc, storeCells]
/-- 'append' of a slice that may be nil onto one that is owned. -/
theorem wpList_append_opt (w : World) {ops : Array Oper} {rest : List Oper} {o : Oper} {a : Act} {Q : Exit → Act → World → Prop} (hgd : o.guard = none) (s x : Operand) (t : TypeId)
    (ho : o.op = .call { callee := .builtin .append, args := #[s, x], argTypes := #[t, t] })
    (base : Nat) (e : TypeId) (i : TypeInfo) (z : Value) (size bytes : Nat) (ht : P.underlying t = some (.slice e)) (hi : P.info? e = some i) (hz : i.zero = some z)
    (hsize : i.size = size) (hby : i.bytes = bytes) (hzs : z.cells.size = size) (hsz : 0 < size)
    (v : Value) (n : Nat) (xs : List Value) (hs : a.eval s = v) (hown : w.ownsRow base e size v n xs)
    (ao : Option Addr) (m c : Nat) (news : List Value) (hx : a.eval x = .slice ao m c) (hl : news.length = m * size) (hnone : ao = none → m = 0) (hnews : ∀ ad, ao = some ad → ∀ j u, news[j]? = some u → w.cell? (ad.add j) = some u) (h1 : ∀ u ∈ news, u.oneCell' = true)
    (h63 : n + m ≤ maxLen) (hbytes : (n + m) * bytes ≤ 140737488355328) (hbase : base ≤ w.heap.size)
    (h : ∀ v' w', w'.ownsRow base e size v' (n + m) (xs ++ news) → w.grownBy w' v.ownBlock → wpList P ops Q rest (a.put o.dst v') w') : wpList P ops Q (o :: rest) a w := by
  cases ao with
  | some ad => exact wpList_append_own w hgd s x t ho base e i z size bytes ht hi hz hsize hby hzs hsz v n xs hs hown ad m c news hx hl (hnews ad rfl) h1 h63 hbytes hbase fun v' w' a b _ => h v' w' a b
  | none =>
    obtain rfl := hnone rfl
    have hnil : news = [] := List.eq_nil_of_length_eq_zero (by simpa using hl)
    subst hnil
    refine wpList_plain hgd fun K hK => ?_
    have hrun := run_append_nil (P := P) w base t o.type e i size ht hi v n c xs hown
    unfold Oper.wp execOp
    simp only [ho, resolve, invoke, builtin, Sem.run_bind, Sem.run_pure, Result.andThen_ok, List.map_toArray, List.map_cons, List.map_nil, hs, hx, hrun]
    exact hK _ _ (h v w (by simpa using hown) (World.grownBy.refl _ _))
end
/-- The cells of a slice, one behind the other. -/
theorem sl_cells {α : Type} {f : α → List Value} {w : World} {b o : Nat} {z : Nat} {l : List α} (hz : 0 < z) (hf : ∀ x ∈ l, (f x).length = z) (hc : ∀ i, i < l.length → w.rangeAt b (o + i * z) ((l[i]?.map f).getD [])) :
    ∀ j u, (l.flatMap f)[j]? = some u → w.cell? ((⟨b, o, none⟩ : Addr).add j) = some u := by
  intro j u hj
  have hlt := (List.getElem?_eq_some_iff.1 hj).1
  have hlen : (l.flatMap f).length = l.length * z := by
    clear hj hlt hc
    induction l with
    | nil => simp
    | cons x l ih => rw [List.flatMap_cons, List.length_append, hf x List.mem_cons_self, ih (fun y hy => hf y (List.mem_cons_of_mem _ hy)), List.length_cons, Nat.succ_mul]; omega
  have hi : j / z < l.length := by rw [Nat.div_lt_iff_lt_mul hz]; omega
  have hm := Nat.mod_lt j hz
  have hd : j / z * z + j % z = j := by rw [Nat.mul_comm]; exact Nat.div_add_mod j z
  have hg := flat_get l hf (j / z) (j % z) hm
  rw [hd, hj] at hg
  have := hc (j / z) hi (j % z) u (by rw [← hg])
  rw [Addr.add_mid, ← hd, ← Nat.add_assoc, this]
theorem flat_len {α : Type} {f : α → List Value} {z : Nat} : ∀ (l : List α), (∀ x ∈ l, (f x).length = z) → (l.flatMap f).length = l.length * z
  | [], _ => by simp
  | x :: l, h => by rw [List.flatMap_cons, List.length_append, h x List.mem_cons_self, flat_len l (fun y hy => h y (List.mem_cons_of_mem _ hy)), List.length_cons, Nat.succ_mul]; omega
theorem flat_one {α : Type} {f : α → List Value} (hf : ∀ x, ∀ v ∈ f x, v.oneCell' = true) (l : List α) : ∀ v ∈ l.flatMap f, v.oneCell' = true := by
  intro v hv
  obtain ⟨x, _, hx⟩ := List.mem_flatMap.1 hv
  exact hf x v hx
theorem itemV_one (x : ItemD) : ∀ v ∈ itemV x, v.oneCell' = true := by
  intro v hv
  simp only [itemV, List.mem_cons, List.not_mem_nil, or_false] at hv
  rcases hv with rfl | rfl <;> rfl
theorem empty_own (w : World) (base : Nat) (e : TypeId) (z : Nat) (hb : base ≤ w.heap.size) : (w.alloc (.cells #[] e)).ownsRow base e z (.slice (some ⟨w.heap.size, 0, none⟩) 0 0) 0 [] :=
  ⟨by simp, .inr ⟨w.heap.size, 0, #[], rfl, hb, heap_alloc_new w _, Nat.le_refl _, Nat.zero_le _, by simp, by simp⟩⟩
theorem SlAt.parts {B : Nat} {w : World} {v : Value} {n z : Nat} {cs : Nat → List Value} (h : SlAt B w v n cs z) : ∃ a cap, v = .slice a n cap ∧ (a = none → n = 0) ∧ (∀ ad, a = some ad → 0 < n → ∃ b o, ad = ⟨b, o, none⟩ ∧ b < B ∧ ∀ i, i < n → w.rangeAt b (o + i * z) (cs i)) := by
  obtain ⟨a, cap, hv, hn, hr⟩ := h
  refine ⟨a, cap, hv, fun h0 => ?_, fun ad had h0 => ?_⟩
  · rcases Nat.eq_zero_or_pos n with h | h
    · exact h
    · obtain ⟨b, o, hq, _⟩ := hr h; rw [h0] at hq; cases hq
  · obtain ⟨b, o, hq, hb, hc⟩ := hr h0
    exact ⟨b, o, Option.some.inj (had.symm.trans hq), hb, hc⟩

theorem cellV_one (x : CellD) : ∀ v ∈ cellV x, v.oneCell' = true := by
  intro v hv
  simp only [cellV, List.mem_cons, List.not_mem_nil, or_false] at hv
  rcases hv with rfl | rfl | rfl <;> rfl

set_option maxRecDepth 20000 in
set_option maxHeartbeats 6400000 in
theorem copy06_calls (B : Nat) (v : Value) (h : HeapD) (w : World) (a : HeapAt B w v h) (hB : B ≤ w.heap.size) :
    Calls Tryz.prog 31 #[v] w fun e w' => ∃ r, e = .returned r ∧ OwnH w.heap.size w' r h ∧ Below w.heap.size w w' := by
  obtain ⟨_, _, z1, vi, rfl, h1⟩ := a
  obtain ⟨iI0, hI, hIz0, hIz1, hIz2⟩ := info_parts info_cell
  obtain ⟨size, l⟩ := h
  simp only [] at h1 z1
  obtain ⟨p1, c1, rfl, n1, r1⟩ := SlAt.parts h1
  clear h1
  obtain ⟨W1, hW1⟩ : ∃ W1, W1 = w.alloc (.cells #[.int .u32 (size : Int), .slice p1 l.length c1] 35) := ⟨_, rfl⟩
  obtain ⟨W2, hW2⟩ : ∃ W2, W2 = W1.alloc (.cells #[.int .u32 0, .slice none 0 0] 35) := ⟨_, rfl⟩
  have hG1 : RowIs W1 w.heap.size 35 #[.int .u32 (size : Int), .slice p1 l.length c1] := by rw [hW1]; exact RowIs.new w _ _
  have hG2 := hG1.alloc (.cells #[.int .u32 0, .slice none 0 0] 35)
  rw [← hW2] at hG2
  have hP2 : RowIs W2 W1.heap.size 35 #[.int .u32 0, .slice none 0 0] := by rw [hW2]; exact RowIs.new W1 _ _
  have hb2 : Below w.heap.size w W2 := by rw [hW2, hW1]; exact ((Below.refl _ _).alloc (Nat.le_refl _) _).alloc (by simp) _
  have hGP : w.heap.size ≠ W1.heap.size := Nat.ne_of_lt hG1.lt
  have hle : w.heap.size ≤ W1.heap.size := Nat.le_of_lt hG1.lt
  obtain ⟨W3, hW3⟩ : ∃ W3, W3 = W2.alloc (.cells #[] 57) := ⟨_, rfl⟩
  have hs2 := hb2.size
  have hal1 := (Below.refl _ W2).alloc (Nat.le_refl _) (.cells #[] 57)
  have hemp1 := empty_own W2 w.heap.size 57 3 hs2
  rw [← hW3] at hal1 hemp1
  have hG3 := hG2.below hal1 hG2.lt
  have hP3 := hP2.below hal1 hP2.lt
  have hb3 := hb2.trans (hal1.mono hs2)
  have hfi1 : W2.cell? ⟨w.heap.size, 1, none⟩ = some (.slice p1 l.length c1) := by rw [hG2.cell]; rfl
  have hfj1 : W3.cell? ⟨w.heap.size, 1, none⟩ = some (.slice p1 l.length c1) := by rw [hG3.cell]; rfl
  have hcell1 : ∀ ad, p1 = some ad → ∀ j u, (l.flatMap cellV)[j]? = some u → W3.cell? (ad.add j) = some u := by
    intro ad had j u hj
    have hpos : 0 < l.length := by
      rcases Nat.eq_zero_or_pos l.length with h | h
      · have hnil : l = [] := List.length_eq_zero_iff.1 h
        rw [hnil] at hj; simp at hj
      · exact h
    obtain ⟨b, o, rfl, hbB, hc⟩ := r1 ad had hpos
    exact sl_cells (f := cellV) (z := 3) (by decide) (fun x _ => rfl) (fun k hk => rangeAt_below (hc k hk) hb3 (by omega)) j u hj
  have hlen1 := flat_len (f := cellV) (z := 3) l (fun x _ => rfl)
  have hone1 := flat_one (f := cellV) cellV_one l
  generalize hnews1 : l.flatMap cellV = news1 at *
  have Hnews1 := Lib.hid hnews1
  have Hlen1 := Lib.hid hlen1
  have Hcell1 := Lib.hid hcell1
  have HW1 := Lib.hid hW1
  have HW2 := Lib.hid hW2
  have HW3 := Lib.hid hW3
  have hs3 := hb3.size
  clear hnews1 hlen1 hcell1 hW1 hW2 hW3 hal1 hG1
  go_enter Tryz.func31, Tryz.ntmps31
  go_wp2_with (first | (refine wpList_world HW1.out ?_) | (refine wpList_world HW2.out ?_) | (refine wpList_world HW3.out ?_) | (at_builtin; refine wpList_append_opt _ rfl _ _ 33 rfl w.heap.size 57 iI0 (.agg #[.int .u32 0, .string ⟨#[]⟩, .int .i64 0]) 3 32 Tryz.underlying33 hI hIz0 hIz1 hIz2 rfl (by decide) (.slice (some ⟨W2.heap.size, 0, none⟩) 0 0) 0 [] rfl hemp1 p1 l.length c1 news1 rfl Hlen1.out n1 Hcell1.out hone1 (by unfold maxLen; omega) (by omega) hs3 ?_))
  intro vv1 w4 hown1 hgrow1
  rw [← Hnews1.out] at hown1
  obtain ⟨q1, k1, rfl⟩ := own_shape hown1
  have hot1 := fun g hg => own_type hemp1 (g := g) hg
  have hG4 := row_grown hG3 hgrow1 (fun q => by obtain ⟨cc, hcc⟩ := hot1 w.heap.size q.symm; have := hG3; unfold RowIs at this; rw [this] at hcc; injection hcc with hcc; injection hcc with _ q2 _; exact absurd q2 (by decide))
  have hP4 := row_grown hP3 hgrow1 (fun q => by obtain ⟨cc, hcc⟩ := hot1 _ q.symm; have := hP3; unfold RowIs at this; rw [this] at hcc; injection hcc with hcc; injection hcc with _ q2 _; exact absurd q2 (by decide))
  have hb4 : Below w.heap.size w w4 := hb3.grown hgrow1 hs3 (fun k hq => (hemp1.lt k hq).1)
  obtain ⟨W5, hW5⟩ : ∃ W5, W5 = w4.setCell ⟨w.heap.size, 1, none⟩ (.slice q1 l.length k1) := ⟨_, rfl⟩
  have hG5 : RowIs W5 w.heap.size 35 #[.int .u32 (size : Int), .slice q1 l.length k1] := by rw [hW5]; exact hG4.set 1 _
  have hP5 : RowIs W5 W1.heap.size 35 #[.int .u32 0, .slice none 0 0] := by rw [hW5]; exact RowIs.other hP4 _ _ hGP.symm
  have hbs1 := (But.refl w.heap.size w4).setCell 1 (.slice q1 l.length k1)
  rw [← hW5] at hbs1
  have hb5 : Below w.heap.size w W5 := by rw [hW5]; exact hb4.setCell (p := ⟨w.heap.size, 1, none⟩) (Nat.le_refl _) _
  have hqN1 : ∀ (e : TypeId) cc, e ≠ 35 → w4.heap[w.heap.size]? ≠ some (.cells cc e (0, 0)) := fun e cc he hx => by have := hG4; unfold RowIs at this; rw [hx] at this; injection this with this; injection this with _ q2 _; exact he q2
  have ho15 := ownsRow_but hown1 hbs1 (fun cc => hqN1 _ cc (by decide))
  have hf1a : w4.cell? ⟨w.heap.size, 1, none⟩ = some _ := hG4.cell 1
  have hf1b := hG4.free 1
  have hsz4 : (Tryz.prog.info? 35).map (·.size) = some (#[.int .u32 (size : Int), .slice q1 l.length k1] : Array Value).size := by kernel_rfl
  have hone4 := oneH (size : Int) q1 l.length k1
  have hthere4 := hP5.there 0 2 (Nat.le_refl 2)
  have hst4 := store_row hP5 (D := #[.int .u32 (size : Int), .slice q1 l.length k1]) rfl
  have hbz := setCells_below W1.heap.size w.heap.size hle (#[.int .u32 (size : Int), .slice q1 l.length k1] : Array Value).toList 0 _ _ hb5
  have hbu := (But.refl W1.heap.size W5).setCells (#[.int .u32 (size : Int), .slice q1 l.length k1] : Array Value).toList 0
  have hoz : OwnH w.heap.size (W5.setCells W1.heap.size 0 (#[.int .u32 (size : Int), .slice q1 l.length k1] : Array Value).toList) (.agg #[.int .u32 (size : Int), .slice q1 l.length k1]) ⟨size, l⟩ := ⟨_, rfl, ownsRow_but ho15 hbu (fun cc hx => by have := hP5; unfold RowIs at this; rw [hx] at this; injection this with this; injection this with _ q2 _; exact absurd q2 (by decide))⟩
  have HW5 := Lib.hid hW5
  have HZ := Lib.hid (And.intro hst4 (And.intro hbz hoz))
  clear hW5 hown1 hgrow1 hot1 hbs1 hqN1 hemp1 hG3 hP3 hG4 hP4 hb3 hb4 hfi1 hfj1 hst4 hbz hbu hoz ho15
  go_wp2_with (first | (refine wpList_world HW5.out ?_) | (refine wpList_load_row rfl 35 _ rfl w.heap.size rfl 35 #[.int .u32 (size : Int), .slice q1 l.length k1] (0, 0) _ hG5 Tryz.underlying35 rfl hsz4 ?_) | (refine wpList_store_mid rfl 35 _ _ rfl W1.heap.size 0 #[.int .u32 (size : Int), .slice q1 l.length k1] rfl rfl hthere4 hsz4 hone4 ?_))
  refine bodyPost_ret (v := .agg #[.int .u32 (size : Int), .slice q1 l.length k1]) (results_cell_row (p := 2) (ty := 35) (by rfl) _ _ W1.heap.size 35 #[.int .u32 (size : Int), .slice q1 l.length k1] (0, 0) _ (by rfl) HZ.out.1 Tryz.underlying35 (by rfl) hsz4) (by rfl) ?_
  exact ⟨_, rfl, HZ.out.2.2, HZ.out.2.1⟩

end Go.Proofs.YtimkklaidodkdaaGreatDoor
