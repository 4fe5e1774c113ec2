/- cambiumref05.Copy: walked. -/
import Derived.Test.YtgjaoofgmdijdaaDoorKids2
namespace Go.Proofs.YtgjaoofgmdijdaaDoor
open Go.RowKit

section
variable {P : Program}
theorem run_append_nil (w : World) (base : Nat) (t ty e : TypeId) (i : TypeInfo) (size : Nat) (ht : P.underlying t = some (.slice e)) (hi : P.info? e = some i) (v : Value) (n c : Nat) (xs : List Value) (hown : w.ownsRow base e size v n xs) :
    (Builtin.append_ #[t, t] ty #[v, .slice none 0 c]).run P w = .ok v w := by
  rcases hown.2 with ⟨rfl, rfl⟩ | ⟨g, cap, cur, rfl, _, _, hnc, _⟩
  · simp [Builtin.append_, run_underlying ht, sizeOf, typeInfo, hi, Builtin.lenOf, Builtin.firstCells]
  · simp [Builtin.append_, run_underlying ht, sizeOf, typeInfo, hi, Builtin.lenOf, Builtin.firstCells, hnc, storeCells]
/-- 'append' of a slice that may be nil onto one that is owned. -/
theorem wpList_append_opt (w : World) {ops : Array Oper} {rest : List Oper} {o : Oper} {a : Act} {Q : Exit → Act → World → Prop} (hgd : o.guard = none) (s x : Operand) (t : TypeId)
    (ho : o.op = .call { callee := .builtin .append, args := #[s, x], argTypes := #[t, t] })
    (base : Nat) (e : TypeId) (i : TypeInfo) (z : Value) (size bytes : Nat) (ht : P.underlying t = some (.slice e)) (hi : P.info? e = some i) (hz : i.zero = some z)
    (hsize : i.size = size) (hby : i.bytes = bytes) (hzs : z.cells.size = size) (hsz : 0 < size)
    (v : Value) (n : Nat) (xs : List Value) (hs : a.eval s = v) (hown : w.ownsRow base e size v n xs)
    (ao : Option Addr) (m c : Nat) (news : List Value) (hx : a.eval x = .slice ao m c) (hl : news.length = m * size) (hnone : ao = none → m = 0) (hnews : ∀ ad, ao = some ad → ∀ j u, news[j]? = some u → w.cell? (ad.add j) = some u) (h1 : ∀ u ∈ news, u.oneCell' = true)
    (h63 : n + m ≤ maxLen) (hbytes : (n + m) * bytes ≤ 140737488355328) (hbase : base ≤ w.heap.size)
    (h : ∀ v' w', w'.ownsRow base e size v' (n + m) (xs ++ news) → w.grownBy w' v.ownBlock → wpList P ops Q rest (a.put o.dst v') w') : wpList P ops Q (o :: rest) a w := by
  cases ao with
  | some ad => exact wpList_append_own w hgd s x t ho base e i z size bytes ht hi hz hsize hby hzs hsz v n xs hs hown ad m c news hx hl (hnews ad rfl) h1 h63 hbytes hbase fun v' w' a b _ => h v' w' a b
  | none =>
    obtain rfl := hnone rfl
    have hnil : news = [] := List.eq_nil_of_length_eq_zero (by simpa using hl)
    subst hnil
    refine wpList_plain hgd fun K hK => ?_
    have hrun := run_append_nil (P := P) w base t o.type e i size ht hi v n c xs hown
    unfold Oper.wp execOp
    simp only [ho, resolve, invoke, builtin, Sem.run_bind, Sem.run_pure, Result.andThen_ok, List.map_toArray, List.map_cons, List.map_nil, hs, hx, hrun]
    exact hK _ _ (h v w (by simpa using hown) (World.grownBy.refl _ _))
end
/-- The cells of a slice, one behind the other. -/
theorem sl_cells {α : Type} {f : α → List Value} {w : World} {b o : Nat} {z : Nat} {l : List α} (hz : 0 < z) (hf : ∀ x ∈ l, (f x).length = z) (hc : ∀ i, i < l.length → w.rangeAt b (o + i * z) ((l[i]?.map f).getD [])) :
    ∀ j u, (l.flatMap f)[j]? = some u → w.cell? ((⟨b, o, none⟩ : Addr).add j) = some u := by
  intro j u hj
  have hlt := (List.getElem?_eq_some_iff.1 hj).1
  have hlen : (l.flatMap f).length = l.length * z := by
    clear hj hlt hc
    induction l with
    | nil => simp
    | cons x l ih => rw [List.flatMap_cons, List.length_append, hf x List.mem_cons_self, ih (fun y hy => hf y (List.mem_cons_of_mem _ hy)), List.length_cons, Nat.succ_mul]; omega
  have hi : j / z < l.length := by rw [Nat.div_lt_iff_lt_mul hz]; omega
  have hm := Nat.mod_lt j hz
  have hd : j / z * z + j % z = j := by rw [Nat.mul_comm]; exact Nat.div_add_mod j z
  have hg := flat_get l hf (j / z) (j % z) hm
  rw [hd, hj] at hg
  have := hc (j / z) hi (j % z) u (by rw [← hg])
  rw [Addr.add_mid, ← hd, ← Nat.add_assoc, this]
theorem flat_len {α : Type} {f : α → List Value} {z : Nat} : ∀ (l : List α), (∀ x ∈ l, (f x).length = z) → (l.flatMap f).length = l.length * z
  | [], _ => by simp
  | x :: l, h => by rw [List.flatMap_cons, List.length_append, h x List.mem_cons_self, flat_len l (fun y hy => h y (List.mem_cons_of_mem _ hy)), List.length_cons, Nat.succ_mul]; omega
theorem flat_one {α : Type} {f : α → List Value} (hf : ∀ x, ∀ v ∈ f x, v.oneCell' = true) (l : List α) : ∀ v ∈ l.flatMap f, v.oneCell' = true := by
  intro v hv
  obtain ⟨x, _, hx⟩ := List.mem_flatMap.1 hv
  exact hf x v hx
theorem itemV_one (x : ItemD) : ∀ v ∈ itemV x, v.oneCell' = true := by
  intro v hv
  simp only [itemV, List.mem_cons, List.not_mem_nil, or_false] at hv
  rcases hv with rfl | rfl <;> rfl
theorem empty_own (w : World) (base : Nat) (e : TypeId) (z : Nat) (hb : base ≤ w.heap.size) : (w.alloc (.cells #[] e)).ownsRow base e z (.slice (some ⟨w.heap.size, 0, none⟩) 0 0) 0 [] :=
  ⟨by simp, .inr ⟨w.heap.size, 0, #[], rfl, hb, heap_alloc_new w _, Nat.le_refl _, Nat.zero_le _, by simp, by simp⟩⟩
theorem SlAt.parts {B : Nat} {w : World} {v : Value} {n z : Nat} {cs : Nat → List Value} (h : SlAt B w v n cs z) : ∃ a cap, v = .slice a n cap ∧ (a = none → n = 0) ∧ (∀ ad, a = some ad → 0 < n → ∃ b o, ad = ⟨b, o, none⟩ ∧ b < B ∧ ∀ i, i < n → w.rangeAt b (o + i * z) (cs i)) := by
  obtain ⟨a, cap, hv, hn, hr⟩ := h
  refine ⟨a, cap, hv, fun h0 => ?_, fun ad had h0 => ?_⟩
  · rcases Nat.eq_zero_or_pos n with h | h
    · exact h
    · obtain ⟨b, o, hq, _⟩ := hr h; rw [h0] at hq; cases hq
  · obtain ⟨b, o, hq, hb, hc⟩ := hr h0
    exact ⟨b, o, Option.some.inj (had.symm.trans hq), hb, hc⟩

set_option maxRecDepth 20000 in
set_option maxHeartbeats 6400000 in
theorem copy_calls (B : Nat) (v : Value) (n : NodeD) (w : World) (h : NodeAt B w v n) (hB : B ≤ w.heap.size) (hz : fitN n) :
    Calls Tryd.prog 21 #[v] w fun e w' => ∃ r, e = .returned r ∧ OwnAt w.heap.size w' r n ∧ Below w.heap.size w w' := by
  obtain ⟨hw, vi, vk, vv, rfl, h1, h2, h3⟩ := h
  obtain ⟨iI0, hI, hIz0, hIz1, hIz2⟩ := info_parts info_item
  obtain ⟨iR0, hR, hRz0, hRz1, hRz2⟩ := info_parts info_kid
  obtain ⟨iV0, hV, hVz0, hVz1, hVz2⟩ := info_parts info_vol
  obtain ⟨kind, items, kids, vols⟩ := n
  obtain ⟨⟨z1, z2, z3⟩, _⟩ := hz
  simp only [] at h1 h2 h3 z1 z2 z3
  obtain ⟨p1, c1, rfl, n1, r1⟩ := SlAt.parts h1
  obtain ⟨p2, c2, rfl, n2, r2⟩ := SlAt.parts h2
  obtain ⟨p3, c3, rfl, n3, r3⟩ := SlAt.parts h3
  have hck := fun x hx => (hw.2.1 x hx).2
  have hcv := fun x hx => (hw.2.2 x hx).2.2.2
  have HWf := Lib.hid hw
  clear hw h1 h2 h3
  have Hck := Lib.hid hck
  have Hcv := Lib.hid hcv
  clear hck hcv
  go_enter Tryd.func21, Tryd.ntmps21
  obtain ⟨W1, hW1⟩ : ∃ W1, W1 = w.alloc (.cells #[.int .u8 (kind : Int), .slice p1 items.length c1, .slice p2 kids.length c2, .slice p3 vols.length c3] 27) := ⟨_, rfl⟩
  obtain ⟨W2, hW2⟩ : ∃ W2, W2 = W1.alloc (.cells #[.int .u8 0, .slice none 0 0, .slice none 0 0, .slice none 0 0] 27) := ⟨_, rfl⟩
  have hG1 : RowIs W1 w.heap.size 27 #[.int .u8 (kind : Int), .slice p1 items.length c1, .slice p2 kids.length c2, .slice p3 vols.length c3] := by rw [hW1]; exact RowIs.new w _ _
  have hG2 := hG1.alloc (.cells #[.int .u8 0, .slice none 0 0, .slice none 0 0, .slice none 0 0] 27)
  rw [← hW2] at hG2
  have hP2 : RowIs W2 W1.heap.size 27 #[.int .u8 0, .slice none 0 0, .slice none 0 0, .slice none 0 0] := by rw [hW2]; exact RowIs.new W1 _ _
  have hb2 : Below w.heap.size w W2 := by rw [hW2, hW1]; exact ((Below.refl _ _).alloc (Nat.le_refl _) _).alloc (by simp) _
  have hGP : w.heap.size ≠ W1.heap.size := Nat.ne_of_lt hG1.lt
  have HW1 := Lib.hid hW1
  have HW2 := Lib.hid hW2
  clear hW1 hW2 hG1
  obtain ⟨G0, hG0⟩ : ∃ G0, G0 = w.heap.size := ⟨_, rfl⟩
  have hGe : ∀ x, x = G0 → x = w.heap.size := fun x h => h.trans hG0
  clear hG0 hGe
  have hfi1 : W2.cell? ⟨w.heap.size, 1, none⟩ = some (.slice p1 items.length c1) := by rw [hG2.cell]; rfl
  obtain ⟨W3, hW3⟩ : ∃ W3, W3 = W2.alloc (.cells #[] 46) := ⟨_, rfl⟩
  have hs2 := hb2.size
  have hal1 := (Below.refl _ W2).alloc (Nat.le_refl _) (.cells #[] 46)
  have hemp1 := empty_own W2 w.heap.size 46 2 hs2
  rw [← hW3] at hal1 hemp1
  have hG3 := hG2.below hal1 hG2.lt
  have hP3 := hP2.below hal1 hP2.lt
  have hb3 := hb2.trans (hal1.mono hs2)
  have hfj1 : W3.cell? ⟨w.heap.size, 1, none⟩ = some (.slice p1 items.length c1) := by rw [hG3.cell]; rfl
  have hcell1 : ∀ ad, p1 = some ad → ∀ j u, (items.flatMap itemV)[j]? = some u → W3.cell? (ad.add j) = some u := by
    intro ad had j u hj
    have hpos : 0 < items.length := by
      rcases Nat.eq_zero_or_pos items.length with h | h
      · have hnil : items = [] := List.length_eq_zero_iff.1 h
        rw [hnil] at hj; simp at hj
      · exact h
    obtain ⟨b, o, rfl, hbB, hc⟩ := r1 ad had hpos
    exact sl_cells (f := itemV) (z := 2) (by decide) (fun x _ => rfl) (fun k hk => rangeAt_below (hc k hk) hb3 (by omega)) j u hj
  have hlen1 := flat_len (f := itemV) (z := 2) items (fun x _ => rfl)
  have hone1 := flat_one (f := itemV) itemV_one items
  generalize hnews1 : items.flatMap itemV = news1 at *
  have Hnews1 := Lib.hid hnews1
  have Hlen1 := Lib.hid hlen1
  have Hcell1 := Lib.hid hcell1
  have HW3 := Lib.hid hW3
  have hs3 := hb3.size
  clear hnews1 hlen1 hcell1 hW3 hal1
  go_wp2_with (first | (refine wpList_world HW1.out ?_) | (refine wpList_world HW2.out ?_) | (refine wpList_world HW3.out ?_) | (at_builtin; refine wpList_append_opt _ rfl _ _ 23 rfl w.heap.size 46 iI0 (.agg #[.string ⟨#[]⟩, .string ⟨#[]⟩]) 2 32 Tryd.underlying23 hI hIz0 hIz1 hIz2 rfl (by decide) (.slice (some ⟨W2.heap.size, 0, none⟩) 0 0) 0 [] rfl hemp1 p1 items.length c1 news1 rfl Hlen1.out n1 Hcell1.out hone1 (by unfold maxLen; omega) (by omega) hs3 ?_))
  intro vv1 w4 hown1 hgrow1
  rw [← Hnews1.out] at hown1
  obtain ⟨q1, k1, rfl⟩ := own_shape hown1
  have hot1 := fun g hg => own_type hemp1 (g := g) hg
  have hG4 := row_grown hG3 hgrow1 (fun q => by obtain ⟨cc, hcc⟩ := hot1 w.heap.size q.symm; have := hG3; unfold RowIs at this; rw [this] at hcc; injection hcc with hcc; injection hcc with _ q2 _; exact absurd q2 (by decide))
  have hP4 := row_grown hP3 hgrow1 (fun q => by obtain ⟨cc, hcc⟩ := hot1 _ q.symm; have := hP3; unfold RowIs at this; rw [this] at hcc; injection hcc with hcc; injection hcc with _ q2 _; exact absurd q2 (by decide))
  have hb4 : Below w.heap.size w w4 := hb3.grown hgrow1 hs3 (fun k hq => (hemp1.lt k hq).1)
  obtain ⟨W5, hW5⟩ : ∃ W5, W5 = w4.setCell ⟨w.heap.size, 1, none⟩ (.slice q1 items.length k1) := ⟨_, rfl⟩
  have hG5 : RowIs W5 w.heap.size 27 #[.int .u8 (kind : Int), .slice q1 items.length k1, .slice p2 kids.length c2, .slice p3 vols.length c3] := by rw [hW5]; exact hG4.set 1 _
  have hP5 : RowIs W5 W1.heap.size 27 #[.int .u8 0, .slice none 0 0, .slice none 0 0, .slice none 0 0] := by rw [hW5]; exact RowIs.other hP4 _ _ hGP.symm
  have hbs1 := (But.refl w.heap.size w4).setCell 1 (.slice q1 items.length k1)
  rw [← hW5] at hbs1
  have hb5 : Below w.heap.size w W5 := by rw [hW5]; exact hb4.setCell (p := ⟨w.heap.size, 1, none⟩) (Nat.le_refl _) _
  have hqN1 : ∀ (e : TypeId) cc, e ≠ 27 → w4.heap[w.heap.size]? ≠ some (.cells cc e (0, 0)) := fun e cc he hx => by have := hG4; unfold RowIs at this; rw [hx] at this; injection this with this; injection this with _ q2 _; exact he q2
  have ho15 := ownsRow_but hown1 hbs1 (fun cc => hqN1 _ cc (by decide))
  have hf1a : w4.cell? ⟨w.heap.size, 1, none⟩ = some _ := hG4.cell 1
  have hf1b := hG4.free 1
  have HW5 := Lib.hid hW5
  clear hW5 hown1 hgrow1 hot1 hbs1 hqN1 hemp1 hG3 hP3 hG4 hP4 hb3 hb4 hfi1 hfj1
  have hfi2 : W5.cell? ⟨w.heap.size, 2, none⟩ = some (.slice p2 kids.length c2) := by rw [hG5.cell]; rfl
  obtain ⟨W6, hW6⟩ : ∃ W6, W6 = W5.alloc (.cells #[] 49) := ⟨_, rfl⟩
  have hs5 := hb5.size
  have hal2 := (Below.refl _ W5).alloc (Nat.le_refl _) (.cells #[] 49)
  have hemp2 := empty_own W5 w.heap.size 49 34 hs5
  rw [← hW6] at hal2 hemp2
  have hG6 := hG5.below hal2 hG5.lt
  have hP6 := hP5.below hal2 hP5.lt
  have hb6 := hb5.trans (hal2.mono hs5)
  have ho16 := ownsRow_below ho15 hal2
  have hfj2 : W6.cell? ⟨w.heap.size, 2, none⟩ = some (.slice p2 kids.length c2) := by rw [hG6.cell]; rfl
  have hcell2 : ∀ ad, p2 = some ad → ∀ j u, (kids.flatMap kidV)[j]? = some u → W6.cell? (ad.add j) = some u := by
    intro ad had j u hj
    have hpos : 0 < kids.length := by
      rcases Nat.eq_zero_or_pos kids.length with h | h
      · have hnil : kids = [] := List.length_eq_zero_iff.1 h
        rw [hnil] at hj; simp at hj
      · exact h
    obtain ⟨b, o, rfl, hbB, hc⟩ := r2 ad had hpos
    exact sl_cells (f := kidV) (z := 34) (by decide) (fun x hx => kidV_length (Hck.out x hx)) (fun k hk => rangeAt_below (hc k hk) hb6 (by omega)) j u hj
  have hlen2 := flat_len (f := kidV) (z := 34) kids (fun x hx => kidV_length (Hck.out x hx))
  have hone2 := flat_one (f := kidV) (fun x u hu => Array.all_eq_true_iff_forall_mem.1 (kidV_one x) u (by simpa using hu)) kids
  generalize hnews2 : kids.flatMap kidV = news2 at *
  have Hnews2 := Lib.hid hnews2
  have Hlen2 := Lib.hid hlen2
  have Hcell2 := Lib.hid hcell2
  have HW6 := Lib.hid hW6
  have hs6 := hb6.size
  clear hnews2 hlen2 hcell2 hW6 hal2
  go_wp2_with (first | (refine wpList_world HW5.out ?_) | (refine wpList_world HW6.out ?_) | (at_builtin; refine wpList_append_opt _ rfl _ _ 24 rfl w.heap.size 49 iR0 (.agg kidZ) 34 56 Tryd.underlying24 hR hRz0 hRz1 hRz2 rfl (by decide) (.slice (some ⟨W5.heap.size, 0, none⟩) 0 0) 0 [] rfl hemp2 p2 kids.length c2 news2 rfl Hlen2.out n2 Hcell2.out hone2 (by unfold maxLen; omega) (by omega) hs6 ?_))
  intro vv2 w7 hown2 hgrow2
  rw [← Hnews2.out] at hown2
  obtain ⟨q2, k2, rfl⟩ := own_shape hown2
  have hot2 := fun g hg => own_type hemp2 (g := g) hg
  have hG7 := row_grown hG6 hgrow2 (fun q => by obtain ⟨cc, hcc⟩ := hot2 w.heap.size q.symm; have := hG6; unfold RowIs at this; rw [this] at hcc; injection hcc with hcc; injection hcc with _ q2 _; exact absurd q2 (by decide))
  have hP7 := row_grown hP6 hgrow2 (fun q => by obtain ⟨cc, hcc⟩ := hot2 _ q.symm; have := hP6; unfold RowIs at this; rw [this] at hcc; injection hcc with hcc; injection hcc with _ q2 _; exact absurd q2 (by decide))
  have hb7 : Below w.heap.size w w7 := hb6.grown hgrow2 hs6 (fun k hq => (hemp2.lt k hq).1)
  have ho17 := owns_grown ho16 hgrow2 (fun g hg cc hcc => by obtain ⟨c2, h2⟩ := hot2 g hg; rw [h2] at hcc; injection hcc with hcc; injection hcc with _ q2 _; exact absurd q2 (by decide))
  obtain ⟨W8, hW8⟩ : ∃ W8, W8 = w7.setCell ⟨w.heap.size, 2, none⟩ (.slice q2 kids.length k2) := ⟨_, rfl⟩
  have hG8 : RowIs W8 w.heap.size 27 #[.int .u8 (kind : Int), .slice q1 items.length k1, .slice q2 kids.length k2, .slice p3 vols.length c3] := by rw [hW8]; exact hG7.set 2 _
  have hP8 : RowIs W8 W1.heap.size 27 #[.int .u8 0, .slice none 0 0, .slice none 0 0, .slice none 0 0] := by rw [hW8]; exact RowIs.other hP7 _ _ hGP.symm
  have hbs2 := (But.refl w.heap.size w7).setCell 2 (.slice q2 kids.length k2)
  rw [← hW8] at hbs2
  have hb8 : Below w.heap.size w W8 := by rw [hW8]; exact hb7.setCell (p := ⟨w.heap.size, 2, none⟩) (Nat.le_refl _) _
  have hqN2 : ∀ (e : TypeId) cc, e ≠ 27 → w7.heap[w.heap.size]? ≠ some (.cells cc e (0, 0)) := fun e cc he hx => by have := hG7; unfold RowIs at this; rw [hx] at this; injection this with this; injection this with _ q2 _; exact he q2
  have ho28 := ownsRow_but hown2 hbs2 (fun cc => hqN2 _ cc (by decide))
  have ho18 := ownsRow_but ho17 hbs2 (fun cc => hqN2 _ cc (by decide))
  have hf2a : w7.cell? ⟨w.heap.size, 2, none⟩ = some _ := hG7.cell 2
  have hf2b := hG7.free 2
  have HW8 := Lib.hid hW8
  clear hW8 hown2 hgrow2 hot2 hbs2 hqN2 hemp2 hG6 hP6 hG7 hP7 hb6 hb7 hfi2 hfj2 ho16 ho17
  have hfi3 : W8.cell? ⟨w.heap.size, 3, none⟩ = some (.slice p3 vols.length c3) := by rw [hG8.cell]; rfl
  obtain ⟨W9, hW9⟩ : ∃ W9, W9 = W8.alloc (.cells #[] 65) := ⟨_, rfl⟩
  have hs8 := hb8.size
  have hal3 := (Below.refl _ W8).alloc (Nat.le_refl _) (.cells #[] 65)
  have hemp3 := empty_own W8 w.heap.size 65 37 hs8
  rw [← hW9] at hal3 hemp3
  have hG9 := hG8.below hal3 hG8.lt
  have hP9 := hP8.below hal3 hP8.lt
  have hb9 := hb8.trans (hal3.mono hs8)
  have ho19 := ownsRow_below ho18 hal3
  have ho29 := ownsRow_below ho28 hal3
  have hfj3 : W9.cell? ⟨w.heap.size, 3, none⟩ = some (.slice p3 vols.length c3) := by rw [hG9.cell]; rfl
  have hcell3 : ∀ ad, p3 = some ad → ∀ j u, (vols.flatMap volV)[j]? = some u → W9.cell? (ad.add j) = some u := by
    intro ad had j u hj
    have hpos : 0 < vols.length := by
      rcases Nat.eq_zero_or_pos vols.length with h | h
      · have hnil : vols = [] := List.length_eq_zero_iff.1 h
        rw [hnil] at hj; simp at hj
      · exact h
    obtain ⟨b, o, rfl, hbB, hc⟩ := r3 ad had hpos
    exact sl_cells (f := volV) (z := 37) (by decide) (fun x hx => volV_length (Hcv.out x hx)) (fun k hk => rangeAt_below (hc k hk) hb9 (by omega)) j u hj
  have hlen3 := flat_len (f := volV) (z := 37) vols (fun x hx => volV_length (Hcv.out x hx))
  have hone3 := flat_one (f := volV) (fun x u hu => Array.all_eq_true_iff_forall_mem.1 (volV_one x) u (by simpa using hu)) vols
  generalize hnews3 : vols.flatMap volV = news3 at *
  have Hnews3 := Lib.hid hnews3
  have Hlen3 := Lib.hid hlen3
  have Hcell3 := Lib.hid hcell3
  have HW9 := Lib.hid hW9
  have hs9 := hb9.size
  clear hnews3 hlen3 hcell3 hW9 hal3
  go_wp2_with (first | (refine wpList_world HW8.out ?_) | (refine wpList_world HW9.out ?_) | (at_builtin; refine wpList_append_opt _ rfl _ _ 25 rfl w.heap.size 65 iV0 (.agg volZ) 37 88 Tryd.underlying25 hV hVz0 hVz1 hVz2 rfl (by decide) (.slice (some ⟨W8.heap.size, 0, none⟩) 0 0) 0 [] rfl hemp3 p3 vols.length c3 news3 rfl Hlen3.out n3 Hcell3.out hone3 (by unfold maxLen; omega) (by omega) hs9 ?_))
  intro vv3 w10 hown3 hgrow3
  rw [← Hnews3.out] at hown3
  obtain ⟨q3, k3, rfl⟩ := own_shape hown3
  have hot3 := fun g hg => own_type hemp3 (g := g) hg
  have hG10 := row_grown hG9 hgrow3 (fun q => by obtain ⟨cc, hcc⟩ := hot3 w.heap.size q.symm; have := hG9; unfold RowIs at this; rw [this] at hcc; injection hcc with hcc; injection hcc with _ q2 _; exact absurd q2 (by decide))
  have hP10 := row_grown hP9 hgrow3 (fun q => by obtain ⟨cc, hcc⟩ := hot3 _ q.symm; have := hP9; unfold RowIs at this; rw [this] at hcc; injection hcc with hcc; injection hcc with _ q2 _; exact absurd q2 (by decide))
  have hb10 : Below w.heap.size w w10 := hb9.grown hgrow3 hs9 (fun k hq => (hemp3.lt k hq).1)
  have ho110 := owns_grown ho19 hgrow3 (fun g hg cc hcc => by obtain ⟨c2, h2⟩ := hot3 g hg; rw [h2] at hcc; injection hcc with hcc; injection hcc with _ q2 _; exact absurd q2 (by decide))
  have ho210 := owns_grown ho29 hgrow3 (fun g hg cc hcc => by obtain ⟨c2, h2⟩ := hot3 g hg; rw [h2] at hcc; injection hcc with hcc; injection hcc with _ q2 _; exact absurd q2 (by decide))
  obtain ⟨W11, hW11⟩ : ∃ W11, W11 = w10.setCell ⟨w.heap.size, 3, none⟩ (.slice q3 vols.length k3) := ⟨_, rfl⟩
  have hG11 : RowIs W11 w.heap.size 27 #[.int .u8 (kind : Int), .slice q1 items.length k1, .slice q2 kids.length k2, .slice q3 vols.length k3] := by rw [hW11]; exact hG10.set 3 _
  have hP11 : RowIs W11 W1.heap.size 27 #[.int .u8 0, .slice none 0 0, .slice none 0 0, .slice none 0 0] := by rw [hW11]; exact RowIs.other hP10 _ _ hGP.symm
  have hbs3 := (But.refl w.heap.size w10).setCell 3 (.slice q3 vols.length k3)
  rw [← hW11] at hbs3
  have hb11 : Below w.heap.size w W11 := by rw [hW11]; exact hb10.setCell (p := ⟨w.heap.size, 3, none⟩) (Nat.le_refl _) _
  have hqN3 : ∀ (e : TypeId) cc, e ≠ 27 → w10.heap[w.heap.size]? ≠ some (.cells cc e (0, 0)) := fun e cc he hx => by have := hG10; unfold RowIs at this; rw [hx] at this; injection this with this; injection this with _ q2 _; exact he q2
  have ho311 := ownsRow_but hown3 hbs3 (fun cc => hqN3 _ cc (by decide))
  have ho111 := ownsRow_but ho110 hbs3 (fun cc => hqN3 _ cc (by decide))
  have ho211 := ownsRow_but ho210 hbs3 (fun cc => hqN3 _ cc (by decide))
  have hf3a : w10.cell? ⟨w.heap.size, 3, none⟩ = some _ := hG10.cell 3
  have hf3b := hG10.free 3
  have HW11 := Lib.hid hW11
  clear hW11 hown3 hgrow3 hot3 hbs3 hqN3 hemp3 hG9 hP9 hG10 hP10 hb9 hb10 hfi3 hfj3 ho19 ho110 ho29 ho210
  have hsz4 : (Tryd.prog.info? 27).map (·.size) = some (#[.int .u8 (kind : Int), .slice q1 items.length k1, .slice q2 kids.length k2, .slice q3 vols.length k3] : Array Value).size := by kernel_rfl
  have hone4 : (#[.int .u8 (kind : Int), .slice q1 items.length k1, .slice q2 kids.length k2, .slice q3 vols.length k3] : Array Value).all (·.oneCell') = true := by simp [Value.oneCell']
  have hthere4 := hP11.there 0 4 (Nat.le_refl 4)
  have hst4 := store_row hP11 (D := #[.int .u8 (kind : Int), .slice q1 items.length k1, .slice q2 kids.length k2, .slice q3 vols.length k3]) rfl
  have hle : w.heap.size ≤ W1.heap.size := by have := HW1.out; rw [this]; simp
  have hbz := setCells_below W1.heap.size w.heap.size hle (#[.int .u8 (kind : Int), .slice q1 items.length k1, .slice q2 kids.length k2, .slice q3 vols.length k3] : Array Value).toList 0 _ _ hb11
  have hown4 : OwnAt w.heap.size W11 (.agg #[.int .u8 (kind : Int), .slice q1 items.length k1, .slice q2 kids.length k2, .slice q3 vols.length k3]) ⟨kind, items, kids, vols⟩ := ⟨HWf.out, _, _, _, rfl, ho111, ho211, ho311⟩
  have hoz := hown4.store hP11 (#[.int .u8 (kind : Int), .slice q1 items.length k1, .slice q2 kids.length k2, .slice q3 vols.length k3] : Array Value).toList 0
  have HZ := Lib.hid (And.intro hst4 (And.intro hbz hoz))
  clear hst4 hbz hoz hown4 ho111 ho211 ho311
  go_wp2_with (first | (refine wpList_world HW11.out ?_) | (refine wpList_load_row rfl 27 _ rfl w.heap.size rfl 27 #[.int .u8 (kind : Int), .slice q1 items.length k1, .slice q2 kids.length k2, .slice q3 vols.length k3] (0, 0) _ hG11 Tryd.underlying27 rfl hsz4 ?_) | (refine wpList_store_mid rfl 27 _ _ rfl W1.heap.size 0 #[.int .u8 (kind : Int), .slice q1 items.length k1, .slice q2 kids.length k2, .slice q3 vols.length k3] rfl rfl hthere4 hsz4 hone4 ?_))
  refine bodyPost_ret (v := .agg #[.int .u8 (kind : Int), .slice q1 items.length k1, .slice q2 kids.length k2, .slice q3 vols.length k3]) (results_cell_row (p := 2) (ty := 27) (by rfl) _ _ W1.heap.size 27 #[.int .u8 (kind : Int), .slice q1 items.length k1, .slice q2 kids.length k2, .slice q3 vols.length k3] (0, 0) _ (by rfl) HZ.out.1 Tryd.underlying27 (by rfl) hsz4) (by rfl) ?_
  exact ⟨_, rfl, HZ.out.2.2, HZ.out.2.1⟩

end Go.Proofs.YtgjaoofgmdijdaaDoor
