/- Heaps, plainly: what is right, what is put, held, dropped, swept; what is kept through it. No program. -/
/- What is put, held, dropped: the heap's plain model; that it stays right. No program. -/
import Derived.Test.YtimkklaidodkdaaGreatDoorNodeTake
import Derived.Test.YtimkklaidodkdaaGreatDoorShaPure
namespace Go.Proofs.YtimkklaidodkdaaGreatDoor

structure CellD where
  num : Nat
  data : ByteArray
  refs : Int
structure HeapD where
  size : Nat
  cells : List CellD

def CellD.d (c : CellD) : List UInt8 := c.data.data.toList
def CellD.node (c : CellD) : NodeD := nodeL c.d
def CellD.hash (c : CellD) : List UInt8 := sha c.d
def namedN (n : NodeD) : List (Nat × List UInt8) := n.kids.map (fun k => (k.num, k.hash)) ++ (n.vols.filter (fun v => decide (v.root ≠ 0))).map (fun v => (v.root, v.hash))
def CellD.kids (c : CellD) : List Nat := kidNums c.node
def findC (l : List CellD) (k : Nat) : Option CellD := l.find? (fun c => c.num == k)
def ledC (l : List CellD) (k : Nat) : Nat := (l.flatMap CellD.kids).count k
/-- Why what a node names is not right. -/
def toldC (l : List CellD) : Int → List (Nat × List UInt8) → Int
  | why, [] => why
  | why, x :: r => match findC l x.1 with
    | none => 5
    | some c => toldC l (if c.hash = x.2 then why else 9) r
def toldN (l : List CellD) (n : NodeD) : Int := toldC l 0 (namedN n)

structure RightH (h : HeapD) : Prop where
  lo : 16 ≤ h.size
  hi : h.size ≤ 65536
  ok : ∀ c ∈ h.cells, decOk c.d ∧ 2 ≤ c.num ∧ c.num < h.size
  asc : h.cells.Pairwise (fun a b => a.num < b.num)
  told : ∀ c ∈ h.cells, toldN h.cells c.node = 0
  led : ∀ c ∈ h.cells, (ledC h.cells c.num : Int) ≤ c.refs
  most : ∀ c ∈ h.cells, c.refs ≤ 16777216

/-- A list of cells midway: some that lead to cells are still to be let go. -/
structure InvC (size : Nat) (l : List CellD) (pend : List Nat) : Prop where
  asc : l.Pairwise (fun a b => a.num < b.num)
  ok : ∀ c ∈ l, decOk c.d ∧ 2 ≤ c.num ∧ c.num < size
  there : ∀ c ∈ l, ∀ x ∈ namedN c.node, ∃ c' ∈ l, c'.num = x.1 ∧ c'.hash = x.2
  led : ∀ c ∈ l, (ledC l c.num : Int) + (pend.count c.num : Int) ≤ c.refs
  most : ∀ c ∈ l, c.refs ≤ 16777216
  pend : ∀ k ∈ pend, ∃ c ∈ l, c.num = k

/-! ### Finding -/
theorem find_mem {l : List CellD} {k : Nat} {c : CellD} (h : findC l k = some c) : c ∈ l ∧ c.num = k := by
  refine ⟨List.mem_of_find?_eq_some h, ?_⟩
  have := List.find?_some h
  simpa using this
theorem find_none {l : List CellD} {k : Nat} : findC l k = none ↔ ∀ c ∈ l, c.num ≠ k := by
  unfold findC
  rw [List.find?_eq_none]
  simp
theorem asc_inj {l : List CellD} (h : l.Pairwise (fun a b => a.num < b.num)) {a b : CellD} (ha : a ∈ l) (hb : b ∈ l) (e : a.num = b.num) : a = b := by
  induction h with
  | nil => cases ha
  | cons hx _ ih =>
    rcases List.mem_cons.1 ha with rfl | ha'
    · rcases List.mem_cons.1 hb with rfl | hb'
      · rfl
      · have := hx b hb'; omega
    · rcases List.mem_cons.1 hb with rfl | hb'
      · have := hx a ha'; omega
      · exact ih ha' hb'
theorem find_of {l : List CellD} (h : l.Pairwise (fun a b => a.num < b.num)) {c : CellD} (hc : c ∈ l) : findC l c.num = some c := by
  cases hf : findC l c.num with
  | none => exact absurd rfl (find_none.1 hf c hc)
  | some d =>
    obtain ⟨hd, hn⟩ := find_mem hf
    rw [asc_inj h hd hc hn]

theorem toldC_zero {l : List CellD} (hl : l.Pairwise (fun a b => a.num < b.num)) : ∀ (r : List (Nat × List UInt8)) (why : Int), why ≠ 0 ∨ True → (toldC l why r = 0 ↔ why = 0 ∧ ∀ x ∈ r, ∃ c ∈ l, c.num = x.1 ∧ c.hash = x.2)
  | [], why, _ => by simp [toldC]
  | x :: r, why, _ => by
    rw [toldC]
    cases hf : findC l x.1 with
    | none =>
      simp only []
      constructor
      · intro h; cases h
      · rintro ⟨_, h⟩
        obtain ⟨c, hc, hn, _⟩ := h x List.mem_cons_self
        exact absurd hn (find_none.1 hf c hc)
    | some c =>
      obtain ⟨hc, hn⟩ := find_mem hf
      simp only []
      rw [toldC_zero hl r _ (.inr trivial)]
      by_cases he : c.hash = x.2
      · rw [if_pos he]
        constructor
        · rintro ⟨h1, h2⟩
          refine ⟨h1, fun y hy => ?_⟩
          rcases List.mem_cons.1 hy with rfl | hy
          · exact ⟨c, hc, hn, he⟩
          · exact h2 y hy
        · rintro ⟨h1, h2⟩
          exact ⟨h1, fun y hy => h2 y (List.mem_cons_of_mem _ hy)⟩
      · rw [if_neg he]
        constructor
        · rintro ⟨h1, _⟩; cases h1
        · rintro ⟨_, h2⟩
          obtain ⟨d, hd, hdn, hdh⟩ := h2 x List.mem_cons_self
          rw [asc_inj hl hc hd (hn.trans hdn.symm)] at he
          exact absurd hdh he
theorem toldN_zero {l : List CellD} (hl : l.Pairwise (fun a b => a.num < b.num)) (n : NodeD) : toldN l n = 0 ↔ ∀ x ∈ namedN n, ∃ c ∈ l, c.num = x.1 ∧ c.hash = x.2 := by
  unfold toldN
  rw [toldC_zero hl _ _ (.inr trivial)]
  simp

theorem right_inv {h : HeapD} (r : RightH h) : InvC h.size h.cells [] :=
  ⟨r.asc, r.ok, fun c hc => (toldN_zero r.asc _).1 (r.told c hc), fun c hc => by simpa using r.led c hc, r.most, by simp⟩
theorem inv_right {size : Nat} {l : List CellD} (hs : 16 ≤ size) (hs2 : size ≤ 65536) (i : InvC size l []) : RightH ⟨size, l⟩ :=
  ⟨hs, hs2, i.ok, i.asc, fun c hc => (toldN_zero i.asc _).2 (i.there c hc), fun c hc => by simpa using i.led c hc, i.most⟩

/-! ### Kids of a right node -/
theorem dec_shape {d : List UInt8} (h : decOk d) : shapedN (nodeL d) = true := by
  unfold nodeL
  rw [if_pos h]
  exact ((check_ok _).1 h.2.2.1).1
theorem shaped_named (n : NodeD) (h : shapedN n = true) : (namedN n).map (·.1) = kidNums n := by
  unfold shapedN at h
  unfold namedN kidNums
  by_cases h1 : n.kind = 1
  · rw [if_pos h1] at h
    simp only [Bool.and_eq_true, List.isEmpty_iff] at h
    rw [h.1.1.1.1, h.1.1.1.2]; simp [h1]
  · rw [if_neg h1] at h
    by_cases h2 : n.kind = 2
    · rw [if_pos h2] at h
      simp only [Bool.and_eq_true, List.isEmpty_iff] at h
      rw [if_pos h2, h.1.1.1.2]
      simp
    · rw [if_neg h2] at h
      by_cases h3 : n.kind = 3
      · rw [if_pos h3] at h
        simp only [Bool.and_eq_true, List.isEmpty_iff] at h
        rw [if_neg h2, if_pos h3, h.1.1.2]
        simp
      · rw [if_neg h3] at h; cases h
theorem kids_named {c : CellD} (h : decOk c.d) : (namedN c.node).map (·.1) = c.kids := shaped_named _ (dec_shape h)
theorem InvC.kid {size : Nat} {l : List CellD} {p : List Nat} (i : InvC size l p) {c : CellD} (hc : c ∈ l) {k : Nat} (hk : k ∈ c.kids) : ∃ c' ∈ l, c'.num = k := by
  rw [← kids_named (i.ok c hc).1] at hk
  obtain ⟨x, hx, rfl⟩ := List.mem_map.1 hk
  obtain ⟨c', hc', hn, _⟩ := i.there c hc x hx
  exact ⟨c', hc', hn⟩

/-! ### Letting go -/
def decC (l : List CellD) (k : Nat) : List CellD := l.map fun c => if c.num = k then { c with refs := c.refs - 1 } else c
def delC (l : List CellD) (k : Nat) : List CellD := l.filter fun c => decide (c.num ≠ k)
def letF : Nat → List CellD → Nat → List CellD
  | 0, l, _ => l
  | f + 1, l, k => match findC l k with
    | none => l
    | some c => if c.refs - 1 = 0 then c.kids.foldl (letF f) (delC l k) else decC l k
def sweepF : Nat → List CellD → List CellD
  | 0, l => l
  | f + 1, l => match l.find? (fun c => decide (c.refs = 0)) with
    | none => l
    | some c => sweepF f (c.kids.foldl (letF (l.length + 1)) (delC l c.num))

theorem decC_kids (l : List CellD) (k : Nat) : (decC l k).flatMap CellD.kids = l.flatMap CellD.kids := by
  unfold decC
  induction l with
  | nil => rfl
  | cons c l ih =>
    rw [List.map_cons, List.flatMap_cons, List.flatMap_cons, ih]
    split <;> rfl
theorem decC_led (l : List CellD) (k j : Nat) : ledC (decC l k) j = ledC l j := by unfold ledC; rw [decC_kids]
theorem decC_mem {l : List CellD} {k : Nat} {c : CellD} (h : c ∈ decC l k) : ∃ c' ∈ l, c.num = c'.num ∧ c.data = c'.data ∧ c.refs = (if c'.num = k then c'.refs - 1 else c'.refs) := by
  obtain ⟨c', hc', rfl⟩ := List.mem_map.1 h
  refine ⟨c', hc', ?_⟩
  split <;> exact ⟨rfl, rfl, rfl⟩
theorem decC_mem' {l : List CellD} {k : Nat} {c : CellD} (h : c ∈ l) : ∃ c' ∈ decC l k, c'.num = c.num ∧ c'.data = c.data ∧ c'.refs = (if c.num = k then c.refs - 1 else c.refs) := by
  refine ⟨_, List.mem_map.2 ⟨c, h, rfl⟩, ?_⟩
  split <;> exact ⟨rfl, rfl, rfl⟩
theorem data_eq {c c' : CellD} (h : c.data = c'.data) : c.node = c'.node ∧ c.hash = c'.hash ∧ c.kids = c'.kids ∧ c.d = c'.d := by
  unfold CellD.kids CellD.node CellD.hash CellD.d; rw [h]; exact ⟨rfl, rfl, rfl, rfl⟩
theorem asc_dec {l : List CellD} (k : Nat) (h : l.Pairwise (fun a b => a.num < b.num)) : (decC l k).Pairwise (fun a b => a.num < b.num) := by
  unfold decC
  rw [List.pairwise_map]
  refine h.imp ?_
  intro a b hab
  split <;> split <;> exact hab
theorem asc_del {l : List CellD} (k : Nat) (h : l.Pairwise (fun a b => a.num < b.num)) : (delC l k).Pairwise (fun a b => a.num < b.num) := h.filter _

theorem inv_dec {size : Nat} {l : List CellD} {p : List Nat} {k : Nat} (i : InvC size l (k :: p)) : InvC size (decC l k) p where
  asc := asc_dec k i.asc
  ok c hc := by
    obtain ⟨c', hc', hn, hd, _⟩ := decC_mem hc
    rw [hn, (data_eq hd).2.2.2]
    exact i.ok c' hc'
  there c hc x hx := by
    obtain ⟨c', hc', hn, hd, _⟩ := decC_mem hc
    rw [(data_eq hd).1] at hx
    obtain ⟨e, he, h1, h2⟩ := i.there c' hc' x hx
    obtain ⟨e', he', hn', hd', _⟩ := decC_mem' (k := k) he
    exact ⟨e', he', hn'.trans h1, (data_eq hd').2.1.trans h2⟩
  led c hc := by
    obtain ⟨c', hc', hn, hd, hr⟩ := decC_mem hc
    rw [decC_led, hn, hr]
    have := i.led c' hc'
    rw [List.count_cons] at this
    by_cases hk : c'.num = k
    · rw [if_pos hk]
      simp [hk] at this ⊢
      omega
    · rw [if_neg hk]
      have hk' : ¬ k = c'.num := fun h => hk h.symm
      simp [hk'] at this
      exact this
  most c hc := by
    obtain ⟨c', hc', hn, hd, hr⟩ := decC_mem hc
    rw [hr]
    have := i.most c' hc'
    split <;> omega
  pend j hj := by
    obtain ⟨c, hc, hn⟩ := i.pend j (List.mem_cons_of_mem _ hj)
    obtain ⟨c', hc', hn', _⟩ := decC_mem' (k := k) hc
    exact ⟨c', hc', hn'.trans hn⟩

theorem led_del {l : List CellD} (h : l.Pairwise (fun a b => a.num < b.num)) {c : CellD} (hc : c ∈ l) (j : Nat) : ledC l j = ledC (delC l c.num) j + c.kids.count j := by
  unfold ledC
  induction h with
  | nil => cases hc
  | cons hx hp ih =>
    rename_i a l
    rcases List.mem_cons.1 hc with rfl | hc'
    · have e : delC (c :: l) c.num = l := by
        unfold delC
        rw [List.filter_cons]
        simp only [ne_eq, not_true, decide_false, Bool.false_eq_true, if_false]
        rw [List.filter_eq_self]
        intro b hb
        have := hx b hb
        simp; omega
      rw [e, List.flatMap_cons, List.count_append]; omega
    · have e : delC (a :: l) c.num = a :: delC l c.num := by
        unfold delC
        rw [List.filter_cons]
        have := hx c hc'
        rw [if_pos (by simp; omega)]
      rw [e, List.flatMap_cons, List.flatMap_cons, List.count_append, List.count_append, ih hc']; omega
theorem delC_length {l : List CellD} {c : CellD} (hc : c ∈ l) : (delC l c.num).length < l.length := by
  unfold delC
  refine Nat.lt_of_le_of_ne (List.length_filter_le _ _) (fun q => ?_)
  have := List.length_filter_eq_length_iff.1 q c hc
  simp at this

/-- A cell that nobody holds is taken out: all to which it leads is to be let go. -/
theorem inv_del {size : Nat} {l : List CellD} {p : List Nat} (i : InvC size l p) {c : CellD} (hc : c ∈ l) (h0 : c.refs = 0) : InvC size (delC l c.num) (c.kids ++ p) where
  asc := asc_del _ i.asc
  ok d hd := i.ok d (List.mem_filter.1 hd).1
  there d hd x hx := by
    obtain ⟨e, he, h1, h2⟩ := i.there d (List.mem_filter.1 hd).1 x hx
    refine ⟨e, List.mem_filter.2 ⟨he, ?_⟩, h1, h2⟩
    simp only [ne_eq, decide_eq_true_eq]
    intro hq
    have h3 := i.led c hc
    have h4 : 0 < ledC l c.num := by
      unfold ledC
      rw [List.count_pos_iff, List.mem_flatMap]
      refine ⟨d, (List.mem_filter.1 hd).1, ?_⟩
      rw [← kids_named (i.ok d (List.mem_filter.1 hd).1).1]
      exact List.mem_map.2 ⟨x, hx, by rw [← h1, hq]⟩
    omega
  led d hd := by
    have h1 := i.led d (List.mem_filter.1 hd).1
    have h2 := led_del i.asc hc d.num
    rw [List.count_append]
    omega
  most d hd := i.most d (List.mem_filter.1 hd).1
  pend k hk := by
    have gone : ∀ e ∈ l, e.num = k → 0 < e.refs → ∃ e' ∈ delC l c.num, e'.num = k := fun e he hek hr => ⟨e, List.mem_filter.2 ⟨he, by
      simp only [ne_eq, decide_eq_true_eq]
      intro hq
      have := asc_inj i.asc he hc hq
      subst this; omega⟩, hek⟩
    rcases List.mem_append.1 hk with hk | hk
    · obtain ⟨e, he, hek⟩ := i.kid hc hk
      refine gone e he hek ?_
      have h1 := i.led e he
      have h4 : 0 < ledC l e.num := by
        unfold ledC
        rw [List.count_pos_iff, List.mem_flatMap]
        exact ⟨c, hc, by rw [hek]; exact hk⟩
      omega
    · obtain ⟨e, he, hek⟩ := i.pend k hk
      refine gone e he hek ?_
      have h1 := i.led e he
      have h4 : 0 < p.count e.num := by rw [List.count_pos_iff, hek]; exact hk
      omega

theorem delC_decC (l : List CellD) (k : Nat) : delC (decC l k) k = delC l k := by
  unfold delC decC
  rw [List.filter_map]
  have e : (fun c : CellD => decide (c.num ≠ k)) ∘ (fun c => if c.num = k then { c with refs := c.refs - 1 } else c) = fun c => decide (c.num ≠ k) := by
    funext c
    simp only [Function.comp]
    split <;> rfl
  rw [e]
  rw [List.map_congr_left (g := id)]
  · simp
  · intro c hc
    have := (List.mem_filter.1 hc).2
    simp only [ne_eq, decide_eq_true_eq] at this
    rw [if_neg this]; rfl

theorem inv_let : ∀ (f : Nat) (l : List CellD) (k : Nat) (p : List Nat) (size : Nat), l.length < f → InvC size l (k :: p) → InvC size (letF f l k) p ∧ (letF f l k).length ≤ l.length := by
  intro f
  induction f with
  | zero => intro l k p size h; omega
  | succ f ih =>
    intro l k p size hf i
    obtain ⟨c, hc, hk⟩ := i.pend k List.mem_cons_self
    subst hk
    have hfind := find_of i.asc hc
    rw [letF, hfind]
    simp only []
    by_cases h0 : c.refs - 1 = 0
    · rw [if_pos h0]
      have i2 := inv_dec i
      obtain ⟨c', hc', hn, hd, hr⟩ := decC_mem' (k := c.num) hc
      rw [if_pos rfl] at hr
      have i3 := inv_del i2 hc' (by rw [hr]; exact h0)
      rw [hn, (data_eq hd).2.2.1, delC_decC] at i3
      have hl := delC_length hc
      have go : ∀ (ks : List Nat) (m : List CellD), m.length < f → InvC size m (ks ++ p) → InvC size (ks.foldl (letF f) m) p ∧ (ks.foldl (letF f) m).length ≤ m.length := by
        intro ks
        induction ks with
        | nil => intro m _ h; exact ⟨h, Nat.le_refl _⟩
        | cons a ks ihk =>
          intro m hm h
          obtain ⟨h1, h2⟩ := ih m a (ks ++ p) size hm h
          obtain ⟨h3, h4⟩ := ihk (letF f m a) (by omega) h1
          exact ⟨h3, by rw [List.foldl_cons]; omega⟩
      obtain ⟨h3, h4⟩ := go c.kids (delC l c.num) (by omega) i3
      exact ⟨h3, by omega⟩
    · rw [if_neg h0]
      exact ⟨inv_dec i, by unfold decC; rw [List.length_map]; exact Nat.le_refl _⟩
theorem inv_lets (f : Nat) {size : Nat} {p : List Nat} : ∀ (ks : List Nat) (m : List CellD), m.length < f → InvC size m (ks ++ p) → InvC size (ks.foldl (letF f) m) p ∧ (ks.foldl (letF f) m).length ≤ m.length := by
  intro ks
  induction ks with
  | nil => intro m _ h; exact ⟨h, Nat.le_refl _⟩
  | cons a ks ihk =>
    intro m hm h
    obtain ⟨h1, h2⟩ := inv_let f m a (ks ++ p) size hm h
    obtain ⟨h3, h4⟩ := ihk (letF f m a) (by omega) h1
    exact ⟨h3, by rw [List.foldl_cons]; omega⟩
/-- What is let go does not hang on the measure, if it is great enough. -/
theorem let_fuel : ∀ (f g : Nat) (l : List CellD) (k : Nat) (p : List Nat) (size : Nat), l.length < f → l.length < g → InvC size l (k :: p) → letF f l k = letF g l k := by
  intro f
  induction f with
  | zero => intro g l k p size h; omega
  | succ f ih =>
    intro g l k p size hf hg i
    obtain ⟨g, rfl⟩ : ∃ g', g = g' + 1 := ⟨g - 1, by omega⟩
    obtain ⟨c, hc, hk⟩ := i.pend k List.mem_cons_self
    subst hk
    have hfind := find_of i.asc hc
    rw [letF, letF, hfind]
    simp only []
    by_cases h0 : c.refs - 1 = 0
    · rw [if_pos h0, if_pos h0]
      have i2 := inv_dec i
      obtain ⟨c', hc', hn, hd, hr⟩ := decC_mem' (k := c.num) hc
      rw [if_pos rfl] at hr
      have i3 := inv_del i2 hc' (by rw [hr]; exact h0)
      rw [hn, (data_eq hd).2.2.1, delC_decC] at i3
      have hl := delC_length hc
      have go : ∀ (ks : List Nat) (m : List CellD), m.length < f → m.length < g → InvC size m (ks ++ p) → ks.foldl (letF f) m = ks.foldl (letF g) m := by
        intro ks
        induction ks with
        | nil => intro m _ _ _; rfl
        | cons a ks ihk =>
          intro m hm hm' h
          obtain ⟨h1, h2⟩ := inv_let f m a (ks ++ p) size hm h
          rw [List.foldl_cons, List.foldl_cons, ← ih g m a (ks ++ p) size hm hm' h]
          exact ihk _ (by omega) (by omega) h1
      exact go c.kids (delC l c.num) (by omega) (by omega) i3
    · rw [if_neg h0, if_neg h0]

/-! ### What is kept -/
/-- How often a cell is held beyond what leads to it. -/
def slackC (l : List CellD) (p : List Nat) (c : CellD) : Int := c.refs - (ledC l c.num : Int) - (p.count c.num : Int)
structure KeptC (l : List CellD) (p : List Nat) (l' : List CellD) (p' : List Nat) : Prop where
  back : ∀ d' ∈ l', ∃ d ∈ l, d.num = d'.num ∧ d.data = d'.data ∧ slackC l' p' d' = slackC l p d
  stay : ∀ d ∈ l, 0 < slackC l p d → ∃ d' ∈ l', d'.num = d.num ∧ d'.data = d.data ∧ slackC l' p' d' = slackC l p d
theorem KeptC.refl (l : List CellD) (p : List Nat) : KeptC l p l p := ⟨fun d h => ⟨d, h, rfl, rfl, rfl⟩, fun d h _ => ⟨d, h, rfl, rfl, rfl⟩⟩
theorem KeptC.trans {l l' l'' : List CellD} {p p' p'' : List Nat} (a : KeptC l p l' p') (b : KeptC l' p' l'' p'') : KeptC l p l'' p'' where
  back d hd := by
    obtain ⟨e, he, h1, h2, h3⟩ := b.back d hd
    obtain ⟨f, hf, k1, k2, k3⟩ := a.back e he
    exact ⟨f, hf, k1.trans h1, k2.trans h2, h3.trans k3⟩
  stay d hd hp := by
    obtain ⟨e, he, h1, h2, h3⟩ := a.stay d hd hp
    obtain ⟨f, hf, k1, k2, k3⟩ := b.stay e he (by rw [h3]; exact hp)
    exact ⟨f, hf, k1.trans h1, k2.trans h2, k3.trans h3⟩
theorem kept_dec (l : List CellD) (k : Nat) (p : List Nat) : KeptC l (k :: p) (decC l k) p := by
  have e : ∀ c c' : CellD, c'.num = c.num → c'.refs = (if c.num = k then c.refs - 1 else c.refs) → slackC (decC l k) p c' = slackC l (k :: p) c := by
    intro c c' hn hr
    unfold slackC
    rw [decC_led, hn, hr, List.count_cons]
    by_cases h : c.num = k
    · rw [if_pos h]; simp [h]; omega
    · have h' : ¬ k = c.num := fun q => h q.symm
      rw [if_neg h]; simp [h']
  refine ⟨fun d hd => ?_, fun d hd _ => ?_⟩
  · obtain ⟨c, hc, hn, hdd, hr⟩ := decC_mem hd
    exact ⟨c, hc, hn.symm, hdd.symm, e c d hn hr⟩
  · obtain ⟨c, hc, hn, hdd, hr⟩ := decC_mem' (k := k) hd
    exact ⟨c, hc, hn, hdd, e d c hn hr⟩
theorem kept_del {l : List CellD} (h : l.Pairwise (fun a b => a.num < b.num)) {c : CellD} (hc : c ∈ l) (h0 : c.refs = 0) (p : List Nat) : KeptC l p (delC l c.num) (c.kids ++ p) := by
  have e : ∀ d : CellD, slackC (delC l c.num) (c.kids ++ p) d = slackC l p d := by
    intro d
    unfold slackC
    have := led_del h hc d.num
    rw [List.count_append]; omega
  refine ⟨fun d hd => ⟨d, (List.mem_filter.1 hd).1, rfl, rfl, e d⟩, fun d hd hp => ⟨d, List.mem_filter.2 ⟨hd, ?_⟩, rfl, rfl, e d⟩⟩
  simp only [ne_eq, decide_eq_true_eq]
  intro hq
  have := asc_inj h hd hc hq
  subst this
  unfold slackC at hp
  omega
theorem kept_let : ∀ (f : Nat) (l : List CellD) (k : Nat) (p : List Nat) (size : Nat), l.length < f → InvC size l (k :: p) → KeptC l (k :: p) (letF f l k) p := by
  intro f
  induction f with
  | zero => intro l k p size h; omega
  | succ f ih =>
    intro l k p size hf i
    obtain ⟨c, hc, hk⟩ := i.pend k List.mem_cons_self
    subst hk
    have hfind := find_of i.asc hc
    rw [letF, hfind]
    simp only []
    by_cases h0 : c.refs - 1 = 0
    · rw [if_pos h0]
      have i2 := inv_dec i
      obtain ⟨c', hc', hn, hd, hr⟩ := decC_mem' (k := c.num) hc
      rw [if_pos rfl] at hr
      have i3 := inv_del i2 hc' (by rw [hr]; exact h0)
      have k3 := kept_del i2.asc hc' (by rw [hr]; exact h0) p
      rw [hn, (data_eq hd).2.2.1, delC_decC] at i3 k3
      have hl := delC_length hc
      have go : ∀ (ks : List Nat) (m : List CellD), m.length < f → InvC size m (ks ++ p) → KeptC m (ks ++ p) (ks.foldl (letF f) m) p := by
        intro ks
        induction ks with
        | nil => intro m _ _; exact KeptC.refl _ _
        | cons a ks ihk =>
          intro m hm h
          obtain ⟨h1, h2⟩ := inv_let f m a (ks ++ p) size hm h
          exact (ih m a (ks ++ p) size hm h).trans (ihk (letF f m a) (by omega) h1)
      exact ((kept_dec l c.num p).trans k3).trans (go c.kids (delC l c.num) (by omega) i3)
    · rw [if_neg h0]
      exact kept_dec l c.num p
theorem kept_lets (f : Nat) {size : Nat} {p : List Nat} : ∀ (ks : List Nat) (m : List CellD), m.length < f → InvC size m (ks ++ p) → KeptC m (ks ++ p) (ks.foldl (letF f) m) p := by
  intro ks
  induction ks with
  | nil => intro m _ _; exact KeptC.refl _ _
  | cons a ks ihk =>
    intro m hm h
    obtain ⟨h1, h2⟩ := inv_let f m a (ks ++ p) size hm h
    exact (kept_let f m a (ks ++ p) size hm h).trans (ihk (letF f m a) (by omega) h1)

theorem sweep_all : ∀ (f : Nat) (l : List CellD) (size : Nat), l.length ≤ f → InvC size l [] → InvC size (sweepF f l) [] ∧ KeptC l [] (sweepF f l) [] ∧ (∀ c ∈ sweepF f l, c.refs ≠ 0) ∧ (sweepF f l).length ≤ l.length := by
  intro f
  induction f with
  | zero =>
    intro l size h i
    have : l = [] := List.length_eq_zero_iff.1 (by omega)
    subst this
    exact ⟨i, KeptC.refl _ _, by simp [sweepF], Nat.le_refl _⟩
  | succ f ih =>
    intro l size hf i
    rw [sweepF]
    cases hc : l.find? (fun c => decide (c.refs = 0)) with
    | none =>
      simp only []
      refine ⟨i, KeptC.refl _ _, fun c hcm => ?_, Nat.le_refl _⟩
      have := List.find?_eq_none.1 hc c hcm
      simpa using this
    | some c =>
      simp only []
      have hm := List.mem_of_find?_eq_some hc
      have h0 : c.refs = 0 := by simpa using List.find?_some hc
      have i2 := inv_del i hm h0
      have hl := delC_length hm
      obtain ⟨i3, l3⟩ := inv_lets (l.length + 1) (p := []) c.kids (delC l c.num) (by omega) i2
      have k3 := (kept_del i.asc hm h0 []).trans (kept_lets (l.length + 1) (p := []) c.kids (delC l c.num) (by omega) i2)
      obtain ⟨a, b, c1, d⟩ := ih _ size (by omega) i3
      exact ⟨a, k3.trans b, c1, by omega⟩

end Go.Proofs.YtimkklaidodkdaaGreatDoor

namespace Go.Proofs.YtimkklaidodkdaaGreatDoor

/-- The least block from k on that is free. -/
def freeF : List CellD → Nat → Nat
  | [], k => k
  | c :: l, k => if c.num = k then freeF l (k + 1) else k
def freeC (l : List CellD) : Nat := freeF l 2
def lowC (l : List CellD) (k : Nat) : Nat := (l.filter fun x => decide (x.num < k)).length
def insC (l : List CellD) (c : CellD) : List CellD := l.take (lowC l c.num) ++ c :: l.drop (lowC l c.num)
def incC (l : List CellD) (k : Nat) : List CellD := l.map fun c => if c.num = k then { c with refs := c.refs + 1 } else c
def sameC (l : List CellD) (d : List UInt8) : Option CellD := l.find? fun c => decide (c.d = d)
def fullC (l : List CellD) (ks : List Nat) : Bool := ks.any fun k => match findC l k with
  | some c => decide (16777216 - (ks.count k : Int) < c.refs)
  | none => false
def putE (h : HeapD) (n : NodeD) : Int :=
  if checkN n ≠ 0 then checkN n else if toldN h.cells n ≠ 0 then toldN h.cells n else if (sameC h.cells (encN n)).isSome then 0
  else if h.size ≤ freeC h.cells then 8 else if fullC h.cells (kidNums n) then 1 else 0
def newC (l : List CellD) (n : NodeD) : CellD := ⟨freeC l, strOf (encN n), 0⟩
def putL (l : List CellD) (n : NodeD) : List CellD := (kidNums n).foldl incC (insC l (newC l n))
def putH (h : HeapD) (n : NodeD) : HeapD := if putE h n = 0 ∧ sameC h.cells (encN n) = none then ⟨h.size, putL h.cells n⟩ else h
def putN (h : HeapD) (n : NodeD) : Nat := if putE h n = 0 then (match sameC h.cells (encN n) with | some c => c.num | none => freeC h.cells) else 0
def putS (h : HeapD) (n : NodeD) : List UInt8 := if putE h n = 0 then sha (encN n) else List.replicate 32 0

theorem sorted_split {l : List CellD} (h : l.Pairwise (fun a b => a.num < b.num)) (k : Nat) : (∀ c ∈ l.take (lowC l k), c.num < k) ∧ (∀ c ∈ l.drop (lowC l k), k ≤ c.num) := by
  induction h with
  | nil => simp
  | cons hx hp ih =>
    rename_i a l
    by_cases ha : a.num < k
    · have e : lowC (a :: l) k = lowC l k + 1 := by unfold lowC; rw [List.filter_cons, if_pos (by simpa using ha)]; rfl
      rw [e, List.take_succ_cons, List.drop_succ_cons]
      refine ⟨fun c hc => ?_, ih.2⟩
      rcases List.mem_cons.1 hc with rfl | hc
      · exact ha
      · exact ih.1 c hc
    · have e : lowC (a :: l) k = 0 := by
        unfold lowC
        rw [List.filter_cons, if_neg (by simpa using ha), List.length_eq_zero_iff, List.filter_eq_nil_iff]
        intro c hc
        have := hx c hc
        simp; omega
      rw [e, List.take_zero, List.drop_zero]
      refine ⟨by simp, fun c hc => ?_⟩
      rcases List.mem_cons.1 hc with rfl | hc
      · omega
      · have := hx c hc; omega
theorem lowC_le (l : List CellD) (k : Nat) : lowC l k ≤ l.length := List.length_filter_le _ _
theorem ins_mem {l : List CellD} {c x : CellD} : x ∈ insC l c ↔ x = c ∨ x ∈ l := by
  unfold insC
  constructor
  · intro h
    rcases List.mem_append.1 h with h | h
    · exact .inr (List.mem_of_mem_take h)
    · rcases List.mem_cons.1 h with h | h
      · exact .inl h
      · exact .inr (List.mem_of_mem_drop h)
  · rintro (rfl | h)
    · simp
    · rw [← List.take_append_drop (lowC l c.num) l] at h
      rcases List.mem_append.1 h with h | h
      · exact List.mem_append.2 (.inl h)
      · exact List.mem_append.2 (.inr (List.mem_cons_of_mem _ h))
theorem ins_asc {l : List CellD} (h : l.Pairwise (fun a b => a.num < b.num)) {c : CellD} (hc : ∀ x ∈ l, x.num ≠ c.num) : (insC l c).Pairwise (fun a b => a.num < b.num) := by
  obtain ⟨h1, h2⟩ := sorted_split h c.num
  unfold insC
  have hh : (l.take (lowC l c.num) ++ l.drop (lowC l c.num)).Pairwise (fun a b => a.num < b.num) := by rw [List.take_append_drop]; exact h
  rw [List.pairwise_append] at hh ⊢
  refine ⟨hh.1, ?_, fun a ha b hb => ?_⟩
  · rw [List.pairwise_cons]
    refine ⟨fun x hx => ?_, hh.2.1⟩
    have := h2 x hx
    have := hc x (List.mem_of_mem_drop hx)
    omega
  · rcases List.mem_cons.1 hb with rfl | hb
    · exact h1 a ha
    · exact hh.2.2 a ha b hb
theorem ins_led (l : List CellD) (c : CellD) (j : Nat) : ledC (insC l c) j = ledC l j + c.kids.count j := by
  unfold ledC insC
  rw [List.flatMap_append, List.flatMap_cons, List.count_append, List.count_append]
  conv => rhs; rw [← List.take_append_drop (lowC l c.num) l, List.flatMap_append, List.count_append]
  omega

theorem free_ge : ∀ (l : List CellD) (k : Nat), k ≤ freeF l k
  | [], _ => Nat.le_refl _
  | c :: l, k => by
    rw [freeF]
    split
    · exact Nat.le_trans (Nat.le_succ k) (free_ge l (k + 1))
    · exact Nat.le_refl _
theorem free_not : ∀ (l : List CellD) (k : Nat), l.Pairwise (fun a b => a.num < b.num) → (∀ c ∈ l, k ≤ c.num) → ∀ c ∈ l, c.num ≠ freeF l k
  | [], _, _, _, _, h => by cases h
  | a :: l, k, hp, hk, c, hc => by
    rw [List.pairwise_cons] at hp
    rw [freeF]
    by_cases h : a.num = k
    · rw [if_pos h]
      rcases List.mem_cons.1 hc with rfl | hc
      · have := free_ge l (k + 1); omega
      · exact free_not l (k + 1) hp.2 (fun x hx => by have := hp.1 x hx; omega) c hc
    · rw [if_neg h]
      have h2 := hk a List.mem_cons_self
      rcases List.mem_cons.1 hc with rfl | hc
      · exact h
      · have := hp.1 c hc; omega

theorem inc_mem {l : List CellD} {k : Nat} {c : CellD} (h : c ∈ incC l k) : ∃ c' ∈ l, c.num = c'.num ∧ c.data = c'.data ∧ c.refs = (if c'.num = k then c'.refs + 1 else c'.refs) := by
  obtain ⟨c', hc', rfl⟩ := List.mem_map.1 h
  refine ⟨c', hc', ?_⟩
  split <;> exact ⟨rfl, rfl, rfl⟩
theorem inc_mem' {l : List CellD} {k : Nat} {c : CellD} (h : c ∈ l) : ∃ c' ∈ incC l k, c'.num = c.num ∧ c'.data = c.data ∧ c'.refs = (if c.num = k then c.refs + 1 else c.refs) := by
  refine ⟨_, List.mem_map.2 ⟨c, h, rfl⟩, ?_⟩
  split <;> exact ⟨rfl, rfl, rfl⟩
theorem inc_kids (l : List CellD) (k : Nat) : (incC l k).flatMap CellD.kids = l.flatMap CellD.kids := by
  unfold incC
  induction l with
  | nil => rfl
  | cons c l ih =>
    rw [List.map_cons, List.flatMap_cons, List.flatMap_cons, ih]
    split <;> rfl
theorem inc_led (l : List CellD) (k j : Nat) : ledC (incC l k) j = ledC l j := by unfold ledC; rw [inc_kids]
theorem inc_asc {l : List CellD} (k : Nat) (h : l.Pairwise (fun a b => a.num < b.num)) : (incC l k).Pairwise (fun a b => a.num < b.num) := by
  unfold incC
  rw [List.pairwise_map]
  refine h.imp ?_
  intro a b hab
  split <;> split <;> exact hab
theorem incs_mem (ks : List Nat) : ∀ {l : List CellD} {c : CellD}, c ∈ ks.foldl incC l → ∃ c' ∈ l, c.num = c'.num ∧ c.data = c'.data ∧ c.refs = c'.refs + (ks.count c'.num : Int) := by
  induction ks with
  | nil => intro l c h; exact ⟨c, h, rfl, rfl, by simp⟩
  | cons k ks ih =>
    intro l c h
    obtain ⟨c1, h1, n1, d1, r1⟩ := ih (l := incC l k) h
    obtain ⟨c2, h2, n2, d2, r2⟩ := inc_mem h1
    refine ⟨c2, h2, n1.trans n2, d1.trans d2, ?_⟩
    rw [r1, r2, n2, List.count_cons]
    by_cases e : c2.num = k
    · rw [if_pos e]; simp [e]; omega
    · have e' : ¬ k = c2.num := fun q => e q.symm
      rw [if_neg e]; simp [e']
theorem incs_mem' (ks : List Nat) : ∀ {l : List CellD} {c : CellD}, c ∈ l → ∃ c' ∈ ks.foldl incC l, c'.num = c.num ∧ c'.data = c.data ∧ c'.refs = c.refs + (ks.count c.num : Int) := by
  induction ks with
  | nil => intro l c h; exact ⟨c, h, rfl, rfl, by simp⟩
  | cons k ks ih =>
    intro l c h
    obtain ⟨c2, h2, n2, d2, r2⟩ := inc_mem' (k := k) h
    obtain ⟨c1, h1, n1, d1, r1⟩ := ih (l := incC l k) h2
    refine ⟨c1, h1, n1.trans n2, d1.trans d2, ?_⟩
    rw [r1, r2, n2, List.count_cons]
    by_cases e : c.num = k
    · rw [if_pos e]; simp [e]; omega
    · have e' : ¬ k = c.num := fun q => e q.symm
      rw [if_neg e]; simp [e']
theorem incs_led (ks : List Nat) : ∀ (l : List CellD) (j : Nat), ledC (ks.foldl incC l) j = ledC l j := by
  induction ks with
  | nil => intro l j; rfl
  | cons k ks ih => intro l j; rw [List.foldl_cons, ih, inc_led]
theorem incs_asc (ks : List Nat) : ∀ {l : List CellD}, l.Pairwise (fun a b => a.num < b.num) → (ks.foldl incC l).Pairwise (fun a b => a.num < b.num) := by
  induction ks with
  | nil => intro l h; exact h
  | cons k ks ih => intro l h; exact ih (inc_asc k h)
theorem incs_length (ks : List Nat) : ∀ (l : List CellD), (ks.foldl incC l).length = l.length := by
  induction ks with
  | nil => intro l; rfl
  | cons k ks ih => intro l; rw [List.foldl_cons, ih]; unfold incC; rw [List.length_map]

/-- The new cell's node is the node that was put. -/
theorem newC_node (l : List CellD) (n : NodeD) (hw : n.wf) (hc : checkN n = 0) : decOk (newC l n).d ∧ (newC l n).node = n := by
  obtain ⟨h1, h2⟩ := dec_enc n hw hc
  have e : (newC l n).d = encN n := rfl
  unfold CellD.node
  rw [e, nodeL, if_pos h1]
  exact ⟨h1, h2⟩
theorem put_zero {h : HeapD} {n : NodeD} (hp : putE h n = 0) : checkN n = 0 ∧ toldN h.cells n = 0 ∧ (sameC h.cells (encN n) = none → freeC h.cells < h.size ∧ fullC h.cells (kidNums n) = false) := by
  unfold putE at hp
  by_cases h1 : checkN n ≠ 0
  · rw [if_pos h1] at hp; exact absurd hp h1
  · rw [if_neg h1] at hp
    by_cases h2 : toldN h.cells n ≠ 0
    · rw [if_pos h2] at hp; exact absurd hp h2
    · rw [if_neg h2] at hp
      refine ⟨by simpa using h1, by simpa using h2, fun hs => ?_⟩
      rw [hs] at hp
      simp only [Option.isSome_none, Bool.false_eq_true, if_false] at hp
      by_cases h3 : h.size ≤ freeC h.cells
      · rw [if_pos h3] at hp; cases hp
      · rw [if_neg h3] at hp
        refine ⟨by omega, ?_⟩
        cases hf : fullC h.cells (kidNums n) with
        | false => rfl
        | true => rw [hf] at hp; cases hp
theorem kids_named_n {n : NodeD} (hc : checkN n = 0) : (namedN n).map (·.1) = kidNums n := shaped_named n ((check_ok n).1 hc).1

theorem putL_right {h : HeapD} {n : NodeD} (r : RightH h) (hw : n.wf) (hp : putE h n = 0) (hs : sameC h.cells (encN n) = none) : RightH ⟨h.size, putL h.cells n⟩ := by
  obtain ⟨hc, ht, hx⟩ := put_zero hp
  obtain ⟨hfree, hfull⟩ := hx hs
  have i := right_inv r
  have hnd := newC_node h.cells n hw hc
  have hnum : (newC h.cells n).num = freeC h.cells := rfl
  have hnot : ∀ c ∈ h.cells, c.num ≠ freeC h.cells := free_not h.cells 2 r.asc (fun c hc => (r.ok c hc).2.1)
  have hkn := kids_named_n hc
  have hthere := (toldN_zero r.asc n).1 ht
  have hkin : ∀ k ∈ kidNums n, ∃ c ∈ h.cells, c.num = k := fun k hk => by
    rw [← hkn] at hk
    obtain ⟨x, hx, rfl⟩ := List.mem_map.1 hk
    obtain ⟨c, hc', hn, _⟩ := hthere x hx
    exact ⟨c, hc', hn⟩
  have hnk : (newC h.cells n).kids = kidNums n := by unfold CellD.kids; rw [hnd.2]
  have hcount0 : (kidNums n).count (freeC h.cells) = 0 := by
    rw [List.count_eq_zero]
    intro hk
    obtain ⟨c, hc', hn⟩ := hkin _ hk
    exact hnot c hc' hn
  have hled0 : ledC h.cells (freeC h.cells) = 0 := by
    unfold ledC
    rw [List.count_eq_zero]
    intro hk
    obtain ⟨c, hc', hk'⟩ := List.mem_flatMap.1 hk
    obtain ⟨e, he, hn⟩ := i.kid hc' hk'
    exact hnot e he hn
  have hthere' : ∀ x : Nat × List UInt8, (∃ c ∈ h.cells, c.num = x.1 ∧ c.hash = x.2) → ∃ c ∈ putL h.cells n, c.num = x.1 ∧ c.hash = x.2 := by
    rintro x ⟨c, hc', h1, h2⟩
    obtain ⟨e, he, n1, d1, _⟩ := incs_mem' (kidNums n) (l := insC h.cells (newC h.cells n)) (ins_mem.2 (.inr hc'))
    exact ⟨e, he, n1.trans h1, (data_eq d1).2.1.trans h2⟩
  have hmem : ∀ c ∈ putL h.cells n, (∃ c' ∈ h.cells, c.num = c'.num ∧ c.data = c'.data ∧ c.refs = c'.refs + ((kidNums n).count c'.num : Int)) ∨ (c.num = freeC h.cells ∧ c.data = (newC h.cells n).data ∧ c.refs = 0) := by
    intro c hc'
    obtain ⟨c1, h1, n1, d1, r1⟩ := incs_mem (kidNums n) hc'
    rcases ins_mem.1 h1 with rfl | h1
    · right
      rw [hnum, hcount0] at r1
      exact ⟨n1, d1, by rw [r1]; rfl⟩
    · exact .inl ⟨c1, h1, n1, d1, r1⟩
  have hledn : ∀ j, ledC (putL h.cells n) j = ledC h.cells j + (kidNums n).count j := fun j => by unfold putL; rw [incs_led, ins_led, hnk]
  refine inv_right r.lo r.hi ⟨incs_asc _ (ins_asc r.asc hnot), fun c hc' => ?_, fun c hc' x hx => ?_, fun c hc' => ?_, fun c hc' => ?_, by simp⟩
  · rcases hmem c hc' with ⟨c', h1, n1, d1, _⟩ | ⟨n1, d1, _⟩
    · rw [n1, (data_eq d1).2.2.2]; exact r.ok c' h1
    · rw [n1, (data_eq d1).2.2.2]; exact ⟨hnd.1, free_ge _ _, hfree⟩
  · rcases hmem c hc' with ⟨c', h1, n1, d1, _⟩ | ⟨n1, d1, _⟩
    · rw [(data_eq d1).1] at hx
      exact hthere' x (i.there c' h1 x hx)
    · rw [(data_eq d1).1, hnd.2] at hx
      exact hthere' x (hthere x hx)
  · rw [hledn]
    rcases hmem c hc' with ⟨c', h1, n1, _, r1⟩ | ⟨n1, _, r1⟩
    · rw [n1, r1]
      have := r.led c' h1
      simp; omega
    · rw [n1, r1, hled0, hcount0]; simp
  · rcases hmem c hc' with ⟨c', h1, n1, _, r1⟩ | ⟨n1, _, r1⟩
    · rw [r1]
      by_cases hk : c'.num ∈ kidNums n
      · unfold fullC at hfull
        rw [List.any_eq_false] at hfull
        have h2 := hfull c'.num hk
        rw [find_of r.asc h1] at h2
        simp only [decide_eq_true_eq] at h2
        omega
      · rw [List.count_eq_zero.2 hk]
        have := r.most c' h1
        simpa using this
    · rw [r1]; decide
theorem putH_right {h : HeapD} {n : NodeD} (r : RightH h) (hw : n.wf) : RightH (putH h n) := by
  unfold putH
  split
  · next q => exact putL_right r hw q.1 q.2
  · exact r

/-! ### Held once more; dropped -/
def holdE (h : HeapD) (k : Nat) : Int := match findC h.cells k with
  | none => 5
  | some c => if c.refs = 16777216 then 1 else 0
def holdH (h : HeapD) (k : Nat) : HeapD := if holdE h k = 0 then ⟨h.size, incC h.cells k⟩ else h
def dropE (h : HeapD) (k : Nat) : Int := match findC h.cells k with
  | none => 5
  | some c => if c.refs = (ledC h.cells c.num : Int) then 7 else 0
def dropH (h : HeapD) (k : Nat) : HeapD := if dropE h k = 0 then ⟨h.size, letF (h.cells.length + 1) h.cells k⟩ else h
def sweepH (h : HeapD) : HeapD := ⟨h.size, sweepF h.cells.length h.cells⟩
theorem hold_zero {h : HeapD} {k : Nat} (he : holdE h k = 0) : ∃ c ∈ h.cells, c.num = k ∧ c.refs ≠ 16777216 := by
  unfold holdE at he
  cases hf : findC h.cells k with
  | none => rw [hf] at he; cases he
  | some c =>
    rw [hf] at he
    obtain ⟨hc, hn⟩ := find_mem hf
    refine ⟨c, hc, hn, fun q => ?_⟩
    simp only [q, if_true] at he
    cases he
theorem holdH_right {h : HeapD} {k : Nat} (r : RightH h) : RightH (holdH h k) := by
  unfold holdH
  split
  · next he =>
    obtain ⟨c, hc, hn, hr⟩ := hold_zero he
    have i := right_inv r
    refine inv_right r.lo r.hi ⟨inc_asc k r.asc, fun d hd => ?_, fun d hd x hx => ?_, fun d hd => ?_, fun d hd => ?_, by simp⟩
    · obtain ⟨d', h1, n1, d1, _⟩ := inc_mem hd
      rw [n1, (data_eq d1).2.2.2]; exact r.ok d' h1
    · obtain ⟨d', h1, n1, d1, _⟩ := inc_mem hd
      rw [(data_eq d1).1] at hx
      obtain ⟨e, he, k1, k2⟩ := i.there d' h1 x hx
      obtain ⟨e', he', n2, d2, _⟩ := inc_mem' (k := k) he
      exact ⟨e', he', n2.trans k1, (data_eq d2).2.1.trans k2⟩
    · obtain ⟨d', h1, n1, _, r1⟩ := inc_mem hd
      rw [inc_led, n1, r1]
      have := r.led d' h1
      split <;> simp <;> omega
    · obtain ⟨d', h1, n1, _, r1⟩ := inc_mem hd
      rw [r1]
      have h2 := r.most d' h1
      split
      · next e =>
        have := asc_inj r.asc h1 hc (e.trans hn.symm)
        subst this
        omega
      · exact h2
  · exact r
theorem drop_zero {h : HeapD} {k : Nat} (he : dropE h k = 0) : ∃ c ∈ h.cells, c.num = k ∧ c.refs ≠ (ledC h.cells c.num : Int) := by
  unfold dropE at he
  cases hf : findC h.cells k with
  | none => rw [hf] at he; cases he
  | some c =>
    rw [hf] at he
    obtain ⟨hc, hn⟩ := find_mem hf
    refine ⟨c, hc, hn, fun q => ?_⟩
    simp only [] at he
    rw [if_pos q] at he
    cases he
theorem drop_inv {h : HeapD} {k : Nat} (r : RightH h) (he : dropE h k = 0) : InvC h.size h.cells [k] := by
  obtain ⟨c, hc, hn, hr⟩ := drop_zero he
  have i := right_inv r
  refine ⟨i.asc, i.ok, i.there, fun d hd => ?_, i.most, fun j hj => ?_⟩
  · have h1 := r.led d hd
    by_cases e : d.num = k
    · have := asc_inj r.asc hd hc (e.trans hn.symm)
      subst this
      subst e
      simp; omega
    · have e' : ¬ k = d.num := fun q => e q.symm
      simp [e']; omega
  · have : j = k := by simpa using hj
    subst this
    exact ⟨c, hc, hn⟩
theorem dropH_right {h : HeapD} {k : Nat} (r : RightH h) : RightH (dropH h k) := by
  unfold dropH
  split
  · next he => exact inv_right r.lo r.hi (inv_let _ _ _ [] h.size (Nat.lt_succ_self _) (drop_inv r he)).1
  · exact r
theorem sweepH_right {h : HeapD} (r : RightH h) : RightH (sweepH h) := inv_right r.lo r.hi (sweep_all _ _ h.size (Nat.le_refl _) (right_inv r)).1

/-! ### How often a cell is held -/
def heldC (h : HeapD) (c : CellD) : Int := c.refs - (ledC h.cells c.num : Int)
theorem held_slack (h : HeapD) (c : CellD) : slackC h.cells [] c = heldC h c := by unfold slackC heldC; simp

end Go.Proofs.YtimkklaidodkdaaGreatDoor
