/- super.Order: walked. -/
import Derived.Test.YtgjaoofgmdijdaaGreatDoorOrder2
namespace Go.Proofs.YtgjaoofgmdijdaaGreatDoor
open Go.RowKit Go.Sort

theorem pair_c {w : World} {PB : Nat} {a b : ByteArray} {d st : Int} {o : Value} (h : RowIs w PB 75 (pairC a b d st o)) : w.cell? ⟨PB, 2, none⟩ = some (.int .u32 d) ∧ w.cell? ⟨PB, 3, none⟩ = some (.int .i32 st) ∧ w.cell? ⟨PB, 5, none⟩ = some o :=
  ⟨by rw [h.cell]; rfl, by rw [h.cell]; rfl, by rw [h.cell]; rfl⟩
theorem own_set {w : World} {PB B n : Nat} {a b : ByteArray} {d st : Int} {o v : Value} {xs : List Value} (h : RowIs w PB 75 (pairC a b d st o)) (k : Nat) (u : Value) (ho : w.ownsRow B 26 35 v n xs) : (w.setCell ⟨PB, k, none⟩ u).ownsRow B 26 35 v n xs :=
  ownsRow_but ho ((But.refl PB w).setCell k u) (fun cc hx => by unfold RowIs at h; rw [hx] at h; injection h with h; injection h with _ q2 _; exact absurd q2 (by decide))

theorem own_mono {w : World} {A B n z : Nat} {e : TypeId} {v : Value} {xs : List Value} (h : w.ownsRow B e z v n xs) (hAB : A ≤ B) : w.ownsRow A e z v n xs := by
  refine ⟨h.1, ?_⟩
  rcases h.2 with h2 | ⟨g, cap, cur, hv, hg, r⟩
  · exact .inl h2
  · exact .inr ⟨g, cap, cur, hv, Nat.le_trans hAB hg, r⟩

set_option maxRecDepth 100000 in
set_option maxHeartbeats 1600000 in
theorem slowS_calls (a b : ByteArray) (PB pr : Nat) (w : World) (ha : a.size ≤ 140737488351232) (hb : b.size ≤ 140737488351232) (hne : pr ≠ PB) (hp : RowIs w pr 61 #[.pointer (some ⟨PB, 0, none⟩)]) (h : RowIs w PB 75 (pairC a b 0 0 (.slice none 0 0))) :
    Calls Tryz.prog 65 #[.pointer (some ⟨PB, 2, none⟩), .func (.func 42) #[] #[.pointer (some ⟨pr, 0, none⟩)]] w fun e w' => e = .returned (.tuple #[]) ∧ ∃ v, ∃ l : List SupW, l.map (·.1) = orderS a.data.toList b.data.toList ∧ RowIs w' PB 75 (pairC a b 1 0 v) ∧ w'.ownsRow w.heap.size 26 35 v l.length (l.flatMap supE) ∧ But PB w w' := by
  have h1 : RowIs (w.setCell ⟨PB, 3, none⟩ (.int .i32 1)) PB 75 (pairC a b 0 1 (.slice none 0 0)) := h.set 3 (.int .i32 1)
  have hp1 : RowIs (w.setCell ⟨PB, 3, none⟩ (.int .i32 1)) pr 61 #[.pointer (some ⟨PB, 0, none⟩)] := hp.other _ _ hne
  have hb1 : But PB w (w.setCell ⟨PB, 3, none⟩ (.int .i32 1)) := (But.refl PB w).setCell 3 _
  have hz1 : (w.setCell ⟨PB, 3, none⟩ (.int .i32 1)).heap.size = w.heap.size := by simp
  have hlock := lock_free ⟨PB, 3, none⟩ w (pair_c h).2.1 (h.free 3)
  generalize hBS : w.heap.size = BS at *
  generalize w.setCell ⟨PB, 3, none⟩ (.int .i32 1) = w1 at *
  go_enter_defers Tryz.func65, Tryz.ntmps65
  have hnot : ∀ (x : Bool) (w : World), (Op.unary .not (.bool x)).run Tryz.prog w = .ok (.bool (!x)) w := fun _ _ => rfl
  go_wp2_with (go_at_call 81; refine hlock.mono ?_; rintro e w1 ⟨rfl, rfl⟩)
  refine (bool_load ⟨PB, 2, none⟩ 0 w1 (pair_c h1).1).mono ?_
  rintro e w1 ⟨rfl, rfl⟩
  have hc0 := (pair_c h1).1
  have hf0 := h1.free 2
  go_wp2_with fail
  refine (fillS_calls a b PB pr w1 ha hb hne hp1 h1).mono ?_
  rintro e w2 ⟨rfl, v, l, hl, h2, ho2, hb2⟩
  have hb2' := hb1.trans hb2
  rw [hz1] at ho2
  have HL := Lib.hid hl
  have H2 := Lib.hid h2
  have HO := Lib.hid ho2
  have HB2 := Lib.hid hb2'
  clear hb1 hb2 hb2' h1 h2 ho2 hl
  go_wp2_with fail
  refine leaves_cons (f := 83) (args := #[.pointer (some ⟨PB, 2, none⟩), .bool true]) (by simp) (by simp [go_sem]) ?_
  refine (store_deferred ⟨PB, 2, none⟩ (.int .u32 0) .returning _ (pair_c H2.out).1 (H2.out.free 2)).mono ?_
  rintro e u' w'' ⟨rfl, rfl, rfl⟩
  have h3 : RowIs (w2.drew.setCell ⟨PB, 2, none⟩ (.int .u32 1)) PB 75 (pairC a b 1 1 v) := H2.out.drew.set 2 (.int .u32 1)
  have ho3 := own_set H2.out.drew 2 (.int .u32 1) (ownsRow_below HO.out (Below.drew (Below.refl _ _)))
  have hb3 : But PB w (w2.drew.setCell ⟨PB, 2, none⟩ (.int .u32 1)) := HB2.out.drew.setCell _ _
  generalize w2.drew.setCell ⟨PB, 2, none⟩ (.int .u32 1) = w3 at *
  refine leaves_cons (f := 82) (args := #[.pointer (some ⟨PB, 3, none⟩)]) (by simp [settle]) (by simp [go_sem]) ?_
  refine (unlock_deferred ⟨PB, 3, none⟩ _ _ (pair_c h3).2.1 (h3.free 3)).mono ?_
  rintro e u' w'' ⟨rfl, rfl, rfl⟩
  have h4 : RowIs (w3.setCell ⟨PB, 3, none⟩ (.int .i32 0)) PB 75 (pairC a b 1 0 v) := h3.set 3 (.int .i32 0)
  have ho4 := own_set h3 3 (.int .i32 0) ho3
  have hb4 : But PB w (w3.setCell ⟨PB, 3, none⟩ (.int .i32 0)) := hb3.setCell _ _
  have hres : ∀ t w, (results Tryz.f65 t).run Tryz.prog w = .ok (.tuple #[]) w := fun t w => by simp [results, Tryz.results65]
  simp only [Leaves, settle]
  exact ⟨_, hres _ _, rfl, v, l, HL.out, h4, ho4, hb4⟩

set_option maxRecDepth 100000 in
set_option maxHeartbeats 1600000 in
theorem doS_calls (a b : ByteArray) (PB pr : Nat) (w : World) (ha : a.size ≤ 140737488351232) (hb : b.size ≤ 140737488351232) (hne : pr ≠ PB) (hp : RowIs w pr 61 #[.pointer (some ⟨PB, 0, none⟩)]) (h : RowIs w PB 75 (pairC a b 0 0 (.slice none 0 0))) :
    Calls Tryz.prog 41 #[.pointer (some ⟨PB, 2, none⟩), .func (.func 42) #[] #[.pointer (some ⟨pr, 0, none⟩)]] w fun e w' => e = .returned (.tuple #[]) ∧ ∃ v, ∃ l : List SupW, l.map (·.1) = orderS a.data.toList b.data.toList ∧ RowIs w' PB 75 (pairC a b 1 0 v) ∧ w'.ownsRow w.heap.size 26 35 v l.length (l.flatMap supE) ∧ But PB w w' := by
  have hnot : ∀ (x : Bool) (w : World), (Op.unary .not (.bool x)).run Tryz.prog w = .ok (.bool (!x)) w := fun _ _ => rfl
  go_enter Tryz.func41, Tryz.ntmps41
  go_wp2_with fail
  refine (bool_load ⟨PB, 2, none⟩ 0 w (pair_c h).1).mono ?_
  rintro e w ⟨rfl, rfl⟩
  go_wp2_with fail
  refine (slowS_calls a b PB pr w ha hb hne hp h).mono ?_
  rintro e w2 ⟨rfl, v, l, h2⟩
  have H2 := Lib.hid h2
  clear h2 h hp
  go_wp2_with fail
  go_end0
  exact ⟨rfl, v, l, H2.out⟩

set_option maxRecDepth 100000 in
set_option maxHeartbeats 1600000 in
theorem supers_calls (a b : ByteArray) (PB : Nat) (w : World) (ha : a.size ≤ 140737488351232) (hb : b.size ≤ 140737488351232) (h : RowIs w PB 75 (pairC a b 0 0 (.slice none 0 0))) :
    Calls Tryz.prog 31 #[.pointer (some ⟨PB, 0, none⟩)] w fun e w' => ∃ v, ∃ l : List SupW, e = .returned v ∧ l.map (·.1) = orderS a.data.toList b.data.toList ∧ w'.ownsRow w.heap.size 26 35 v l.length (l.flatMap supE) ∧ But PB w w' := by
  obtain ⟨W1, hW1⟩ : ∃ W1, W1 = w.alloc (.cells #[.pointer (some ⟨PB, 0, none⟩)] 61) := ⟨_, rfl⟩
  have hp : RowIs W1 w.heap.size 61 #[.pointer (some ⟨PB, 0, none⟩)] := by rw [hW1]; exact RowIs.new w _ _
  have hP : RowIs W1 PB 75 (pairC a b 0 0 (.slice none 0 0)) := by rw [hW1]; exact h.alloc _
  have hb1 : But PB w W1 := by rw [hW1]; exact (But.refl PB w).alloc _
  have hs1 : w.heap.size ≤ W1.heap.size := hb1.size
  have hne : w.heap.size ≠ PB := Nat.ne_of_gt h.lt
  have c0 : W1.cell? ⟨w.heap.size, 0, none⟩ = some (.pointer (some ⟨PB, 0, none⟩)) := by rw [hp.cell]; rfl
  have HW1 := Lib.hid hW1
  clear hW1 h
  go_enter Tryz.func31, Tryz.ntmps31
  go_wp2_with (refine wpList_world HW1.out ?_)
  generalize hXX : w.heap.size = X at *
  refine (doS_calls a b PB X W1 ha hb hne hp hP).mono ?_
  rintro e w2 ⟨rfl, v, l, hl, h2, ho2, hb2⟩
  have hp2 := hp.but hb2 hne
  have c0 : w2.cell? ⟨X, 0, none⟩ = some (.pointer (some ⟨PB, 0, none⟩)) := by rw [hp2.cell]; rfl
  have c5 := (pair_c h2).2.2
  have ho3 : w2.ownsRow X 26 35 v l.length (l.flatMap supE) := own_mono ho2 hs1
  have HH := Lib.hid (And.intro hl (And.intro ho3 (hb1.trans hb2)))
  clear hl h2 ho2 ho3 hb1 hb2 hp hp2 hP
  go_wp2_with fail
  go_ret
  exact ⟨v, l, rfl, HH.out.1, by rw [hXX]; exact HH.out.2.1, HH.out.2.2⟩

theorem built_pair (a b : ByteArray) : Tryz.prog.built 75 [(0, .agg #[.string a, .string b])] = some (pairC a b 0 0 (.slice none 0 0)) := by kernel_rfl
theorem built_two (a b : ByteArray) : Tryz.prog.built 62 [(0, .string a), (1, .string b)] = some #[.string a, .string b] := by kernel_rfl

set_option maxRecDepth 100000 in
set_option maxHeartbeats 1600000 in
theorem orderS_calls (a b : ByteArray) (w : World) (ha : a.size ≤ 140737488351232) (hb : b.size ≤ 140737488351232) :
    Calls Tryz.prog 17 #[.string a, .string b] w fun e w' => ∃ v, ∃ l : List SupW, e = .returned v ∧ l.map (·.1) = orderS a.data.toList b.data.toList ∧ w'.ownsRow w.heap.size 26 35 v l.length (l.flatMap supE) ∧ Below w.heap.size w w' := by
  obtain ⟨W1, hW1⟩ : ∃ W1, W1 = w.alloc (.cells (pairC a b 0 0 (.slice none 0 0)) 75) := ⟨_, rfl⟩
  have hP : RowIs W1 w.heap.size 75 (pairC a b 0 0 (.slice none 0 0)) := by rw [hW1]; exact RowIs.new w _ _
  have hb1 : Below w.heap.size w W1 := by rw [hW1]; exact (Below.refl _ _).alloc (Nat.le_refl _) _
  have h1 := built_pair a b
  have h2 := built_two a b
  have HW1 := Lib.hid hW1
  have H1 := Lib.hid h1
  have H2 := Lib.hid h2
  clear hW1 h1 h2
  have hsup := supers_calls a b w.heap.size W1 ha hb hP
  generalize pairC a b 0 0 (.slice none 0 0) = C at *
  go_enter Tryz.func17, Tryz.ntmps17
  go_wp2_with (first | (refine wpList_world HW1.out ?_) | (refine wpList_build_eqS rfl 62 [(0, .tmp 6), (1, .tmp 7)] rfl #[.string a, .string b] (by exact H2.out) ?_) | (refine wpList_build_eqS rfl 75 [(0, .tmp 8)] rfl C (by exact H1.out) ?_))
  refine hsup.mono ?_
  rintro e w2 ⟨v, l, rfl, hl, ho, hq⟩
  have hb2 : Below w.heap.size w w2 := hb1.trans (hq.below (Nat.le_refl _) (Nat.le_of_lt hP.lt))
  have HH := Lib.hid (And.intro hl (And.intro (own_mono ho hb1.size) hb2))
  clear hl ho hq hb2 hP hsup
  go_wp2_with fail
  go_ret
  exact ⟨v, l, rfl, HH.out⟩

end Go.Proofs.YtgjaoofgmdijdaaGreatDoor
