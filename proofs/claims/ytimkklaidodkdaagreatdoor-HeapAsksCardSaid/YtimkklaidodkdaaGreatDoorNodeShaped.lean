/- node.Size: walked. -/
/- node.shaped and Check: walked. -/
import Derived.Test.YtimkklaidodkdaaGreatDoorNodeVols
namespace Go.Proofs.YtimkklaidodkdaaGreatDoor
open Go.RowKit

/-- No list, no text of a node is longer than memory reaches. -/
def fitN (n : NodeD) : Prop := (n.items.length ≤ 4398046511104 ∧ n.kids.length ≤ 2513169434916 ∧ n.vols.length ≤ 1599289640401) ∧ (∀ x ∈ n.items, x.key.size ≤ 140737488355328 ∧ x.val.size ≤ 140737488355328) ∧
 (∀ k ∈ n.kids, k.key.size ≤ 140737488355328) ∧ (∀ v ∈ n.vols, v.name.size ≤ 140737488355328 ∧ v.frm.size ≤ 140737488355328)
/-- A number as int64 has it. -/
def sw (n : Nat) : Int := IntKind.i64.wrap (n : Int)
theorem sw_small {n : Nat} (h : n ≤ 1125899906842624) : sw n = (n : Int) := by unfold sw; rw [IntKind.wrap_i64]; omega
theorem sw_step {a b : Nat} {y x : Int} (hy : sw a = y) (hx : x = (b : Int)) : Value.int .i64 (wrap64 (y + x)) = .int .i64 (sw (a + b)) := by
 subst hy hx
 unfold sw
 congr 1
 simp only [IntKind.wrap_i64, wrap64]
 omega
theorem sw_two : Value.int .i64 2 = .int .i64 (sw 2) := by rw [sw_small (by decide)]; rfl
theorem sum_take_succ {α : Type} (f : α → Nat) (l : List α) (t : Nat) (h : t < l.length) : ((l.take (t + 1)).map f).sum = ((l.take t).map f).sum + f l[t] := by
 rw [List.take_succ_eq_append_getElem h, List.map_append, List.sum_append, List.map_singleton, List.sum_singleton]
theorem sum_take_le {α : Type} (f : α → Nat) (l : List α) (t : Nat) : ((l.take t).map f).sum ≤ (l.map f).sum := by
 conv => rhs; rw [← List.take_append_drop t l]
 rw [List.map_append, List.sum_append]; omega

set_option maxRecDepth 20000 in
set_option maxHeartbeats 3200000 in
theorem sizew_calls (B : Nat) (v : Value) (n : NodeD) (w : World) (h : NodeAt B w v n) (hB : B ≤ w.heap.size) (hz : fitN n) :
  Calls Tryz.prog 67 #[v] w fun e w' => e = .returned (.int .i64 (sw (sizeN n))) ∧ Below w.heap.size w w' := by
 obtain ⟨hw, vi, vk, vv, rfl, h1, h2, h3⟩ := h
 obtain ⟨kind, items, kids, vols⟩ := n
 simp only [] at h1 h2 h3
 generalize hX : sizeN ⟨kind, items, kids, vols⟩ = X at *
 have HX := Lib.hid hX
 clear hX
 have hbW : Below w.heap.size w (w.alloc (.cells #[.int .u8 (kind : Int), vi, vk, vv] 28)) := (Below.refl _ _).alloc (Nat.le_refl _) _
 show Calls Tryz.prog 67 #[.agg #[.int .u8 (kind : Int), vi, vk, vv]] w _
 go_enter Tryz.func67, Tryz.ntmps67
 by_cases hk1 : kind = 1
 ·have i1 : (kind : Int) = 1 := by omega
  subst hk1
  have hX : X = 2 + (items.map itemS).sum := by rw [← HX.out, sizeN]; simp
  have hzz := hz.2.1
  simp only [] at hzz
  replace HX := Lib.hid hX
  clear hX hz
  clear h2
  clear h3
  generalize hl : (items.map itemS).sum = total at *
  generalize items = l at *
  obtain ⟨a, cap, rfl, hn, hr⟩ := h1
  unfold maxLen at hn
  go_wp2_with fail
  go_loopw [3, 17] (fun v3 v wr => ∃ t : Nat, t ≤ l.length ∧ v = .int .i64 t ∧ v3 = .int .i64 (sw (2 + ((l.take t).map itemS).sum)) ∧ Below w.heap.size w wr) (fun _ v _ => l.length - (intOf v).toNat)
  case atStart => exact ⟨0, by omega, rfl, sw_two, hbW⟩
  case round =>
   obtain ⟨t, ht, rfl, rfl, hb⟩ := hrel
   by_cases hlt : t < l.length
   ·obtain ⟨b, o, rfl, hbB, hc⟩ := hr (by omega)
    have hci : wr.rangeAt b (o + t * 2) (itemV l[t]) := by
     have := rangeAt_below (hc t hlt) hb (by omega)
     rwa [List.getElem?_eq_getElem hlt] at this
    have hst := sum_take_succ itemS l t hlt
    have hzt := hzz _ (List.getElem_mem hlt)
    have hlti : (t : Int) < (l.length : Int) := by omega
    have c0 : wr.cell? ⟨b, o + t * 2, none⟩ = some (.string l[t].key) := hci 0 _ rfl
    have c1 : wr.cell? ⟨b, o + t * 2 + 1, none⟩ = some (.string l[t].val) := hci 1 _ rfl
    have hS : itemS l[t] = 2 + l[t].key.size + l[t].val.size := rfl
    have hbW2 := hb.alloc hb.size (.cells #[.string l[t].key, .string l[t].val] 44)
    rw [hS] at hst
    generalize l[t].key = key at *
    generalize l[t].val = val at *
    generalize hq1 : ((l.take t).map itemS).sum = s1 at *
    generalize hq2 : ((l.take (t + 1)).map itemS).sum = s2 at *
    subst hst
    have Hq2 := Lib.hid hq2
    clear hc hr hb hS hq1 hq2 hzz
    generalize hy : sw (2 + s1) = y at *
    have Hy := Lib.hid hy
    clear hy
    go_wp2_with fail
    go_roundw
    case rel => exact ⟨t + 1, by omega, by go_num, by rw [Hq2.out, ← Nat.add_assoc]; exact sw_step (x := _) Hy.out (by first | (push_cast; omega) | omega), hbW2⟩
    case measure => simp [intOf]; omega
   ·have htl : t = l.length := by omega
    subst htl
    rw [List.take_length, hl]
    clear hr
    go_wp2_with fail
    go_ret
    exact ⟨by rw [HX.out]; rfl, hb⟩
 by_cases hk2 : kind = 2
 ·have i2 : (kind : Int) = 2 := by omega
  subst hk2
  have hX : X = 2 + (kids.map kidS).sum := by rw [← HX.out, sizeN]; simp
  have hzz := hz.2.2.1
  simp only [] at hzz
  replace HX := Lib.hid hX
  clear hX hz
  have hwf := hw.2.1
  clear h1
  clear h3
  generalize hl : (kids.map kidS).sum = total at *
  generalize kids = l at *
  obtain ⟨a, cap, rfl, hn, hr⟩ := h2
  unfold maxLen at hn
  go_wp2_with fail
  go_loopw [3, 37] (fun v3 v wr => ∃ t : Nat, t ≤ l.length ∧ v = .int .i64 t ∧ v3 = .int .i64 (sw (2 + ((l.take t).map kidS).sum)) ∧ Below w.heap.size w wr) (fun _ v _ => l.length - (intOf v).toNat)
  case atStart => exact ⟨0, by omega, rfl, sw_two, hbW⟩
  case round =>
   obtain ⟨t, ht, rfl, rfl, hb⟩ := hrel
   by_cases hlt : t < l.length
   ·obtain ⟨b, o, rfl, hbB, hc⟩ := hr (by omega)
    have hci : wr.rangeAt b (o + t * 34) (kidV l[t]) := by
     have := rangeAt_below (hc t hlt) hb (by omega)
     rwa [List.getElem?_eq_getElem hlt] at this
    have hst := sum_take_succ kidS l t hlt
    have hzt := hzz _ (List.getElem_mem hlt)
    have hlti : (t : Int) < (l.length : Int) := by omega
    have hwk := hwf l[t] (List.getElem_mem hlt)
    have hkl := kidV_length hwk.2
    have hone := kidV_one l[t]
    have hksz : (Tryz.prog.info? 38).map (·.size) = some (kidV l[t]).length := by rw [hkl]; kernel_rfl
    have hksz2 : (Tryz.prog.info? 38).map (·.size) = some (kidV l[t]).toArray.size := by rw [List.size_toArray, hkl]; kernel_rfl
    obtain ⟨W, W2, hW, hW2, hG, hb2, hthere⟩ := alloc_fill wr kidZ (kidV l[t]).toArray 38 (by rw [List.size_toArray, hkl]; rfl)
    have hbW2 := hb.trans (hb2.mono hb.size)
    have c0 : W2.cell? ⟨wr.heap.size, 0, none⟩ = some (.string l[t].key) := by rw [hG.cell]; rfl
    have hS : kidS l[t] = 37 + l[t].key.size := rfl
    have HW := Lib.hid hW
    have HW2 := Lib.hid hW2
    clear hW hW2 hG hb2 hkl hwk
    rw [hS] at hst
    generalize hkv : kidV l[t] = cs at *
    generalize l[t].key = key at *
    generalize hq1 : ((l.take t).map kidS).sum = s1 at *
    generalize hq2 : ((l.take (t + 1)).map kidS).sum = s2 at *
    subst hst
    have Hq2 := Lib.hid hq2
    clear hc hr hb hS hq1 hq2 hzz
    generalize hy : sw (2 + s1) = y at *
    have Hy := Lib.hid hy
    clear hy
    go_wp2_with (first | (refine wpList_world HW.out ?_) | (refine wpList_load_mid rfl 38 _ rfl b (o + t * 34) rfl cs _ hci Tryz.underlying38 rfl hksz ?_) | (refine wpList_store_mid rfl 38 _ _ rfl wr.heap.size 0 cs.toArray rfl rfl hthere hksz2 hone ?_; refine wpList_world HW2.out ?_))
    go_roundw
    case rel => exact ⟨t + 1, by omega, by go_num, by rw [Hq2.out, ← Nat.add_assoc]; exact sw_step (x := _) Hy.out (by first | (push_cast; omega) | omega), hbW2⟩
    case measure => simp [intOf]; omega
   ·have htl : t = l.length := by omega
    subst htl
    rw [List.take_length, hl]
    clear hr
    go_wp2_with fail
    go_ret
    exact ⟨by rw [HX.out]; rfl, hb⟩
 by_cases hk3 : kind = 3
 ·have i3 : (kind : Int) = 3 := by omega
  subst hk3
  have hX : X = 2 + (vols.map volS).sum := by rw [← HX.out, sizeN]; simp
  have hzz := hz.2.2.2
  simp only [] at hzz
  replace HX := Lib.hid hX
  clear hX hz
  have hwf := hw.2.2
  clear h1
  clear h2
  generalize hl : (vols.map volS).sum = total at *
  generalize vols = l at *
  obtain ⟨a, cap, rfl, hn, hr⟩ := h3
  unfold maxLen at hn
  go_wp2_with fail
  go_loopw [3, 55] (fun v3 v wr => ∃ t : Nat, t ≤ l.length ∧ v = .int .i64 t ∧ v3 = .int .i64 (sw (2 + ((l.take t).map volS).sum)) ∧ Below w.heap.size w wr) (fun _ v _ => l.length - (intOf v).toNat)
  case atStart => exact ⟨0, by omega, rfl, sw_two, hbW⟩
  case round =>
   obtain ⟨t, ht, rfl, rfl, hb⟩ := hrel
   by_cases hlt : t < l.length
   ·obtain ⟨b, o, rfl, hbB, hc⟩ := hr (by omega)
    have hci : wr.rangeAt b (o + t * 37) (volV l[t]) := by
     have := rangeAt_below (hc t hlt) hb (by omega)
     rwa [List.getElem?_eq_getElem hlt] at this
    have hst := sum_take_succ volS l t hlt
    have hzt := hzz _ (List.getElem_mem hlt)
    have hlti : (t : Int) < (l.length : Int) := by omega
    have hwk := hwf l[t] (List.getElem_mem hlt)
    have hkl := volV_length hwk.2.2.2
    have hone := volV_one l[t]
    have hksz : (Tryz.prog.info? 89).map (·.size) = some (volV l[t]).length := by rw [hkl]; kernel_rfl
    have hksz2 : (Tryz.prog.info? 89).map (·.size) = some (volV l[t]).toArray.size := by rw [List.size_toArray, hkl]; kernel_rfl
    obtain ⟨W, W2, hW, hW2, hG, hb2, hthere⟩ := alloc_fill wr volZ (volV l[t]).toArray 89 (by rw [List.size_toArray, hkl]; rfl)
    have hbW2 := hb.trans (hb2.mono hb.size)
    have c0 : W2.cell? ⟨wr.heap.size, 0, none⟩ = some (.string l[t].name) := by rw [hG.cell]; rfl
    have c2 : W2.cell? ⟨wr.heap.size, 2, none⟩ = some (.string l[t].frm) := by rw [hG.cell]; rfl
    have hS : volS l[t] = 47 + l[t].name.size + l[t].frm.size := rfl
    have HW := Lib.hid hW
    have HW2 := Lib.hid hW2
    clear hW hW2 hG hb2 hkl hwk
    rw [hS] at hst
    generalize hkv : volV l[t] = cs at *
    generalize l[t].name = key at *
    generalize l[t].frm = val at *
    generalize hq1 : ((l.take t).map volS).sum = s1 at *
    generalize hq2 : ((l.take (t + 1)).map volS).sum = s2 at *
    subst hst
    have Hq2 := Lib.hid hq2
    clear hc hr hb hS hq1 hq2 hzz
    generalize hy : sw (2 + s1) = y at *
    have Hy := Lib.hid hy
    clear hy
    go_wp2_with (first | (refine wpList_world HW.out ?_) | (refine wpList_load_mid rfl 89 _ rfl b (o + t * 37) rfl cs _ hci Tryz.underlying89 rfl hksz ?_) | (refine wpList_store_mid rfl 89 _ _ rfl wr.heap.size 0 cs.toArray rfl rfl hthere hksz2 hone ?_; refine wpList_world HW2.out ?_))
    go_roundw
    case rel => exact ⟨t + 1, by omega, by go_num, by rw [Hq2.out, ← Nat.add_assoc]; exact sw_step (x := _) Hy.out (by first | (push_cast; omega) | omega), hbW2⟩
    case measure => simp [intOf]; omega
   ·have htl : t = l.length := by omega
    subst htl
    rw [List.take_length, hl]
    clear hr
    go_wp2_with fail
    go_ret
    exact ⟨by rw [HX.out]; rfl, hb⟩
 ·clear hz
  have j1 : ¬ (kind : Int) = 1 := by omega
  have j2 : ¬ (kind : Int) = 2 := by omega
  have j3 : ¬ (kind : Int) = 3 := by omega
  have hX : X = 2 := by rw [← HX.out, sizeN]; simp [hk1, hk2, hk3]
  replace HX := Lib.hid hX
  clear hX
  go_wp2_with fail
  go_ret
  exact ⟨by rw [HX.out, ← sw_two]; rfl, hbW⟩

end Go.Proofs.YtimkklaidodkdaaGreatDoor

namespace Go.Proofs.YtimkklaidodkdaaGreatDoor
open Go.RowKit

theorem sum_le_of {α : Type} (f : α → Nat) (c : Nat) : ∀ l : List α, (∀ x ∈ l, f x ≤ c) → (l.map f).sum ≤ l.length * c
 | [], _ => Nat.zero_le _
 | x :: l, h => by
  have h1 := sum_le_of f c l (fun y hy => h y (List.mem_cons_of_mem _ hy))
  have h2 := h x List.mem_cons_self
  rw [List.length_cons, List.map_cons, List.sum_cons, Nat.succ_mul]; omega
theorem empty_len {α : Type} (l : List α) : l.isEmpty = decide (l.length = 0) := by cases l <;> simp
theorem shaped1 (i : List ItemD) (k : List KidD) (v : List VolD) : shapedN ⟨1, i, k, v⟩ = (decide (k.length + v.length = 0) && decide (0 < i.length) && decide (i.length ≤ 255) && itemsOk noName i) := by
 rw [shapedN, if_pos rfl]
 simp only [empty_len]
 congr 3
 rw [Bool.eq_iff_iff]; simp
theorem shaped2 (i : List ItemD) (k : List KidD) (v : List VolD) : shapedN ⟨2, i, k, v⟩ = (decide (i.length + v.length = 0) && (decide (0 < k.length) && decide (k.length ≤ 255) && kidsOk noName k)) := by
 rw [shapedN, if_neg (show ¬ (2 : Nat) = 1 by decide), if_pos rfl]
 simp only [empty_len, ← Bool.and_assoc]
 congr 3
 rw [Bool.eq_iff_iff]; simp
theorem shaped3 (i : List ItemD) (k : List KidD) (v : List VolD) : shapedN ⟨3, i, k, v⟩ = (decide (i.length + k.length = 0) && (decide (v.length ≤ 6) && volsOk noName v)) := by
 rw [shapedN, if_neg (show ¬ (3 : Nat) = 1 by decide), if_neg (show ¬ (3 : Nat) = 2 by decide), if_pos rfl]
 simp only [empty_len, ← Bool.and_assoc]
 congr 2
 rw [Bool.eq_iff_iff]; simp

theorem itemsOk_small : ∀ (b : ByteArray) (l : List ItemD), itemsOk b l = true → ∀ x ∈ l, itemS x ≤ 210
 | _, [], _, _, h => by cases h
 | b, x :: l, h, y, hy => by
  simp only [itemsOk, itemOk, Bool.and_eq_true, decide_eq_true_eq] at h
  rcases List.mem_cons.1 hy with rfl | hy
  ·unfold itemS; omega
  ·exact itemsOk_small _ l h.2 y hy
theorem kidsOk_small : ∀ (b : ByteArray) (l : List KidD), kidsOk b l = true → ∀ x ∈ l, kidS x ≤ 85
 | _, [], _, _, h => by cases h
 | b, x :: l, h, y, hy => by
  simp only [kidsOk, kidOk, Bool.and_eq_true, decide_eq_true_eq] at h
  rcases List.mem_cons.1 hy with rfl | hy
  ·unfold kidS; omega
  ·exact kidsOk_small _ l h.2 y hy
theorem volsOk_small : ∀ (b : ByteArray) (l : List VolD), volsOk b l = true → ∀ x ∈ l, volS x ≤ 79
 | _, [], _, _, h => by cases h
 | b, x :: l, h, y, hy => by
  simp only [volsOk, volOk, Bool.and_eq_true, decide_eq_true_eq] at h
  rcases List.mem_cons.1 hy with rfl | hy
  ·unfold volS; omega
  ·exact volsOk_small _ l h.2 y hy
/-- A node that is right but for its size is no great one. -/
theorem shaped_small (n : NodeD) (h : shapedN n = true) : sizeN n ≤ 65536 := by
 obtain ⟨kind, items, kids, vols⟩ := n
 by_cases h1 : kind = 1
 ·subst h1
  rw [shaped1] at h
  simp only [Bool.and_eq_true, decide_eq_true_eq] at h
  have := sum_le_of itemS 210 items (itemsOk_small _ _ h.2)
  rw [sizeN, if_pos rfl]; simp only []; omega
 ·by_cases h2 : kind = 2
  ·subst h2
   rw [shaped2] at h
   simp only [Bool.and_eq_true, decide_eq_true_eq] at h
   have := sum_le_of kidS 85 kids (kidsOk_small _ _ h.2.2)
   rw [sizeN, if_neg (by simp), if_pos rfl]; simp only []; omega
  ·by_cases h3 : kind = 3
   ·subst h3
    rw [shaped3] at h
    simp only [Bool.and_eq_true, decide_eq_true_eq] at h
    have := sum_le_of volS 79 vols (volsOk_small _ _ h.2.2)
    rw [sizeN, if_neg (by simp), if_neg (by simp), if_pos rfl]; simp only []; omega
   ·rw [shapedN, if_neg h1, if_neg h2, if_neg h3] at h; cases h

set_option maxRecDepth 20000 in
set_option maxHeartbeats 3200000 in
theorem shaped_calls (B : Nat) (v : Value) (n : NodeD) (w : World) (h : NodeAt B w v n) (hB : B ≤ w.heap.size) (hz : fitN n) :
  Calls Tryz.prog 66 #[v] w fun e w' => e = .returned (.bool (shapedN n)) ∧ Below w.heap.size w w' := by
 have hlen := hz.1
 obtain ⟨hw, vi, vk, vv, rfl, h1, h2, h3⟩ := h
 obtain ⟨kind, items, kids, vols⟩ := n
 simp only [] at h1 h2 h3 hlen
 have hbW : Below w.heap.size w ((w.alloc (.cells #[.int .u8 (kind : Int), vi, vk, vv] 28)).drewN 0) := (Below.refl _ _).alloc (Nat.le_refl _) _
 have hc1 := fun w' (h : Below w.heap.size w w') => itemCheck_calls B vi items w' (h1.below h hB) (Nat.le_trans hB h.size)
 have hc2 := fun w' (h : Below w.heap.size w w') => kids_calls B vk kids w' (h2.below h hB) (Nat.le_trans hB h.size) hw.2.1
 have hc3 := fun w' (h : Below w.heap.size w w') => volumes_calls B vv vols w' (h3.below h hB) (Nat.le_trans hB h.size) hw.2.2
 obtain ⟨ai, ci, rfl, _, _⟩ := h1
 obtain ⟨ak, ck, rfl, _, _⟩ := h2
 obtain ⟨av, cv, rfl, _, _⟩ := h3
 generalize hX : shapedN ⟨kind, items, kids, vols⟩ = X at *
 obtain ⟨l1, l2, l3⟩ := hlen
 have HX := Lib.hid hX
 clear hX hz hbW
 show Calls Tryz.prog 66 #[.agg #[.int .u8 (kind : Int), .slice ai items.length ci, .slice ak kids.length ck, .slice av vols.length cv]] w _
 go_enter Tryz.func66, Tryz.ntmps66
 go_wp2_with fail
 go_quiet (fail)
 have hbW : Below w.heap.size w ((w.alloc (.cells #[.int .u8 (kind : Int), .slice ai items.length ci, .slice ak kids.length ck, .slice av vols.length cv] 28)).drewN nq) := below_drewN ((Below.refl _ _).alloc (Nat.le_refl _) _) nq
 have g0 : ((w.alloc (.cells #[.int .u8 (kind : Int), .slice ai items.length ci, .slice ak kids.length ck, .slice av vols.length cv] 28)).drewN nq).cell? ⟨w.heap.size, 0, none⟩ = some (.int .u8 (kind : Int)) := by simp
 have g1 : ((w.alloc (.cells #[.int .u8 (kind : Int), .slice ai items.length ci, .slice ak kids.length ck, .slice av vols.length cv] 28)).drewN nq).cell? ⟨w.heap.size, 1, none⟩ = some (.slice ai items.length ci) := by simp
 have g2 : ((w.alloc (.cells #[.int .u8 (kind : Int), .slice ai items.length ci, .slice ak kids.length ck, .slice av vols.length cv] 28)).drewN nq).cell? ⟨w.heap.size, 2, none⟩ = some (.slice ak kids.length ck) := by simp
 have g3 : ((w.alloc (.cells #[.int .u8 (kind : Int), .slice ai items.length ci, .slice ak kids.length ck, .slice av vols.length cv] 28)).drewN nq).cell? ⟨w.heap.size, 3, none⟩ = some (.slice av vols.length cv) := by simp
 generalize ((w.alloc (.cells #[.int .u8 (kind : Int), .slice ai items.length ci, .slice ak kids.length ck, .slice av vols.length cv] 28)).drewN nq) = W at *
 by_cases hk1 : kind = 1
 ·subst hk1
  rw [shaped1] at HX
  by_cases hA : kids.length + vols.length = 0
  ·have a1 : (kids.length : Int) + (vols.length : Int) = 0 := by omega
   by_cases h0 : 0 < items.length
   ·have a2 : (0 : Int) < (items.length : Int) := by omega
    by_cases h255 : items.length ≤ 255
    ·have a3 : (items.length : Int) ≤ 255 := by omega
     have hX : X = itemsOk noName items := by rw [← HX.out]; simp [hA, h0, h255]
     have HXf := Lib.hid hX
     have hcc := hc1 W hbW
     clear hX hc1 hc2 hc3
     generalize itemsOk noName items = ok at *
     cases ok with
     | true =>
      rw [if_pos rfl] at hcc
      go_wp2_with fail
      refine hcc.mono ?_
      rintro e w2 ⟨rfl, hb2⟩
      have hb3 := hbW.trans (hb2.mono hbW.size)
      clear hb2
      go_wp2_with fail
      go_ret
      exact ⟨by rw [HXf.out]; rfl, hb3⟩
     | false =>
      rw [if_neg (by simp)] at hcc
      go_wp2_with fail
      refine hcc.mono ?_
      rintro e w2 ⟨rfl, hb2⟩
      have hb3 := hbW.trans (hb2.mono hbW.size)
      clear hb2
      go_wp2_with fail
      go_ret
      exact ⟨by rw [HXf.out]; rfl, hb3⟩
    ·have a3 : ¬ (items.length : Int) ≤ 255 := by omega
     have hX : X = false := by rw [← HX.out]; simp [h255]
     have HXf := Lib.hid hX
     clear hX hc1 hc2 hc3
     go_wp2_with fail
     go_ret
     exact ⟨by rw [HXf.out]; rfl, hbW⟩
   ·have a2 : ¬ (0 : Int) < (items.length : Int) := by omega
    have hX : X = false := by rw [← HX.out]; simp [h0]
    have HXf := Lib.hid hX
    clear hX hc1 hc2 hc3
    go_wp2_with fail
    go_ret
    exact ⟨by rw [HXf.out]; rfl, hbW⟩
  ·have a1 : ¬ (kids.length : Int) + (vols.length : Int) = 0 := by omega
   have hX : X = false := by rw [← HX.out, decide_eq_false hA]; rfl
   have HXf := Lib.hid hX
   clear hX hc1 hc2 hc3
   go_wp2_with fail
   go_ret
   exact ⟨by rw [HXf.out]; rfl, hbW⟩
 ·have j1 : ¬ (kind : Int) = 1 := by omega
  by_cases hk2 : kind = 2
  ·subst hk2
   rw [shaped2] at HX
   by_cases hA : items.length + vols.length = 0
   ·have a1 : (items.length : Int) + (vols.length : Int) = 0 := by omega
    rw [decide_eq_true hA, Bool.true_and] at HX
    have hcc := hc2 W hbW
    rw [HX.out] at hcc
    clear hc1 hc2 hc3
    go_wp2_with fail
    refine hcc.mono ?_
    rintro e w2 ⟨rfl, hb2⟩
    have hb3 := hbW.trans (hb2.mono hbW.size)
    clear hb2
    go_wp2_with fail
    go_ret
    exact ⟨rfl, hb3⟩
   ·have a1 : ¬ (items.length : Int) + (vols.length : Int) = 0 := by omega
    have hX : X = false := by rw [← HX.out, decide_eq_false hA]; rfl
    have HXf := Lib.hid hX
    clear hX hc1 hc2 hc3
    go_wp2_with fail
    go_ret
    exact ⟨by rw [HXf.out]; rfl, hbW⟩
  ·have j2 : ¬ (kind : Int) = 2 := by omega
   by_cases hk3 : kind = 3
   ·subst hk3
    rw [shaped3] at HX
    by_cases hA : items.length + kids.length = 0
    ·have a1 : (items.length : Int) + (kids.length : Int) = 0 := by omega
     rw [decide_eq_true hA, Bool.true_and] at HX
     have hcc := hc3 W hbW
     rw [HX.out] at hcc
     clear hc1 hc2 hc3
     go_wp2_with fail
     refine hcc.mono ?_
     rintro e w2 ⟨rfl, hb2⟩
     have hb3 := hbW.trans (hb2.mono hbW.size)
     clear hb2
     go_wp2_with fail
     go_ret
     exact ⟨rfl, hb3⟩
    ·have a1 : ¬ (items.length : Int) + (kids.length : Int) = 0 := by omega
     have hX : X = false := by rw [← HX.out, decide_eq_false hA]; rfl
     have HXf := Lib.hid hX
     clear hX hc1 hc2 hc3
     go_wp2_with fail
     go_ret
     exact ⟨by rw [HXf.out]; rfl, hbW⟩
   ·have j3 : ¬ (kind : Int) = 3 := by omega
    have hX : X = false := by rw [← HX.out, shapedN]; simp [hk1, hk2, hk3]
    have HXf := Lib.hid hX
    clear hX hc1 hc2 hc3
    go_wp2_with fail
    go_ret
    exact ⟨by rw [HXf.out]; rfl, hbW⟩

set_option maxRecDepth 20000 in
set_option maxHeartbeats 1600000 in
theorem check_calls (B : Nat) (v : Value) (n : NodeD) (w : World) (h : NodeAt B w v n) (hB : B ≤ w.heap.size) (hz : fitN n) :
  Calls Tryz.prog 39 #[v] w fun e w' => e = .returned (.int .i64 (checkN n)) ∧ Below w.heap.size w w' := by
 have hsh := fun w' (hb : Below w.heap.size w w') => shaped_calls B v n w' (h.below hb hB) (Nat.le_trans hB hb.size) hz
 have hsi : shapedN n = true → ∀ w', Below w.heap.size w w' → Calls Tryz.prog 67 #[v] w' fun e w2 => e = .returned (.int .i64 (sizeN n : Int)) ∧ Below w'.heap.size w' w2 := fun hs w' hb => by
  have := sizew_calls B v n w' (h.below hb hB) (Nat.le_trans hB hb.size) hz
  rwa [sw_small (Nat.le_trans (shaped_small n hs) (by decide))] at this
 obtain ⟨hw, vi, vk, vv, rfl, _, _, _⟩ := h
 have hnot : ∀ (x : Bool) (w : World), (Op.unary .not (.bool x)).run Tryz.prog w = .ok (.bool (!x)) w := fun _ _ => rfl
 have hbW : Below w.heap.size w (w.alloc (.cells #[.int .u8 (n.kind : Int), vi, vk, vv] 28)) := (Below.refl _ _).alloc (Nat.le_refl _) _
 have hg : RowIs (w.alloc (.cells #[.int .u8 (n.kind : Int), vi, vk, vv] 28)) w.heap.size 28 #[.int .u8 (n.kind : Int), vi, vk, vv] := RowIs.new w _ _
 have hX : (shapedN n = true → sizeN n ≤ 508 → checkN n = 0) ∧ (shapedN n = true → ¬ sizeN n ≤ 508 → checkN n = 2) ∧ (shapedN n = false → checkN n = 4) := by
  refine ⟨fun h1 h2 => ?_, fun h1 h2 => ?_, fun h1 => ?_⟩
  ·rw [checkN, if_pos h1, if_pos h2]
  ·rw [checkN, if_pos h1, if_neg h2]
  ·rw [checkN, if_neg (by rw [h1]; simp)]
 generalize checkN n = X at *
 generalize shapedN n = sh at *
 generalize sizeN n = sz at *
 have HX := Lib.hid hX
 clear hX hz hw
 generalize n.kind = kind at *
 go_enter Tryz.func39, Tryz.ntmps39
 go_wp2_with fail
 generalize w.alloc (.cells #[.int .u8 (kind : Int), vi, vk, vv] 28) = W at *
 refine (hsh W hbW).mono ?_
 rintro e w2 ⟨rfl, hb2⟩
 have hg2 := hg.below hb2 hg.lt
 have hb2' := hbW.trans (hb2.mono hbW.size)
 have c0 : w2.cell? ⟨w.heap.size, 0, none⟩ = some (.int .u8 (kind : Int)) := by rw [hg2.cell]; rfl
 have c1 : w2.cell? ⟨w.heap.size, 1, none⟩ = some vi := by rw [hg2.cell]; rfl
 have c2 : w2.cell? ⟨w.heap.size, 2, none⟩ = some vk := by rw [hg2.cell]; rfl
 have c3 : w2.cell? ⟨w.heap.size, 3, none⟩ = some vv := by rw [hg2.cell]; rfl
 cases sh with
 | false =>
  have hX := HX.out.2.2 (by first | rfl | trivial)
  have HXf := Lib.hid hX
  clear hX
  go_wp2_with fail
  go_ret
  exact ⟨by rw [HXf.out]; rfl, hb2'⟩
 | true =>
  go_wp2_with fail
  refine (hsi (by first | rfl | trivial) w2 hb2').mono ?_
  rintro e w3 ⟨rfl, hb3⟩
  have hb3' := hb2'.trans (hb3.mono hb2'.size)
  clear hb2 hb3 hg hg2
  by_cases hq : sz ≤ 508
  ·have q1 : ¬ (508 : Int) < (sz : Int) := by omega
   have hX := HX.out.1 (by first | rfl | trivial) hq
   have HXf := Lib.hid hX
   clear hX
   go_wp2_with fail
   go_ret
   exact ⟨by rw [HXf.out]; rfl, hb3'⟩
  ·have q1 : (508 : Int) < (sz : Int) := by omega
   have hX := HX.out.2.1 (by first | rfl | trivial) hq
   have HXf := Lib.hid hX
   clear hX
   go_wp2_with fail
   go_ret
   exact ⟨by rw [HXf.out]; rfl, hb3'⟩

end Go.Proofs.YtimkklaidodkdaaGreatDoor
