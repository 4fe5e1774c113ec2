/- node.shaped and Check: walked. -/
import Derived.Test.YtgjaoofgmdijdaaGreatDoorNodeSize
namespace Go.Proofs.YtgjaoofgmdijdaaGreatDoor
open Go.RowKit

theorem sum_le_of {α : Type} (f : α → Nat) (c : Nat) : ∀ l : List α, (∀ x ∈ l, f x ≤ c) → (l.map f).sum ≤ l.length * c
  | [], _ => Nat.zero_le _
  | x :: l, h => by
    have h1 := sum_le_of f c l (fun y hy => h y (List.mem_cons_of_mem _ hy))
    have h2 := h x List.mem_cons_self
    rw [List.length_cons, List.map_cons, List.sum_cons, Nat.succ_mul]; omega
theorem empty_len {α : Type} (l : List α) : l.isEmpty = decide (l.length = 0) := by cases l <;> simp
theorem shaped1 (i : List ItemD) (k : List KidD) (v : List VolD) : shapedN ⟨1, i, k, v⟩ = (decide (k.length + v.length = 0) && decide (0 < i.length) && decide (i.length ≤ 255) && itemsOk noName i) := by
  rw [shapedN, if_pos rfl]
  simp only [empty_len]
  congr 3
  rw [Bool.eq_iff_iff]; simp
theorem shaped2 (i : List ItemD) (k : List KidD) (v : List VolD) : shapedN ⟨2, i, k, v⟩ = (decide (i.length + v.length = 0) && (decide (0 < k.length) && decide (k.length ≤ 255) && kidsOk noName k)) := by
  rw [shapedN, if_neg (show ¬ (2 : Nat) = 1 by decide), if_pos rfl]
  simp only [empty_len, ← Bool.and_assoc]
  congr 3
  rw [Bool.eq_iff_iff]; simp
theorem shaped3 (i : List ItemD) (k : List KidD) (v : List VolD) : shapedN ⟨3, i, k, v⟩ = (decide (i.length + k.length = 0) && (decide (v.length ≤ 6) && volsOk noName v)) := by
  rw [shapedN, if_neg (show ¬ (3 : Nat) = 1 by decide), if_neg (show ¬ (3 : Nat) = 2 by decide), if_pos rfl]
  simp only [empty_len, ← Bool.and_assoc]
  congr 2
  rw [Bool.eq_iff_iff]; simp

theorem itemsOk_small : ∀ (b : ByteArray) (l : List ItemD), itemsOk b l = true → ∀ x ∈ l, itemS x ≤ 210
  | _, [], _, _, h => by cases h
  | b, x :: l, h, y, hy => by
    simp only [itemsOk, itemOk, Bool.and_eq_true, decide_eq_true_eq] at h
    rcases List.mem_cons.1 hy with rfl | hy
    · unfold itemS; omega
    · exact itemsOk_small _ l h.2 y hy
theorem kidsOk_small : ∀ (b : ByteArray) (l : List KidD), kidsOk b l = true → ∀ x ∈ l, kidS x ≤ 85
  | _, [], _, _, h => by cases h
  | b, x :: l, h, y, hy => by
    simp only [kidsOk, kidOk, Bool.and_eq_true, decide_eq_true_eq] at h
    rcases List.mem_cons.1 hy with rfl | hy
    · unfold kidS; omega
    · exact kidsOk_small _ l h.2 y hy
theorem volsOk_small : ∀ (b : ByteArray) (l : List VolD), volsOk b l = true → ∀ x ∈ l, volS x ≤ 79
  | _, [], _, _, h => by cases h
  | b, x :: l, h, y, hy => by
    simp only [volsOk, volOk, Bool.and_eq_true, decide_eq_true_eq] at h
    rcases List.mem_cons.1 hy with rfl | hy
    · unfold volS; omega
    · exact volsOk_small _ l h.2 y hy
/-- A node that is right but for its size is no great one. -/
theorem shaped_small (n : NodeD) (h : shapedN n = true) : sizeN n ≤ 65536 := by
  obtain ⟨kind, items, kids, vols⟩ := n
  by_cases h1 : kind = 1
  · subst h1
    rw [shaped1] at h
    simp only [Bool.and_eq_true, decide_eq_true_eq] at h
    have := sum_le_of itemS 210 items (itemsOk_small _ _ h.2)
    rw [sizeN, if_pos rfl]; simp only []; omega
  · by_cases h2 : kind = 2
    · subst h2
      rw [shaped2] at h
      simp only [Bool.and_eq_true, decide_eq_true_eq] at h
      have := sum_le_of kidS 85 kids (kidsOk_small _ _ h.2.2)
      rw [sizeN, if_neg (by simp), if_pos rfl]; simp only []; omega
    · by_cases h3 : kind = 3
      · subst h3
        rw [shaped3] at h
        simp only [Bool.and_eq_true, decide_eq_true_eq] at h
        have := sum_le_of volS 79 vols (volsOk_small _ _ h.2.2)
        rw [sizeN, if_neg (by simp), if_neg (by simp), if_pos rfl]; simp only []; omega
      · rw [shapedN, if_neg h1, if_neg h2, if_neg h3] at h; cases h

set_option maxRecDepth 20000 in
set_option maxHeartbeats 3200000 in
theorem shaped_calls (B : Nat) (v : Value) (n : NodeD) (w : World) (h : NodeAt B w v n) (hB : B ≤ w.heap.size) (hz : fitN n) :
    Calls Tryz.prog 69 #[v] w fun e w' => e = .returned (.bool (shapedN n)) ∧ Below w.heap.size w w' := by
  have hlen := hz.1
  obtain ⟨hw, vi, vk, vv, rfl, h1, h2, h3⟩ := h
  obtain ⟨kind, items, kids, vols⟩ := n
  simp only [] at h1 h2 h3 hlen
  have hbW : Below w.heap.size w ((w.alloc (.cells #[.int .u8 (kind : Int), vi, vk, vv] 45)).drewN 0) := (Below.refl _ _).alloc (Nat.le_refl _) _
  have hc1 := fun w' (h : Below w.heap.size w w') => itemCheck_calls B vi items w' (h1.below h hB) (Nat.le_trans hB h.size)
  have hc2 := fun w' (h : Below w.heap.size w w') => kids_calls B vk kids w' (h2.below h hB) (Nat.le_trans hB h.size) hw.2.1
  have hc3 := fun w' (h : Below w.heap.size w w') => volumes_calls B vv vols w' (h3.below h hB) (Nat.le_trans hB h.size) hw.2.2
  obtain ⟨ai, ci, rfl, _, _⟩ := h1
  obtain ⟨ak, ck, rfl, _, _⟩ := h2
  obtain ⟨av, cv, rfl, _, _⟩ := h3
  generalize hX : shapedN ⟨kind, items, kids, vols⟩ = X at *
  obtain ⟨l1, l2, l3⟩ := hlen
  have HX := Lib.hid hX
  clear hX hz hbW
  show Calls Tryz.prog 69 #[.agg #[.int .u8 (kind : Int), .slice ai items.length ci, .slice ak kids.length ck, .slice av vols.length cv]] w _
  go_enter Tryz.func69, Tryz.ntmps69
  go_wp2_with fail
  go_quiet (fail)
  have hbW : Below w.heap.size w ((w.alloc (.cells #[.int .u8 (kind : Int), .slice ai items.length ci, .slice ak kids.length ck, .slice av vols.length cv] 45)).drewN nq) := below_drewN ((Below.refl _ _).alloc (Nat.le_refl _) _) nq
  have g0 : ((w.alloc (.cells #[.int .u8 (kind : Int), .slice ai items.length ci, .slice ak kids.length ck, .slice av vols.length cv] 45)).drewN nq).cell? ⟨w.heap.size, 0, none⟩ = some (.int .u8 (kind : Int)) := by simp
  have g1 : ((w.alloc (.cells #[.int .u8 (kind : Int), .slice ai items.length ci, .slice ak kids.length ck, .slice av vols.length cv] 45)).drewN nq).cell? ⟨w.heap.size, 1, none⟩ = some (.slice ai items.length ci) := by simp
  have g2 : ((w.alloc (.cells #[.int .u8 (kind : Int), .slice ai items.length ci, .slice ak kids.length ck, .slice av vols.length cv] 45)).drewN nq).cell? ⟨w.heap.size, 2, none⟩ = some (.slice ak kids.length ck) := by simp
  have g3 : ((w.alloc (.cells #[.int .u8 (kind : Int), .slice ai items.length ci, .slice ak kids.length ck, .slice av vols.length cv] 45)).drewN nq).cell? ⟨w.heap.size, 3, none⟩ = some (.slice av vols.length cv) := by simp
  generalize ((w.alloc (.cells #[.int .u8 (kind : Int), .slice ai items.length ci, .slice ak kids.length ck, .slice av vols.length cv] 45)).drewN nq) = W at *
  by_cases hk1 : kind = 1
  · subst hk1
    rw [shaped1] at HX
    by_cases hA : kids.length + vols.length = 0
    · have a1 : (kids.length : Int) + (vols.length : Int) = 0 := by omega
      by_cases h0 : 0 < items.length
      · have a2 : (0 : Int) < (items.length : Int) := by omega
        by_cases h255 : items.length ≤ 255
        · have a3 : (items.length : Int) ≤ 255 := by omega
          have hX : X = itemsOk noName items := by rw [← HX.out]; simp [hA, h0, h255]
          have HXf := Lib.hid hX
          have hcc := hc1 W hbW
          clear hX hc1 hc2 hc3
          generalize itemsOk noName items = ok at *
          cases ok with
          | true =>
            rw [if_pos rfl] at hcc
            go_wp2_with fail
            refine hcc.mono ?_
            rintro e w2 ⟨rfl, hb2⟩
            have hb3 := hbW.trans (hb2.mono hbW.size)
            clear hb2
            go_wp2_with fail
            go_ret
            exact ⟨by rw [HXf.out]; rfl, hb3⟩
          | false =>
            rw [if_neg (by simp)] at hcc
            go_wp2_with fail
            refine hcc.mono ?_
            rintro e w2 ⟨rfl, hb2⟩
            have hb3 := hbW.trans (hb2.mono hbW.size)
            clear hb2
            go_wp2_with fail
            go_ret
            exact ⟨by rw [HXf.out]; rfl, hb3⟩
        · have a3 : ¬ (items.length : Int) ≤ 255 := by omega
          have hX : X = false := by rw [← HX.out]; simp [h255]
          have HXf := Lib.hid hX
          clear hX hc1 hc2 hc3
          go_wp2_with fail
          go_ret
          exact ⟨by rw [HXf.out]; rfl, hbW⟩
      · have a2 : ¬ (0 : Int) < (items.length : Int) := by omega
        have hX : X = false := by rw [← HX.out]; simp [h0]
        have HXf := Lib.hid hX
        clear hX hc1 hc2 hc3
        go_wp2_with fail
        go_ret
        exact ⟨by rw [HXf.out]; rfl, hbW⟩
    · have a1 : ¬ (kids.length : Int) + (vols.length : Int) = 0 := by omega
      have hX : X = false := by rw [← HX.out, decide_eq_false hA]; rfl
      have HXf := Lib.hid hX
      clear hX hc1 hc2 hc3
      go_wp2_with fail
      go_ret
      exact ⟨by rw [HXf.out]; rfl, hbW⟩
  · have j1 : ¬ (kind : Int) = 1 := by omega
    by_cases hk2 : kind = 2
    · subst hk2
      rw [shaped2] at HX
      by_cases hA : items.length + vols.length = 0
      · have a1 : (items.length : Int) + (vols.length : Int) = 0 := by omega
        rw [decide_eq_true hA, Bool.true_and] at HX
        have hcc := hc2 W hbW
        rw [HX.out] at hcc
        clear hc1 hc2 hc3
        go_wp2_with fail
        refine hcc.mono ?_
        rintro e w2 ⟨rfl, hb2⟩
        have hb3 := hbW.trans (hb2.mono hbW.size)
        clear hb2
        go_wp2_with fail
        go_ret
        exact ⟨rfl, hb3⟩
      · have a1 : ¬ (items.length : Int) + (vols.length : Int) = 0 := by omega
        have hX : X = false := by rw [← HX.out, decide_eq_false hA]; rfl
        have HXf := Lib.hid hX
        clear hX hc1 hc2 hc3
        go_wp2_with fail
        go_ret
        exact ⟨by rw [HXf.out]; rfl, hbW⟩
    · have j2 : ¬ (kind : Int) = 2 := by omega
      by_cases hk3 : kind = 3
      · subst hk3
        rw [shaped3] at HX
        by_cases hA : items.length + kids.length = 0
        · have a1 : (items.length : Int) + (kids.length : Int) = 0 := by omega
          rw [decide_eq_true hA, Bool.true_and] at HX
          have hcc := hc3 W hbW
          rw [HX.out] at hcc
          clear hc1 hc2 hc3
          go_wp2_with fail
          refine hcc.mono ?_
          rintro e w2 ⟨rfl, hb2⟩
          have hb3 := hbW.trans (hb2.mono hbW.size)
          clear hb2
          go_wp2_with fail
          go_ret
          exact ⟨rfl, hb3⟩
        · have a1 : ¬ (items.length : Int) + (kids.length : Int) = 0 := by omega
          have hX : X = false := by rw [← HX.out, decide_eq_false hA]; rfl
          have HXf := Lib.hid hX
          clear hX hc1 hc2 hc3
          go_wp2_with fail
          go_ret
          exact ⟨by rw [HXf.out]; rfl, hbW⟩
      · have j3 : ¬ (kind : Int) = 3 := by omega
        have hX : X = false := by rw [← HX.out, shapedN]; simp [hk1, hk2, hk3]
        have HXf := Lib.hid hX
        clear hX hc1 hc2 hc3
        go_wp2_with fail
        go_ret
        exact ⟨by rw [HXf.out]; rfl, hbW⟩

set_option maxRecDepth 20000 in
set_option maxHeartbeats 1600000 in
theorem check_calls (B : Nat) (v : Value) (n : NodeD) (w : World) (h : NodeAt B w v n) (hB : B ≤ w.heap.size) (hz : fitN n) :
    Calls Tryz.prog 48 #[v] w fun e w' => e = .returned (.int .i64 (checkN n)) ∧ Below w.heap.size w w' := by
  have hsh := fun w' (hb : Below w.heap.size w w') => shaped_calls B v n w' (h.below hb hB) (Nat.le_trans hB hb.size) hz
  have hsi : shapedN n = true → ∀ w', Below w.heap.size w w' → Calls Tryz.prog 70 #[v] w' fun e w2 => e = .returned (.int .i64 (sizeN n : Int)) ∧ Below w'.heap.size w' w2 := fun hs w' hb => by
    have := sizew_calls B v n w' (h.below hb hB) (Nat.le_trans hB hb.size) hz
    rwa [sw_small (Nat.le_trans (shaped_small n hs) (by decide))] at this
  obtain ⟨hw, vi, vk, vv, rfl, _, _, _⟩ := h
  have hnot : ∀ (x : Bool) (w : World), (Op.unary .not (.bool x)).run Tryz.prog w = .ok (.bool (!x)) w := fun _ _ => rfl
  have hbW : Below w.heap.size w (w.alloc (.cells #[.int .u8 (n.kind : Int), vi, vk, vv] 45)) := (Below.refl _ _).alloc (Nat.le_refl _) _
  have hg : RowIs (w.alloc (.cells #[.int .u8 (n.kind : Int), vi, vk, vv] 45)) w.heap.size 45 #[.int .u8 (n.kind : Int), vi, vk, vv] := RowIs.new w _ _
  have hX : (shapedN n = true → sizeN n ≤ 508 → checkN n = 0) ∧ (shapedN n = true → ¬ sizeN n ≤ 508 → checkN n = 2) ∧ (shapedN n = false → checkN n = 4) := by
    refine ⟨fun h1 h2 => ?_, fun h1 h2 => ?_, fun h1 => ?_⟩
    · rw [checkN, if_pos h1, if_pos h2]
    · rw [checkN, if_pos h1, if_neg h2]
    · rw [checkN, if_neg (by rw [h1]; simp)]
  generalize checkN n = X at *
  generalize shapedN n = sh at *
  generalize sizeN n = sz at *
  have HX := Lib.hid hX
  clear hX hz hw
  generalize n.kind = kind at *
  go_enter Tryz.func48, Tryz.ntmps48
  go_wp2_with fail
  generalize w.alloc (.cells #[.int .u8 (kind : Int), vi, vk, vv] 45) = W at *
  refine (hsh W hbW).mono ?_
  rintro e w2 ⟨rfl, hb2⟩
  have hg2 := hg.below hb2 hg.lt
  have hb2' := hbW.trans (hb2.mono hbW.size)
  have c0 : w2.cell? ⟨w.heap.size, 0, none⟩ = some (.int .u8 (kind : Int)) := by rw [hg2.cell]; rfl
  have c1 : w2.cell? ⟨w.heap.size, 1, none⟩ = some vi := by rw [hg2.cell]; rfl
  have c2 : w2.cell? ⟨w.heap.size, 2, none⟩ = some vk := by rw [hg2.cell]; rfl
  have c3 : w2.cell? ⟨w.heap.size, 3, none⟩ = some vv := by rw [hg2.cell]; rfl
  cases sh with
  | false =>
    have hX := HX.out.2.2 (by first | rfl | trivial)
    have HXf := Lib.hid hX
    clear hX
    go_wp2_with fail
    go_ret
    exact ⟨by rw [HXf.out]; rfl, hb2'⟩
  | true =>
    go_wp2_with fail
    refine (hsi (by first | rfl | trivial) w2 hb2').mono ?_
    rintro e w3 ⟨rfl, hb3⟩
    have hb3' := hb2'.trans (hb3.mono hb2'.size)
    clear hb2 hb3 hg hg2
    by_cases hq : sz ≤ 508
    · have q1 : ¬ (508 : Int) < (sz : Int) := by omega
      have hX := HX.out.1 (by first | rfl | trivial) hq
      have HXf := Lib.hid hX
      clear hX
      go_wp2_with fail
      go_ret
      exact ⟨by rw [HXf.out]; rfl, hb3'⟩
    · have q1 : (508 : Int) < (sz : Int) := by omega
      have hX := HX.out.2.1 (by first | rfl | trivial) hq
      have HXf := Lib.hid hX
      clear hX
      go_wp2_with fail
      go_ret
      exact ⟨by rw [HXf.out]; rfl, hb3'⟩

end Go.Proofs.YtgjaoofgmdijdaaGreatDoor
