/- cambiumref05.Check: walked. -/
import Derived.Test.YtokanfceipkfpaaDoorRefKV
namespace Go.Proofs.YtokanfceipkfpaaDoor
open Go.RowKit

set_option maxRecDepth 20000 in
set_option maxHeartbeats 6400000 in
theorem rcheck_calls (B : Nat) (v : Value) (n : NodeD) (w : World) (h : NodeAt B w v n) (hB : B ≤ w.heap.size) (hz : fitN n) :
    Calls Tryd.prog 13 #[v] w fun e w' => e = .returned (.int .i64 (checkN n)) ∧ Below w.heap.size w w' := by
  have hsi : shapedN n = true → ∀ w', Below w.heap.size w w' → Calls Tryd.prog 15 #[v] w' fun e w2 => e = .returned (.int .i64 (sizeN n : Int)) ∧ Below w'.heap.size w' w2 := fun hs w' hb => by
    have := rsizew_calls B v n w' (h.below hb hB) (Nat.le_trans hB hb.size) hz
    rwa [sw_small (Nat.le_trans (shaped_small n hs) (by decide))] at this
  have hlen := hz.1
  obtain ⟨hw, vi, vk, vv, rfl, h1, h2, h3⟩ := h
  obtain ⟨kind, items, kids, vols⟩ := n
  simp only [] at h1 h2 h3 hlen
  have hnot : ∀ (x : Bool) (w : World), (Op.unary .not (.bool x)).run Tryd.prog w = .ok (.bool (!x)) w := fun _ _ => rfl
  have hc1 := fun w' (h : Below w.heap.size w w') => ritemCheck_calls B vi items w' (h1.below h hB) (Nat.le_trans hB h.size)
  have hc2 := fun w' (h : Below w.heap.size w w') => rkids_calls B vk kids w' (h2.below h hB) (Nat.le_trans hB h.size) hw.2.1
  have hc3 := fun w' (h : Below w.heap.size w w') => rvolumes_calls B vv vols w' (h3.below h hB) (Nat.le_trans hB h.size) hw.2.2
  obtain ⟨ai, ci, rfl, _, _⟩ := h1
  obtain ⟨ak, ck, rfl, _, _⟩ := h2
  obtain ⟨av, cv, rfl, _, _⟩ := h3
  have hX : (shapedN ⟨kind, items, kids, vols⟩ = true → sizeN ⟨kind, items, kids, vols⟩ ≤ 508 → checkN ⟨kind, items, kids, vols⟩ = 0) ∧ (shapedN ⟨kind, items, kids, vols⟩ = true → ¬ sizeN ⟨kind, items, kids, vols⟩ ≤ 508 → checkN ⟨kind, items, kids, vols⟩ = 2) ∧ (shapedN ⟨kind, items, kids, vols⟩ = false → checkN ⟨kind, items, kids, vols⟩ = 4) := by
    refine ⟨fun h1 h2 => ?_, fun h1 h2 => ?_, fun h1 => ?_⟩
    · rw [checkN, if_pos h1, if_pos h2]
    · rw [checkN, if_pos h1, if_neg h2]
    · rw [checkN, if_neg (by rw [h1]; simp)]
  generalize hsh : shapedN ⟨kind, items, kids, vols⟩ = sh at *
  generalize checkN ⟨kind, items, kids, vols⟩ = X at *
  generalize sizeN ⟨kind, items, kids, vols⟩ = sz at *
  obtain ⟨l1, l2, l3⟩ := hlen
  have HX := Lib.hid hX
  have HS := Lib.hid hsh
  clear hX hz hsh hw
  obtain ⟨W, hW⟩ : ∃ W, W = w.alloc (.cells #[.int .u8 (kind : Int), .slice ai items.length ci, .slice ak kids.length ck, .slice av vols.length cv] 27) := ⟨_, rfl⟩
  have hg : RowIs W w.heap.size 27 #[.int .u8 (kind : Int), .slice ai items.length ci, .slice ak kids.length ck, .slice av vols.length cv] := by rw [hW]; exact RowIs.new w _ _
  have hb : Below w.heap.size w W := by rw [hW]; exact (Below.refl _ _).alloc (Nat.le_refl _) _
  have HW := Lib.hid hW
  clear hW
  show Calls Tryd.prog 13 #[.agg #[.int .u8 (kind : Int), .slice ai items.length ci, .slice ak kids.length ck, .slice av vols.length cv]] w _
  have g0 : W.cell? ⟨w.heap.size, 0, none⟩ = some (.int .u8 (kind : Int)) := by rw [hg.cell]; rfl
  have g1 : W.cell? ⟨w.heap.size, 1, none⟩ = some (.slice ai items.length ci) := by rw [hg.cell]; rfl
  have g2 : W.cell? ⟨w.heap.size, 2, none⟩ = some (.slice ak kids.length ck) := by rw [hg.cell]; rfl
  have g3 : W.cell? ⟨w.heap.size, 3, none⟩ = some (.slice av vols.length cv) := by rw [hg.cell]; rfl
  go_enter Tryd.func13, Tryd.ntmps13
  by_cases hk1 : kind = 1
  · subst hk1
    rw [shaped1] at HS
    by_cases hA : kids.length + vols.length = 0
    · have a1 : (kids.length : Int) + (vols.length : Int) = 0 := by omega
      by_cases h0 : 1 ≤ items.length
      · have a2 : (1 : Int) ≤ (items.length : Int) := by omega
        by_cases h255 : items.length ≤ 255
        · have a3 : (items.length : Int) ≤ 255 := by omega
          have hS : sh = itemsOk noName items := by rw [← HS.out]; simp [hA, show 0 < items.length from h0, h255]
          have hcc := hc1 W hb
          generalize itemsOk noName items = ok at *
          subst hS
          cases sh with
          | true =>
            rw [if_pos rfl] at hcc
            clear hc1 hc2 hc3
            go_wp2_with (refine wpList_world HW.out ?_)
            refine hcc.mono ?_
            rintro e w2 ⟨rfl, hq⟩
            have hg2 := hg.below hq hg.lt
            have hb2 := hb.trans (hq.mono hb.size)
            clear hcc hq g0 g1 g2 g3 hg hb
            have g0 : w2.cell? ⟨w.heap.size, 0, none⟩ = some (.int .u8 (((1 : Nat)) : Int)) := by rw [hg2.cell]; rfl
            have g1 : w2.cell? ⟨w.heap.size, 1, none⟩ = some (.slice ai items.length ci) := by rw [hg2.cell]; rfl
            have g2 : w2.cell? ⟨w.heap.size, 2, none⟩ = some (.slice ak kids.length ck) := by rw [hg2.cell]; rfl
            have g3 : w2.cell? ⟨w.heap.size, 3, none⟩ = some (.slice av vols.length cv) := by rw [hg2.cell]; rfl
            have hcall := hsi (trivial) w2 hb2
            have HB := Lib.hid (And.intro hb2 (trivial))
            clear hsi hg2 hb2
            go_wp2_with fail
            refine hcall.mono ?_
            rintro e w3 ⟨rfl, hq⟩
            have hb3 := HB.out.1.trans (hq.mono HB.out.1.size)
            clear hcall hq g0 g1 g2 g3
            by_cases hs : sz ≤ 508
            · have q1 : ¬ (508 : Int) < (sz : Int) := by omega
              have hX := HX.out.1 HB.out.2 hs
              have HXf := Lib.hid hX
              clear hX
              go_wp2_with fail
              go_ret
              exact ⟨by rw [HXf.out]; rfl, hb3⟩
            · have q1 : (508 : Int) < (sz : Int) := by omega
              have hX := HX.out.2.1 HB.out.2 hs
              have HXf := Lib.hid hX
              clear hX
              go_wp2_with fail
              go_ret
              exact ⟨by rw [HXf.out]; rfl, hb3⟩
          | false =>
            rw [if_neg (by simp)] at hcc
            clear hc1 hc2 hc3
            go_wp2_with (refine wpList_world HW.out ?_)
            refine hcc.mono ?_
            rintro e w2 ⟨rfl, hq⟩
            have hg2 := hg.below hq hg.lt
            have hb2 := hb.trans (hq.mono hb.size)
            clear hcc hq g0 g1 g2 g3 hg hb
            have hX := HX.out.2.2 (trivial)
            have HXf := Lib.hid hX
            clear hX hsi
            go_wp2_with fail
            go_ret
            exact ⟨by rw [HXf.out]; rfl, hb2⟩
        · have a3 : ¬ (items.length : Int) ≤ 255 := by omega
          have hS : sh = false := by rw [← HS.out]; simp [h255]
          clear hc1 hc2 hc3
          have hX := HX.out.2.2 (hS)
          have HXf := Lib.hid hX
          clear hX hsi
          go_wp2_with (refine wpList_world HW.out ?_)
          go_ret
          exact ⟨by rw [HXf.out]; rfl, hb⟩
      · have a2 : ¬ (1 : Int) ≤ (items.length : Int) := by omega
        have hS : sh = false := by rw [← HS.out]; simp [show ¬ 0 < items.length from h0]
        clear hc1 hc2 hc3
        have hX := HX.out.2.2 (hS)
        have HXf := Lib.hid hX
        clear hX hsi
        go_wp2_with (refine wpList_world HW.out ?_)
        go_ret
        exact ⟨by rw [HXf.out]; rfl, hb⟩
    · have a1 : ¬ (kids.length : Int) + (vols.length : Int) = 0 := by omega
      have hS : sh = false := by rw [← HS.out, decide_eq_false hA]; rfl
      clear hc1 hc2 hc3
      have hX := HX.out.2.2 (hS)
      have HXf := Lib.hid hX
      clear hX hsi
      go_wp2_with (refine wpList_world HW.out ?_)
      go_ret
      exact ⟨by rw [HXf.out]; rfl, hb⟩
  · have j1 : ¬ (kind : Int) = 1 := by omega
    by_cases hk2 : kind = 2
    · subst hk2
      rw [shaped2] at HS
      by_cases hA : items.length + vols.length = 0
      · have a1 : (items.length : Int) + (vols.length : Int) = 0 := by omega
        rw [decide_eq_true hA, Bool.true_and] at HS
        have hcc := hc2 W hb
        rw [HS.out] at hcc
        cases sh with
        | true =>
          clear hc1 hc2 hc3
          go_wp2_with (refine wpList_world HW.out ?_)
          refine hcc.mono ?_
          rintro e w2 ⟨rfl, hq⟩
          have hg2 := hg.below hq hg.lt
          have hb2 := hb.trans (hq.mono hb.size)
          clear hcc hq g0 g1 g2 g3 hg hb
          have g0 : w2.cell? ⟨w.heap.size, 0, none⟩ = some (.int .u8 (((2 : Nat)) : Int)) := by rw [hg2.cell]; rfl
          have g1 : w2.cell? ⟨w.heap.size, 1, none⟩ = some (.slice ai items.length ci) := by rw [hg2.cell]; rfl
          have g2 : w2.cell? ⟨w.heap.size, 2, none⟩ = some (.slice ak kids.length ck) := by rw [hg2.cell]; rfl
          have g3 : w2.cell? ⟨w.heap.size, 3, none⟩ = some (.slice av vols.length cv) := by rw [hg2.cell]; rfl
          have hcall := hsi (trivial) w2 hb2
          have HB := Lib.hid (And.intro hb2 (trivial))
          clear hsi hg2 hb2
          go_wp2_with fail
          refine hcall.mono ?_
          rintro e w3 ⟨rfl, hq⟩
          have hb3 := HB.out.1.trans (hq.mono HB.out.1.size)
          clear hcall hq g0 g1 g2 g3
          by_cases hs : sz ≤ 508
          · have q1 : ¬ (508 : Int) < (sz : Int) := by omega
            have hX := HX.out.1 HB.out.2 hs
            have HXf := Lib.hid hX
            clear hX
            go_wp2_with fail
            go_ret
            exact ⟨by rw [HXf.out]; rfl, hb3⟩
          · have q1 : (508 : Int) < (sz : Int) := by omega
            have hX := HX.out.2.1 HB.out.2 hs
            have HXf := Lib.hid hX
            clear hX
            go_wp2_with fail
            go_ret
            exact ⟨by rw [HXf.out]; rfl, hb3⟩
        | false =>
          clear hc1 hc2 hc3
          go_wp2_with (refine wpList_world HW.out ?_)
          refine hcc.mono ?_
          rintro e w2 ⟨rfl, hq⟩
          have hg2 := hg.below hq hg.lt
          have hb2 := hb.trans (hq.mono hb.size)
          clear hcc hq g0 g1 g2 g3 hg hb
          have hX := HX.out.2.2 (trivial)
          have HXf := Lib.hid hX
          clear hX hsi
          go_wp2_with fail
          go_ret
          exact ⟨by rw [HXf.out]; rfl, hb2⟩
      · have a1 : ¬ (items.length : Int) + (vols.length : Int) = 0 := by omega
        have hS : sh = false := by rw [← HS.out, decide_eq_false hA]; rfl
        clear hc1 hc2 hc3
        have hX := HX.out.2.2 (hS)
        have HXf := Lib.hid hX
        clear hX hsi
        go_wp2_with (refine wpList_world HW.out ?_)
        go_ret
        exact ⟨by rw [HXf.out]; rfl, hb⟩
    · have j2 : ¬ (kind : Int) = 2 := by omega
      by_cases hk3 : kind = 3
      · subst hk3
        rw [shaped3] at HS
        by_cases hA : items.length + kids.length = 0
        · have a1 : (items.length : Int) + (kids.length : Int) = 0 := by omega
          rw [decide_eq_true hA, Bool.true_and] at HS
          have hcc := hc3 W hb
          rw [HS.out] at hcc
          cases sh with
          | true =>
            clear hc1 hc2 hc3
            go_wp2_with (refine wpList_world HW.out ?_)
            refine hcc.mono ?_
            rintro e w2 ⟨rfl, hq⟩
            have hg2 := hg.below hq hg.lt
            have hb2 := hb.trans (hq.mono hb.size)
            clear hcc hq g0 g1 g2 g3 hg hb
            have g0 : w2.cell? ⟨w.heap.size, 0, none⟩ = some (.int .u8 (((3 : Nat)) : Int)) := by rw [hg2.cell]; rfl
            have g1 : w2.cell? ⟨w.heap.size, 1, none⟩ = some (.slice ai items.length ci) := by rw [hg2.cell]; rfl
            have g2 : w2.cell? ⟨w.heap.size, 2, none⟩ = some (.slice ak kids.length ck) := by rw [hg2.cell]; rfl
            have g3 : w2.cell? ⟨w.heap.size, 3, none⟩ = some (.slice av vols.length cv) := by rw [hg2.cell]; rfl
            have hcall := hsi (trivial) w2 hb2
            have HB := Lib.hid (And.intro hb2 (trivial))
            clear hsi hg2 hb2
            go_wp2_with fail
            refine hcall.mono ?_
            rintro e w3 ⟨rfl, hq⟩
            have hb3 := HB.out.1.trans (hq.mono HB.out.1.size)
            clear hcall hq g0 g1 g2 g3
            by_cases hs : sz ≤ 508
            · have q1 : ¬ (508 : Int) < (sz : Int) := by omega
              have hX := HX.out.1 HB.out.2 hs
              have HXf := Lib.hid hX
              clear hX
              go_wp2_with fail
              go_ret
              exact ⟨by rw [HXf.out]; rfl, hb3⟩
            · have q1 : (508 : Int) < (sz : Int) := by omega
              have hX := HX.out.2.1 HB.out.2 hs
              have HXf := Lib.hid hX
              clear hX
              go_wp2_with fail
              go_ret
              exact ⟨by rw [HXf.out]; rfl, hb3⟩
          | false =>
            clear hc1 hc2 hc3
            go_wp2_with (refine wpList_world HW.out ?_)
            refine hcc.mono ?_
            rintro e w2 ⟨rfl, hq⟩
            have hg2 := hg.below hq hg.lt
            have hb2 := hb.trans (hq.mono hb.size)
            clear hcc hq g0 g1 g2 g3 hg hb
            have hX := HX.out.2.2 (trivial)
            have HXf := Lib.hid hX
            clear hX hsi
            go_wp2_with fail
            go_ret
            exact ⟨by rw [HXf.out]; rfl, hb2⟩
        · have a1 : ¬ (items.length : Int) + (kids.length : Int) = 0 := by omega
          have hS : sh = false := by rw [← HS.out, decide_eq_false hA]; rfl
          clear hc1 hc2 hc3
          have hX := HX.out.2.2 (hS)
          have HXf := Lib.hid hX
          clear hX hsi
          go_wp2_with (refine wpList_world HW.out ?_)
          go_ret
          exact ⟨by rw [HXf.out]; rfl, hb⟩
      · have j3 : ¬ (kind : Int) = 3 := by omega
        have hS : sh = false := by rw [← HS.out, shapedN]; simp [hk1, hk2, hk3]
        clear hc1 hc2 hc3
        have hX := HX.out.2.2 (hS)
        have HXf := Lib.hid hX
        clear hX hsi
        go_wp2_with (refine wpList_world HW.out ?_)
        go_ret
        exact ⟨by rw [HXf.out]; rfl, hb⟩
end Go.Proofs.YtokanfceipkfpaaDoor
