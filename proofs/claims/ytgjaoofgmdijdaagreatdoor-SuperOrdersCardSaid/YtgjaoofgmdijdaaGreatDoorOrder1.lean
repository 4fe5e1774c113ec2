/- Superblocks: compared; at most two of them sorted, in the row that a slice owns: walked. -/
import Derived.Test.YtgjaoofgmdijdaaGreatDoorSort1
import Derived.Test.YtgjaoofgmdijdaaGreatDoorShelf
namespace Go.Proofs.YtgjaoofgmdijdaaGreatDoor
open Go.RowKit Go.Sort

theorem isNaN_calls (x : Int) (w : World) : Calls Tryz.prog 68 #[.int .u64 x] w fun e w' => e = .returned (.bool false) ∧ w' = w := by
  go_enter Tryz.func68, Tryz.ntmps68
  go_wp2_with fail
  go_ret
  exact ⟨by simp, rfl⟩

theorem compare_calls (x y : Int) (w : World) : Calls Tryz.prog 45 #[.int .u64 x, .int .u64 y] w fun e w' => e = .returned (.int .i64 (if x < y then -1 else if y < x then 1 else 0)) ∧ w' = w := by
  have hn := isNaN_calls
  generalize hR : (if x < y then (-1 : Int) else if y < x then 1 else 0) = R
  have HR := Lib.hid hR
  clear hR
  by_cases i1 : x < y
  · have HV := Lib.hid (show R = -1 by rw [← HR.out, if_pos i1])
    go_enter Tryz.func45, Tryz.ntmps45
    go_wp2_with (go_at_call 68; refine (hn _ w).mono ?_; rintro e w ⟨rfl, rfl⟩)
    go_ret
    exact ⟨by rw [HV.out]; rfl, rfl⟩
  · by_cases i2 : y < x
    · have HV := Lib.hid (show R = 1 by rw [← HR.out, if_neg i1, if_pos i2])
      go_enter Tryz.func45, Tryz.ntmps45
      go_wp2_with (go_at_call 68; refine (hn _ w).mono ?_; rintro e w ⟨rfl, rfl⟩)
      go_ret
      exact ⟨by rw [HV.out]; rfl, rfl⟩
    · have HV := Lib.hid (show R = 0 by rw [← HR.out, if_neg i1, if_neg i2])
      go_enter Tryz.func45, Tryz.ntmps45
      go_wp2_with (go_at_call 68; refine (hn _ w).mono ?_; rintro e w ⟨rfl, rfl⟩)
      go_ret
      exact ⟨by rw [HV.out]; rfl, rfl⟩

theorem cmpS_calls (x y : SupW) (w : World) : Calls Tryz.prog 44 #[.agg (supE x).toArray, .agg (supE y).toArray] w fun e w' => e = .returned (.int .i64 (cfS x y)) ∧ ∃ q os', w' = grow (w.drewN q) os' := by
  have hcon := fun W => compare_calls (y.1.gen : Int) (x.1.gen : Int) W
  obtain ⟨W1, hW1⟩ : ∃ W1, W1 = w.alloc (.cells (supE x).toArray 26) := ⟨_, rfl⟩
  have hX : RowIs W1 w.heap.size 26 (supE x).toArray := by rw [hW1]; exact RowIs.new w _ _
  obtain ⟨W2, hW2⟩ : ∃ W2, W2 = W1.alloc (.cells (supE y).toArray 26) := ⟨_, rfl⟩
  have hY : RowIs W2 W1.heap.size 26 (supE y).toArray := by rw [hW2]; exact RowIs.new W1 _ _
  have hX2 : RowIs W2 w.heap.size 26 (supE x).toArray := by rw [hW2]; exact hX.alloc _
  have c1 : W2.cell? ⟨w.heap.size, 1, none⟩ = some (.int .u64 (x.1.gen : Int)) := by rw [hX2.cell]; rfl
  have c2 : W2.cell? ⟨W1.heap.size, 1, none⟩ = some (.int .u64 (y.1.gen : Int)) := by rw [hY.cell]; rfl
  have hg : W2 = grow (w.drewN 0) #[.cells (supE x).toArray 26, .cells (supE y).toArray 26] := by rw [hW2, hW1, alloc_eq_grow, alloc_eq_grow, grow_grow]; rfl
  have hcf : cfS x y = (if (y.1.gen : Int) < (x.1.gen : Int) then -1 else if (x.1.gen : Int) < (y.1.gen : Int) then 1 else 0) := by simp only [cfS, Int.ofNat_lt]
  rw [hcf]
  have HW1 := Lib.hid hW1
  have HW2 := Lib.hid hW2
  have HG := Lib.hid hg
  clear hW1 hW2 hX hY hX2 hg hcf
  generalize (if (y.1.gen : Int) < (x.1.gen : Int) then (-1 : Int) else if (x.1.gen : Int) < (y.1.gen : Int) then 1 else 0) = R at *
  generalize (supE x).toArray = A at *
  generalize (supE y).toArray = B at *
  go_enter Tryz.func44, Tryz.ntmps44
  go_wp2_with (first | (refine wpList_world HW1.out ?_) | (refine wpList_world HW2.out ?_))
  refine (hcon W2).mono ?_
  rintro e w' ⟨rfl, rfl⟩
  go_wp2_with fail
  go_ret
  exact ⟨rfl, 0, _, HG.out⟩

theorem But.grownBy {g : Nat} {w w' : World} (h : But g w w') : w.grownBy w' (some g) :=
  ⟨h.os, h.tape, h.output, h.size, fun k hk hne => h.block k hk (fun q => hne (by rw [q]))⟩

set_option maxRecDepth 100000 in
theorem sort_none (w : World) : Calls Tryz.prog 43 #[.slice none 0 0, .func (.func 44) #[] #[]] w fun e w' => e = .returned (.tuple #[]) ∧ w' = w := by
  have hl := fun W => Tryz.bits_Len 0 W (by decide) (by decide)
  have hi : ∀ W, Calls Tryz.prog 84 #[.slice none 0 0, .int .i64 0, .int .i64 0, .func (.func 44) #[] #[]] W fun e w' => e = .returned (.tuple #[]) ∧ w' = W := fun W => by
    go_enter Tryz.func84, Tryz.ntmps84
    go_wp2_with fail
    go_loopw [8] (fun v wr => v = .int .i64 1 ∧ wr = W) (fun _ _ => 0)
    case atStart => exact ⟨rfl, rfl⟩
    case round =>
      obtain ⟨rfl, rfl⟩ := hrel
      go_wp2_with fail
      go_end0
      exact ⟨rfl, rfl⟩
  have hp : ∀ W (l : Int), Calls Tryz.prog 66 #[.slice none 0 0, .int .i64 0, .int .i64 0, .int .i64 l, .func (.func 44) #[] #[]] W fun e w' => e = .returned (.tuple #[]) ∧ w' = W := fun W l => by
    go_enter Tryz.func66, Tryz.ntmps66
    go_wp2_with fail
    go_loopw [1, 2] (fun u v wr => u = .int .i64 0 ∧ v = .int .i64 0 ∧ wr = W) (fun _ _ _ => 0)
    case atStart => exact ⟨rfl, rfl, rfl⟩
    case round =>
      obtain ⟨rfl, rfl, rfl⟩ := hrel
      go_wp2_with fail
      refine (hi _).mono ?_
      rintro e w' ⟨rfl, rfl⟩
      go_wp2_with fail
      first | (simp only [Exit.inBlock, Exit.then]; refine bodyPost_ret (results_none rfl _ _ _) rfl ?_) | refine bodyPost_ret (results_none rfl _ _ _) rfl ?_ | (go_end0)
      exact ⟨rfl, rfl⟩
  go_enter Tryz.func43, Tryz.ntmps43
  go_wp2_with fail
  refine (hl _).mono ?_
  rintro e w' ⟨rfl, rfl⟩
  go_wp2_with fail
  refine (hp _ _).mono ?_
  rintro e w' ⟨rfl, rfl⟩
  go_wp2_with fail
  go_end0
  exact ⟨rfl, rfl⟩

theorem sort_calls {w : World} {base : Nat} {v : Value} (l : List SupW) (h2 : l.length ≤ 2) (h : w.ownsRow base 26 35 v l.length (l.flatMap supE)) :
    Calls Tryz.prog 43 #[v, .func (.func 44) #[] #[]] w fun e w' => e = .returned (.tuple #[]) ∧ ∃ l' : List SupW, l'.map (·.1) = sortS (l.map (·.1)) ∧ l'.length = l.length ∧ w'.ownsRow base 26 35 v l.length (l'.flatMap supE) ∧ w.grownBy w' v.ownBlock := by
  have h' := h
  obtain ⟨_, ⟨hv, hn⟩ | ⟨g, cap, cur, hv, hg, hh, _⟩⟩ := h'
  · have hl : l = [] := List.length_eq_zero_iff.1 hn
    subst hl; subst hv
    refine (sort_none w).mono ?_
    rintro e w' ⟨rfl, rfl⟩
    exact ⟨rfl, [], rfl, rfl, h, ⟨rfl, rfl, rfl, Nat.le_refl _, fun _ _ _ => rfl⟩⟩
  · subst hv
    have h3 : w.ownsRow base 26 35 (.slice (some ⟨g, 0, none⟩) l.length cap) l.length (l.toArray.toList.flatMap supE) := h
    have hH := own_holds (f := supE) supE_length (d := l.toArray) (by simp) h3
    have hsz : l.toArray.size = l.length := by simp
    have eg : ∀ args w, (callFunc 44 args).run Tryz.prog w = .ok (.enter 44 args) w := enters_of Tryz.func44 (by kernel_rfl) rfl
    have hcmp : CmpLays Tryz.prog 44 #[] supE 35 cfS g 0 l.toArray.size w := fun _ _ _ _ x y => cmpS_calls x y _
    have hlen : ∀ (n : Nat) (W : World), n ≤ 12 → Calls Tryz.prog 67 #[.int .u64 n] W fun e w' => (∃ l : Int, e = .returned (.int .i64 l)) ∧ w' = W := fun n W hn => (Tryz.bits_Len n W (by omega) (by omega)).mono fun _ _ ⟨he, hw⟩ => ⟨⟨_, he⟩, hw⟩
    have hcon := AnyQ.slices_SortFunc_small Tryz.sortSup 35 Tryz.isAgg26 Tryz.sizeOf26 supE supE_length (fun x v hv => by
      have := supV_one x.1
      rw [Array.all_eq_true'] at this
      exact this v (by simpa [supE] using hv)) cfS 44 #[] g 0 cap l.toArray w eg hcmp hH (lt_of_block hh) (by rw [hsz]; omega) hlen
    rw [hsz] at hcon
    refine Calls.mono hcon ?_
    rintro e w' ⟨rfl, m, os, rfl⟩
    have hs := sorted2 l h2
    obtain ⟨ho, hb⟩ := own_sorted (f := supE) supE_length (d := l.toArray) (d' := Sort.insertionSort (ltOf cfS) l.toArray 0 l.length) (m := m) (os := os) hsz hs.2 h3
    exact ⟨rfl, _, hs.1, by rw [Array.length_toList, hs.2], ho, hb.grownBy⟩

end Go.Proofs.YtgjaoofgmdijdaaGreatDoor
