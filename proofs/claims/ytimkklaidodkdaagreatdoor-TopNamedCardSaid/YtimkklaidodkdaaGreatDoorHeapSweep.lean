/- heap.Sweep: walked. -/
import Derived.Test.YtimkklaidodkdaaGreatDoorHeapDrop
import Derived.Deep.LoopGhost
import Derived.WalkMore
namespace Go.Proofs.YtimkklaidodkdaaGreatDoor
open Go.RowKit

theorem find_at {l : List CellD} {t : Nat} (ht : t < l.length) (h0 : l[t].refs = 0) (hb : ∀ q (hq : q < l.length), q < t → l[q].refs ≠ 0) : l.find? (fun c => decide (c.refs = 0)) = some l[t] := by
  rw [List.find?_eq_some_iff_getElem]
  exact ⟨by simpa using h0, t, ht, rfl, fun j hj => by simpa using hb j (by omega) hj⟩
theorem sweep_hit {m : Nat} {l : List CellD} {t : Nat} (ht : t < l.length) (h0 : l[t].refs = 0) (hb : ∀ q (hq : q < l.length), q < t → l[q].refs ≠ 0) (hm : l.length ≤ m) : ∃ m', m = m' + 1 ∧ sweepF m l = sweepF m' (l[t].kids.foldl (letF (l.length + 1)) (delC l l[t].num)) := by
  obtain ⟨m', rfl⟩ : ∃ m', m = m' + 1 := ⟨m - 1, by omega⟩
  exact ⟨m', rfl, by rw [sweepF, find_at ht h0 hb]⟩
theorem sweep_end {m : Nat} {l : List CellD} (hb : ∀ q (hq : q < l.length), l[q].refs ≠ 0) : sweepF m l = l := by
  cases m with
  | zero => rfl
  | succ m =>
    have : l.find? (fun c => decide (c.refs = 0)) = none := by
      rw [List.find?_eq_none]
      intro c hc
      obtain ⟨q, hq, rfl⟩ := List.getElem_of_mem hc
      simpa using hb q hq
    rw [sweepF, this]

set_option maxRecDepth 100000 in
set_option maxHeartbeats 3200000 in
theorem sweep_calls (v : Value) (h : HeapD) (w : World) (a : HeapAt w.heap.size w v h) :
    Calls Tryz.prog 35 #[v] w fun e w' => (∃ r, ((RightH h ∧ e = .returned (.tuple #[r, .int .i64 0]) ∧ OwnH w.heap.size w' r (sweepH h)) ∨ (¬ RightH h ∧ e = .returned (.tuple #[r, .int .i64 7]) ∧ OwnH w.heap.size w' r zeroHp))) ∧ Below w.heap.size w w' := by
  obtain ⟨p, cap, rfl⟩ := a.shape
  obtain ⟨W0, hW0⟩ : ∃ W0, W0 = w.alloc (.cells #[.int .u32 (h.size : Int), .slice p h.cells.length cap] 35) := ⟨_, rfl⟩
  obtain ⟨W1, hW1⟩ : ∃ W1, W1 = W0.alloc (.cells #[.int .u32 0, .slice none 0 0] 35) := ⟨_, rfl⟩
  have hbx0 : RowIs W0 w.heap.size 35 #[.int .u32 (h.size : Int), .slice p h.cells.length cap] := by rw [hW0]; exact RowIs.new w _ _
  have hbx : RowIs W1 w.heap.size 35 #[.int .u32 (h.size : Int), .slice p h.cells.length cap] := by rw [hW1]; exact hbx0.alloc _
  have hA : RowIs W1 W0.heap.size 35 #[.int .u32 0, .slice none 0 0] := by rw [hW1]; exact RowIs.new W0 _ _
  have hb0 : Below w.heap.size w W0 := by rw [hW0]; exact (Below.refl _ _).alloc (Nat.le_refl _) _
  have hb1 : Below w.heap.size w W1 := by rw [hW1]; exact hb0.alloc hb0.size _
  have hop := openB_calls p cap h w a W1 hb1
  have hsz : (Tryz.prog.info? 35).map (·.size) = some (#[.int .u32 (h.size : Int), .slice p h.cells.length cap] : Array Value).size := by kernel_rfl
  have hszH : ∀ x y : Value, (Tryz.prog.info? 35).map (·.size) = some (#[x, y] : Array Value).size := fun x y => by kernel_rfl
  have hCA : w.heap.size < W0.heap.size := hbx0.lt
  have hAlt : W0.heap.size < W1.heap.size := hA.lt
  have hWs : w.heap.size ≤ W1.heap.size := hb1.size
  have HW0 := Lib.hid hW0
  have HW1 := Lib.hid hW1
  clear hW0 hW1 a hbx0 hb0
  generalize hAg : W0.heap.size = A at *
  go_enter Tryz.func35, Tryz.ntmps35
  go_wp2_with (first | (refine wpList_world HW0.out ?_) | (refine wpList_world HW1.out ?_) | (refine wpList_load_row rfl 35 _ rfl w.heap.size rfl 35 #[.int .u32 (h.size : Int), .slice p h.cells.length cap] (0, 0) _ hbx Tryz.underlying35 rfl hsz ?_))
  go_step3
  go_wp2_with (first | (refine wpList_world HW1.out ?_) | (refine wpList_load_row rfl 35 _ rfl w.heap.size rfl 35 #[.int .u32 (h.size : Int), .slice p h.cells.length cap] (0, 0) _ hbx Tryz.underlying35 rfl hsz ?_))
  refine hop.mono ?_
  rintro e w1 (⟨hno, rfl, hq⟩ | ⟨hr, S, vs, L, rfl, hLd, hLa, hst, hk⟩)
  · have hA2 := hA.below hq hA.lt
    have hb2 := hb1.trans (hq.mono hb1.size)
    have hth := hA2.there 0 2 (by simp)
    have hst := store_row hA2 (D := #[.int .u32 0, .slice none 0 0]) rfl
    have hbs := setCells_below A w.heap.size (Nat.le_of_lt hCA) [.int .u32 0, .slice none 0 0] 0 _ _ hb2
    have HF := Lib.hid (And.intro hno (And.intro hst hbs))
    have hone2 : (#[.int .u32 0, .slice none 0 0] : Array Value).all (·.oneCell') = true := oneH 0 none 0 0
    have hsz2 := hszH (.int .u32 0) (.slice none 0 0)
    clear hop hno hq hst hbs hA hA2 hb2 hbx hb1
    go_wp2_with (first | (refine wpList_build_eqH rfl 35 [] rfl #[.int .u32 0, .slice none 0 0] built_heap0 ?_) | (refine wpList_store_mid rfl 35 _ _ rfl A 0 #[.int .u32 0, .slice none 0 0] rfl rfl hth hsz2 hone2 ?_))
    rw [Exit.noGoto_ret]
    refine bodyPost_ret (v := .tuple #[.agg #[.int .u32 0, .slice none 0 0], .int .i64 7]) (results_cell_tmp (p := 2) (q := 3) (ty := 35) (by rfl) _ _ A 35 #[.int .u32 0, .slice none 0 0] (0, 0) _ (by rfl) HF.out.2.1 Tryz.underlying35 (by rfl) hsz2) (by rfl) ?_
    exact ⟨⟨_, .inr ⟨HF.out.1, rfl, own_zero _ _⟩⟩, HF.out.2.2⟩
  · have hcl := hr.okH.len
    have HI := Lib.hid (And.intro hr (And.intro hLd (And.intro hst (And.intro hk (And.intro hA hb1)))))
    clear hop hst hk hLd hLa hr hA hb1 hbx
    go_wp2_with fail
    go_step3
    go_wp2_with fail
    go_loopg [] h.cells.length (fun g wx => ∃ vs L cells, L.map CellM.d = cells ∧ cells.length ≤ g ∧ cells.length ≤ 65536 ∧ sweepF g cells = sweepF h.cells.length h.cells ∧ InvC h.size cells [] ∧ StoreAt W1.heap.size wx S h.size vs L ∧ Keep W1.heap.size W1 wx)
    case atStart => exact ⟨vs, L, _, HI.out.2.1, Nat.le_refl _, hcl, rfl, right_inv HI.out.1, HI.out.2.2.1, HI.out.2.2.2.1⟩
    case round =>
      obtain ⟨vs, L, cells, hLd, hgl, hcl2, hsw, hinv, hst, hk⟩ := hrel
      have hLn : L.length = cells.length := by rw [← hLd, List.length_map]
      obtain ⟨ask, hS, ho⟩ := hst.row
      obtain ⟨pp, cap2, rfl⟩ := own_shape ho
      have c1 : wr.cell? ⟨S, 1, none⟩ = some (.slice pp L.length cap2) := by rw [hS.cell]; rfl
      rw [hLn] at c1
      have HO := Lib.hid (And.intro hLd (And.intro hgl (And.intro hcl2 (And.intro hsw (And.intro hinv (And.intro hst hk))))))
      have HW := Lib.hid hLn
      clear hLd hgl hcl2 hsw hinv hst hk hS ho hLn
      generalize hn : cells.length = n at *
      have HN := Lib.hid hn
      clear hn
      have hn2 := HO.out.2.2.1
      obtain ⟨wo, rfl⟩ : ∃ wo : World, wo = wr := ⟨_, rfl⟩
      go_wp2_with fail
      go_loopg [22] n (fun g s22 wx => ∃ t : Nat, t ≤ n ∧ g = n - t ∧ s22 = .int .i64 t ∧ (∀ q (hq : q < L.length), q < t → L[q].d.refs ≠ 0) ∧ wx = wo)
      case atStart => exact ⟨0, by omega, by omega, rfl, fun q _ h => by omega, rfl⟩
      case round =>
        obtain ⟨t, ht, rfl, rfl, hbf, rfl⟩ := hrel
        obtain ⟨hLd, hgl, hcl2, hsw, hinv, hst, hk⟩ := HO.out
        have hLL := HW.out
        by_cases hlt : t < n
        · have i1 : (t : Int) < (n : Int) := by omega
          have htM : t < L.length := by omega
          obtain ⟨ask2, hS2, ho2⟩ := hst.row
          obtain ⟨p', cap', hpe, hpc⟩ := own_ptrs ho2
          injection hpe with hpe hle1 hle2
          clear hle1 hle2
          obtain ⟨R, hpR, hcell⟩ := hpc t htM
          rw [← hpe] at hpR
          subst hpR
          rw [CellM.p] at hcell
          have hca := hst.cells _ (List.getElem_mem htM)
          have cr : wr.cell? ⟨L[t].ptr, 2, none⟩ = some (.int .i64 L[t].d.refs) := by rw [hca.row.cell]; rfl
          clear hS2 ho2 hpe hpc hca
          have hcn : cells.length = n := HN.out
          have htc : t < cells.length := by omega
          have hct : cells[t] = L[t].d := by
            have : (L.map CellM.d)[t]'(by simpa using htM) = L[t].d := List.getElem_map _
            rw [← this]; simp only [hLd]
          by_cases h0 : L[t].d.refs = 0
          · rw [h0] at cr
            have hrem := remove_calls (n + 1) (let_calls (n + 1)) W1.heap.size S h.size _ L cells [] t wr hst hLd htM hinv h0 (by omega) (by omega)
            have hm : L[t].d ∈ cells := by rw [← hLd]; exact List.mem_map_of_mem (List.getElem_mem htM)
            obtain ⟨m', hm', hsw'⟩ := sweep_hit (m := gk) htc (by rw [hct]; exact h0) (fun q hq hqt => by
              have : (L.map CellM.d)[q]'(by rw [List.length_map]; omega) = L[q].d := List.getElem_map _
              have h9 := hbf q (by omega) hqt
              rw [← this] at h9
              simpa only [hLd] using h9) (by omega)
            rw [hct, hcn] at hsw'
            have hl3 := inv_lets (n + 1) (p := []) L[t].d.kids (delC cells L[t].d.num) (by have := delC_length hm; omega) (inv_del hinv hm h0)
            have hdl := delC_length hm
            have HE := Lib.hid (And.intro (hsw'.symm.trans hsw) (And.intro hl3 (And.intro hk (And.intro hdl (And.intro hgl (And.intro hcl2 hm'))))))
            clear hsw hsw' hl3 hk hdl hm hinv hst hLd h0 hbf hct htc hgl hcl2 hm' hcn
            go_wp2_with fail
            refine hrem.mono ?_
            rintro e w5 ⟨vs5, L5, rfl, hL5, hst5, hk5⟩
            have HE5 := Lib.hid (And.intro hL5 (And.intro hst5 hk5))
            clear hrem hL5 hst5 hk5
            go_wp2_with fail
            go_roundg m'
            case measure => have := HE.out.2.2.2.2.2.2; omega
            case rel =>
              have hcn := HN.out
              have h1 := HE.out.2.1.2
              have h2 := HE.out.2.2.2.1
              have h3 := HE.out.2.2.2.2.1
              have h4 := HE.out.2.2.2.2.2.1
              have h5 := HE.out.2.2.2.2.2.2
              exact ⟨vs5, L5, _, HE5.out.1, by omega, by omega, HE.out.1, HE.out.2.1.1, HE5.out.2.1, HE.out.2.2.1.trans HE5.out.2.2⟩
          · have hb : (L[t].d.refs == 0) = false := by simpa using h0
            have HB := Lib.hid (And.intro h0 hbf)
            clear hbf h0 hct hLd hgl hcl2 hsw hinv hst hk
            generalize hrf : L[t].d.refs = rf at *
            have HRF := Lib.hid hrf
            clear hrf
            generalize L[t].ptr = P at *
            go_wp2_with fail
            go_roundg (n - (t + 1))
            case measure => omega
            case rel =>
              refine ⟨t + 1, by omega, rfl, by go_num, fun q hq hqt => ?_, rfl⟩
              rcases Nat.lt_or_ge q t with h9 | h9
              · exact HB.out.2 q hq h9
              · have : q = t := by omega
                subst this
                rw [HRF.out]; exact HB.out.1
        · obtain rfl : n = t := by omega
          have hcn : cells.length = n := HN.out
          have hsE : sweepF gk cells = cells := sweep_end fun q hq => by
            have : (L.map CellM.d)[q]'(by rw [List.length_map]; omega) = L[q].d := List.getElem_map _
            have h9 := hbf q (by omega) (by omega)
            rw [← this] at h9
            simpa only [hLd] using h9
          have hH : sweepH h = ⟨h.size, cells⟩ := by rw [sweepH, ← hsw, hsE]
          have hE : (0 : Int) = 0 := rfl
          have hr := HI.out.1
          have hA6 := hk.row HI.out.2.2.2.2.1 (.inl hAlt)
          have hb6 := HI.out.2.2.2.2.2.trans (hk.toBelow.mono hWs)
          have hlenN : L.length ≤ 65536 := by rw [← List.length_map (f := CellM.d), hLd]; exact (by rw [hcn]; exact hcl2)
          have hcall := heap_calls W1.heap.size S h.size _ L wr hst hlenN
          rw [hLd] at hcall
          have hAW := hA6
          have hbW := hb6
          have HEH := Lib.hid (And.intro hr (And.intro hE hH))
          clear hE hH hst hk hr hA6 hb6 hsw hinv hsE hbf c1 hLL hcn
          go_wp2_with fail
          refine hcall.mono ?_
          rintro e w9 ⟨v9, rfl, hown9, hb9⟩
          obtain ⟨p9, c9, rfl⟩ := own_shape hown9
          have hA9 := hAW.below hb9 hAW.lt
          have hle9 := hbW.size
          have hb10 := hbW.trans (hb9.mono hle9)
          have hth := hA9.there 0 2 (by simp)
          have hst9 := store_row hA9 (D := #[.int .u32 (h.size : Int), .slice p9 L.length c9]) rfl
          have hbs9 := setCells_below A w.heap.size (Nat.le_of_lt hCA) [.int .u32 (h.size : Int), .slice p9 L.length c9] 0 _ _ hb10
          have hbu9 := (But.refl A w9).setCells [.int .u32 (h.size : Int), .slice p9 L.length c9] 0
          have ho9 := ownsRow_but (ownsRow_base hown9 hle9) hbu9 (fun c hc => by have := row_type hA9 hc; revert this; decide)
          have HF := Lib.hid (And.intro hst9 (And.intro ho9 hbs9))
          have hone2 := oneH (h.size : Int) p9 L.length c9
          have hsz2 := hszH (.int .u32 (h.size : Int)) (.slice p9 L.length c9)
          have HLL := Lib.hid (show L.length = (cells).length by rw [← hLd, List.length_map])
          clear hcall hown9 hb9 hA9 hst9 hbs9 hbu9 ho9 hb10 hAW hbW
          go_wp2_with (refine wpList_store_mid rfl 35 _ _ rfl A 0 #[.int .u32 (h.size : Int), .slice p9 L.length c9] rfl rfl hth hsz2 hone2 ?_)
          rw [Exit.noGoto_ret]
          refine bodyPost_ret (v := .tuple #[.agg #[.int .u32 (h.size : Int), .slice p9 L.length c9], .int .i64 0]) (results_cell_tmp (p := 2) (q := 3) (ty := 35) (by rfl) _ _ A 35 #[.int .u32 (h.size : Int), .slice p9 L.length c9] (0, 0) _ (by rfl) HF.out.1 Tryz.underlying35 (by rfl) hsz2) (by rfl) ?_
          exact ⟨⟨_, .inl ⟨HEH.out.1, rfl, by rw [HEH.out.2.2]; exact ⟨_, rfl, by rw [← HLL.out]; exact HF.out.2.1⟩⟩⟩, HF.out.2.2⟩

end Go.Proofs.YtimkklaidodkdaaGreatDoor
