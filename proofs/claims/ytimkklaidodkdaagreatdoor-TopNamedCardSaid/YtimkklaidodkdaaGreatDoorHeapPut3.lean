/- heap.Put: walked. -/
import Derived.Test.YtimkklaidodkdaaGreatDoorHeapPut2
import Derived.Test.YtimkklaidodkdaaGreatDoorRegion2
namespace Go.Proofs.YtimkklaidodkdaaGreatDoor
open Go.RowKit

theorem results_cell2_tmp {P : Program} {fn : Func} {p p' q : Tmp} {ty ty' : TypeId} (h : fn.results = #[.cell p ty, .cell p' ty', .tmp q]) (tmps : Array Value) (w : World) (g : Nat) (t : TypeId) (cs : Array Value) (fr : Nat × Nat) (d : TypeDesc) (g' : Nat) (t' : TypeId) (cs' : Array Value) (fr' : Nat × Nat) (d' : TypeDesc)
    (hp : tmps.getD p undef = .pointer (some ⟨g, 0, none⟩)) (hg : w.heap[g]? = some (.cells cs t fr)) (hp2 : tmps.getD p' undef = .pointer (some ⟨g', 0, none⟩)) (hg2 : w.heap[g']? = some (.cells cs' t' fr'))
    (hu : P.underlying ty = some d) (hd : (match d with | .struct _ | .array _ _ => true | _ => false) = true) (hi : (P.info? ty).map (·.size) = some cs.size)
    (hu' : P.underlying ty' = some d') (hd' : (match d' with | .struct _ | .array _ _ => true | _ => false) = true) (hi' : (P.info? ty').map (·.size) = some cs'.size) :
    (results fn tmps).run P w = .ok (.tuple #[.agg cs, .agg cs', tmps.getD q undef]) w := by
  have hp' : tmps[p]?.getD undef = .pointer (some ⟨g, 0, none⟩) := by simpa using hp
  have hp2' : tmps[p']?.getD undef = .pointer (some ⟨g', 0, none⟩) := by simpa using hp2
  simp [results, h, hp', hp2', asAddr, run_loadVar_row w g t ty cs fr d hg hu hd hi, run_loadVar_row w g' t' ty' cs' fr' d' hg2 hu' hd' hi']
theorem putS_len (h : HeapD) (n : NodeD) : (putS h n).length = 32 := by
  unfold putS
  split
  · exact sha_length _
  · exact List.length_replicate

set_option maxRecDepth 100000 in
set_option maxHeartbeats 6400000 in
theorem hput_calls (v : Value) (h : HeapD) (vn : Value) (n : NodeD) (w : World) (a : HeapAt w.heap.size w v h) (an : NodeAt w.heap.size w vn n) (hfit : fitN n) (hz : n.kids.length + n.vols.length ≤ 1048576) :
    Calls Tryz.prog 14 #[v, vn] w fun e w' => (∃ r, ((RightH h ∧ e = .returned (.tuple #[r, .agg (kidV (kidH (putN h n) (putS h n))).toArray, .int .i64 (putE h n)]) ∧ OwnH w.heap.size w' r (putH h n)) ∨ (¬ RightH h ∧ e = .returned (.tuple #[r, .agg (kidV (kidH 0 zeroH)).toArray, .int .i64 7]) ∧ OwnH w.heap.size w' r zeroHp))) ∧ Below w.heap.size w w' := by
  obtain ⟨p, cap, rfl⟩ := a.shape
  obtain ⟨p1, c1, p2, c2, p3, c3, rfl⟩ := an.shapeN
  obtain ⟨W0, hW0⟩ : ∃ W0, W0 = w.alloc (.cells #[.int .u32 (h.size : Int), .slice p h.cells.length cap] 35) := ⟨_, rfl⟩
  obtain ⟨W1, hW1⟩ : ∃ W1, W1 = W0.alloc (.cells #[.int .u8 (n.kind : Int), .slice p1 n.items.length c1, .slice p2 n.kids.length c2, .slice p3 n.vols.length c3] 28) := ⟨_, rfl⟩
  obtain ⟨W2, hW2⟩ : ∃ W2, W2 = W1.alloc (.cells #[.int .u32 0, .slice none 0 0] 35) := ⟨_, rfl⟩
  obtain ⟨W3, hW3⟩ : ∃ W3, W3 = W2.alloc (.cells (kidV (kidH 0 zeroH)).toArray 38) := ⟨_, rfl⟩
  have hx0 : RowIs W0 w.heap.size 35 #[.int .u32 (h.size : Int), .slice p h.cells.length cap] := by rw [hW0]; exact RowIs.new w _ _
  have hx3 : RowIs W3 w.heap.size 35 #[.int .u32 (h.size : Int), .slice p h.cells.length cap] := by rw [hW3, hW2, hW1]; exact ((hx0.alloc _).alloc _).alloc _
  have hN1 : RowIs W1 W0.heap.size 28 #[.int .u8 (n.kind : Int), .slice p1 n.items.length c1, .slice p2 n.kids.length c2, .slice p3 n.vols.length c3] := by rw [hW1]; exact RowIs.new W0 _ _
  have hN3 : RowIs W3 W0.heap.size 28 #[.int .u8 (n.kind : Int), .slice p1 n.items.length c1, .slice p2 n.kids.length c2, .slice p3 n.vols.length c3] := by rw [hW3, hW2]; exact (hN1.alloc _).alloc _
  have hA2 : RowIs W2 W1.heap.size 35 #[.int .u32 0, .slice none 0 0] := by rw [hW2]; exact RowIs.new W1 _ _
  have hA3 : RowIs W3 W1.heap.size 35 #[.int .u32 0, .slice none 0 0] := by rw [hW3]; exact hA2.alloc _
  have hE3 : RowIs W3 W2.heap.size 38 (kidV (kidH 0 zeroH)).toArray := by rw [hW3]; exact RowIs.new W2 _ _
  have hb0 : Below w.heap.size w W0 := by rw [hW0]; exact (Below.refl _ _).alloc (Nat.le_refl _) _
  have hb1 : Below w.heap.size w W1 := by rw [hW1]; exact hb0.alloc hb0.size _
  have hb2 : Below w.heap.size w W2 := by rw [hW2]; exact hb1.alloc hb1.size _
  have hb3 : Below w.heap.size w W3 := by rw [hW3]; exact hb2.alloc hb2.size _
  have hop := openB_calls p cap h w a W3 hb3
  have hnW : NodeAt W3.heap.size W3 (.agg #[.int .u8 (n.kind : Int), .slice p1 n.items.length c1, .slice p2 n.kids.length c2, .slice p3 n.vols.length c3]) n := (an.below hb3 (Nat.le_refl _)).monoB hb3.size
  have hsz : (Tryz.prog.info? 35).map (·.size) = some (#[.int .u32 (h.size : Int), .slice p h.cells.length cap] : Array Value).size := by kernel_rfl
  have hszH : ∀ x y : Value, (Tryz.prog.info? 35).map (·.size) = some (#[x, y] : Array Value).size := fun x y => by kernel_rfl
  have hszN : (Tryz.prog.info? 28).map (·.size) = some (#[.int .u8 (n.kind : Int), .slice p1 n.items.length c1, .slice p2 n.kids.length c2, .slice p3 n.vols.length c3] : Array Value).size := by kernel_rfl
  have hszK : ∀ C : Array Value, C.size = 34 → (Tryz.prog.info? 38).map (·.size) = some C.size := fun C hC => by rw [hC]; kernel_rfl
  have hAw : w.heap.size ≤ W1.heap.size := hb1.size
  have hEw : w.heap.size ≤ W2.heap.size := hb2.size
  have hAE : W1.heap.size < W2.heap.size := hA2.lt
  have hA3l := hA3.lt
  have hE3l := hE3.lt
  have hN3l := hN3.lt
  have hWs : w.heap.size ≤ W3.heap.size := hb3.size
  have hnw : n.wf := an.wf
  have HW0 := Lib.hid hW0
  have HW1 := Lib.hid hW1
  have HW2 := Lib.hid hW2
  have HW3 := Lib.hid (show W3 = W2.alloc (.cells (kidV (kidH 0 zeroH)).toArray 38) from hW3)
  have HI := Lib.hid (And.intro hA3 (And.intro hE3 (And.intro hb3 (And.intro hnW hN3))))
  clear hW0 hW1 hW2 hW3 a an hx0 hN1 hA2 hb0 hb1 hb2 hN3 hA3 hE3 hb3 hnW
  generalize hCg : W0.heap.size = C at *
  generalize hAg : W1.heap.size = A at *
  generalize hEg : W2.heap.size = E at *
  go_enter Tryz.func14, Tryz.ntmps14
  go_wp2_with (first | (refine wpList_world HW0.out ?_) | (refine wpList_world HW1.out ?_) | (refine wpList_world HW2.out ?_) | (refine wpList_world HW3.out ?_) | (refine wpList_load_row rfl 35 _ rfl w.heap.size rfl 35 #[.int .u32 (h.size : Int), .slice p h.cells.length cap] (0, 0) _ hx3 Tryz.underlying35 rfl hsz ?_))
  refine hop.mono ?_
  rintro e w1 (⟨hno, rfl, hq⟩ | ⟨hr, S, vs, L, rfl, hLd, hLa, hst, hk⟩)
  · obtain ⟨hA3, hE3, hb3, hnW, hN3⟩ := HI.out
    have hA4 := hA3.below hq hA3.lt
    have hE4 := hE3.below hq hE3.lt
    have hb4 := hb3.trans (hq.mono hWs)
    have hthA := hA4.there 0 2 (by simp)
    have hst4 := store_row hA4 (D := #[.int .u32 0, .slice none 0 0]) rfl
    have hbuA := (But.refl A w1).setCells [.int .u32 0, .slice none 0 0] 0
    have hE5 := hE4.but hbuA (by omega)
    have hbs := setCells_below A w.heap.size hAw [.int .u32 0, .slice none 0 0] 0 _ _ hb4
    obtain ⟨W6, hW6⟩ : ∃ W6, W6 = w1.setCells A 0 [.int .u32 0, .slice none 0 0] := ⟨_, rfl⟩
    have hst4' : RowIs W6 A 35 #[.int .u32 0, .slice none 0 0] := by rw [hW6]; exact hst4
    rw [← hW6] at hE5 hbs
    have hthE := hE5.there 0 34 (by decide)
    have hst5 := store_row hE5 (D := (kidV (kidH 0 zeroH)).toArray) rfl
    have hbuE := (But.refl E W6).setCells ((kidV (kidH 0 zeroH)).toArray : Array Value).toList 0
    have hA6 := hst4'.but hbuE (by omega)
    have hbs6 := setCells_below E w.heap.size hEw ((kidV (kidH 0 zeroH)).toArray : Array Value).toList 0 _ _ hbs
    have hone1 : (#[.int .u32 0, .slice none 0 0] : Array Value).all (·.oneCell') = true := oneH 0 none 0 0
    have hone2 := kidV_one (kidH 0 zeroH)
    have hsz1 := hszH (.int .u32 0) (.slice none 0 0)
    have hsz2 := hszK (kidV (kidH 0 zeroH)).toArray rfl
    have HF := Lib.hid (And.intro hno (And.intro hA6 (And.intro hst5 hbs6)))
    have HW6 := Lib.hid hW6
    clear hop hno hq hA3 hE3 hb3 hnW hN3 hA4 hE4 hb4 hst4 hbuA hE5 hbs hW6 hst4' hst5 hbuE hA6 hbs6 hx3
    go_wp2_with (first | (refine wpList_build_eqH rfl 35 [] rfl #[.int .u32 0, .slice none 0 0] built_heap0 ?_) | (refine wpList_build_eqH rfl 38 [] rfl (kidV (kidH 0 zeroH)).toArray built_kid0 ?_) | (refine wpList_store_mid rfl 35 _ _ rfl A 0 #[.int .u32 0, .slice none 0 0] rfl rfl hthA hsz1 hone1 ?_; refine wpList_world HW6.out ?_) | (refine wpList_store_mid rfl 38 _ _ rfl E 0 (kidV (kidH 0 zeroH)).toArray rfl rfl hthE hsz2 hone2 ?_))
    refine bodyPost_ret (v := .tuple #[.agg #[.int .u32 0, .slice none 0 0], .agg (kidV (kidH 0 zeroH)).toArray, .int .i64 7]) (results_cell2_tmp (p := 4) (p' := 5) (q := 6) (ty := 35) (ty' := 38) (by rfl) _ _ A 35 #[.int .u32 0, .slice none 0 0] (0, 0) _ E 38 (kidV (kidH 0 zeroH)).toArray (0, 0) _ (by rfl) HF.out.2.1 (by rfl) HF.out.2.2.1 Tryz.underlying35 (by rfl) hsz1 Tryz.underlying38 (by rfl) hsz2) (by rfl) ?_
    exact ⟨⟨_, .inr ⟨HF.out.1, rfl, own_zero _ _⟩⟩, HF.out.2.2.2⟩
  · have hLh : ∀ c ∈ L, c.hash = c.d.hash := fun c hc => (hLa c hc).1
    obtain ⟨hA3, hE3, hb3, hnW, hN3⟩ := HI.out
    have hA4 := hk.row hA3 (.inl hA3l)
    have hE4 := hk.row hE3 (.inl hE3l)
    have hN4 := hk.row hN3 (.inl hN3l)
    have hb4 := hb3.trans ((hk.below (Nat.le_refl _)).mono hWs)
    have hn4 : NodeOk W3.heap.size w1 (.agg #[.int .u8 (n.kind : Int), .slice p1 n.items.length c1, .slice p2 n.kids.length c2, .slice p3 n.vols.length c3]) n := .inr (hnW.below (hk.below (Nat.le_refl _)) (Nat.le_refl _))
    have hput := sput_calls W3.heap.size S vs L h n (.agg #[.int .u8 (n.kind : Int), .slice p1 n.items.length c1, .slice p2 n.kids.length c2, .slice p3 n.vols.length c3]) w1 hst hr hLd hLh hn4 hfit hz
    have hB1 := hst.hB
    have HJ := Lib.hid (And.intro hr (And.intro hA4 (And.intro hE4 hb4)))
    clear hop hst hk hLd hLa hLh hr hA3 hE3 hb3 hnW hN3 hA4 hE4 hb4 hn4 HI hx3
    go_wp2_with (refine wpList_load_row rfl 28 _ rfl C rfl 28 #[.int .u8 (n.kind : Int), .slice p1 n.items.length c1, .slice p2 n.kids.length c2, .slice p3 n.vols.length c3] (0, 0) _ hN4 Tryz.underlying28 rfl hszN ?_)
    refine hput.mono ?_
    rintro e w2 ⟨vs2, L2, rfl, hL2d, _, hst2, hk2⟩
    obtain ⟨hr, hA4, hE4, hb4⟩ := HJ.out
    have hA5 := hk2.row hA4 (.inr (by decide))
    have hE5 := hk2.row hE4 (.inr (by decide))
    have hb5 := hb4.trans ((hk2.below hB1).mono hWs)
    have hrp : RightH (putH h n) := putH_right hr hnw
    have hsp : (putH h n).size = h.size := by unfold putH; split <;> rfl
    have hL2n : L2.length ≤ 65536 := by rw [← List.length_map (f := CellM.d), hL2d]; exact hrp.okH.len
    obtain ⟨KR, hKR⟩ : ∃ KR, KR = kidV (kidH (putN h n) (putS h n)) := ⟨_, rfl⟩
    have hkl : KR.length = 34 := by rw [hKR]; exact kidV_length (putS_len h n)
    have hone2 : KR.toArray.all (·.oneCell') = true := by rw [hKR]; exact kidV_one _
    rw [← hKR]
    obtain ⟨W6, hW6⟩ : ∃ W6, W6 = w2.alloc (.cells (kidV (kidH 0 zeroH)).toArray 38) := ⟨_, rfl⟩
    obtain ⟨W7, hW7⟩ : ∃ W7, W7 = W6.setCells w2.heap.size 0 KR := ⟨_, rfl⟩
    have hal := (Below.refl _ w2).alloc (Nat.le_refl _) (.cells (kidV (kidH 0 zeroH)).toArray 38)
    have hK6 := RowIs.new w2 38 (kidV (kidH 0 zeroH)).toArray
    rw [← hW6] at hal hK6
    have hK7 := store_row hK6 (D := KR.toArray) (by rw [List.size_toArray, hkl]; rfl)
    have hal7 := setCells_below w2.heap.size w2.heap.size (Nat.le_refl _) KR 0 _ _ hal
    rw [show KR.toArray.toList = KR from rfl, ← hW7] at hK7
    rw [← hW7] at hal7
    have hth := hK6.there 0 34 (by decide)
    have hszR := hszK KR.toArray (List.size_toArray.trans hkl)
    have hth' : W6.there w2.heap.size 0 KR.toArray.size := by rw [show KR.toArray.size = 34 from List.size_toArray.trans hkl]; exact hth
    have hA7 := hA5.below hal7 hA5.lt
    have hE7 := hE5.below hal7 hE5.lt
    have hst7 := hst2.below hal7 (Nat.le_refl _)
    have hb7 := hb5.trans (hal7.mono hb5.size)
    have hAX := hA5.lt
    have hEX := hE5.lt
    have hcall := fun W (hst : StoreAt W3.heap.size W S h.size vs2 L2) => heap_calls W3.heap.size S h.size vs2 L2 W hst hL2n
    rw [hL2d] at hcall
    have HR := Lib.hid (And.intro hr (And.intro hsp (And.intro hKR hL2d)))
    have HW6 := Lib.hid hW6
    have HW7 := Lib.hid hW7
    clear hput hst2 hk2 hA4 hE4 hb4 hA5 hE5 hb5 hrp hL2d hK6 hal hal7 hth hW6 hW7 hr hsp hKR hN4 HJ
    generalize hX9 : w2.heap.size = X9 at *
    go_wp2_with (first | (refine wpList_world HW6.out ?_) | (refine wpList_store_mid rfl 38 _ _ rfl X9 0 KR.toArray rfl rfl hth' hszR hone2 ?_; refine wpList_world HW7.out ?_))
    refine wp_region_held_drew (S := fun w' => RowIs w' X9 38 KR.toArray) (by kernel_rfl) hK7.drew (fun hHeld => ?_)
    have hK8 := hK7.drew
    have hA8 := hA7.drew
    have hE8 := hE7.drew
    have hbd : Below W7.heap.size W7 W7.drew := (Below.refl _ _).drew
    have hst8 := hst7.below hbd (Nat.le_refl _)
    have hb8 := hb7.trans (hbd.mono hb7.size)
    clear hbd hK7 hA7 hE7 hst7 hb7
    generalize W7.drew = wu at *
    refine take_N (i := 0) (v := ?_) (some 26) #[true, false, false, false, false, false, false] rfl rfl (by kernel_rfl) (by kernel_rfl) (by kernel_rfl) (by kernel_rfl) (fun _ _ _ h => h) hK8 (Or.inl ⟨by rfl, ?_⟩) ?_
    rotate_left
    · intro w_ hSw_; go_simp; try with_reducible rfl
    try simp only [Act.put, List.setIfInBounds_toArray, List.set_cons_zero, List.set_cons_succ]
    refine take_N (i := 2) (v := (.agg KR.toArray)) (some 28) #[true, false, true, false, false, false, false] rfl rfl (by kernel_rfl) (by kernel_rfl) (by kernel_rfl) (by kernel_rfl) (fun _ _ _ h => h) hK8 (Or.inl ⟨by rfl, ?_⟩) ?_
    · intro w_ hSw_; exact exec_load_row 38 _ (by rfl) X9 (by rfl) 38 KR.toArray (0, 0) _ hSw_ Tryz.underlying38 rfl hszR
    try simp only [Act.put, List.setIfInBounds_toArray, List.set_cons_zero, List.set_cons_succ]
    refine take_N (i := 3) (v := ?_) (some 29) #[true, false, true, true, false, false, false] rfl rfl (by kernel_rfl) (by kernel_rfl) (by kernel_rfl) (by kernel_rfl) (fun _ _ _ h => h) hK8 (Or.inl ⟨by rfl, ?_⟩) ?_
    rotate_left
    · intro w_ hSw_; go_simp; try with_reducible rfl
    try simp only [Act.put, List.setIfInBounds_toArray, List.set_cons_zero, List.set_cons_succ]
    refine step_N (i := 1) #[true, true, true, true, false, false, false] rfl (by kernel_rfl) (by kernel_rfl) (fun K hK => ?_)
    rw [if_pos (by rfl)]
    go_simp
    refine (hcall wu hst8).mono ?_
    rintro e w9 ⟨v9, rfl, hown9, hb9⟩
    replace hK8 := hK8.below hb9 hK8.lt
    replace hA8 := hA8.below hb9 hA8.lt
    replace hE8 := hE8.below hb9 hE8.lt
    obtain ⟨p9, c9, rfl⟩ := own_shape hown9
    refine hK.out _ _ hK8 ?_
    clear hK K
    refine step_N (i := 4) #[true, true, true, true, true, false, false] rfl (by kernel_rfl) (by kernel_rfl) (fun K hK => ?_)
    rw [if_pos (by rfl)]
    have hthA := hA8.there 0 2 (by simp)
    refine wp_store_mid 35 _ _ rfl A 0 #[.int .u32 (h.size : Int), .slice p9 L2.length c9] rfl rfl hthA (hszH _ _) (oneH _ _ _ _) ?_
    have hst9 := store_row hA8 (D := #[.int .u32 (h.size : Int), .slice p9 L2.length c9]) rfl
    have hbuA := (But.refl A w9).setCells [.int .u32 (h.size : Int), .slice p9 L2.length c9] 0
    have hb10 := hb8.trans (hb9.mono hb8.size)
    have hbs9 := setCells_below A w.heap.size hAw [.int .u32 (h.size : Int), .slice p9 L2.length c9] 0 _ _ hb10
    have ho9 := ownsRow_but (ownsRow_base hown9 hb8.size) hbuA (fun c hc => by have := row_type hA8 hc; revert this; decide)
    replace hK8 := hK8.but hbuA (by omega)
    replace hE8 := hE8.but hbuA (by omega)
    change K _ (w9.setCells A 0 [.int .u32 (h.size : Int), .slice p9 L2.length c9])
    change RowIs (w9.setCells A 0 [.int .u32 (h.size : Int), .slice p9 L2.length c9]) A _ _ at hst9
    generalize w9.setCells A 0 [.int .u32 (h.size : Int), .slice p9 L2.length c9] = w10 at *
    clear hthA hbuA hb10 hb9 hown9 hA8
    refine hK.out _ _ hK8 ?_
    clear hK K
    try simp only [Act.put]
    refine step_N (i := 5) #[true, true, true, true, true, true, false] rfl (by kernel_rfl) (by kernel_rfl) (fun K hK => ?_)
    rw [if_pos (by rfl)]
    have hthE := hE8.there 0 34 (by decide)
    have hthE' : w10.there E 0 KR.toArray.size := by rw [show KR.toArray.size = 34 from List.size_toArray.trans hkl]; exact hthE
    refine wp_store_mid 38 _ _ rfl E 0 KR.toArray rfl rfl hthE' hszR hone2 ?_
    have hst10 := store_row hE8 (D := KR.toArray) (by rw [List.size_toArray, hkl]; rfl)
    have hbuE := (But.refl E w10).setCells KR.toArray.toList 0
    have hbs10 := setCells_below E w.heap.size hEw KR.toArray.toList 0 _ _ hbs9
    have ho10 := ownsRow_but ho9 hbuE (fun c hc => by have := row_type hE8 hc; revert this; decide)
    replace hK8 := hK8.but hbuE (by omega)
    have hA10 := hst9.but hbuE (by omega)
    generalize w10.setCells E 0 KR.toArray.toList = w11 at *
    clear hthE hthE' hbuE hbs9 ho9 hst9 hE8
    refine hK.out _ _ hK8 ?_
    clear hK K
    try simp only [Act.put]
    refine take_N (i := 6) (v := ?_) (some 6) #[true, true, true, true, true, true, true] rfl rfl (by kernel_rfl) (by kernel_rfl) (by kernel_rfl) (by kernel_rfl) (fun _ _ _ h => h) hK8 (Or.inl ⟨by rfl, ?_⟩) ?_
    rotate_left
    · intro w_ hSw_; go_simp; try with_reducible rfl
    try simp only [Act.put, List.setIfInBounds_toArray]
    refine wpAnyH_done (by kernel_rfl) ?_ _
    clear hHeld
    have hsz9 := hszH (.int .u32 (h.size : Int)) (.slice p9 L2.length c9)
    have HF := Lib.hid (And.intro hA10 (And.intro hst10 (And.intro ho10 hbs10)))
    clear hA10 hst10 ho10 hbs10 hK8 hcall
    go_wp2_with fail
    refine bodyPost_ret (v := .tuple #[.agg #[.int .u32 (h.size : Int), .slice p9 L2.length c9], .agg KR.toArray, .int .i64 (putE h n)]) (results_cell2_tmp (p := 4) (p' := 5) (q := 6) (ty := 35) (ty' := 38) (by rfl) _ _ A 35 #[.int .u32 (h.size : Int), .slice p9 L2.length c9] (0, 0) _ E 38 KR.toArray (0, 0) _ (by rfl) HF.out.1 (by rfl) HF.out.2.1 Tryz.underlying35 (by rfl) hsz9 Tryz.underlying38 (by rfl) hszR) (by rfl) ?_
    have hll : L2.length = (putH h n).cells.length := by rw [← HR.out.2.2.2, List.length_map]
    exact ⟨⟨_, .inl ⟨HR.out.1, by rw [HR.out.2.2.1], .slice p9 L2.length c9, by rw [HR.out.2.1], by rw [← hll]; exact HF.out.2.2.1⟩⟩, HF.out.2.2.2⟩

end Go.Proofs.YtimkklaidodkdaaGreatDoor
