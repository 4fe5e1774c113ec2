/- The law TopNamed: walked. -/
import Derived.Test.YtimkklaidodkdaaGreatDoorHeapEnv
import Derived.Test.YtimkklaidodkdaaGreatDoorTopNamedP
import Derived.Test.YtimkklaidodkdaaGreatDoorTop3
import Derived.Test.YtimkklaidodkdaaGreatDoorPutAny
import Derived.BigRegion
import Derived.BigQuiet
namespace Go.Proofs.YtimkklaidodkdaaGreatDoor
open Go.RowKit

theorem items_leaf {B : Nat} {w : World} {v : Value} {l : List ItemD} (h : ItemsAt B w v l) : NodeAt B w (.agg #[.int .u8 1, v, .slice none 0 0, .slice none 0 0]) (leafI l) :=
  ⟨leafI_wf l, v, _, _, rfl, h, sl_nil _ _ _ _, sl_nil _ _ _ _⟩
theorem eq_bytesT (xs : List UInt8) (w : World) (hx : xs.length = 32) : (binOp .neq 36 (.agg (byteCells xs)) (.agg (byteCells xs))).run Tryz.prog w = .ok (.bool false) w := by
  have h : (Op.equalIn 10000 36 (.agg (byteCells xs)) (.agg (byteCells xs))).run Tryz.prog w = .ok (xs == xs) w := run_equalIn_bytes w 9998 36 5 32 Tryz.underlying36 Tryz.underlying5 Tryz.sizeOf5 xs xs hx hx
  rw [run_neq_struct, h, beq_self_eq_true]
  rfl
theorem guard_32 : Tryz.prog.eqGuardType Tryz.prog.depth 36 = false := by kernel_rfl
theorem run_buildSlice_kids {P : Program} (t e : TypeId) (hu : P.underlying t = some (.slice e)) (i : TypeInfo) (hi : P.info? e = some i) (hz : i.zero = some (.agg kidZ)) (hs34 : i.size = 34) (A B : List Value) (hA : A.length = 34) (hB : B.length = 34) (w : World) :
    (Instr.buildSlice t 2 #[(0, .agg A.toArray), (1, .agg B.toArray)]).run P w = .ok (.slice (some ⟨w.heap.size, 0, none⟩) 2 2) (w.alloc (.cells (A ++ B).toArray e)) := by
  have hsz : kidZ.size = 34 := rfl
  have hfill : Instr.fill (fun k => some (k * 34, 34)) ((Array.range 68).map ((Value.agg kidZ).cells[· % (Value.agg kidZ).cells.size]!)) [(0, .agg A.toArray), (1, .agg B.toArray)] = some (A ++ B).toArray := by
    generalize hM : (Array.range 68).map ((Value.agg kidZ).cells[· % (Value.agg kidZ).cells.size]!) = M
    have hMs : M.size = 68 := by rw [← hM]; simp
    rw [fill_cons (off := 0) (size := 34) (v := .agg A.toArray) (by simp) (by simp [Value.cells, hA]) (by omega)]
    rw [fill_last (off := 34) (size := 34) (v := .agg B.toArray) (by simp) (by simp [Value.cells, hB]) (by simp [Value.cells, hA, hMs])]
    congr 1
    simp only [Value.cells, List.take_zero, List.nil_append]
    congr 1
    rw [List.take_append_of_le_length (by simp [hA]), List.take_of_length_le (by simp [hA])]
  have hs : (sizeOf e).run P w = .ok 34 w := by simp [sizeOf, typeInfo, hi, hs34]
  have hzv : (zeroValue e).run P w = .ok (.agg kidZ) w := by simp [zeroValue, typeInfo, hi, hz]
  unfold Instr.buildSlice
  simp only [Sem.run_bind, run_underlying hu, Result.andThen_ok, hs]
  rw [if_neg (by decide), if_neg (by decide)]
  simp only [Sem.run_bind, hzv, Result.andThen_ok, Sem.run_pure]
  rw [show (2 * 34 : Nat) = 68 from rfl]
  simp only [hfill]
  simp [newRow]
theorem wpList_buildSlice_kids {P : Program} {ops : Array Oper} {rest : List Oper} {o : Oper} {a : Act} {w : World} {Q : Exit → Act → World → Prop} (hgd : o.guard = none) (t e : TypeId) {x0 x1 : Operand} (ho : o.op = .buildSlice t 2 #[(0, x0), (1, x1)]) (hu : P.underlying t = some (.slice e)) (i : TypeInfo) (hi : P.info? e = some i) (hz : i.zero = some (.agg kidZ)) (hs34 : i.size = 34)
    (A B : List Value) (hA : A.length = 34) (hB : B.length = 34) (h0 : a.eval x0 = .agg A.toArray) (h1 : a.eval x1 = .agg B.toArray)
    (k : wpList P ops Q rest (a.put o.dst (.slice (some ⟨w.heap.size, 0, none⟩) 2 2)) (w.alloc (.cells (A ++ B).toArray e))) : wpList P ops Q (o :: rest) a w :=
  wpList_plain hgd fun _ hK => by
    have hr := run_buildSlice_kids (P := P) t e hu i hi hz hs34 A B hA hB w
    unfold Oper.wp execOp
    simp only [ho, List.map_toArray, List.map_cons, List.map_nil, h0, h1, Sem.run_bind, hr, Result.andThen_ok]
    exact hK _ _ k
theorem built_up (p : Option Addr) (n c : Nat) : Tryz.prog.built 28 [(0, .int .u8 2), (2, .slice p n c)] = some #[.int .u8 2, .slice none 0 0, .slice p n c, .slice none 0 0] := by kernel_rfl
/-- Two kids, one behind the other, are a branch's. -/
theorem kids_up {w : World} {S : Nat} {ka kb : KidD} {t : TypeId} (ha : ka.wf) (hb : kb.wf) (hr : RowIs w S t (kidV ka ++ kidV kb).toArray) : NodeAt w.heap.size w (.agg #[.int .u8 2, .slice none 0 0, .slice (some ⟨S, 0, none⟩) 2 2, .slice none 0 0]) ⟨2, [], [ka, kb], []⟩ := by
  have hl := kidV_length ha.2
  refine ⟨⟨by show (2 : Nat) < 256; omega, fun k hk => ?_, by simp⟩, _, _, _, rfl, sl_nil _ _ _ _, ⟨_, 2, rfl, by show (2 : Nat) ≤ maxLen; unfold maxLen; omega, fun _ => ⟨S, 0, rfl, hr.lt, fun i hi j u hj => ?_⟩⟩, sl_nil _ _ _ _⟩
  · simp only [List.mem_cons, List.not_mem_nil, or_false] at hk
    rcases hk with rfl | rfl
    · exact ha
    · exact hb
  · have hi2 : i = 0 ∨ i = 1 := by
      have : i < 2 := hi
      omega
    rw [hr.cell, List.getElem?_toArray]
    rcases hi2 with rfl | rfl
    · have hj2 : (kidV ka)[j]? = some u := hj
      have := (List.getElem?_eq_some_iff.1 hj2).1
      rw [show 0 + 0 * 34 + j = j by omega, List.getElem?_append_left (by omega)]
      exact hj2
    · have hj2 : (kidV kb)[j]? = some u := hj
      rw [show 0 + 1 * 34 + j = 34 + j by omega, List.getElem?_append_right (by omega), hl, show 34 + j - 34 = j by omega]
      exact hj2

theorem kidV_hash (k : KidD) (j : Nat) : (kidV k)[2 + j]? = (bytesV k.hash)[j]? := by
  rw [kidV, List.getElem?_append_right (by simp)]
  congr 1
  simp
theorem Env.noN {X B : Nat} {w0 w : World} {rows : List VarR} {hs : List (Value × HeapD)} {ns : List (Value × NodeD)} (E : Env X B w0 w rows hs ns) : Env X B w0 w rows hs [] := ⟨E.below, E.hX, E.hB, E.rowsI, E.nd, E.heaps, by simp⟩
/-- A row without an int is written: the heaps are as they were. -/
theorem Env.key {X B : Nat} {w0 w w' : World} {rows : List VarR} {hs : List (Value × HeapD)} (E : Env X B w0 w rows hs []) (i : Nat) {b : Nat} {t : TypeId} {C D : Array Value} (hr : rows[i]? = some ⟨b, t, C⟩) (hD : RowIs w' b t D) (hb : But b w w') (hC : ∀ (i : Nat) (x : Int), C[i]? ≠ some (.int .i64 x)) : Env X B w0 w' (rows.set i ⟨b, t, D⟩) hs [] :=
  E.turn i hr hb hD (fun a ha => by
    obtain ⟨h1, h2, h3, sl, hv, p, cap, hsl, hn, hx⟩ := E.heaps a ha
    refine ⟨h1, h2, h3, sl, hv, p, cap, hsl, hn, fun h0 => ?_⟩
    obtain ⟨bb, o, hp, hbB, hc⟩ := hx h0
    refine ⟨bb, o, hp, hbB, fun j hj k u hk => ?_⟩
    have hcj := hc j hj
    by_cases e : bb = b
    · exfalso
      subst e
      have hk2 := hcj 2 (.int .i64 a.2.cells[j].refs) (by simp only []; rw [List.getElem?_eq_getElem hj]; rfl)
      rw [(E.row i hr).cell] at hk2
      exact hC _ _ hk2
    · exact (World.cell?_of_block (w := w) (hb.block bb (Nat.lt_of_lt_of_le hbB E.hB) e)).trans (hcj k u hk)) (by simp)
theorem kid_no64 (k : KidD) : ∀ (i : Nat) (x : Int), (kidV k).toArray[i]? ≠ some (.int .i64 x) := fun i x h => by
  rw [List.getElem?_toArray] at h
  have hm := List.mem_of_getElem? h
  simp only [kidV, bytesV, List.mem_append, List.mem_cons, List.not_mem_nil, or_false, List.mem_map] at hm
  rcases hm with (h1 | h1) | ⟨c, _, h1⟩
  · cases h1
  · cases h1
  · cases h1
theorem first_key {X : Nat} {w : World} {v : Value} {l : List ItemD} {x : ItemD} {r : List ItemD} (hl : l = x :: r) (h : ItemsAt X w v l) : ∃ bl ol cl, v = .slice (some ⟨bl, ol, none⟩) l.length cl ∧ bl < X ∧ ∀ wx, Below X w wx → wx.cell? ⟨bl, ol, none⟩ = some (.string x.key) := by
  subst hl
  obtain ⟨p, c, rfl, _, hr⟩ := h
  obtain ⟨bl, ol, rfl, hbl, hc⟩ := hr (Nat.succ_pos _)
  refine ⟨bl, ol, c, rfl, hbl, fun wx hb => ?_⟩
  have h0 : w.rangeAt bl (ol + 0 * 2) (itemV x) := hc 0 (Nat.succ_pos _)
  rw [Nat.zero_mul, Nat.add_zero] at h0
  exact (rangeAt_below h0 hb hbl) 0 (.string x.key) rfl

set_option maxRecDepth 100000 in
set_option maxHeartbeats 12800000 in
theorem topNamed_calls (va vb : Value) (a b : List ItemD) (w : World) (ha : ItemsAt w.heap.size w va a) (hb : ItemsAt w.heap.size w vb b) (fa : fitN (leafI a)) (fb : fitN (leafI b)) :
    Calls Tryz.prog 3 #[va, vb] w fun e w' => e = .returned (.bool true) ∧ Below w.heap.size w w' := by
  obtain ⟨iR0, hR, hRz0, hRz1, _⟩ := info_parts info_kid
  have hna : ∃ pa na ca, va = .slice pa na ca ∧ na = a.length := by obtain ⟨p, c, rfl, _⟩ := ha; exact ⟨p, _, c, rfl, rfl⟩
  have hnb : ∃ pb nb cb, vb = .slice pb nb cb ∧ nb = b.length := by obtain ⟨p, c, rfl, _⟩ := hb; exact ⟨p, _, c, rfl, rfl⟩
  obtain ⟨pa, na, ca, rfl, hna⟩ := hna
  obtain ⟨pb, nb, cb, rfl, hnb⟩ := hnb
  have HN := Lib.hid (And.intro hna hnb)
  clear hna hnb
  have E0 : Env w.heap.size w.heap.size w w [] [] [(.agg #[.int .u8 1, .slice pa na ca, .slice none 0 0, .slice none 0 0], leafI a), (.agg #[.int .u8 1, .slice pb nb cb, .slice none 0 0, .slice none 0 0], leafI b)] := Env.start (by simp) (by
    intro x hx
    simp only [List.mem_cons, List.not_mem_nil, or_false] at hx
    rcases hx with rfl | rfl
    · exact items_leaf ha
    · exact items_leaf hb)
  have hbeg := begins_calls w
  have hszH : ∀ x y : Value, (Tryz.prog.info? 35).map (·.size) = some (#[x, y] : Array Value).size := fun x y => by kernel_rfl
  have hszN : ∀ x y z u : Value, (Tryz.prog.info? 28).map (·.size) = some (#[x, y, z, u] : Array Value).size := fun x y z u => by kernel_rfl
  have hszK : ∀ C : Array Value, C.size = 34 → (Tryz.prog.info? 38).map (·.size) = some C.size := fun C hC => by rw [hC]; kernel_rfl
  have hsx := hszN (.int .u8 1) (.slice pa na ca) (.slice none 0 0) (.slice none 0 0)
  have hsy := hszN (.int .u8 1) (.slice pb nb cb) (.slice none 0 0) (.slice none 0 0)
  have honeN : ∀ (k : Int) (p1 p2 p3 : Option Addr) (n1 n2 n3 c1 c2 c3 : Nat), (#[.int .u8 k, .slice p1 n1 c1, .slice p2 n2 c2, .slice p3 n3 c3] : Array Value).all (·.oneCell') = true := fun k p1 p2 p3 n1 n2 n3 c1 c2 c3 => all_oneCell_toArray (cs := [.int .u8 k, .slice p1 n1 c1, .slice p2 n2 c2, .slice p3 n3 c3]) fun v hv => by
    simp only [List.mem_cons, List.not_mem_nil, or_false] at hv
    rcases hv with rfl | rfl | rfl | rfl <;> rfl
  have hox := honeN 1 pa none none na 0 0 ca 0 0
  have hoy := honeN 1 pb none none nb 0 0 cb 0 0
  have HSZ := Lib.hid (And.intro hszH (And.intro hszN (And.intro hszK honeN)))
  have HE0 := Lib.hid E0
  have HAB := Lib.hid (And.intro ha (And.intro hb (And.intro fa fb)))
  have HBA := Lib.hid (built_leaf pa na ca)
  have HBB := Lib.hid (built_leaf pb nb cb)
  have HBH := Lib.hid (built_heap 16)
  clear E0 hszH hszN hszK honeN ha hb fa fb
  generalize hXg : w.heap.size = X at *
  go_enter Tryz.func3, Tryz.ntmps3
  go_wp2_with fail
  refine hbeg.mono ?_
  rintro e w1 ⟨rfl, hq⟩
  have E1 := HE0.out.call (by rw [hXg]; exact hq)
  obtain ⟨W0, hW0⟩ : ∃ W0, W0 = w1.alloc (.cells #[.int .u8 0, .slice none 0 0, .slice none 0 0, .slice none 0 0] 28) := ⟨_, rfl⟩
  obtain ⟨W1, hW1⟩ : ∃ W1, W1 = W0.alloc (.cells #[.int .u8 0, .slice none 0 0, .slice none 0 0, .slice none 0 0] 28) := ⟨_, rfl⟩
  obtain ⟨W2, hW2⟩ : ∃ W2, W2 = W1.setCells w1.heap.size 0 [.int .u8 1, .slice pa na ca, .slice none 0 0, .slice none 0 0] := ⟨_, rfl⟩
  obtain ⟨W3, hW3⟩ : ∃ W3, W3 = W2.setCells W0.heap.size 0 [.int .u8 1, .slice pb nb cb, .slice none 0 0, .slice none 0 0] := ⟨_, rfl⟩
  obtain ⟨E3, hth5, hth6⟩ := E1.var2 (D1 := #[.int .u8 1, .slice pa na ca, .slice none 0 0, .slice none 0 0]) (D2 := #[.int .u8 1, .slice pb nb cb, .slice none 0 0, .slice none 0 0]) hW0 hW1 hW2 hW3 rfl rfl
  have h5 := E3.rowAt 1 rfl
  have henc := encode_calls _ _ (leafI a) W3 (E3.node 0 rfl) (Nat.le_refl _) HAB.out.2.2.1
  obtain ⟨S, hS⟩ : ∃ S, S = strOf (encN (leafI a)) := ⟨_, rfl⟩
  obtain ⟨ck, hck⟩ : ∃ ck, ck = checkN (leafI a) := ⟨_, rfl⟩
  rw [← hS, ← hck] at henc
  have HS := Lib.hid (And.intro hS hck)
  have HW0 := Lib.hid hW0
  have HW1 := Lib.hid hW1
  have HW2 := Lib.hid hW2
  have HW3 := Lib.hid hW3
  have HE3 := Lib.hid E3
  clear hbeg hq E1 E3 hW0 hW1 hW2 hW3 HE0 hS hck
  generalize hT5 : w1.heap.size = T5 at *
  generalize hT6 : W0.heap.size = T6 at *
  go_wp2_with (first | (refine wpList_world HW0.out ?_) | (refine wpList_world HW1.out ?_) | (refine wpList_build_eqH rfl 28 [(0, .const (.int .u8 1)), (1, .tmp 22)] rfl #[.int .u8 1, .slice pa na ca, .slice none 0 0, .slice none 0 0] (by exact HBA.out) ?_) | (refine wpList_build_eqH rfl 28 [(0, .const (.int .u8 1)), (1, .tmp 24)] rfl #[.int .u8 1, .slice pb nb cb, .slice none 0 0, .slice none 0 0] (by exact HBB.out) ?_) | (refine wpList_store_mid rfl 28 _ _ rfl T5 0 #[.int .u8 1, .slice pa na ca, .slice none 0 0, .slice none 0 0] rfl rfl hth5 hsx hox ?_; refine wpList_world HW2.out ?_) | (refine wpList_store_mid rfl 28 _ _ rfl T6 0 #[.int .u8 1, .slice pb nb cb, .slice none 0 0, .slice none 0 0] rfl rfl hth6 hsy hoy ?_; refine wpList_world HW3.out ?_) | (refine wpList_load_row rfl 28 _ rfl T5 rfl 28 #[.int .u8 1, .slice pa na ca, .slice none 0 0, .slice none 0 0] (0, 0) _ h5 Tryz.underlying28 rfl hsx ?_))
  refine henc.mono ?_
  rintro e w2 ⟨rfl, hq⟩
  have E := HE3.out.call hq
  have h5 := E.rowAt 1 rfl
  have hcall := put_any _ hv0 _ (leafI a) w2 (heap_nil _ _) (E.node 0 rfl) HAB.out.2.2.1 (by simp [leafI])
  have HE := Lib.hid E
  clear henc hq E HE3 HW0 HW1 HW2 HW3 hth5 hth6
  go_wp2_with (first | (refine wpList_build_eqH rfl 35 [(0, .const (.int .u32 16))] rfl #[.int .u32 16, .slice none 0 0] (by exact HBH.out) ?_) | (refine wpList_load_row rfl 28 _ rfl T5 rfl 28 #[.int .u8 1, .slice pa na ca, .slice none 0 0, .slice none 0 0] (0, 0) _ h5 Tryz.underlying28 rfl hsx ?_))
  refine hcall.mono ?_
  rintro e w3 ⟨z9, p9, m9, c9, kd, x9, rfl, hkw, hyes, _, hq⟩
  obtain ⟨hkd, hx9, ho9⟩ := hyes right0
  rw [(top_put1 a).1, ← HS.out.2] at hx9
  have hx9 := hx9.symm
  subst hx9
  have hr1 := putH_right right0 (leafI_wf a)
  have hhr := ho9.heap hr1
  obtain ⟨KA, hKA⟩ : ∃ KA, KA = kidV kd := ⟨_, rfl⟩
  have hkl : KA.length = 34 := by rw [hKA]; exact kidV_length hkw.2
  have hkone : KA.toArray.all (·.oneCell') = true := by rw [hKA]; exact kidV_one kd
  have hszA := HSZ.out.2.2.1 KA.toArray (by rw [List.size_toArray, hkl])
  have hD2 : KA.toArray.size = ((kidV (kidH 0 zeroH)).toArray : Array Value).size := by rw [List.size_toArray, hkl]; rfl
  rw [← hKA]
  have E := (HE.out.call hq).addH hhr
  obtain ⟨W0, hW0⟩ : ∃ W0, W0 = w3.alloc (.cells #[.int .u32 0, .slice none 0 0] 35) := ⟨_, rfl⟩
  obtain ⟨W1, hW1⟩ : ∃ W1, W1 = W0.alloc (.cells (kidV (kidH 0 zeroH)).toArray 38) := ⟨_, rfl⟩
  obtain ⟨W2, hW2⟩ : ∃ W2, W2 = W1.setCells w3.heap.size 0 [.int .u32 z9, .slice p9 m9 c9] := ⟨_, rfl⟩
  obtain ⟨W3, hW3⟩ : ∃ W3, W3 = W2.setCells W0.heap.size 0 KA := ⟨_, rfl⟩
  obtain ⟨E3, hth9, hth10⟩ := E.var2 (D1 := #[.int .u32 z9, .slice p9 m9 c9]) (D2 := KA.toArray) hW0 hW1 hW2 hW3 rfl hD2
  have hone9 := oneH z9 p9 m9 c9
  have hsz9 := HSZ.out.1 (.int .u32 z9) (.slice p9 m9 c9)
  have h9 := E3.rowAt 1 rfl
  have h6 := E3.rowAt 2 rfl
  have hcall := put_any _ (putH hv0 (leafI a)) _ (leafI b) W3 (E3.heap 0 rfl) (E3.node 1 rfl) HAB.out.2.2.2 (by simp [leafI])
  have HW0 := Lib.hid hW0
  have HW1 := Lib.hid hW1
  have HW2 := Lib.hid hW2
  have HW3 := Lib.hid hW3
  have HE3 := Lib.hid E3
  have HK := Lib.hid (And.intro hKA (And.intro hkw (And.intro hkd hr1)))
  clear hq E E3 hW0 hW1 hW2 hW3 HE hyes ho9 hhr hKA hkw hkd hr1 h5
  generalize hT9 : w3.heap.size = T9 at *
  generalize hT10 : W0.heap.size = T10 at *
  go_wp2_with (first | (refine wpList_world HW0.out ?_) | (refine wpList_world HW1.out ?_) | (refine wpList_store_mid rfl 35 _ _ rfl T9 0 #[.int .u32 z9, .slice p9 m9 c9] rfl rfl hth9 hsz9 hone9 ?_; refine wpList_world HW2.out ?_) | (refine wpList_store_mid rfl 38 _ _ rfl T10 0 KA.toArray rfl rfl hth10 hszA hkone ?_; refine wpList_world HW3.out ?_) | (refine wpList_load_row rfl 35 _ rfl T9 rfl 35 #[.int .u32 z9, .slice p9 m9 c9] (0, 0) _ h9 Tryz.underlying35 rfl hsz9 ?_) | (refine wpList_load_row rfl 28 _ rfl T6 rfl 28 #[.int .u8 1, .slice pb nb cb, .slice none 0 0, .slice none 0 0] (0, 0) _ h6 Tryz.underlying28 rfl hsy ?_))
  refine hcall.mono ?_
  rintro e w4 ⟨z8, p8, m8, c8, ke, x8, rfl, hew, hyes, _, hq⟩
  obtain ⟨hke, hx8, ho8⟩ := hyes HK.out.2.2.2
  have hr2 := putH_right HK.out.2.2.2 (leafI_wf b)
  have hhr := ho8.heap hr2
  obtain ⟨KB, hKB⟩ : ∃ KB, KB = kidV ke := ⟨_, rfl⟩
  have hkl2 : KB.length = 34 := by rw [hKB]; exact kidV_length hew.2
  have hkone2 : KB.toArray.all (·.oneCell') = true := by rw [hKB]; exact kidV_one ke
  have hszB := HSZ.out.2.2.1 KB.toArray (by rw [List.size_toArray, hkl2])
  have hD3 : KB.toArray.size = ((kidV (kidH 0 zeroH)).toArray : Array Value).size := by rw [List.size_toArray, hkl2]; rfl
  rw [← hKB]
  have E := (HE3.out.call hq).addH hhr
  obtain ⟨W4, hW4⟩ : ∃ W4, W4 = w4.alloc (.cells (kidV (kidH 0 zeroH)).toArray 38) := ⟨_, rfl⟩
  obtain ⟨W5, hW5⟩ : ∃ W5, W5 = W4.setCells T9 0 [.int .u32 z8, .slice p8 m8 c8] := ⟨_, rfl⟩
  obtain ⟨W6, hW6⟩ : ∃ W6, W6 = W5.setCells w4.heap.size 0 KB := ⟨_, rfl⟩
  have E4 := E.up.alloc hW4
  have E5 := E4.storeAny (D := #[.int .u32 z8, .slice p8 m8 c8]) 2 rfl rfl (no_text2 _ _ _ _) hW5
  have E6 := E5.store (D := KB.toArray) 0 rfl hD3 (Nat.le_refl _) hW6
  have hth9 : W4.there T9 0 2 := (E4.rowAt 2 rfl).there 0 2 (by simp)
  have hth12 : W5.there w4.heap.size 0 KB.toArray.size := (E5.rowAt 0 rfl).there 0 _ (by rw [hD3]; simp)
  have hone8 := oneH z8 p8 m8 c8
  have hsz8 := HSZ.out.1 (.int .u32 z8) (.slice p8 m8 c8)
  have HW4 := Lib.hid hW4
  have HW5 := Lib.hid hW5
  have HW6 := Lib.hid hW6
  have HE6 := Lib.hid E6
  have HK2 := Lib.hid (And.intro hKB (And.intro hew (And.intro hke (And.intro hr2 hx8))))
  clear hcall hq E E4 E5 E6 hW4 hW5 hW6 HE3 hyes ho8 hhr hKB hew hke hr2 hx8 h9 h6 hth10 HW0 HW1 HW2 HW3
  generalize hT12 : w4.heap.size = T12 at *
  by_cases hz : ck = 0 ∧ x8 = 0
  · obtain ⟨h0, rfl⟩ := hz
    have hca : checkN (leafI a) = 0 := by rw [← HS.out.2]; exact h0
    have hp1 := (top_put1 a).2 hca
    have hG1 : putH hv0 (leafI a) = ⟨16, [cellN 2 (leafI a) 0]⟩ := hp1.2.2
    have hcb : checkN (leafI b) = 0 := by
      have hx := HK2.out.2.2.2.2
      rw [hG1] at hx
      rcases top_put2 a b with q | ⟨q, _⟩
      · rw [← q]; exact hx.symm
      · exact q
    have hkd : kd = ⟨⟨#[]⟩, 2, sha (encN (leafI a))⟩ := by rw [HK.out.2.2.1, hp1.1, hp1.2.1]; rfl
    subst h0
    obtain ⟨Ra, hRa⟩ : ∃ Ra, Ra = sha (encN (leafI a)) := ⟨_, rfl⟩
    have hRl : Ra.length = 32 := by rw [hRa]; exact sha_length _
    have hsum := fun w => shasum_calls S w (by
      rw [HS.out.1]
      rw [strOf_size]
      have h2 := enc_length (leafI a) (leafI_wf a)
      omega)
    rw [show S.data.toList = encN (leafI a) by rw [HS.out.1]; simp [strOf], ← hRa] at hsum
    have HC := Lib.hid (And.intro hca (And.intro hcb (And.intro hG1 (And.intro hkd hRa))))
    clear hca hcb hp1 hG1 hkd hRa
    by_cases hab : a = b
    · subst hab
      have hke : ke = kd := by
        rw [HK2.out.2.2.1, HC.out.2.2.1, (top_same a HC.out.1).1, (top_same a HC.out.1).2, HC.out.2.2.2.1]; rfl
      have hKB : KB = KA := by rw [HK2.out.1, HK.out.1, hke]
      have HKN1 := Lib.hid (show KA[1]? = some (.int .u32 2) by rw [HK.out.1, HC.out.2.2.2.1]; rfl)
      have HKN2 := Lib.hid (show KB[1]? = some (.int .u32 2) by rw [hKB]; exact HKN1.out)
      have HKA2 := Lib.hid (show ∀ (j : Nat) (u : Value), (bytesV Ra)[j]? = some u → KA[2 + j]? = some u from fun j u hj => by
        rw [HK.out.1, kidV_hash, ← hj, HC.out.2.2.2.2, HC.out.2.2.2.1])
      have HSM := Lib.hid (show lEq itemEq a a = true from (lEq_iff itemEq_iff a a).2 rfl)
      have HEQ := Lib.hid (show ∀ w, (binOp .eql 38 (.agg KA.toArray) (.agg KB.toArray)).run Tryz.prog w = .ok (.bool true) w from fun w => by
        have := eql_kid kd kd HK.out.2.1 HK.out.2.1 w
        rw [(kidEq_iff kd kd).2 rfl, ← HK.out.1] at this
        rw [hKB]; exact this)
      clear hke hKB
      obtain ⟨xa, ra, hxa, hka1, hka2⟩ := leaf_first HC.out.1
      obtain ⟨xb, rb, hxb, hkb1, hkb2⟩ := leaf_first HC.out.2.1
      obtain ⟨ba, oa, ca2, hva, hbaX, hca2⟩ := first_key hxa HAB.out.1
      obtain ⟨bb, ob, cb2, hvb, hbbX, hcb2⟩ := first_key hxb HAB.out.2.1
      injection hva with hva1 hva2 hva3
      injection hvb with hvb1 hvb2 hvb3
      subst hva1 hvb1
      have hla : 0 < na := by rw [hva2, hxa]; exact Nat.succ_pos _
      have hlb : 0 < nb := by rw [hvb2, hxb]; exact Nat.succ_pos _
      have HKA1 := Lib.hid (And.intro hca2 (And.intro hcb2 (And.intro hka1 (And.intro hka2 (And.intro hkb1 (And.intro hkb2 (And.intro hbaX hbbX)))))))
      have HXX := Lib.hid (And.intro hxa hxb)
      clear hbaX hbbX hca2 hcb2 hva2 hva3 hvb2 hvb3 hxa hxb hka1 hka2 hkb1 hkb2
      have hS : (fun w' => Below W6.heap.size W6 w' ∧ RowIs w' T12 38 KB.toArray ∧ RowIs w' T10 38 KA.toArray ∧ W6.heap.size ≤ w'.heap.size) W6 := ⟨Below.refl _ _, HE6.out.rowAt 0 rfl, HE6.out.rowAt 1 rfl, Nat.le_refl _⟩
      go_wp2_with (first | (refine wpList_world HW4.out ?_) | (refine wpList_store_mid rfl 35 _ _ rfl T9 0 #[.int .u32 z8, .slice p8 m8 c8] rfl rfl hth9 hsz8 hone8 ?_; refine wpList_world HW5.out ?_) | (refine wpList_store_mid rfl 38 _ _ rfl T12 0 KB.toArray rfl rfl hth12 hszB hkone2 ?_; refine wpList_world HW6.out ?_))
      refine wp_region_held_drew (S := fun w' => Below W6.heap.size W6 w' ∧ RowIs w' T12 38 KB.toArray ∧ RowIs w' T10 38 KA.toArray ∧ W6.heap.size ≤ w'.heap.size) (by kernel_rfl) ⟨hS.1.drew, hS.2.1, hS.2.2.1, hS.2.2.2⟩ (fun hS => ?_)
      generalize W6.drew = wu at *
      refine take_N (i := 0) (v := ?_) (some 58) #[true, false, false, false, false, false, false, false, false, false, false, false, false, false, false, false, false, false, false, false, false, false, false, false, false] rfl rfl (by kernel_rfl) (by kernel_rfl) (by kernel_rfl) (by kernel_rfl) (fun _ _ _ h => h) hS (Or.inl ⟨by rfl, ?_⟩) ?_
      rotate_left
      · intro w_ hSw_; go_simp; try with_reducible rfl
      try simp only [Act.put, List.setIfInBounds_toArray, List.set_cons_zero, List.set_cons_succ]
      refine take_N (i := 1) (v := (.agg (byteCells Ra))) (some 59) #[true, true, false, false, false, false, false, false, false, false, false, false, false, false, false, false, false, false, false, false, false, false, false, false, false] rfl rfl (by kernel_rfl) (by kernel_rfl) (by kernel_rfl) (by kernel_rfl) (fun _ _ _ h => h) hS (Or.inl ⟨by rfl, ?_⟩) ?_
      · intro w_ hSw_; exact exec_load_mid 36 _ (by rfl) T10 2 (by rfl) (bytesV Ra) _ (fun j u hj => by rw [hSw_.2.2.1.cell, List.getElem?_toArray]; exact HKA2.out j u hj) Tryz.underlying36 rfl (by rw [bytesV_len, hRl]; kernel_rfl)
      try simp only [Act.put, List.setIfInBounds_toArray, List.set_cons_zero, List.set_cons_succ]
      refine take_N (i := 2) (v := ?_) (some 60) #[true, true, true, false, false, false, false, false, false, false, false, false, false, false, false, false, false, false, false, false, false, false, false, false, false] rfl rfl (by kernel_rfl) (by kernel_rfl) (by kernel_rfl) (by kernel_rfl) (fun _ _ _ h => h) hS (Or.inl ⟨by rfl, ?_⟩) ?_
      rotate_left
      · intro w_ hSw_; go_simp; try with_reducible rfl
      try simp only [Act.put, List.setIfInBounds_toArray, List.set_cons_zero, List.set_cons_succ]
      refine step_N (i := 3) #[true, true, true, true, false, false, false, false, false, false, false, false, false, false, false, false, false, false, false, false, false, false, false, false, false] rfl (by kernel_rfl) (by kernel_rfl) (fun K hK => ?_)
      rw [if_pos (by rfl)]
      go_simp
      refine (hsum wu).mono ?_
      rintro e wv ⟨rfl, hqq⟩
      replace hS : Below W6.heap.size W6 wv ∧ RowIs wv T12 38 KB.toArray ∧ RowIs wv T10 38 KA.toArray ∧ W6.heap.size ≤ wv.heap.size := ⟨hS.1.trans (hqq.mono hS.2.2.2), hS.2.1.below hqq hS.2.1.lt, hS.2.2.1.below hqq hS.2.2.1.lt, Nat.le_trans hS.2.2.2 hqq.size⟩
      clear hqq
      refine hK.out _ _ hS ?_
      clear hK K
      try simp only [Act.put, List.setIfInBounds_toArray, List.set_cons_zero, List.set_cons_succ]
      refine take_N (i := 4) (v := (.bool false)) (some 62) #[true, true, true, true, true, false, false, false, false, false, false, false, false, false, false, false, false, false, false, false, false, false, false, false, false] rfl rfl (by kernel_rfl) (by kernel_rfl) (by kernel_rfl) (by kernel_rfl) (fun _ _ _ h => h) hS (Or.inl ⟨by rfl, ?_⟩) ?_
      · intro w_ hSw_; exact exec_neq rfl (by rfl) (by rfl) guard_32 (eq_bytesT Ra _ hRl)
      try simp only [Act.put, List.setIfInBounds_toArray, List.set_cons_zero, List.set_cons_succ]
      refine take_N (i := 5) (v := ?_) (some 63) #[true, true, true, true, true, true, false, false, false, false, false, false, false, false, false, false, false, false, false, false, false, false, false, false, false] rfl rfl (by kernel_rfl) (by kernel_rfl) (by kernel_rfl) (by kernel_rfl) (fun _ _ _ h => h) hS (Or.inl ⟨by rfl, ?_⟩) ?_
      rotate_left
      · intro w_ hSw_; go_simp; try with_reducible rfl
      try simp only [Act.put, List.setIfInBounds_toArray, List.set_cons_zero, List.set_cons_succ]
      refine take_N (i := 6) (v := ?_) (some 64) #[true, true, true, true, true, true, true, false, false, false, false, false, false, false, false, false, false, false, false, false, false, false, false, false, false] rfl rfl (by kernel_rfl) (by kernel_rfl) (by kernel_rfl) (by kernel_rfl) (fun _ _ _ h => h) hS (Or.inl ⟨by rfl, ?_⟩) ?_
      rotate_left
      · intro w_ hSw_; go_simp; try with_reducible rfl
      try simp only [Act.put, List.setIfInBounds_toArray, List.set_cons_zero, List.set_cons_succ]
      refine take_N (i := 7) (v := (.int .u32 2)) (some 65) #[true, true, true, true, true, true, true, true, false, false, false, false, false, false, false, false, false, false, false, false, false, false, false, false, false] rfl rfl (by kernel_rfl) (by kernel_rfl) (by kernel_rfl) (by kernel_rfl) (fun _ _ _ h => h) hS (Or.inl ⟨by rfl, ?_⟩) ?_
      · intro w_ hSw_; exact by have c := hSw_.2.2.1.cell 1; rw [List.getElem?_toArray] at c; rw [HKN1.out] at c; go_simp; try with_reducible rfl
      try simp only [Act.put, List.setIfInBounds_toArray, List.set_cons_zero, List.set_cons_succ]
      refine take_N (i := 8) (v := ?_) (some 66) #[true, true, true, true, true, true, true, true, true, false, false, false, false, false, false, false, false, false, false, false, false, false, false, false, false] rfl rfl (by kernel_rfl) (by kernel_rfl) (by kernel_rfl) (by kernel_rfl) (fun _ _ _ h => h) hS (Or.inl ⟨by rfl, ?_⟩) ?_
      rotate_left
      · intro w_ hSw_; go_simp; try with_reducible rfl
      try simp only [Act.put, List.setIfInBounds_toArray, List.set_cons_zero, List.set_cons_succ]
      refine take_N (i := 9) (v := (.int .u32 2)) (some 67) #[true, true, true, true, true, true, true, true, true, true, false, false, false, false, false, false, false, false, false, false, false, false, false, false, false] rfl rfl (by kernel_rfl) (by kernel_rfl) (by kernel_rfl) (by kernel_rfl) (fun _ _ _ h => h) hS (Or.inl ⟨by rfl, ?_⟩) ?_
      · intro w_ hSw_; exact by have c := hSw_.2.1.cell 1; rw [List.getElem?_toArray] at c; rw [HKN2.out] at c; go_simp; try with_reducible rfl
      try simp only [Act.put, List.setIfInBounds_toArray, List.set_cons_zero, List.set_cons_succ]
      refine take_N (i := 10) (v := ?_) (some 68) #[true, true, true, true, true, true, true, true, true, true, true, false, false, false, false, false, false, false, false, false, false, false, false, false, false] rfl rfl (by kernel_rfl) (by kernel_rfl) (by kernel_rfl) (by kernel_rfl) (fun _ _ _ h => h) hS (Or.inl ⟨by rfl, ?_⟩) ?_
      rotate_left
      · intro w_ hSw_; go_simp; try with_reducible rfl
      try simp only [Act.put, List.setIfInBounds_toArray, List.set_cons_zero, List.set_cons_succ]
      refine take_N (i := 11) (v := ?_) (some 69) #[true, true, true, true, true, true, true, true, true, true, true, true, false, false, false, false, false, false, false, false, false, false, false, false, false] rfl rfl (by kernel_rfl) (by kernel_rfl) (by kernel_rfl) (by kernel_rfl) (fun _ _ _ h => h) hS (Or.inl ⟨by rfl, ?_⟩) ?_
      rotate_left
      · intro w_ hSw_; go_simp; try with_reducible rfl
      try simp only [Act.put, List.setIfInBounds_toArray, List.set_cons_zero, List.set_cons_succ]
      refine take_N (i := 12) (v := ?_) (some 70) #[true, true, true, true, true, true, true, true, true, true, true, true, true, false, false, false, false, false, false, false, false, false, false, false, false] rfl rfl (by kernel_rfl) (by kernel_rfl) (by kernel_rfl) (by kernel_rfl) (fun _ _ _ h => h) hS (Or.inl ⟨by rfl, ?_⟩) ?_
      rotate_left
      · intro w_ hSw_; go_simp; try with_reducible rfl
      try simp only [Act.put, List.setIfInBounds_toArray, List.set_cons_zero, List.set_cons_succ]
      refine step_N (i := 13) #[true, true, true, true, true, true, true, true, true, true, true, true, true, true, false, false, false, false, false, false, false, false, false, false, false] rfl (by kernel_rfl) (by kernel_rfl) (fun K hK => ?_)
      rw [if_pos (by rfl)]
      go_simp
      refine (topSame_calls X _ _ a a wv (HAB.out.1.below (HE6.out.call hS.1).below (Nat.le_refl _)) (HAB.out.2.1.below (HE6.out.call hS.1).below (Nat.le_refl _))).mono ?_
      rintro e wy ⟨rfl, nn, rfl⟩
      rw [HSM.out]
      replace hS : Below W6.heap.size W6 (wv.drewN nn) ∧ RowIs (wv.drewN nn) T12 38 KB.toArray ∧ RowIs (wv.drewN nn) T10 38 KA.toArray ∧ W6.heap.size ≤ (wv.drewN nn).heap.size := ⟨below_drewN hS.1 _, hS.2.1, hS.2.2.1, hS.2.2.2⟩
      generalize wv.drewN nn = wy at *
      refine hK.out _ _ hS ?_
      clear hK K
      try simp only [Act.put, List.setIfInBounds_toArray, List.set_cons_zero, List.set_cons_succ]
      refine take_N (i := 14) (v := ?_) (some 72) #[true, true, true, true, true, true, true, true, true, true, true, true, true, true, true, false, false, false, false, false, false, false, false, false, false] rfl rfl (by kernel_rfl) (by kernel_rfl) (by kernel_rfl) (by kernel_rfl) (fun _ _ _ h => h) hS (Or.inl ⟨by rfl, ?_⟩) ?_
      rotate_left
      · intro w_ hSw_; go_simp; try with_reducible rfl
      try simp only [Act.put, List.setIfInBounds_toArray, List.set_cons_zero, List.set_cons_succ]
      refine take_N (i := 15) (v := ?_) (some 73) #[true, true, true, true, true, true, true, true, true, true, true, true, true, true, true, true, false, false, false, false, false, false, false, false, false] rfl rfl (by kernel_rfl) (by kernel_rfl) (by kernel_rfl) (by kernel_rfl) (fun _ _ _ h => h) hS (Or.inl ⟨by rfl, ?_⟩) ?_
      rotate_left
      · intro w_ hSw_; go_simp; try with_reducible rfl
      try simp only [Act.put, List.setIfInBounds_toArray, List.set_cons_zero, List.set_cons_succ]
      refine take_N (i := 16) (v := ?_) (some 74) #[true, true, true, true, true, true, true, true, true, true, true, true, true, true, true, true, true, false, false, false, false, false, false, false, false] rfl rfl (by kernel_rfl) (by kernel_rfl) (by kernel_rfl) (by kernel_rfl) (fun _ _ _ h => h) hS (Or.inl ⟨by rfl, ?_⟩) ?_
      rotate_left
      · intro w_ hSw_; go_simp; try with_reducible rfl
      try simp only [Act.put, List.setIfInBounds_toArray, List.set_cons_zero, List.set_cons_succ]
      refine take_N (i := 17) (v := (.agg KA.toArray)) (some 75) #[true, true, true, true, true, true, true, true, true, true, true, true, true, true, true, true, true, true, false, false, false, false, false, false, false] rfl rfl (by kernel_rfl) (by kernel_rfl) (by kernel_rfl) (by kernel_rfl) (fun _ _ _ h => h) hS (Or.inl ⟨by rfl, ?_⟩) ?_
      · intro w_ hSw_; exact exec_load_row 38 _ (by rfl) T10 (by rfl) 38 KA.toArray (0, 0) _ hSw_.2.2.1 Tryz.underlying38 rfl hszA
      try simp only [Act.put, List.setIfInBounds_toArray, List.set_cons_zero, List.set_cons_succ]
      refine take_N (i := 18) (v := (.agg KB.toArray)) (some 76) #[true, true, true, true, true, true, true, true, true, true, true, true, true, true, true, true, true, true, true, false, false, false, false, false, false] rfl rfl (by kernel_rfl) (by kernel_rfl) (by kernel_rfl) (by kernel_rfl) (fun _ _ _ h => h) hS (Or.inl ⟨by rfl, ?_⟩) ?_
      · intro w_ hSw_; exact exec_load_row 38 _ (by rfl) T12 (by rfl) 38 KB.toArray (0, 0) _ hSw_.2.1 Tryz.underlying38 rfl hszB
      try simp only [Act.put, List.setIfInBounds_toArray, List.set_cons_zero, List.set_cons_succ]
      refine take_N (i := 19) (v := (.bool true)) (some 77) #[true, true, true, true, true, true, true, true, true, true, true, true, true, true, true, true, true, true, true, true, false, false, false, false, false] rfl rfl (by kernel_rfl) (by kernel_rfl) (by kernel_rfl) (by kernel_rfl) (fun _ _ _ h => h) hS (Or.inl ⟨by rfl, ?_⟩) ?_
      · intro w_ hSw_; exact exec_eqlH rfl (by rfl) (by rfl) guard_kid (HEQ.out _)
      try simp only [Act.put, List.setIfInBounds_toArray, List.set_cons_zero, List.set_cons_succ]
      refine take_N (i := 20) (v := ?_) (some 78) #[true, true, true, true, true, true, true, true, true, true, true, true, true, true, true, true, true, true, true, true, true, false, false, false, false] rfl rfl (by kernel_rfl) (by kernel_rfl) (by kernel_rfl) (by kernel_rfl) (fun _ _ _ h => h) hS (Or.inl ⟨by rfl, ?_⟩) ?_
      rotate_left
      · intro w_ hSw_; go_simp; try with_reducible rfl
      try simp only [Act.put, List.setIfInBounds_toArray, List.set_cons_zero, List.set_cons_succ]
      refine take_N (i := 21) (v := ?_) (some 79) #[true, true, true, true, true, true, true, true, true, true, true, true, true, true, true, true, true, true, true, true, true, true, false, false, false] rfl rfl (by kernel_rfl) (by kernel_rfl) (by kernel_rfl) (by kernel_rfl) (fun _ _ _ h => h) hS (Or.inl ⟨by rfl, ?_⟩) ?_
      rotate_left
      · intro w_ hSw_; go_simp; try with_reducible rfl
      try simp only [Act.put, List.setIfInBounds_toArray, List.set_cons_zero, List.set_cons_succ]
      refine step_N (i := 22) #[true, true, true, true, true, true, true, true, true, true, true, true, true, true, true, true, true, true, true, true, true, true, true, false, false] rfl (by kernel_rfl) (by kernel_rfl) (fun K hK => ?_)
      rw [if_pos (by rfl)]
      go_simp
      refine (topSame_calls X _ _ a a wy (HAB.out.1.below (HE6.out.call hS.1).below (Nat.le_refl _)) (HAB.out.2.1.below (HE6.out.call hS.1).below (Nat.le_refl _))).mono ?_
      rintro e wz ⟨rfl, nn, rfl⟩
      rw [HSM.out]
      replace hS : Below W6.heap.size W6 (wy.drewN nn) ∧ RowIs (wy.drewN nn) T12 38 KB.toArray ∧ RowIs (wy.drewN nn) T10 38 KA.toArray ∧ W6.heap.size ≤ (wy.drewN nn).heap.size := ⟨below_drewN hS.1 _, hS.2.1, hS.2.2.1, hS.2.2.2⟩
      generalize wy.drewN nn = wz at *
      refine hK.out _ _ hS ?_
      clear hK K
      try simp only [Act.put, List.setIfInBounds_toArray, List.set_cons_zero, List.set_cons_succ]
      refine take_N (i := 23) (v := ?_) (some 81) #[true, true, true, true, true, true, true, true, true, true, true, true, true, true, true, true, true, true, true, true, true, true, true, true, false] rfl rfl (by kernel_rfl) (by kernel_rfl) (by kernel_rfl) (by kernel_rfl) (fun _ _ _ h => h) hS (Or.inl ⟨by rfl, ?_⟩) ?_
      rotate_left
      · intro w_ hSw_; go_simp; try with_reducible rfl
      try simp only [Act.put, List.setIfInBounds_toArray, List.set_cons_zero, List.set_cons_succ]
      refine take_N (i := 24) (v := ?_) (some 82) #[true, true, true, true, true, true, true, true, true, true, true, true, true, true, true, true, true, true, true, true, true, true, true, true, true] rfl rfl (by kernel_rfl) (by kernel_rfl) (by kernel_rfl) (by kernel_rfl) (fun _ _ _ h => h) hS (Or.inl ⟨by rfl, ?_⟩) ?_
      rotate_left
      · intro w_ hSw_; go_simp; try with_reducible rfl
      try simp only [Act.put, List.setIfInBounds_toArray, List.set_cons_zero, List.set_cons_succ]
      refine wpAnyH_done (by kernel_rfl) ?_ _
      have hla1 : (0 : Int) < (na : Int) := by omega
      have hlb1 : (0 : Int) < (nb : Int) := by omega
      have ck1 := HKA1.out.1 wz (HE6.out.call hS.1).below
      have ck2 := HKA1.out.2.1 wz (HE6.out.call hS.1).below
      have hxx : xb = xa := by have q := HXX.out.2; rw [HXX.out.1] at q; injection q with q1 _; exact q1.symm
      rw [hxx] at ck2
      have hless : Op.bytesLess xa.key.toList xa.key.toList = false := by
        have := less_total xa.key.toList xa.key.toList
        simpa using this
      have HF := Lib.hid (HE6.out.call hS.1).below
      clear hsum hS HKA1 hxx
      go_wp2_with fail
      go_quiet (fail)
      go_wp2_with fail
      go_ret
      exact ⟨rfl, below_drewN HF.out _⟩
    · have hne : a ≠ b := hab
      have hap := top_apart a b HC.out.1 HC.out.2.1 hab
      have hke : ke = ⟨⟨#[]⟩, 3, sha (encN (leafI b))⟩ := by
        rw [HK2.out.2.2.1, HC.out.2.2.1, hap.1, hap.2.1]; rfl
      have HKN1 := Lib.hid (show KA[1]? = some (.int .u32 2) by rw [HK.out.1, HC.out.2.2.2.1]; rfl)
      have HKN2 := Lib.hid (show KB[1]? = some (.int .u32 3) by rw [HK2.out.1, hke]; rfl)
      have HKA2 := Lib.hid (show ∀ (j : Nat) (u : Value), (bytesV Ra)[j]? = some u → KA[2 + j]? = some u from fun j u hj => by
        rw [HK.out.1, kidV_hash, ← hj, HC.out.2.2.2.2, HC.out.2.2.2.1])
      have HSM := Lib.hid (show lEq itemEq a b = false from Bool.eq_false_iff.2 (fun q => hab ((lEq_iff itemEq_iff a b).1 q)))
      have HEQ := Lib.hid (show ∀ w, (binOp .eql 38 (.agg KA.toArray) (.agg KB.toArray)).run Tryz.prog w = .ok (.bool false) w from fun w => by
        have := eql_kid kd ke HK.out.2.1 HK2.out.2.1 w
        rw [show kidEq kd ke = false from by rw [HC.out.2.2.2.1, hke]; unfold kidEq; rw [show decide ((2 : Nat) = 3) = false from rfl, Bool.false_and, Bool.and_false], ← HK.out.1, ← HK2.out.1] at this
        exact this)
      have HH := Lib.hid (And.intro hap.2.2 hke)
      clear hap hke hne
      obtain ⟨xa, ra, hxa, hka1, hka2⟩ := leaf_first HC.out.1
      obtain ⟨xb, rb, hxb, hkb1, hkb2⟩ := leaf_first HC.out.2.1
      obtain ⟨ba, oa, ca2, hva, hbaX, hca2⟩ := first_key hxa HAB.out.1
      obtain ⟨bb, ob, cb2, hvb, hbbX, hcb2⟩ := first_key hxb HAB.out.2.1
      injection hva with hva1 hva2 hva3
      injection hvb with hvb1 hvb2 hvb3
      subst hva1 hvb1
      have hla : 0 < na := by rw [hva2, hxa]; exact Nat.succ_pos _
      have hlb : 0 < nb := by rw [hvb2, hxb]; exact Nat.succ_pos _
      have HKA1 := Lib.hid (And.intro hca2 (And.intro hcb2 (And.intro hka1 (And.intro hka2 (And.intro hkb1 (And.intro hkb2 (And.intro hbaX hbbX)))))))
      have HXX := Lib.hid (And.intro hxa hxb)
      clear hbaX hbbX hca2 hcb2 hva2 hva3 hvb2 hvb3 hxa hxb hka1 hka2 hkb1 hkb2
      have hS : (fun w' => Below W6.heap.size W6 w' ∧ RowIs w' T12 38 KB.toArray ∧ RowIs w' T10 38 KA.toArray ∧ W6.heap.size ≤ w'.heap.size) W6 := ⟨Below.refl _ _, HE6.out.rowAt 0 rfl, HE6.out.rowAt 1 rfl, Nat.le_refl _⟩
      go_wp2_with (first | (refine wpList_world HW4.out ?_) | (refine wpList_store_mid rfl 35 _ _ rfl T9 0 #[.int .u32 z8, .slice p8 m8 c8] rfl rfl hth9 hsz8 hone8 ?_; refine wpList_world HW5.out ?_) | (refine wpList_store_mid rfl 38 _ _ rfl T12 0 KB.toArray rfl rfl hth12 hszB hkone2 ?_; refine wpList_world HW6.out ?_))
      refine wp_region_held_drew (S := fun w' => Below W6.heap.size W6 w' ∧ RowIs w' T12 38 KB.toArray ∧ RowIs w' T10 38 KA.toArray ∧ W6.heap.size ≤ w'.heap.size) (by kernel_rfl) ⟨hS.1.drew, hS.2.1, hS.2.2.1, hS.2.2.2⟩ (fun hS => ?_)
      generalize W6.drew = wu at *
      refine take_N (i := 0) (v := ?_) (some 58) #[true, false, false, false, false, false, false, false, false, false, false, false, false, false, false, false, false, false, false, false, false, false, false, false, false] rfl rfl (by kernel_rfl) (by kernel_rfl) (by kernel_rfl) (by kernel_rfl) (fun _ _ _ h => h) hS (Or.inl ⟨by rfl, ?_⟩) ?_
      rotate_left
      · intro w_ hSw_; go_simp; try with_reducible rfl
      try simp only [Act.put, List.setIfInBounds_toArray, List.set_cons_zero, List.set_cons_succ]
      refine take_N (i := 1) (v := (.agg (byteCells Ra))) (some 59) #[true, true, false, false, false, false, false, false, false, false, false, false, false, false, false, false, false, false, false, false, false, false, false, false, false] rfl rfl (by kernel_rfl) (by kernel_rfl) (by kernel_rfl) (by kernel_rfl) (fun _ _ _ h => h) hS (Or.inl ⟨by rfl, ?_⟩) ?_
      · intro w_ hSw_; exact exec_load_mid 36 _ (by rfl) T10 2 (by rfl) (bytesV Ra) _ (fun j u hj => by rw [hSw_.2.2.1.cell, List.getElem?_toArray]; exact HKA2.out j u hj) Tryz.underlying36 rfl (by rw [bytesV_len, hRl]; kernel_rfl)
      try simp only [Act.put, List.setIfInBounds_toArray, List.set_cons_zero, List.set_cons_succ]
      refine take_N (i := 2) (v := ?_) (some 60) #[true, true, true, false, false, false, false, false, false, false, false, false, false, false, false, false, false, false, false, false, false, false, false, false, false] rfl rfl (by kernel_rfl) (by kernel_rfl) (by kernel_rfl) (by kernel_rfl) (fun _ _ _ h => h) hS (Or.inl ⟨by rfl, ?_⟩) ?_
      rotate_left
      · intro w_ hSw_; go_simp; try with_reducible rfl
      try simp only [Act.put, List.setIfInBounds_toArray, List.set_cons_zero, List.set_cons_succ]
      refine step_N (i := 3) #[true, true, true, true, false, false, false, false, false, false, false, false, false, false, false, false, false, false, false, false, false, false, false, false, false] rfl (by kernel_rfl) (by kernel_rfl) (fun K hK => ?_)
      rw [if_pos (by rfl)]
      go_simp
      refine (hsum wu).mono ?_
      rintro e wv ⟨rfl, hqq⟩
      replace hS : Below W6.heap.size W6 wv ∧ RowIs wv T12 38 KB.toArray ∧ RowIs wv T10 38 KA.toArray ∧ W6.heap.size ≤ wv.heap.size := ⟨hS.1.trans (hqq.mono hS.2.2.2), hS.2.1.below hqq hS.2.1.lt, hS.2.2.1.below hqq hS.2.2.1.lt, Nat.le_trans hS.2.2.2 hqq.size⟩
      clear hqq
      refine hK.out _ _ hS ?_
      clear hK K
      try simp only [Act.put, List.setIfInBounds_toArray, List.set_cons_zero, List.set_cons_succ]
      refine take_N (i := 4) (v := (.bool false)) (some 62) #[true, true, true, true, true, false, false, false, false, false, false, false, false, false, false, false, false, false, false, false, false, false, false, false, false] rfl rfl (by kernel_rfl) (by kernel_rfl) (by kernel_rfl) (by kernel_rfl) (fun _ _ _ h => h) hS (Or.inl ⟨by rfl, ?_⟩) ?_
      · intro w_ hSw_; exact exec_neq rfl (by rfl) (by rfl) guard_32 (eq_bytesT Ra _ hRl)
      try simp only [Act.put, List.setIfInBounds_toArray, List.set_cons_zero, List.set_cons_succ]
      refine take_N (i := 5) (v := ?_) (some 63) #[true, true, true, true, true, true, false, false, false, false, false, false, false, false, false, false, false, false, false, false, false, false, false, false, false] rfl rfl (by kernel_rfl) (by kernel_rfl) (by kernel_rfl) (by kernel_rfl) (fun _ _ _ h => h) hS (Or.inl ⟨by rfl, ?_⟩) ?_
      rotate_left
      · intro w_ hSw_; go_simp; try with_reducible rfl
      try simp only [Act.put, List.setIfInBounds_toArray, List.set_cons_zero, List.set_cons_succ]
      refine take_N (i := 6) (v := ?_) (some 64) #[true, true, true, true, true, true, true, false, false, false, false, false, false, false, false, false, false, false, false, false, false, false, false, false, false] rfl rfl (by kernel_rfl) (by kernel_rfl) (by kernel_rfl) (by kernel_rfl) (fun _ _ _ h => h) hS (Or.inl ⟨by rfl, ?_⟩) ?_
      rotate_left
      · intro w_ hSw_; go_simp; try with_reducible rfl
      try simp only [Act.put, List.setIfInBounds_toArray, List.set_cons_zero, List.set_cons_succ]
      refine take_N (i := 7) (v := (.int .u32 2)) (some 65) #[true, true, true, true, true, true, true, true, false, false, false, false, false, false, false, false, false, false, false, false, false, false, false, false, false] rfl rfl (by kernel_rfl) (by kernel_rfl) (by kernel_rfl) (by kernel_rfl) (fun _ _ _ h => h) hS (Or.inl ⟨by rfl, ?_⟩) ?_
      · intro w_ hSw_; exact by have c := hSw_.2.2.1.cell 1; rw [List.getElem?_toArray] at c; rw [HKN1.out] at c; go_simp; try with_reducible rfl
      try simp only [Act.put, List.setIfInBounds_toArray, List.set_cons_zero, List.set_cons_succ]
      refine take_N (i := 8) (v := ?_) (some 66) #[true, true, true, true, true, true, true, true, true, false, false, false, false, false, false, false, false, false, false, false, false, false, false, false, false] rfl rfl (by kernel_rfl) (by kernel_rfl) (by kernel_rfl) (by kernel_rfl) (fun _ _ _ h => h) hS (Or.inl ⟨by rfl, ?_⟩) ?_
      rotate_left
      · intro w_ hSw_; go_simp; try with_reducible rfl
      try simp only [Act.put, List.setIfInBounds_toArray, List.set_cons_zero, List.set_cons_succ]
      refine take_N (i := 9) (v := (.int .u32 3)) (some 67) #[true, true, true, true, true, true, true, true, true, true, false, false, false, false, false, false, false, false, false, false, false, false, false, false, false] rfl rfl (by kernel_rfl) (by kernel_rfl) (by kernel_rfl) (by kernel_rfl) (fun _ _ _ h => h) hS (Or.inl ⟨by rfl, ?_⟩) ?_
      · intro w_ hSw_; exact by have c := hSw_.2.1.cell 1; rw [List.getElem?_toArray] at c; rw [HKN2.out] at c; go_simp; try with_reducible rfl
      try simp only [Act.put, List.setIfInBounds_toArray, List.set_cons_zero, List.set_cons_succ]
      refine take_N (i := 10) (v := ?_) (some 68) #[true, true, true, true, true, true, true, true, true, true, true, false, false, false, false, false, false, false, false, false, false, false, false, false, false] rfl rfl (by kernel_rfl) (by kernel_rfl) (by kernel_rfl) (by kernel_rfl) (fun _ _ _ h => h) hS (Or.inl ⟨by rfl, ?_⟩) ?_
      rotate_left
      · intro w_ hSw_; go_simp; try with_reducible rfl
      try simp only [Act.put, List.setIfInBounds_toArray, List.set_cons_zero, List.set_cons_succ]
      refine take_N (i := 11) (v := ?_) (some 69) #[true, true, true, true, true, true, true, true, true, true, true, true, false, false, false, false, false, false, false, false, false, false, false, false, false] rfl rfl (by kernel_rfl) (by kernel_rfl) (by kernel_rfl) (by kernel_rfl) (fun _ _ _ h => h) hS (Or.inl ⟨by rfl, ?_⟩) ?_
      rotate_left
      · intro w_ hSw_; go_simp; try with_reducible rfl
      try simp only [Act.put, List.setIfInBounds_toArray, List.set_cons_zero, List.set_cons_succ]
      refine take_N (i := 12) (v := ?_) (some 70) #[true, true, true, true, true, true, true, true, true, true, true, true, true, false, false, false, false, false, false, false, false, false, false, false, false] rfl rfl (by kernel_rfl) (by kernel_rfl) (by kernel_rfl) (by kernel_rfl) (fun _ _ _ h => h) hS (Or.inl ⟨by rfl, ?_⟩) ?_
      rotate_left
      · intro w_ hSw_; go_simp; try with_reducible rfl
      try simp only [Act.put, List.setIfInBounds_toArray, List.set_cons_zero, List.set_cons_succ]
      refine step_N (i := 13) #[true, true, true, true, true, true, true, true, true, true, true, true, true, true, false, false, false, false, false, false, false, false, false, false, false] rfl (by kernel_rfl) (by kernel_rfl) (fun K hK => ?_)
      rw [if_pos (by rfl)]
      go_simp
      refine (topSame_calls X _ _ a b wv (HAB.out.1.below (HE6.out.call hS.1).below (Nat.le_refl _)) (HAB.out.2.1.below (HE6.out.call hS.1).below (Nat.le_refl _))).mono ?_
      rintro e wy ⟨rfl, nn, rfl⟩
      rw [HSM.out]
      replace hS : Below W6.heap.size W6 (wv.drewN nn) ∧ RowIs (wv.drewN nn) T12 38 KB.toArray ∧ RowIs (wv.drewN nn) T10 38 KA.toArray ∧ W6.heap.size ≤ (wv.drewN nn).heap.size := ⟨below_drewN hS.1 _, hS.2.1, hS.2.2.1, hS.2.2.2⟩
      generalize wv.drewN nn = wy at *
      refine hK.out _ _ hS ?_
      clear hK K
      try simp only [Act.put, List.setIfInBounds_toArray, List.set_cons_zero, List.set_cons_succ]
      refine take_N (i := 14) (v := ?_) (some 72) #[true, true, true, true, true, true, true, true, true, true, true, true, true, true, true, false, false, false, false, false, false, false, false, false, false] rfl rfl (by kernel_rfl) (by kernel_rfl) (by kernel_rfl) (by kernel_rfl) (fun _ _ _ h => h) hS (Or.inl ⟨by rfl, ?_⟩) ?_
      rotate_left
      · intro w_ hSw_; go_simp; try with_reducible rfl
      try simp only [Act.put, List.setIfInBounds_toArray, List.set_cons_zero, List.set_cons_succ]
      refine take_N (i := 15) (v := ?_) (some 73) #[true, true, true, true, true, true, true, true, true, true, true, true, true, true, true, true, false, false, false, false, false, false, false, false, false] rfl rfl (by kernel_rfl) (by kernel_rfl) (by kernel_rfl) (by kernel_rfl) (fun _ _ _ h => h) hS (Or.inl ⟨by rfl, ?_⟩) ?_
      rotate_left
      · intro w_ hSw_; go_simp; try with_reducible rfl
      try simp only [Act.put, List.setIfInBounds_toArray, List.set_cons_zero, List.set_cons_succ]
      refine take_N (i := 16) (v := ?_) (some 74) #[true, true, true, true, true, true, true, true, true, true, true, true, true, true, true, true, true, false, false, false, false, false, false, false, false] rfl rfl (by kernel_rfl) (by kernel_rfl) (by kernel_rfl) (by kernel_rfl) (fun _ _ _ h => h) hS (Or.inl ⟨by rfl, ?_⟩) ?_
      rotate_left
      · intro w_ hSw_; go_simp; try with_reducible rfl
      try simp only [Act.put, List.setIfInBounds_toArray, List.set_cons_zero, List.set_cons_succ]
      refine take_N (i := 17) (v := (.agg KA.toArray)) (some 75) #[true, true, true, true, true, true, true, true, true, true, true, true, true, true, true, true, true, true, false, false, false, false, false, false, false] rfl rfl (by kernel_rfl) (by kernel_rfl) (by kernel_rfl) (by kernel_rfl) (fun _ _ _ h => h) hS (Or.inl ⟨by rfl, ?_⟩) ?_
      · intro w_ hSw_; exact exec_load_row 38 _ (by rfl) T10 (by rfl) 38 KA.toArray (0, 0) _ hSw_.2.2.1 Tryz.underlying38 rfl hszA
      try simp only [Act.put, List.setIfInBounds_toArray, List.set_cons_zero, List.set_cons_succ]
      refine take_N (i := 18) (v := (.agg KB.toArray)) (some 76) #[true, true, true, true, true, true, true, true, true, true, true, true, true, true, true, true, true, true, true, false, false, false, false, false, false] rfl rfl (by kernel_rfl) (by kernel_rfl) (by kernel_rfl) (by kernel_rfl) (fun _ _ _ h => h) hS (Or.inl ⟨by rfl, ?_⟩) ?_
      · intro w_ hSw_; exact exec_load_row 38 _ (by rfl) T12 (by rfl) 38 KB.toArray (0, 0) _ hSw_.2.1 Tryz.underlying38 rfl hszB
      try simp only [Act.put, List.setIfInBounds_toArray, List.set_cons_zero, List.set_cons_succ]
      refine take_N (i := 19) (v := (.bool false)) (some 77) #[true, true, true, true, true, true, true, true, true, true, true, true, true, true, true, true, true, true, true, true, false, false, false, false, false] rfl rfl (by kernel_rfl) (by kernel_rfl) (by kernel_rfl) (by kernel_rfl) (fun _ _ _ h => h) hS (Or.inl ⟨by rfl, ?_⟩) ?_
      · intro w_ hSw_; exact exec_eqlH rfl (by rfl) (by rfl) guard_kid (HEQ.out _)
      try simp only [Act.put, List.setIfInBounds_toArray, List.set_cons_zero, List.set_cons_succ]
      refine take_N (i := 20) (v := ?_) (some 78) #[true, true, true, true, true, true, true, true, true, true, true, true, true, true, true, true, true, true, true, true, true, false, false, false, false] rfl rfl (by kernel_rfl) (by kernel_rfl) (by kernel_rfl) (by kernel_rfl) (fun _ _ _ h => h) hS (Or.inl ⟨by rfl, ?_⟩) ?_
      rotate_left
      · intro w_ hSw_; go_simp; try with_reducible rfl
      try simp only [Act.put, List.setIfInBounds_toArray, List.set_cons_zero, List.set_cons_succ]
      refine take_N (i := 21) (v := ?_) (some 79) #[true, true, true, true, true, true, true, true, true, true, true, true, true, true, true, true, true, true, true, true, true, true, false, false, false] rfl rfl (by kernel_rfl) (by kernel_rfl) (by kernel_rfl) (by kernel_rfl) (fun _ _ _ h => h) hS (Or.inl ⟨by rfl, ?_⟩) ?_
      rotate_left
      · intro w_ hSw_; go_simp; try with_reducible rfl
      try simp only [Act.put, List.setIfInBounds_toArray, List.set_cons_zero, List.set_cons_succ]
      refine step_N (i := 22) #[true, true, true, true, true, true, true, true, true, true, true, true, true, true, true, true, true, true, true, true, true, true, true, false, false] rfl (by kernel_rfl) (by kernel_rfl) (fun K hK => ?_)
      rw [if_pos (by rfl)]
      go_simp
      refine (topSame_calls X _ _ a b wy (HAB.out.1.below (HE6.out.call hS.1).below (Nat.le_refl _)) (HAB.out.2.1.below (HE6.out.call hS.1).below (Nat.le_refl _))).mono ?_
      rintro e wz ⟨rfl, nn, rfl⟩
      rw [HSM.out]
      replace hS : Below W6.heap.size W6 (wy.drewN nn) ∧ RowIs (wy.drewN nn) T12 38 KB.toArray ∧ RowIs (wy.drewN nn) T10 38 KA.toArray ∧ W6.heap.size ≤ (wy.drewN nn).heap.size := ⟨below_drewN hS.1 _, hS.2.1, hS.2.2.1, hS.2.2.2⟩
      generalize wy.drewN nn = wz at *
      refine hK.out _ _ hS ?_
      clear hK K
      try simp only [Act.put, List.setIfInBounds_toArray, List.set_cons_zero, List.set_cons_succ]
      refine take_N (i := 23) (v := ?_) (some 81) #[true, true, true, true, true, true, true, true, true, true, true, true, true, true, true, true, true, true, true, true, true, true, true, true, false] rfl rfl (by kernel_rfl) (by kernel_rfl) (by kernel_rfl) (by kernel_rfl) (fun _ _ _ h => h) hS (Or.inl ⟨by rfl, ?_⟩) ?_
      rotate_left
      · intro w_ hSw_; go_simp; try with_reducible rfl
      try simp only [Act.put, List.setIfInBounds_toArray, List.set_cons_zero, List.set_cons_succ]
      refine take_N (i := 24) (v := ?_) (some 82) #[true, true, true, true, true, true, true, true, true, true, true, true, true, true, true, true, true, true, true, true, true, true, true, true, true] rfl rfl (by kernel_rfl) (by kernel_rfl) (by kernel_rfl) (by kernel_rfl) (fun _ _ _ h => h) hS (Or.inl ⟨by rfl, ?_⟩) ?_
      rotate_left
      · intro w_ hSw_; go_simp; try with_reducible rfl
      try simp only [Act.put, List.setIfInBounds_toArray, List.set_cons_zero, List.set_cons_succ]
      refine wpAnyH_done (by kernel_rfl) ?_ _
      have hla1 : (0 : Int) < (na : Int) := by omega
      have hlb1 : (0 : Int) < (nb : Int) := by omega
      have ck1 := HKA1.out.1 wz (HE6.out.call hS.1).below
      have ck2 := HKA1.out.2.1 wz (HE6.out.call hS.1).below
      by_cases hless : lessB xa.key xb.key = true
      · have hless2 : Op.bytesLess xa.key.toList xb.key.toList = true := by
          rw [ByteArray.toList_eq, ByteArray.toList_eq]
          exact hless
        have hA0 : KA[0]? = some (.string ⟨#[]⟩) := by rw [HK.out.1, HC.out.2.2.2.1]; rfl
        have hB0 : KB[0]? = some (.string ⟨#[]⟩) := by rw [HK2.out.1, HH.out.2]; rfl
        have cA0 : wz.cell? ⟨T10, 0, none⟩ = some (.string ⟨#[]⟩) := by rw [hS.2.2.1.cell, List.getElem?_toArray]; exact hA0
        have cB0 : wz.cell? ⟨T12, 0, none⟩ = some (.string ⟨#[]⟩) := by rw [hS.2.1.cell, List.getElem?_toArray]; exact hB0
        have fA0 := hS.2.2.1.free 0
        have fB0 := hS.2.1.free 0
        have hnd : ([T12, T10, T9, T6, T5] : List Nat).Nodup := HE6.out.nd
        simp only [List.nodup_cons, List.mem_cons, not_or] at hnd
        have hne1 : T12 ≠ T10 := hnd.1.1
        have hne2 : T10 ≠ T12 := fun q => hnd.1.1 q.symm
        have hx12 : X ≤ T12 := (HE6.out.rowsI _ (List.mem_of_getElem? (i := 0) rfl)).2
        have hx10 : X ≤ T10 := (HE6.out.rowsI _ (List.mem_of_getElem? (i := 1) rfl)).2
        have hlt1 := HKA1.out.2.2.2.2.2.2.1
        have hlt2 := HKA1.out.2.2.2.2.2.2.2
        have hne3 : bb ≠ T10 := Nat.ne_of_lt (Nat.lt_of_lt_of_le hlt2 hx10)
        have hne4 : bb ≠ T12 := Nat.ne_of_lt (Nat.lt_of_lt_of_le hlt2 hx12)
        have hne5 : ba ≠ T10 := Nat.ne_of_lt (Nat.lt_of_lt_of_le hlt1 hx10)
        have hne6 : ba ≠ T12 := Nat.ne_of_lt (Nat.lt_of_lt_of_le hlt1 hx12)
        clear hx12 hx10 hlt1 hlt2
        clear hnd
        have HF := Lib.hid hS
        have HLE := Lib.hid hless
        clear hsum hS hless hA0 hB0
        go_wp2_with fail
        go_quiet (fail)
        go_wp2_with fail
        go_big_region
        obtain ⟨Rb, hRb⟩ : ∃ Rb, Rb = sha (encN (leafI b)) := ⟨_, rfl⟩
        have hRbl : Rb.length = 32 := by rw [hRb]; exact sha_length _
        have w1k : KidD.wf ⟨xa.key, 2, Ra⟩ := ⟨by show (2 : Nat) < _; omega, hRl⟩
        have w2k : KidD.wf ⟨xb.key, 3, Rb⟩ := ⟨by show (3 : Nat) < _; omega, hRbl⟩
        obtain ⟨K1, hK1⟩ : ∃ K1, K1 = kidV ⟨xa.key, 2, Ra⟩ := ⟨_, rfl⟩
        obtain ⟨K2, hK2⟩ : ∃ K2, K2 = kidV ⟨xb.key, 3, Rb⟩ := ⟨_, rfl⟩
        have hl1 : K1.length = 34 := by rw [hK1]; exact kidV_length hRl
        have hl2 : K2.length = 34 := by rw [hK2]; exact kidV_length hRbl
        have e1 : KA.toArray.setIfInBounds 0 (.string xa.key) = K1.toArray := by rw [HK.out.1, HC.out.2.2.2.1, hK1, HC.out.2.2.2.2]; rfl
        have e2 : KB.toArray.setIfInBounds 0 (.string xb.key) = K2.toArray := by rw [HK2.out.1, HH.out.2, hK2, hRb]; rfl
        have E7 := (HE6.out.call HF.out.1).drewN (nq + 1)
        have E7 := E7.noN
        obtain ⟨V1, hV1⟩ : ∃ V1, V1 = (wz.drewN (nq + 1)).setCell ⟨T10, 0, none⟩ (.string xa.key) := ⟨_, rfl⟩
        obtain ⟨V, hV⟩ : ∃ V, V = V1.setCell ⟨T12, 0, none⟩ (.string xb.key) := ⟨_, rfl⟩
        have E8 := E7.key (w' := V1) 1 (D := K1.toArray) rfl (by rw [← e1, hV1]; exact (E7.rowAt 1 rfl).set 0 _) (by rw [hV1]; exact (But.refl T10 _).setCell 0 _) (by rw [HK.out.1]; exact kid_no64 kd)
        have E9 := E8.key (w' := V) 0 (D := K2.toArray) rfl (by rw [← e2, hV]; exact (E8.rowAt 0 rfl).set 0 _) (by rw [hV]; exact (But.refl T12 _).setCell 0 _) (by rw [HK2.out.1]; exact kid_no64 ke)
        have hGG : putH (putH hv0 (leafI a)) (leafI b) = ⟨16, two a b⟩ := by rw [HC.out.2.2.1]; exact HH.out.1
        have hheap : HeapAt V.heap.size V (.agg #[.int .u32 z8, .slice p8 m8 c8]) ⟨16, two a b⟩ := by rw [← hGG]; exact E9.heap 0 rfl
        have E9 : Env X V.heap.size w V [⟨T12, 38, K2.toArray⟩, ⟨T10, 38, K1.toArray⟩, ⟨T9, 35, #[.int .u32 z8, .slice p8 m8 c8]⟩] [(.agg #[.int .u32 z8, .slice p8 m8 c8], ⟨16, two a b⟩)] [] := by
          have q := E9.up
          exact ⟨q.below, q.hX, q.hB, fun r hr => q.rowsI r (by
            simp only [List.mem_cons, List.not_mem_nil, or_false] at hr
            rcases hr with rfl | rfl | rfl
            · exact List.mem_of_getElem? (i := 0) rfl
            · exact List.mem_of_getElem? (i := 1) rfl
            · exact List.mem_of_getElem? (i := 2) rfl), by
              have hnd : ([T12, T10, T9, T6, T5] : List Nat).Nodup := q.nd
              exact (show ([T12, T10, T9] : List Nat).Nodup from List.Sublist.nodup (by simp) hnd), fun x hx => by
              simp only [List.mem_cons, List.not_mem_nil, or_false] at hx
              subst hx
              exact hheap, by simp⟩
        obtain ⟨WS, hWS⟩ : ∃ WS, WS = V.alloc (.cells (K1 ++ K2).toArray 38) := ⟨_, rfl⟩
        have E10 := E9.alloc hWS
        have hup : NodeAt WS.heap.size WS (.agg #[.int .u8 2, .slice none 0 0, .slice (some ⟨V.heap.size, 0, none⟩) 2 2, .slice none 0 0]) (upN xa.key xb.key a b) := by
          have := kids_up w1k w2k (by have := E10.rowAt 0 rfl; rw [hK1, hK2] at this; exact this)
          rw [HC.out.2.2.2.2, hRb] at this
          exact this
        have E11 := E10.addN hup
        obtain ⟨W7, hW7⟩ : ∃ W7, W7 = WS.alloc (.cells #[.int .u8 0, .slice none 0 0, .slice none 0 0, .slice none 0 0] 28) := ⟨_, rfl⟩
        obtain ⟨W8, hW8⟩ : ∃ W8, W8 = W7.setCells WS.heap.size 0 [.int .u8 2, .slice none 0 0, .slice (some ⟨V.heap.size, 0, none⟩) 2 2, .slice none 0 0] := ⟨_, rfl⟩
        have E12 := E11.var (D := #[.int .u8 2, .slice none 0 0, .slice (some ⟨V.heap.size, 0, none⟩) 2 2, .slice none 0 0]) hW7 hW8 rfl
        have hth14 : W7.there WS.heap.size 0 4 := ((E11.alloc hW7).rowAt 0 rfl).there 0 4 (by simp)
        have hsu := HSZ.out.2.1 (.int .u8 2) (.slice none 0 0) (.slice (some ⟨V.heap.size, 0, none⟩) 2 2) (.slice none 0 0)
        have hou := HSZ.out.2.2.2 2 none (some ⟨V.heap.size, 0, none⟩) none 0 2 0 0 2 0
        have hs1 := HSZ.out.2.2.1 K1.toArray (by rw [List.size_toArray, hl1])
        have hs2 := HSZ.out.2.2.1 K2.toArray (by rw [List.size_toArray, hl2])
        have hrk1 := E9.rowAt 1 rfl
        have hrk2 := E9.rowAt 0 rfl
        have h9 := E12.rowAt 4 rfl
        have h14 := E12.rowAt 0 rfl
        have hck := up_check (a := a) (b := b) HKA1.out.2.2.1 HKA1.out.2.2.2.1 HLE.out HKA1.out.2.2.2.2.2.1
        have hp3 := top_put3 HC.out.1 HC.out.2.1 hck
        have hr2 := top_right2 HC.out.1 HC.out.2.1 hab
        have hr3 := top_right3 hab HC.out.1 HC.out.2.1 hck
        have hfit : fitN (upN xa.key xb.key a b) := ⟨⟨by show (0 : Nat) ≤ _; omega, by show (2 : Nat) ≤ _; omega, by show (0 : Nat) ≤ _; omega⟩, by simp [upN], fun k hk => by
          have b1 := HKA1.out.2.2.2.1
          have b2 := HKA1.out.2.2.2.2.2.1
          simp only [upN, List.mem_cons, List.not_mem_nil, or_false] at hk
          rcases hk with rfl | rfl
          · show xa.key.size ≤ _; omega
          · show xb.key.size ≤ _; omega, by simp [upN]⟩
        obtain ⟨H3, hH3⟩ : ∃ H3, H3 = h3N xa.key xb.key a b := ⟨_, rfl⟩
        rw [← hH3] at hp3 hr3
        have hcall := put_well _ ⟨16, two a b⟩ _ (upN xa.key xb.key a b) W8 (E12.heap 0 rfl) (E12.node 0 rfl) hfit (by show (2 : Nat) + 0 ≤ _; omega) hr2 hp3
        have HBU := Lib.hid (built_up (some ⟨V.heap.size, 0, none⟩) 2 2)
        have HV := Lib.hid (show V = ((wz.drewN (nq + 1)).setCell ⟨T10, 0, none⟩ (.string xa.key)).setCell ⟨T12, 0, none⟩ (.string xb.key) by rw [hV, hV1])
        have HWS := Lib.hid hWS
        have HW7 := Lib.hid hW7
        have HW8 := Lib.hid hW8
        have HE12 := Lib.hid E12
        have HP := Lib.hid (And.intro hr3 (And.intro hfit (And.intro hK1 (And.intro hK2 hH3))))
        clear E7 E8 E9 E10 E11 E12 hV1 hV hWS hW7 hW8 hup hheap hGG hr2 hr3 hp3 hck hfit e1 e2 hK1 hK2 hH3 w1k w2k cA0 cB0 fA0 fB0 hRb hRbl hth9 hth12
        generalize hSg : V.heap.size = Sg at *
        generalize hT14 : WS.heap.size = T14 at *
        go_wp2_with (first | (refine wpList_world HV.out ?_) | (refine wpList_load_row rfl 38 _ rfl T10 rfl 38 K1.toArray (0, 0) _ hrk1 Tryz.underlying38 rfl hs1 ?_) | (refine wpList_load_row rfl 38 _ rfl T12 rfl 38 K2.toArray (0, 0) _ hrk2 Tryz.underlying38 rfl hs2 ?_) | (refine wpList_buildSlice_kids rfl 25 38 rfl Tryz.underlying25 iR0 hR hRz0 hRz1 K1 K2 hl1 hl2 rfl rfl ?_; refine wpList_world HWS.out ?_; rw [hSg]) | (refine wpList_build_eqH rfl 28 [(0, .const (.int .u8 2)), (2, .tmp 104)] rfl #[.int .u8 2, .slice none 0 0, .slice (some ⟨Sg, 0, none⟩) 2 2, .slice none 0 0] (by exact HBU.out) ?_) | (refine wpList_world HW7.out ?_) | (refine wpList_store_mid rfl 28 _ _ rfl T14 0 #[.int .u8 2, .slice none 0 0, .slice (some ⟨Sg, 0, none⟩) 2 2, .slice none 0 0] rfl rfl hth14 hsu hou ?_; refine wpList_world HW8.out ?_) | (refine wpList_load_row rfl 35 _ rfl T9 rfl 35 #[.int .u32 z8, .slice p8 m8 c8] (0, 0) _ h9 Tryz.underlying35 rfl hsz8 ?_) | (refine wpList_load_row rfl 28 _ rfl T14 rfl 28 #[.int .u8 2, .slice none 0 0, .slice (some ⟨Sg, 0, none⟩) 2 2, .slice none 0 0] (0, 0) _ h14 Tryz.underlying28 rfl hsu ?_))
        refine hcall.mono ?_
        rintro e w5 ⟨p3, c3, rfl, ho3, hq⟩
        obtain ⟨KC, hKC⟩ : ∃ KC, KC = kidV (kidH 4 (sha (encN (upN xa.key xb.key a b)))) := ⟨_, rfl⟩
        have hlC : KC.length = 34 := by rw [hKC]; exact kidV_length (sha_length _)
        have hoC : KC.toArray.all (·.oneCell') = true := by rw [hKC]; exact kidV_one _
        have hsC := HSZ.out.2.2.1 KC.toArray (by rw [List.size_toArray, hlC])
        have hC1 : KC[1]? = some (.int .u32 4) := by rw [hKC]; rfl
        have hD4 : KC.toArray.size = ((kidV (kidH 0 zeroH)).toArray : Array Value).size := by rw [List.size_toArray, hlC]; rfl
        rw [← hKC]
        have E := (HE12.out.call hq).addH (ho3.heap HP.out.1)
        obtain ⟨WA, hWA⟩ : ∃ WA, WA = w5.alloc (.cells (kidV (kidH 0 zeroH)).toArray 38) := ⟨_, rfl⟩
        obtain ⟨WB, hWB⟩ : ∃ WB, WB = WA.setCells T9 0 [.int .u32 (H3.size : Int), .slice p3 H3.cells.length c3] := ⟨_, rfl⟩
        obtain ⟨WC, hWC⟩ : ∃ WC, WC = WB.setCells w5.heap.size 0 KC := ⟨_, rfl⟩
        have E13 := E.up.alloc hWA
        have E14 := E13.storeAny (D := #[.int .u32 (H3.size : Int), .slice p3 H3.cells.length c3]) 5 rfl rfl (no_text2 _ _ _ _) hWB
        have E15 := E14.store (D := KC.toArray) 0 rfl hD4 (Nat.le_refl _) hWC
        have hth9 : WA.there T9 0 2 := (E13.rowAt 5 rfl).there 0 2 (by simp)
        have hth15 : WB.there w5.heap.size 0 KC.toArray.size := (E14.rowAt 0 rfl).there 0 _ (by rw [hD4]; simp)
        have hone3 := oneH (H3.size : Int) p3 H3.cells.length c3
        have hsz3 := HSZ.out.1 (.int .u32 (H3.size : Int)) (.slice p3 H3.cells.length c3)
        obtain ⟨U, hU⟩ : ∃ U, U = upN xa.key xb.key a b := ⟨_, rfl⟩
        have hck := up_check (a := a) (b := b) HKA1.out.2.2.1 HKA1.out.2.2.2.1 HLE.out HKA1.out.2.2.2.2.2.1
        have hcn : (cellN 4 (upN xa.key xb.key a b) 0).node = U := by rw [hU]; exact cellN_node _ _ _ (up_wf _ _ _ _) hck
        have hcall := get_well _ H3 4 WC (E15.heap 0 rfl) HP.out.1 (show findC H3.cells 4 = some (cellN 4 (upN xa.key xb.key a b) 0) by rw [HP.out.2.2.2.2]; exact top_find)
        rw [hcn] at hcall
        have hfitU : fitN U := by rw [hU]; exact HP.out.2.1
        have hkU : kidNums U = [2, 3] := by rw [hU]; rfl
        have h9 := E15.rowAt 5 rfl
        have c15 : WC.cell? ⟨w5.heap.size, 1, none⟩ = some (.int .u32 4) := by rw [(E15.rowAt 0 rfl).cell, List.getElem?_toArray]; exact hC1
        have HWA := Lib.hid hWA
        have HWB := Lib.hid hWB
        have HWC := Lib.hid hWC
        have HE15 := Lib.hid E15
        have HU := Lib.hid (And.intro hfitU hkU)
        clear hq E E13 E14 E15 hWA hWB hWC HE12 hKC hC1 hU hck hcn hfitU hkU ho3 h14 hth14 hrk1 hrk2
        generalize hT15 : w5.heap.size = T15 at *
        go_wp2_with (first | (refine wpList_world HWA.out ?_) | (refine wpList_store_mid rfl 35 _ _ rfl T9 0 #[.int .u32 (H3.size : Int), .slice p3 H3.cells.length c3] rfl rfl hth9 hsz3 hone3 ?_; refine wpList_world HWB.out ?_) | (refine wpList_store_mid rfl 38 _ _ rfl T15 0 KC.toArray rfl rfl hth15 hsC hoC ?_; refine wpList_world HWC.out ?_) | (refine wpList_load_row rfl 35 _ rfl T9 rfl 35 #[.int .u32 (H3.size : Int), .slice p3 H3.cells.length c3] (0, 0) _ h9 Tryz.underlying35 rfl hsz3 ?_))
        refine hcall.mono ?_
        rintro e w6 ⟨r, rfl, hnr, hq⟩
        obtain ⟨s1, f1, s2, f2, s3, f3, rfl⟩ := hnr.shapeN
        have E := (HE15.out.call hq).addN hnr
        obtain ⟨WD, hWD⟩ : ∃ WD, WD = w6.alloc (.cells #[.int .u8 0, .slice none 0 0, .slice none 0 0, .slice none 0 0] 28) := ⟨_, rfl⟩
        obtain ⟨WE, hWE⟩ : ∃ WE, WE = WD.setCells w6.heap.size 0 [.int .u8 (U.kind : Int), .slice s1 U.items.length f1, .slice s2 U.kids.length f2, .slice s3 U.vols.length f3] := ⟨_, rfl⟩
        have hth17 : WD.there w6.heap.size 0 4 := ((E.alloc hWD).rowAt 0 rfl).there 0 4 (by simp)
        have ho17 := HSZ.out.2.2.2 (U.kind : Int) s1 s2 s3 U.items.length U.kids.length U.vols.length f1 f2 f3
        have hs17 := HSZ.out.2.1 (.int .u8 (U.kind : Int)) (.slice s1 U.items.length f1) (.slice s2 U.kids.length f2) (.slice s3 U.vols.length f3)
        have E16 := E.var (D := #[.int .u8 (U.kind : Int), .slice s1 U.items.length f1, .slice s2 U.kids.length f2, .slice s3 U.vols.length f3]) hWD hWE rfl
        have h17 := E16.rowAt 0 rfl
        have hcall2 := kidNums_calls _ _ U WE (E16.node 0 rfl) (Nat.le_refl _) HU.out.1
        rw [HU.out.2, show ([2, 3] : List Nat).length = 2 from rfl] at hcall2
        have HWD := Lib.hid hWD
        have HWE := Lib.hid hWE
        have HE16 := Lib.hid E16
        clear hcall hq E E16 hWD hWE HE15 hnr h9 c15 hth9 hth15 HWA HWB HWC
        generalize hT17 : w6.heap.size = T17 at *
        go_wp2_with (first | (refine wpList_world HWD.out ?_) | (refine wpList_store_mid rfl 28 _ _ rfl T17 0 #[.int .u8 (U.kind : Int), .slice s1 U.items.length f1, .slice s2 U.kids.length f2, .slice s3 U.vols.length f3] rfl rfl hth17 hs17 ho17 ?_; refine wpList_world HWE.out ?_) | (refine wpList_load_row rfl 28 _ rfl T17 rfl 28 #[.int .u8 (U.kind : Int), .slice s1 U.items.length f1, .slice s2 U.kids.length f2, .slice s3 U.vols.length f3] (0, 0) _ h17 Tryz.underlying28 rfl hs17 ?_))
        refine hcall2.mono ?_
        rintro e w7 ⟨r, rfl, hown, hq⟩
        obtain ⟨pr, cr, rfl, hcells⟩ := own_one hown
        obtain ⟨R, rfl, cr0⟩ := hcells 0 (by simp)
        obtain ⟨R', hR', cr1⟩ := hcells 1 (by simp)
        obtain rfl : R = R' := by simpa using hR'
        replace cr0 : w7.cell? ⟨R, 0, none⟩ = some (.int .u32 2) := cr0
        replace cr1 : w7.cell? ⟨R, 1, none⟩ = some (.int .u32 3) := cr1
        have E := HE16.out.call hq
        have ck1 : w7.cell? ⟨T10, 1, none⟩ = some (.int .u32 2) := by rw [(E.rowAt 5 rfl).cell, List.getElem?_toArray, HP.out.2.2.1]; rfl
        have ck2 : w7.cell? ⟨T12, 1, none⟩ = some (.int .u32 3) := by rw [(E.rowAt 4 rfl).cell, List.getElem?_toArray, HP.out.2.2.2.1]; rfl
        have HF := Lib.hid E.below
        clear hcall2 hq E HE16 hown hcells hR' h17 hth17 HWD HWE
        go_wp2_with fail
        go_quiet (fail)
        go_wp2_with fail
        go_ret
        exact ⟨rfl, below_drewN HF.out _⟩
      · have hless2 : Op.bytesLess xa.key.toList xb.key.toList = false := by
          rw [ByteArray.toList_eq, ByteArray.toList_eq]
          exact Bool.eq_false_iff.2 hless
        have HF := Lib.hid (HE6.out.call hS.1).below
        clear hsum hS HKA1 hless
        go_wp2_with fail
        go_quiet (fail)
        go_wp2_with fail
        go_ret
        exact ⟨rfl, below_drewN HF.out _⟩
  · have hno : ¬ (ck = 0 ∧ x8 = 0) := hz
    by_cases h0 : ck = 0
    · subst h0
      have h8 : x8 ≠ 0 := fun q => hno ⟨rfl, q⟩
      have e1 : (x8 == 0) = false := by simpa using h8
      have e2 : (x8 != 0) = true := by simpa using h8
      have HF := Lib.hid HE6.out.below
      clear hno hz h8
      go_wp2_with (first | (refine wpList_world HW4.out ?_) | (refine wpList_store_mid rfl 35 _ _ rfl T9 0 #[.int .u32 z8, .slice p8 m8 c8] rfl rfl hth9 hsz8 hone8 ?_; refine wpList_world HW5.out ?_) | (refine wpList_store_mid rfl 38 _ _ rfl T12 0 KB.toArray rfl rfl hth12 hszB hkone2 ?_; refine wpList_world HW6.out ?_))
      go_ret
      exact ⟨rfl, HF.out⟩
    · have e1 : (ck == 0) = false := by simpa using h0
      have e2 : (ck != 0) = true := by simpa using h0
      have HF := Lib.hid HE6.out.below
      clear hno hz h0
      go_wp2_with (first | (refine wpList_world HW4.out ?_) | (refine wpList_store_mid rfl 35 _ _ rfl T9 0 #[.int .u32 z8, .slice p8 m8 c8] rfl rfl hth9 hsz8 hone8 ?_; refine wpList_world HW5.out ?_) | (refine wpList_store_mid rfl 38 _ _ rfl T12 0 KB.toArray rfl rfl hth12 hszB hkone2 ?_; refine wpList_world HW6.out ?_))
      go_ret
      exact ⟨rfl, HF.out⟩

end Go.Proofs.YtimkklaidodkdaaGreatDoor
