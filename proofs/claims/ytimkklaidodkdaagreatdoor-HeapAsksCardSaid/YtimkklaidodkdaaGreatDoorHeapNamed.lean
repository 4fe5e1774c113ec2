/- heap.Named: walked. -/
import Derived.Test.YtimkklaidodkdaaGreatDoorRefKids
import Derived.Test.YtimkklaidodkdaaGreatDoorHeapPut
import Derived.Test.YtimkklaidodkdaaGreatDoorLit
namespace Go.Proofs.YtimkklaidodkdaaGreatDoor
open Go.RowKit

theorem built_kidN (n : Int) (R : List UInt8) (hR : R.length = 32) : Tryz.prog.built 38 [(1, .int .u32 n), (2, .agg (byteCells R))] = some ((Value.string ⟨#[]⟩ :: Value.int .u32 n :: bytesV R).toArray) := by
 have h : Tryz.prog.built 38 [(1, .int .u32 n), (2, .agg (byteCells R))] = Instr.fill ((#[(0, 1), (1, 1), (2, 32)] : Array (Nat × Nat))[·]?) kidZ [(1, .int .u32 n), (2, .agg (byteCells R))] := by
  kernel_rfl
 have hz : kidZ.size = 34 := rfl
 rw [h, fill_one (off := 1) rfl rfl (by simp [hz]), fill_last (off := 2) (size := 32) rfl (by simp [Value.cells, byteCells_size, hR]) (by simp [hz])]
 rfl
def namedK (n : NodeD) : List KidD := n.kids.map (fun k => ⟨⟨#[]⟩, k.num, k.hash⟩) ++ (n.vols.filter (fun v => decide (v.root ≠ 0))).map (fun v => ⟨⟨#[]⟩, v.root, v.hash⟩)
theorem namedK_named (n : NodeD) : (namedK n).map (fun k => (k.num, k.hash)) = namedN n := by
 unfold namedK namedN
 rw [List.map_append, List.map_map, List.map_map]; rfl
theorem namedK_wf (n : NodeD) (h : n.wf) : ∀ k ∈ namedK n, k.wf := by
 intro k hk
 rcases List.mem_append.1 hk with hk | hk
 ·obtain ⟨x, hx, rfl⟩ := List.mem_map.1 hk
  exact h.2.1 x hx
 ·obtain ⟨x, hx, rfl⟩ := List.mem_map.1 hk
  have := h.2.2 x (List.mem_filter.1 hx).1
  exact ⟨this.2.2.1, this.2.2.2⟩
def kmap (k : KidD) : KidD := ⟨⟨#[]⟩, k.num, k.hash⟩
def vmap (v : VolD) : KidD := ⟨⟨#[]⟩, v.root, v.hash⟩
def vnam (l : List VolD) : List KidD := (l.filter (fun v => decide (v.root ≠ 0))).map vmap
theorem vnam_snoc (l : List VolD) (t : Nat) (h : t < l.length) : vnam (l.take (t + 1)) = if l[t].root = 0 then vnam (l.take t) else vnam (l.take t) ++ [vmap l[t]] := by
 unfold vnam
 rw [List.take_succ_eq_append_getElem h, List.filter_append, List.map_append, List.filter_cons]
 by_cases h0 : l[t].root = 0
 ·rw [if_pos h0]; simp [h0]
 ·rw [if_neg h0]; simp [h0]
theorem vnam_le (l : List VolD) (t : Nat) : (vnam (l.take t)).length ≤ t := by
 unfold vnam
 rw [List.length_map]
 exact Nat.le_trans (List.length_filter_le _ _) (by rw [List.length_take]; omega)
theorem kids_snoc (A : List KidD) (k : KidD) : (A ++ [k]).flatMap kidV = A.flatMap kidV ++ kidV k := by simp

theorem wpList_build_eqH {P : Program} {ops : Array Oper} {rest : List Oper} {o : Oper} {a : Act} {w : World} {Q : Exit → Act → World → Prop} (hgd : o.guard = none) (t : TypeId) (parts : List (Nat × Operand)) (ho : o.op = .build t parts.toArray) (cells : Array Value)
  (hf : P.built t (parts.map fun (i, x) => (i, a.eval x)) = some cells) (k : wpList P ops Q rest (a.put o.dst (.agg cells)) w) : wpList P ops Q (o :: rest) a w :=
 wpList_plain hgd fun _ hK => wp_build_eq t parts ho cells hf (hK _ _ k)
theorem wpList_buildSlice_oneH {P : Program} {ops : Array Oper} {rest : List Oper} {o : Oper} {a : Act} {w : World} {Q : Exit → Act → World → Prop} (hgd : o.guard = none) (t e : TypeId) (x : Operand) (ho : o.op = .buildSlice t 1 #[(0, x)]) (hu : P.underlying t = some (.slice e)) (i : TypeInfo) (hi : P.info? e = some i) (z : Value) (hz : i.zero = some z) (size : Nat) (his : i.size = size) (C : Array Value) (hx : a.eval x = .agg C) (hC : C.size = size) (hp : 0 < size) (hm : size ≤ 65536)
  (k : wpList P ops Q rest (a.put o.dst (.slice (some ⟨w.heap.size, 0, none⟩) 1 1)) (w.alloc (.cells C e))) : wpList P ops Q (o :: rest) a w :=
 wpList_plain hgd fun _ hK => wp_buildSlice_one t e x ho hu i hi z hz size his C hx hC hp hm (hK _ _ k)

set_option maxRecDepth 100000 in
set_option maxHeartbeats 6400000 in
theorem named2_calls (B : Nat) (v : Value) (n : NodeD) (w : World) (h : NodeAt B w v n) (hB : B ≤ w.heap.size) (hz : n.kids.length + n.vols.length ≤ 1048576) :
  Calls Tryz.prog 107 #[v] w fun e w' => ∃ r, e = .returned r ∧ w'.ownsRow w.heap.size 38 34 r (namedK n).length ((namedK n).flatMap kidV) ∧ Below w.heap.size w w' := by
 obtain ⟨hw, vi, vk, vv, rfl, _, h2, h3⟩ := h
 obtain ⟨iR0, hR, hRz0, hRz1, hRz2⟩ := info_parts info_kid
 obtain ⟨kind, items, kids, vols⟩ := n
 simp only [] at h2 h3 hz
 have hwk := hw.2.1
 have hwv := hw.2.2
 simp only [] at hwk hwv
 have hX : namedK ⟨kind, items, kids, vols⟩ = kids.map kmap ++ vnam vols := rfl
 rw [hX]
 clear hw hX
 obtain ⟨W0, hW0⟩ : ∃ W0, W0 = w.alloc (.cells #[.int .u8 (kind : Int), vi, vk, vv] 28) := ⟨_, rfl⟩
 have hbx : RowIs W0 w.heap.size 28 #[.int .u8 (kind : Int), vi, vk, vv] := by rw [hW0]; exact RowIs.new w _ _
 have hb0 : Below w.heap.size w W0 := by rw [hW0]; exact (Below.refl _ _).alloc (Nat.le_refl _) _
 have hlt0 := hbx.lt
 have HW0 := Lib.hid hW0
 clear hW0
 have hnil : W0.ownsRow W0.heap.size 38 34 (.slice none 0 0) 0 [] := ⟨by simp, .inl ⟨rfl, rfl⟩⟩
 obtain ⟨a2, cap2, rfl, hn2, hr2⟩ := h2
 obtain ⟨a3, cap3, rfl, hn3, hr3⟩ := h3
 unfold maxLen at hn2 hn3
 have c2 : W0.cell? ⟨w.heap.size, 2, none⟩ = some (.slice a2 kids.length cap2) := by rw [hbx.cell]; rfl
 show Calls Tryz.prog 107 #[.agg #[.int .u8 (kind : Int), vi, .slice a2 kids.length cap2, .slice a3 vols.length cap3]] w _
 generalize hBB : w.heap.size = BB at *
 generalize hB0 : W0.heap.size = B0 at *
 go_enter Tryz.func107, Tryz.ntmps107
 go_wp2_with (refine wpList_world HW0.out ?_)
 go_loopw [3, 11] (fun v3 v wr => ∃ t : Nat, t ≤ kids.length ∧ v = .int .i64 t ∧ wr.ownsRow B0 38 34 v3 ((kids.take t).map kmap).length (((kids.take t).map kmap).flatMap kidV) ∧ Below B0 W0 wr) (fun _ v _ => kids.length - (intOf v).toNat)
 case atStart => exact ⟨0, by omega, rfl, hnil, Below.refl _ _⟩
 case round =>
  clear hnil
  obtain ⟨t, ht, rfl, hown, hb⟩ := hrel
  by_cases hlt : t < kids.length
  ·obtain ⟨b, o, rfl, hbB, hc⟩ := hr2 (by omega)
   have hci : wr.rangeAt b (o + t * 34) (kidV kids[t]) := by
    have := rangeAt_below (rangeAt_below (hc t hlt) hb0 (by omega)) hb (by omega)
    rwa [List.getElem?_eq_getElem hlt] at this
   have hkl := kidV_length (hwk kids[t] (List.getElem_mem hlt)).2
   have hone := kidV_one kids[t]
   have hksz : (Tryz.prog.info? 38).map (·.size) = some (kidV kids[t]).length := by rw [hkl]; kernel_rfl
   have hksz2 : (Tryz.prog.info? 38).map (·.size) = some (kidV kids[t]).toArray.size := by rw [List.size_toArray, hkl]; kernel_rfl
   obtain ⟨W, W2, hW, hW2, hG, hb2, hthere⟩ := alloc_fill wr kidZ (kidV kids[t]).toArray 38 (by rw [List.size_toArray, hkl]; rfl)
   have hbz := hb.size
   have hbW2 := hb.trans (hb2.mono (show B0 ≤ wr.heap.size by omega))
   have hown2 := ownsRow_below hown hb2
   have c1 : W2.cell? ⟨wr.heap.size, 1, none⟩ = some (.int .u32 (kids[t].num : Int)) := by rw [hG.cell]; rfl
   have hhr : W2.rangeAt wr.heap.size 2 (bytesV kids[t].hash) := fun j u hj => by
    rw [hG.cell]
    rw [List.getElem?_toArray, kidV, List.getElem?_append_right (by simp)]
    rw [← hj]; congr 1; simp
   have hhsz : (Tryz.prog.info? 36).map (·.size) = some (bytesV kids[t].hash).length := by rw [show (bytesV kids[t].hash).length = 32 by simp [bytesV, (hwk kids[t] (List.getElem_mem hlt)).2]]; kernel_rfl
   have hbk := built_kidN (kids[t].num : Int) kids[t].hash (hwk kids[t] (List.getElem_mem hlt)).2
   have hnkl : (kidV (kmap kids[t])).length = 34 := kidV_length (hwk kids[t] (List.getElem_mem hlt)).2
   have hnone := kidV_one (kmap kids[t])
   have hnall : ∀ u ∈ kidV (kmap kids[t]), u.oneCell' = true := fun u hu => by rw [Array.all_eq_true'] at hnone; exact hnone u (by simpa using hu)
   have hsn : (kids.take (t + 1)).map kmap = (kids.take t).map kmap ++ [kmap kids[t]] := by rw [List.take_succ_eq_append_getElem hlt, List.map_append]; rfl
   have hll : ((kids.take t).map kmap).length = t := by rw [List.length_map, List.length_take]; omega
   have HW := Lib.hid hW
   have HW2 := Lib.hid hW2
   have HBK := Lib.hid (show Tryz.prog.built 38 [(1, .int .u32 (kids[t].num : Int)), (2, .agg (bytesV kids[t].hash).toArray)] = some (kidV (kmap kids[t])).toArray from hbk)
   clear hW hW2 hG hb2 hkl hown hc hb hbk hnone
   generalize kidV kids[t] = cs at *
   generalize hkc : kidV (kmap kids[t]) = kc at *
   generalize (kids[t].num : Int) = num at *
   generalize bytesV kids[t].hash = hcs at *
   obtain ⟨W3, hW3⟩ : ∃ W3, W3 = W2.alloc (.cells kc.toArray 38) := ⟨_, rfl⟩
   have hal := (Below.refl _ W2).alloc (Nat.le_refl _) (.cells kc.toArray 38)
   have hN3 := RowIs.new W2 38 kc.toArray
   rw [← hW3] at hal hN3
   have hsz2' := hbW2.size
   have hown3 := ownsRow_below hown2 hal
   have hb3 := hbW2.trans (hal.mono (show B0 ≤ W2.heap.size by omega))
   have hs3 : B0 ≤ W3.heap.size := by have := hb3.size; omega
   have HW3 := Lib.hid hW3
   clear hW3 hal
   generalize hA : (kids.take t).map kmap = A at *
   have HA := Lib.hid hA
   have HS := Lib.hid hsn
   clear hA hsn
   go_wp2_with (first | (refine wpList_world HW.out ?_) | (refine wpList_load_mid rfl 38 _ rfl b (o + t * 34) rfl cs _ hci Tryz.underlying38 rfl hksz ?_) | (refine wpList_store_mid rfl 38 _ _ rfl wr.heap.size 0 cs.toArray rfl rfl hthere hksz2 hone ?_; refine wpList_world HW2.out ?_) | (refine wpList_load_mid rfl 36 _ rfl wr.heap.size 2 rfl hcs _ hhr Tryz.underlying36 rfl hhsz ?_) | (refine wpList_build_eqH rfl 38 [(1, .tmp 17), (2, .tmp 19)] rfl kc.toArray (by exact HBK.out) ?_) | (refine wpList_buildSlice_oneH rfl 25 38 _ rfl Tryz.underlying25 iR0 hR _ hRz0 34 hRz1 kc.toArray rfl (by rw [List.size_toArray]; exact hnkl) (by omega) (by omega) ?_; refine wpList_world HW3.out ?_) | (at_builtin; refine wpList_append_own _ rfl _ _ 25 rfl B0 38 iR0 (.agg kidZ) 34 56 Tryz.underlying25 hR hRz0 hRz1 hRz2 rfl (by decide) u3 A.length (A.flatMap kidV) rfl hown3 ⟨W2.heap.size, 0, none⟩ 1 1 kc rfl (by rw [hnkl]) (fun j u hj => by rw [Addr.add_mid, Nat.zero_add, RowIs.cell hN3]; simpa using hj) hnall (by unfold maxLen; omega) (by omega) hs3 ?_))
   intro v4 w4 hown4 hgrow _
   have hb4 : Below B0 W0 w4 := hb3.grown hgrow hs3 (fun k hk => hown3.lt k hk |>.1)
   rw [← hkc, ← kids_snoc] at hown4
   go_wp2_with fail
   go_roundw
   case rel => exact ⟨t + 1, by omega, by go_num, by rw [HS.out, List.length_append, hll]; exact hown4, hb4⟩
   case measure => simp [intOf]; omega
  ·have htl : t = kids.length := by omega
   subst htl
   rw [List.take_length] at hown
   have hbxr := hbx.below hb hlt0
   have c3 : wr.cell? ⟨BB, 3, none⟩ = some (.slice a3 vols.length cap3) := by rw [hbxr.cell]; rfl
   have hlk : (kids.map kmap).length = kids.length := List.length_map _
   have HLK := Lib.hid hlk
   generalize hK0 : kids.map kmap = K0 at *
   have HK0 := Lib.hid hK0
   clear hK0
   clear hr2 hbxr hlk hwk
   have HOB := Lib.hid (And.intro hown hb)
   clear hown hb
   go_wp2_with fail
   go_loopw [3, 27] (fun v3 v wq => ∃ t : Nat, t ≤ vols.length ∧ v = .int .i64 t ∧ wq.ownsRow B0 38 34 v3 (K0 ++ vnam (vols.take t)).length ((K0 ++ vnam (vols.take t)).flatMap kidV) ∧ Below B0 W0 wq) (fun _ v _ => vols.length - (intOf v).toNat)
   case atStart => exact ⟨0, by omega, rfl, by simpa [vnam] using HOB.out.1, HOB.out.2⟩
   case round =>
    obtain ⟨t, ht, rfl, hown, hb⟩ := hrel
    clear HOB
    by_cases hlt : t < vols.length
    ·obtain ⟨b, o, rfl, hbB, hc⟩ := hr3 (by omega)
     have hci : wr.rangeAt b (o + t * 37) (volV vols[t]) := by
      have := rangeAt_below (rangeAt_below (hc t hlt) hb0 (by omega)) hb (by omega)
      rwa [List.getElem?_eq_getElem hlt] at this
     have hkl := volV_length (hwv vols[t] (List.getElem_mem hlt)).2.2.2
     have hone := volV_one vols[t]
     have hksz : (Tryz.prog.info? 89).map (·.size) = some (volV vols[t]).length := by rw [hkl]; kernel_rfl
     have hksz2 : (Tryz.prog.info? 89).map (·.size) = some (volV vols[t]).toArray.size := by rw [List.size_toArray, hkl]; kernel_rfl
     obtain ⟨W, W2, hW, hW2, hG, hb2, hthere⟩ := alloc_fill wr volZ (volV vols[t]).toArray 89 (by rw [List.size_toArray, hkl]; rfl)
     have hbz := hb.size
     have hbW2 := hb.trans (hb2.mono (show B0 ≤ wr.heap.size by omega))
     have hown2 := ownsRow_below hown hb2
     have c1 : W2.cell? ⟨wr.heap.size, 4, none⟩ = some (.int .u32 (vols[t].root : Int)) := by rw [hG.cell]; rfl
     have hhr : W2.rangeAt wr.heap.size 5 (bytesV vols[t].hash) := fun j u hj => by
      rw [hG.cell]
      rw [List.getElem?_toArray, volV, List.getElem?_append_right (by simp)]
      rw [← hj]; congr 1; simp
     have hhsz : (Tryz.prog.info? 36).map (·.size) = some (bytesV vols[t].hash).length := by rw [show (bytesV vols[t].hash).length = 32 by simp [bytesV, (hwv vols[t] (List.getElem_mem hlt)).2.2.2]]; kernel_rfl
     have hbk := built_kidN (vols[t].root : Int) vols[t].hash (hwv vols[t] (List.getElem_mem hlt)).2.2.2
     have hnkl : (kidV (vmap vols[t])).length = 34 := kidV_length (hwv vols[t] (List.getElem_mem hlt)).2.2.2
     have hnone := kidV_one (vmap vols[t])
     have hnall : ∀ u ∈ kidV (vmap vols[t]), u.oneCell' = true := fun u hu => by rw [Array.all_eq_true'] at hnone; exact hnone u (by simpa using hu)
     have hsn : vnam (vols.take (t + 1)) = if vols[t].root = 0 then vnam (vols.take t) else vnam (vols.take t) ++ [vmap vols[t]] := vnam_snoc vols t hlt
     have hll : (K0 ++ vnam (vols.take t)).length ≤ kids.length + t := by
      have := vnam_le vols t
      rw [List.length_append, HLK.out]; omega
     have HW := Lib.hid hW
     have HW2 := Lib.hid hW2
     have HBK := Lib.hid (show Tryz.prog.built 38 [(1, .int .u32 (vols[t].root : Int)), (2, .agg (bytesV vols[t].hash).toArray)] = some (kidV (vmap vols[t])).toArray from hbk)
     clear hW hW2 hG hb2 hkl hown hc hb hbk hnone
     generalize volV vols[t] = cs at *
     generalize hkc : kidV (vmap vols[t]) = kc at *
     generalize hrt : vols[t].root = num at *
     generalize bytesV vols[t].hash = hcs at *
     obtain ⟨W3, hW3⟩ : ∃ W3, W3 = W2.alloc (.cells kc.toArray 38) := ⟨_, rfl⟩
     have hal := (Below.refl _ W2).alloc (Nat.le_refl _) (.cells kc.toArray 38)
     have hN3 := RowIs.new W2 38 kc.toArray
     rw [← hW3] at hal hN3
     have hsz2' := hbW2.size
     have hown3 := ownsRow_below hown2 hal
     have hb3 := hbW2.trans (hal.mono (show B0 ≤ W2.heap.size by omega))
     have hs3 : B0 ≤ W3.heap.size := by have := hb3.size; omega
     have HW3 := Lib.hid hW3
     clear hW3 hal
     generalize hA : K0 ++ vnam (vols.take t) = A at *
     have HA := Lib.hid hA
     have HS := Lib.hid hsn
     clear hA hsn
     by_cases h0 : num = 0
     ·subst h0
      have HS2 := Lib.hid (show K0 ++ vnam (vols.take (t + 1)) = A by rw [HS.out, if_pos rfl, HA.out])
      have HO2 := Lib.hid (And.intro hown2 hbW2)
      clear hown3 hN3 hb3 hown2 hbW2 hhr
      go_wp2_with (first | (refine wpList_world HW.out ?_) | (refine wpList_load_mid rfl 89 _ rfl b (o + t * 37) rfl cs _ hci Tryz.underlying89 rfl hksz ?_) | (refine wpList_store_mid rfl 89 _ _ rfl wr.heap.size 0 cs.toArray rfl rfl hthere hksz2 hone ?_; refine wpList_world HW2.out ?_))
      go_roundw
      case rel => exact ⟨t + 1, by omega, by go_num, by rw [HS2.out]; exact HO2.out.1, HO2.out.2⟩
      case measure => simp [intOf]; omega
     ·have hnz : ((num : Int) == 0) = false := by
       rw [Bool.eq_false_iff]; simp; omega
      have hnz2 : ¬ (num : Int) = 0 := by omega
      have HS2 := Lib.hid (show K0 ++ vnam (vols.take (t + 1)) = A ++ [vmap vols[t]] by rw [HS.out, if_neg h0, ← HA.out, List.append_assoc])
      go_wp2_with (first | (refine wpList_world HW.out ?_) | (refine wpList_load_mid rfl 89 _ rfl b (o + t * 37) rfl cs _ hci Tryz.underlying89 rfl hksz ?_) | (refine wpList_store_mid rfl 89 _ _ rfl wr.heap.size 0 cs.toArray rfl rfl hthere hksz2 hone ?_; refine wpList_world HW2.out ?_) | (refine wpList_load_mid rfl 36 _ rfl wr.heap.size 5 rfl hcs _ hhr Tryz.underlying36 rfl hhsz ?_) | (refine wpList_build_eqH rfl 38 [(1, .tmp 36), (2, .tmp 38)] rfl kc.toArray (by exact HBK.out) ?_) | (refine wpList_buildSlice_oneH rfl 25 38 _ rfl Tryz.underlying25 iR0 hR _ hRz0 34 hRz1 kc.toArray rfl (by rw [List.size_toArray]; exact hnkl) (by omega) (by omega) ?_; refine wpList_world HW3.out ?_) | (at_builtin; refine wpList_append_own _ rfl _ _ 25 rfl B0 38 iR0 (.agg kidZ) 34 56 Tryz.underlying25 hR hRz0 hRz1 hRz2 rfl (by decide) u3 A.length (A.flatMap kidV) rfl hown3 ⟨W2.heap.size, 0, none⟩ 1 1 kc rfl (by rw [hnkl]) (fun j u hj => by rw [Addr.add_mid, Nat.zero_add, RowIs.cell hN3]; simpa using hj) hnall (by unfold maxLen; omega) (by omega) hs3 ?_))
      intro v4 w4 hown4 hgrow _
      have hb4 : Below B0 W0 w4 := hb3.grown hgrow hs3 (fun k hk => hown3.lt k hk |>.1)
      rw [← hkc, ← kids_snoc] at hown4
      go_wp2_with fail
      go_roundw
      case rel => exact ⟨t + 1, by omega, by go_num, by rw [HS2.out, List.length_append]; exact hown4, hb4⟩
      case measure => simp [intOf]; omega
    ·have htl : t = vols.length := by omega
     subst htl
     rw [List.take_length] at hown
     have HF := Lib.hid (And.intro (ownsRow_base hown (show BB ≤ B0 by omega)) (hb0.trans (hb.mono (show BB ≤ B0 by omega))))
     clear hr3 hown hb
     go_wp2_with fail
     go_ret
     exact ⟨u3, rfl, by rw [HK0.out]; exact HF.out⟩

end Go.Proofs.YtimkklaidodkdaaGreatDoor
