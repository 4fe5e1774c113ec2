/- node.Kids: walked. -/
/- cambiumref05.Kids: walked. -/
import Derived.Test.YtimkklaidodkdaaGreatDoorDecode
namespace Go.Proofs.YtimkklaidodkdaaGreatDoor
open Go.RowKit

def numsV (l : List Nat) : List Value := l.map fun n : Nat => Value.int .u32 (n : Int)
theorem info_u32 : (Tryz.prog.info? 32).map (fun i => (i.zero, i.size, i.bytes)) = some (some (.int .u32 0), 1, 4) := by kernel_rfl
theorem numsV_snoc (l : List Nat) (n : Nat) : numsV (l ++ [n]) = numsV l ++ [.int .u32 (n : Int)] := by simp [numsV]

def vroots (l : List VolD) : List Nat := (l.filter (fun v => decide (v.root ≠ 0))).map (·.root)
theorem vroots_snoc (l : List VolD) (t : Nat) (h : t < l.length) : vroots (l.take (t + 1)) = if l[t].root = 0 then vroots (l.take t) else vroots (l.take t) ++ [l[t].root] := by
 unfold vroots
 rw [List.take_succ_eq_append_getElem h, List.filter_append, List.map_append, List.filter_cons]
 by_cases h0 : l[t].root = 0
 ·rw [if_pos h0]; simp [h0]
 ·rw [if_neg h0]; simp [h0]
theorem vroots_le (l : List VolD) (t : Nat) : (vroots (l.take t)).length ≤ t := by
 unfold vroots
 rw [List.length_map]
 exact Nat.le_trans (List.length_filter_le _ _) (by rw [List.length_take]; omega)

set_option maxRecDepth 20000 in
set_option maxHeartbeats 3200000 in
theorem kidNums_calls (B : Nat) (v : Value) (n : NodeD) (w : World) (h : NodeAt B w v n) (hB : B ≤ w.heap.size) (hz : fitN n) :
  Calls Tryz.prog 18 #[v] w fun e w' => ∃ r, e = .returned r ∧ w'.ownsRow w.heap.size 32 1 r (kidNums n).length (numsV (kidNums n)) ∧ Below w.heap.size w w' := by
 obtain ⟨hw, vi, vk, vv, rfl, h1, h2, h3⟩ := h
 obtain ⟨iU0, hU, hUz0, hUz1, hUz2⟩ := info_parts info_u32
 obtain ⟨kind, items, kids, vols⟩ := n
 obtain ⟨⟨_, z2, z3⟩, _⟩ := hz
 simp only [] at h1 h2 h3 z2 z3
 have hwk := hw.2.1
 have hwv := hw.2.2
 have hX : kidNums ⟨kind, items, kids, vols⟩ = (if kind = 2 then kids.map (·.num) else if kind = 3 then (vols.filter (fun v => decide (v.root ≠ 0))).map (·.root) else []) := rfl
 generalize kidNums ⟨kind, items, kids, vols⟩ = X at *
 have HX := Lib.hid hX
 clear hX hw
 have hbW : Below w.heap.size w (w.alloc (.cells #[.int .u8 (kind : Int), vi, vk, vv] 28)) := (Below.refl _ _).alloc (Nat.le_refl _) _
 have hnil : ∀ w' : World, w'.ownsRow w.heap.size 32 1 (.slice none 0 0) 0 [] := fun w' => ⟨by simp, .inl ⟨rfl, rfl⟩⟩
 show Calls Tryz.prog 18 #[.agg #[.int .u8 (kind : Int), vi, vk, vv]] w _
 go_enter Tryz.func18, Tryz.ntmps18
 by_cases hk2 : kind = 2
 ·subst hk2
  have hX : X = kids.map (·.num) := by rw [HX.out, if_pos rfl]
  have HXf := Lib.hid hX
  clear hX HX h1 h3
  generalize kids = l at *
  obtain ⟨a, cap, rfl, hn, hr⟩ := h2
  unfold maxLen at hn
  go_wp2_with fail
  go_loopw [3, 15] (fun v3 v wr => ∃ t : Nat, t ≤ l.length ∧ v = .int .i64 t ∧ wr.ownsRow w.heap.size 32 1 v3 ((l.take t).map (·.num)).length (numsV ((l.take t).map (·.num))) ∧ Below w.heap.size w wr) (fun _ v _ => l.length - (intOf v).toNat)
  case atStart => exact ⟨0, by omega, rfl, hnil _, hbW⟩
  case round =>
   clear hbW
   obtain ⟨t, ht, rfl, hown, hb⟩ := hrel
   by_cases hlt : t < l.length
   ·obtain ⟨b, o, rfl, hbB, hc⟩ := hr (by omega)
    have hci : wr.rangeAt b (o + t * 34) (kidV l[t]) := by
     have := rangeAt_below (hc t hlt) hb (by omega)
     rwa [List.getElem?_eq_getElem hlt] at this
    have hlti : (t : Int) < (l.length : Int) := by omega
    have hwk1 := hwk l[t] (List.getElem_mem hlt)
    have hkl := kidV_length hwk1.2
    have hone := kidV_one l[t]
    have hksz : (Tryz.prog.info? 38).map (·.size) = some (kidV l[t]).length := by rw [hkl]; kernel_rfl
    have hksz2 : (Tryz.prog.info? 38).map (·.size) = some (kidV l[t]).toArray.size := by rw [List.size_toArray, hkl]; kernel_rfl
    obtain ⟨W, W2, hW, hW2, hG, hb2, hthere⟩ := alloc_fill wr kidZ (kidV l[t]).toArray 38 (by rw [List.size_toArray, hkl]; rfl)
    have hbW2 := hb.trans (hb2.mono hb.size)
    have hown2 := ownsRow_below hown hb2
    have c1 : W2.cell? ⟨wr.heap.size, 1, none⟩ = some (.int .u32 (l[t].num : Int)) := by rw [hG.cell]; rfl
    have hsn : (l.take (t + 1)).map (·.num) = (l.take t).map (·.num) ++ [l[t].num] := by rw [List.take_succ_eq_append_getElem hlt, List.map_append]; rfl
    have hll : ((l.take t).map (·.num)).length = t := by rw [List.length_map, List.length_take]; omega
    have HW := Lib.hid hW
    have HW2 := Lib.hid hW2
    clear hW hW2 hG hb2 hkl hwk1 hown hr hc hb
    generalize kidV l[t] = cs at *
    generalize l[t].num = num at *
    generalize hA : (l.take t).map (·.num) = A at *
    have HA := Lib.hid hA
    have HS := Lib.hid hsn
    have HL := Lib.hid hll
    have hzz : (A.length + 1) * 4 ≤ 140737488355328 := by rw [hll]; omega
    have hsz2' := hbW2.size
    obtain ⟨W3, hW3⟩ : ∃ W3, W3 = W2.alloc (.cells #[.int .u32 (num : Int)] 32) := ⟨_, rfl⟩
    have hal := (Below.refl _ W2).alloc (Nat.le_refl _) (.cells #[.int .u32 (num : Int)] 32)
    have hN3 := RowIs.new W2 32 #[.int .u32 (num : Int)]
    rw [← hW3] at hal hN3
    have hown3 := ownsRow_below hown2 hal
    have hb3 := hbW2.trans (hal.mono hsz2')
    have HW3 := Lib.hid hW3
    clear hA hsn hll hW3 hown2 hal hbW2
    go_wp2_with (first | (refine wpList_world HW.out ?_) | (refine wpList_load_mid rfl 38 _ rfl b (o + t * 34) rfl cs _ hci Tryz.underlying38 rfl hksz ?_) | (refine wpList_store_mid rfl 38 _ _ rfl wr.heap.size 0 cs.toArray rfl rfl hthere hksz2 hone ?_; refine wpList_world HW2.out ?_) | (refine wpList_world HW3.out ?_) |
     (at_builtin; refine wpList_append_own _ rfl _ _ 47 rfl w.heap.size 32 iU0 (.int .u32 0) 1 4 Tryz.underlying47 hU hUz0 hUz1 hUz2 rfl (by decide) u3 A.length (numsV A) rfl hown3 ⟨W2.heap.size, 0, none⟩ 1 1 [.int .u32 (num : Int)] rfl rfl (fun j u hj => by rw [Addr.add_mid, Nat.zero_add, RowIs.cell hN3, ← hj]; simp) (fun u hu => by simp only [List.mem_cons, List.not_mem_nil, or_false] at hu; rcases hu with rfl; rfl) (by unfold maxLen; omega) (by omega) (by have := hb3.size; omega) ?_))
    intro v4 w4 hown4 hgrow _
    have hb4 : Below w.heap.size w w4 := hb3.grown hgrow hb3.size (fun k hk => hown3.lt k hk |>.1)
    rw [← numsV_snoc] at hown4
    go_wp2_with fail
    go_roundw
    case rel => exact ⟨t + 1, by omega, by go_num, by rw [HS.out, List.length_append]; exact hown4, hb4⟩
    case measure => simp [intOf]; omega
   ·have htl : t = l.length := by omega
    subst htl
    rw [List.take_length, ← HXf.out] at hown
    clear hr
    go_wp2_with fail
    go_ret
    exact ⟨_, rfl, hown, hb⟩
 by_cases hk3 : kind = 3
 ·subst hk3
  have hX : X = vroots vols := by rw [HX.out, if_neg (by decide), if_pos rfl]; rfl
  have HXf := Lib.hid hX
  clear hX HX h1 h2
  generalize vols = l at *
  obtain ⟨a, cap, rfl, hn, hr⟩ := h3
  unfold maxLen at hn
  go_wp2_with fail
  go_loopw [3, 30] (fun v3 v wr => ∃ t : Nat, t ≤ l.length ∧ v = .int .i64 t ∧ wr.ownsRow w.heap.size 32 1 v3 (vroots (l.take t)).length (numsV (vroots (l.take t))) ∧ Below w.heap.size w wr) (fun _ v _ => l.length - (intOf v).toNat)
  case atStart => exact ⟨0, by omega, rfl, hnil _, hbW⟩
  case round =>
   clear hbW
   obtain ⟨t, ht, rfl, hown, hb⟩ := hrel
   by_cases hlt : t < l.length
   ·obtain ⟨b, o, rfl, hbB, hc⟩ := hr (by omega)
    have hci : wr.rangeAt b (o + t * 37) (volV l[t]) := by
     have := rangeAt_below (hc t hlt) hb (by omega)
     rwa [List.getElem?_eq_getElem hlt] at this
    have hlti : (t : Int) < (l.length : Int) := by omega
    have hwv1 := hwv l[t] (List.getElem_mem hlt)
    have hkl := volV_length hwv1.2.2.2
    have hone := volV_one l[t]
    have hksz : (Tryz.prog.info? 89).map (·.size) = some (volV l[t]).length := by rw [hkl]; kernel_rfl
    have hksz2 : (Tryz.prog.info? 89).map (·.size) = some (volV l[t]).toArray.size := by rw [List.size_toArray, hkl]; kernel_rfl
    obtain ⟨W, W2, hW, hW2, hG, hb2, hthere⟩ := alloc_fill wr volZ (volV l[t]).toArray 89 (by rw [List.size_toArray, hkl]; rfl)
    have hbW2 := hb.trans (hb2.mono hb.size)
    have hown2 := ownsRow_below hown hb2
    have c1 : W2.cell? ⟨wr.heap.size, 4, none⟩ = some (.int .u32 (l[t].root : Int)) := by rw [hG.cell]; rfl
    have hsn : vroots (l.take (t + 1)) = (if l[t].root = 0 then vroots (l.take t) else vroots (l.take t) ++ [l[t].root]) := vroots_snoc l t hlt
    have hll : (vroots (l.take t)).length ≤ t := vroots_le l t
    have HW := Lib.hid hW
    have HW2 := Lib.hid hW2
    clear hW hW2 hG hb2 hkl hwv1 hown hr hc hb
    generalize volV l[t] = cs at *
    generalize l[t].root = num at *
    generalize hA : vroots (l.take t) = A at *
    have HA := Lib.hid hA
    have HS := Lib.hid hsn
    have HL := Lib.hid hll
    have hzz : (A.length + 1) * 4 ≤ 140737488355328 := by omega
    have hsz2' := hbW2.size
    obtain ⟨W3, hW3⟩ : ∃ W3, W3 = W2.alloc (.cells #[.int .u32 (num : Int)] 32) := ⟨_, rfl⟩
    have hal := (Below.refl _ W2).alloc (Nat.le_refl _) (.cells #[.int .u32 (num : Int)] 32)
    have hN3 := RowIs.new W2 32 #[.int .u32 (num : Int)]
    rw [← hW3] at hal hN3
    have hown3 := ownsRow_below hown2 hal
    have hb3 := hbW2.trans (hal.mono hsz2')
    have HW3 := Lib.hid hW3
    clear hA hsn hll hW3 hal
    by_cases h0 : num = 0
    ·subst h0
     have hS : vroots (l.take (t + 1)) = A := by rw [HS.out, if_pos rfl]
     have HS2 := Lib.hid hS
     clear hS
     go_wp2_with (first | (refine wpList_world HW.out ?_) | (refine wpList_load_mid rfl 89 _ rfl b (o + t * 37) rfl cs _ hci Tryz.underlying89 rfl hksz ?_) | (refine wpList_store_mid rfl 89 _ _ rfl wr.heap.size 0 cs.toArray rfl rfl hthere hksz2 hone ?_; refine wpList_world HW2.out ?_))
     go_roundw
     case rel => exact ⟨t + 1, by omega, by go_num, by rw [HS2.out]; exact hown2, hbW2⟩
     case measure => simp [intOf]; omega
    ·have hnz : ((num : Int) == 0) = false := by
      rw [Bool.eq_false_iff]; simp; omega
     have hnz2 : ¬ (num : Int) = 0 := by omega
     have hS : vroots (l.take (t + 1)) = A ++ [num] := by rw [HS.out, if_neg h0]
     have HS2 := Lib.hid hS
     clear hS
     go_wp2_with (first | (refine wpList_world HW.out ?_) | (refine wpList_load_mid rfl 89 _ rfl b (o + t * 37) rfl cs _ hci Tryz.underlying89 rfl hksz ?_) | (refine wpList_store_mid rfl 89 _ _ rfl wr.heap.size 0 cs.toArray rfl rfl hthere hksz2 hone ?_; refine wpList_world HW2.out ?_) | (refine wpList_world HW3.out ?_) |
      (at_builtin; refine wpList_append_own _ rfl _ _ 47 rfl w.heap.size 32 iU0 (.int .u32 0) 1 4 Tryz.underlying47 hU hUz0 hUz1 hUz2 rfl (by decide) u3 A.length (numsV A) rfl hown3 ⟨W2.heap.size, 0, none⟩ 1 1 [.int .u32 (num : Int)] rfl rfl (fun j u hj => by rw [Addr.add_mid, Nat.zero_add, RowIs.cell hN3, ← hj]; simp) (fun u hu => by simp only [List.mem_cons, List.not_mem_nil, or_false] at hu; rcases hu with rfl; rfl) (by unfold maxLen; omega) (by omega) (by have := hb3.size; omega) ?_))
     intro v4 w4 hown4 hgrow _
     have hb4 : Below w.heap.size w w4 := hb3.grown hgrow hb3.size (fun k hk => hown3.lt k hk |>.1)
     rw [← numsV_snoc] at hown4
     go_wp2_with fail
     go_roundw
     case rel => exact ⟨t + 1, by omega, by go_num, by rw [HS2.out, List.length_append]; exact hown4, hb4⟩
     case measure => simp [intOf]; omega
   ·have htl : t = l.length := by omega
    subst htl
    rw [List.take_length, ← HXf.out] at hown
    clear hr
    go_wp2_with fail
    go_ret
    exact ⟨_, rfl, hown, hb⟩
 ·have j2 : ¬ (kind : Int) = 2 := by omega
  have j3 : ¬ (kind : Int) = 3 := by omega
  have hX : X = [] := by rw [HX.out, if_neg hk2, if_neg hk3]
  have HXf := Lib.hid hX
  clear hX HX
  go_wp2_with fail
  go_ret
  exact ⟨_, rfl, by rw [HXf.out]; exact hnil _, hbW⟩

end Go.Proofs.YtimkklaidodkdaaGreatDoor

namespace Go.Proofs.YtimkklaidodkdaaGreatDoor
open Go.RowKit

set_option maxRecDepth 20000 in
set_option maxHeartbeats 3200000 in
theorem rkidNums_calls (B : Nat) (v : Value) (n : NodeD) (w : World) (h : NodeAt B w v n) (hB : B ≤ w.heap.size) (hz : fitN n) :
  Calls Tryz.prog 84 #[v] w fun e w' => ∃ r, e = .returned r ∧ w'.ownsRow w.heap.size 32 1 r (kidNums n).length (numsV (kidNums n)) ∧ Below w.heap.size w w' := by
 obtain ⟨hw, vi, vk, vv, rfl, h1, h2, h3⟩ := h
 obtain ⟨iU0, hU, hUz0, hUz1, hUz2⟩ := info_parts info_u32
 obtain ⟨kind, items, kids, vols⟩ := n
 obtain ⟨⟨_, z2, z3⟩, _⟩ := hz
 simp only [] at h1 h2 h3 z2 z3
 have hwk := hw.2.1
 have hwv := hw.2.2
 have hX : kidNums ⟨kind, items, kids, vols⟩ = (if kind = 2 then kids.map (·.num) else if kind = 3 then (vols.filter (fun v => decide (v.root ≠ 0))).map (·.root) else []) := rfl
 generalize kidNums ⟨kind, items, kids, vols⟩ = X at *
 have HX := Lib.hid hX
 clear hX hw
 have hbW : Below w.heap.size w (w.alloc (.cells #[.int .u8 (kind : Int), vi, vk, vv] 28)) := (Below.refl _ _).alloc (Nat.le_refl _) _
 have hnil : ∀ w' : World, w'.ownsRow w.heap.size 32 1 (.slice none 0 0) 0 [] := fun w' => ⟨by simp, .inl ⟨rfl, rfl⟩⟩
 show Calls Tryz.prog 84 #[.agg #[.int .u8 (kind : Int), vi, vk, vv]] w _
 go_enter Tryz.func84, Tryz.ntmps84
 by_cases hk2 : kind = 2
 ·subst hk2
  have hX : X = kids.map (·.num) := by rw [HX.out, if_pos rfl]
  have HXf := Lib.hid hX
  clear hX HX h1 h3
  generalize kids = l at *
  obtain ⟨a, cap, rfl, hn, hr⟩ := h2
  unfold maxLen at hn
  go_wp2_with fail
  go_loopw [3, 14] (fun v3 v wr => ∃ t : Nat, t ≤ l.length ∧ v = .int .i64 t ∧ wr.ownsRow w.heap.size 32 1 v3 ((l.take t).map (·.num)).length (numsV ((l.take t).map (·.num))) ∧ Below w.heap.size w wr ∧ RowIs wr w.heap.size 28 #[.int .u8 2, vi, .slice a l.length cap, vv]) (fun _ v _ => l.length - (intOf v).toNat)
  case atStart => exact ⟨0, by omega, rfl, hnil _, hbW, RowIs.new _ _ _⟩
  case round =>
   clear hbW
   obtain ⟨t, ht, rfl, hown, hb, hbx⟩ := hrel
   by_cases hlt : t < l.length
   ·obtain ⟨b, o, rfl, hbB, hc⟩ := hr (by omega)
    have hci : wr.rangeAt b (o + t * 34) (kidV l[t]) := by
     have := rangeAt_below (hc t hlt) hb (by omega)
     rwa [List.getElem?_eq_getElem hlt] at this
    have hlti : (t : Int) < (l.length : Int) := by omega
    have hwk1 := hwk l[t] (List.getElem_mem hlt)
    have hkl := kidV_length hwk1.2
    have hone := kidV_one l[t]
    have hksz : (Tryz.prog.info? 38).map (·.size) = some (kidV l[t]).length := by rw [hkl]; kernel_rfl
    have hksz2 : (Tryz.prog.info? 38).map (·.size) = some (kidV l[t]).toArray.size := by rw [List.size_toArray, hkl]; kernel_rfl
    obtain ⟨W, W2, hW, hW2, hG, hb2, hthere⟩ := alloc_fill wr kidZ (kidV l[t]).toArray 38 (by rw [List.size_toArray, hkl]; rfl)
    have hbW2 := hb.trans (hb2.mono hb.size)
    have hown2 := ownsRow_below hown hb2
    have hbx2 := hbx.below hb2 hbx.lt
    have c1 : W2.cell? ⟨wr.heap.size, 1, none⟩ = some (.int .u32 (l[t].num : Int)) := by rw [hG.cell]; rfl
    have hsn : (l.take (t + 1)).map (·.num) = (l.take t).map (·.num) ++ [l[t].num] := by rw [List.take_succ_eq_append_getElem hlt, List.map_append]; rfl
    have hll : ((l.take t).map (·.num)).length = t := by rw [List.length_map, List.length_take]; omega
    have HW := Lib.hid hW
    have HW2 := Lib.hid hW2
    clear hW hW2 hG hb2 hkl hwk1 hown hr hc hb
    generalize kidV l[t] = cs at *
    generalize l[t].num = num at *
    generalize hA : (l.take t).map (·.num) = A at *
    have HA := Lib.hid hA
    have HS := Lib.hid hsn
    have HL := Lib.hid hll
    have hzz : (A.length + 1) * 4 ≤ 140737488355328 := by rw [hll]; omega
    have hsz2' := hbW2.size
    obtain ⟨W3, hW3⟩ : ∃ W3, W3 = W2.alloc (.cells #[.int .u32 (num : Int)] 32) := ⟨_, rfl⟩
    have hal := (Below.refl _ W2).alloc (Nat.le_refl _) (.cells #[.int .u32 (num : Int)] 32)
    have hN3 := RowIs.new W2 32 #[.int .u32 (num : Int)]
    rw [← hW3] at hal hN3
    have hown3 := ownsRow_below hown2 hal
    have HBX := Lib.hid (hbx2.below hal hbx2.lt)
    have hot := fun g hg => own_type hown3 (g := g) hg
    have HOT := Lib.hid hot
    clear hbx hbx2 hot
    have hb3 := hbW2.trans (hal.mono hsz2')
    have HW3 := Lib.hid hW3
    clear hA hsn hll hW3 hown2 hal hbW2
    go_wp2_with (first | (refine wpList_world HW.out ?_) | (refine wpList_load_mid rfl 38 _ rfl b (o + t * 34) rfl cs _ hci Tryz.underlying38 rfl hksz ?_) | (refine wpList_store_mid rfl 38 _ _ rfl wr.heap.size 0 cs.toArray rfl rfl hthere hksz2 hone ?_; refine wpList_world HW2.out ?_) | (refine wpList_world HW3.out ?_) |
     (at_builtin; refine wpList_append_own _ rfl _ _ 47 rfl w.heap.size 32 iU0 (.int .u32 0) 1 4 Tryz.underlying47 hU hUz0 hUz1 hUz2 rfl (by decide) u3 A.length (numsV A) rfl hown3 ⟨W2.heap.size, 0, none⟩ 1 1 [.int .u32 (num : Int)] rfl rfl (fun j u hj => by rw [Addr.add_mid, Nat.zero_add, RowIs.cell hN3, ← hj]; simp) (fun u hu => by simp only [List.mem_cons, List.not_mem_nil, or_false] at hu; rcases hu with rfl; rfl) (by unfold maxLen; omega) (by omega) (by have := hb3.size; omega) ?_))
    intro v4 w4 hown4 hgrow _
    have hb4 : Below w.heap.size w w4 := hb3.grown hgrow hb3.size (fun k hk => hown3.lt k hk |>.1)
    rw [← numsV_snoc] at hown4
    have hbx4 := row_grown HBX.out hgrow (fun q => by obtain ⟨cc, hcc⟩ := HOT.out _ q.symm; have := HBX.out; unfold RowIs at this; rw [this] at hcc; injection hcc with hcc; injection hcc with _ q2 _; exact absurd q2 (by decide))
    have HBX4 := Lib.hid hbx4
    clear hbx4
    go_wp2_with fail
    go_roundw
    case rel => exact ⟨t + 1, by omega, by go_num, by rw [HS.out, List.length_append]; exact hown4, hb4, HBX4.out⟩
    case measure => simp [intOf]; omega
   ·have htl : t = l.length := by omega
    subst htl
    rw [List.take_length, ← HXf.out] at hown
    have ck0 : wr.cell? ⟨w.heap.size, 0, none⟩ = some (.int .u8 2) := by rw [hbx.cell]; rfl
    clear hr hbx
    go_wp2_with fail
    go_ret
    exact ⟨_, rfl, hown, hb⟩
 by_cases hk3 : kind = 3
 ·subst hk3
  have hX : X = vroots vols := by rw [HX.out, if_neg (by decide), if_pos rfl]; rfl
  have HXf := Lib.hid hX
  clear hX HX h1 h2
  generalize vols = l at *
  obtain ⟨a, cap, rfl, hn, hr⟩ := h3
  unfold maxLen at hn
  go_wp2_with fail
  go_loopw [3, 30] (fun v3 v wr => ∃ t : Nat, t ≤ l.length ∧ v = .int .i64 t ∧ wr.ownsRow w.heap.size 32 1 v3 (vroots (l.take t)).length (numsV (vroots (l.take t))) ∧ Below w.heap.size w wr) (fun _ v _ => l.length - (intOf v).toNat)
  case atStart => exact ⟨0, by omega, rfl, hnil _, hbW⟩
  case round =>
   clear hbW
   obtain ⟨t, ht, rfl, hown, hb⟩ := hrel
   by_cases hlt : t < l.length
   ·obtain ⟨b, o, rfl, hbB, hc⟩ := hr (by omega)
    have hci : wr.rangeAt b (o + t * 37) (volV l[t]) := by
     have := rangeAt_below (hc t hlt) hb (by omega)
     rwa [List.getElem?_eq_getElem hlt] at this
    have hlti : (t : Int) < (l.length : Int) := by omega
    have hwv1 := hwv l[t] (List.getElem_mem hlt)
    have hkl := volV_length hwv1.2.2.2
    have hone := volV_one l[t]
    have hksz : (Tryz.prog.info? 89).map (·.size) = some (volV l[t]).length := by rw [hkl]; kernel_rfl
    have hksz2 : (Tryz.prog.info? 89).map (·.size) = some (volV l[t]).toArray.size := by rw [List.size_toArray, hkl]; kernel_rfl
    obtain ⟨W, W2, hW, hW2, hG, hb2, hthere⟩ := alloc_fill wr volZ (volV l[t]).toArray 89 (by rw [List.size_toArray, hkl]; rfl)
    have hbW2 := hb.trans (hb2.mono hb.size)
    have hown2 := ownsRow_below hown hb2
    have c1 : W2.cell? ⟨wr.heap.size, 4, none⟩ = some (.int .u32 (l[t].root : Int)) := by rw [hG.cell]; rfl
    have hsn : vroots (l.take (t + 1)) = (if l[t].root = 0 then vroots (l.take t) else vroots (l.take t) ++ [l[t].root]) := vroots_snoc l t hlt
    have hll : (vroots (l.take t)).length ≤ t := vroots_le l t
    have HW := Lib.hid hW
    have HW2 := Lib.hid hW2
    clear hW hW2 hG hb2 hkl hwv1 hown hr hc hb
    generalize volV l[t] = cs at *
    generalize l[t].root = num at *
    generalize hA : vroots (l.take t) = A at *
    have HA := Lib.hid hA
    have HS := Lib.hid hsn
    have HL := Lib.hid hll
    have hzz : (A.length + 1) * 4 ≤ 140737488355328 := by omega
    have hsz2' := hbW2.size
    obtain ⟨W3, hW3⟩ : ∃ W3, W3 = W2.alloc (.cells #[.int .u32 (num : Int)] 32) := ⟨_, rfl⟩
    have hal := (Below.refl _ W2).alloc (Nat.le_refl _) (.cells #[.int .u32 (num : Int)] 32)
    have hN3 := RowIs.new W2 32 #[.int .u32 (num : Int)]
    rw [← hW3] at hal hN3
    have hown3 := ownsRow_below hown2 hal
    have hb3 := hbW2.trans (hal.mono hsz2')
    have HW3 := Lib.hid hW3
    clear hA hsn hll hW3 hal
    by_cases h0 : num = 0
    ·subst h0
     have hS : vroots (l.take (t + 1)) = A := by rw [HS.out, if_pos rfl]
     have HS2 := Lib.hid hS
     clear hS
     go_wp2_with (first | (refine wpList_world HW.out ?_) | (refine wpList_load_mid rfl 89 _ rfl b (o + t * 37) rfl cs _ hci Tryz.underlying89 rfl hksz ?_) | (refine wpList_store_mid rfl 89 _ _ rfl wr.heap.size 0 cs.toArray rfl rfl hthere hksz2 hone ?_; refine wpList_world HW2.out ?_))
     go_roundw
     case rel => exact ⟨t + 1, by omega, by go_num, by rw [HS2.out]; exact hown2, hbW2⟩
     case measure => simp [intOf]; omega
    ·have hnz : ((num : Int) == 0) = false := by
      rw [Bool.eq_false_iff]; simp; omega
     have hnz2 : ¬ (num : Int) = 0 := by omega
     have hS : vroots (l.take (t + 1)) = A ++ [num] := by rw [HS.out, if_neg h0]
     have HS2 := Lib.hid hS
     clear hS
     go_wp2_with (first | (refine wpList_world HW.out ?_) | (refine wpList_load_mid rfl 89 _ rfl b (o + t * 37) rfl cs _ hci Tryz.underlying89 rfl hksz ?_) | (refine wpList_store_mid rfl 89 _ _ rfl wr.heap.size 0 cs.toArray rfl rfl hthere hksz2 hone ?_; refine wpList_world HW2.out ?_) | (refine wpList_world HW3.out ?_) |
      (at_builtin; refine wpList_append_own _ rfl _ _ 47 rfl w.heap.size 32 iU0 (.int .u32 0) 1 4 Tryz.underlying47 hU hUz0 hUz1 hUz2 rfl (by decide) u3 A.length (numsV A) rfl hown3 ⟨W2.heap.size, 0, none⟩ 1 1 [.int .u32 (num : Int)] rfl rfl (fun j u hj => by rw [Addr.add_mid, Nat.zero_add, RowIs.cell hN3, ← hj]; simp) (fun u hu => by simp only [List.mem_cons, List.not_mem_nil, or_false] at hu; rcases hu with rfl; rfl) (by unfold maxLen; omega) (by omega) (by have := hb3.size; omega) ?_))
     intro v4 w4 hown4 hgrow _
     have hb4 : Below w.heap.size w w4 := hb3.grown hgrow hb3.size (fun k hk => hown3.lt k hk |>.1)
     rw [← numsV_snoc] at hown4
     go_wp2_with fail
     go_roundw
     case rel => exact ⟨t + 1, by omega, by go_num, by rw [HS2.out, List.length_append]; exact hown4, hb4⟩
     case measure => simp [intOf]; omega
   ·have htl : t = l.length := by omega
    subst htl
    rw [List.take_length, ← HXf.out] at hown
    clear hr
    go_wp2_with fail
    go_ret
    exact ⟨_, rfl, hown, hb⟩
 ·have j2 : ¬ (kind : Int) = 2 := by omega
  have j3 : ¬ (kind : Int) = 3 := by omega
  have hX : X = [] := by rw [HX.out, if_neg hk2, if_neg hk3]
  have HXf := Lib.hid hX
  clear hX HX
  go_wp2_with fail
  go_ret
  exact ⟨_, rfl, by rw [HXf.out]; exact hnil _, hbW⟩

end Go.Proofs.YtimkklaidodkdaaGreatDoor
