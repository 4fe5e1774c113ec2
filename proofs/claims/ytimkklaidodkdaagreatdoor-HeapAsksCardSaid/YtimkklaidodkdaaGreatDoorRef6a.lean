/- cambiumref06.find: walked. -/
/- cambiumref06.Named, node, told: walked. -/
import Derived.Test.YtimkklaidodkdaaGreatDoorHeapLed
import Derived.Test.YtimkklaidodkdaaGreatDoorRefDecode
import Derived.Test.YtimkklaidodkdaaGreatDoorShaR4
namespace Go.Proofs.YtimkklaidodkdaaGreatDoor
open Go.RowKit

/-- Where a cell of a number is; -1: nowhere. -/
def idxI (l : List CellD) (k : Nat) : Int := match l.findIdx? (fun c => c.num == k) with
 | some i => (i : Int)
 | none => -1
theorem idx_at {l : List CellD} {k t : Nat} (ht : t < l.length) (hk : l[t].num = k) (hb : ∀ i (hi : i < l.length), i < t → l[i].num ≠ k) : idxI l k = (t : Int) := by
 have h : l.findIdx? (fun c => c.num == k) = some t := by
  rw [List.findIdx?_eq_some_iff_getElem]
  refine ⟨ht, by simpa using hk, fun j hj => ?_⟩
  have := hb j (by omega) hj
  simpa using this
 unfold idxI
 rw [h]
theorem idx_none {l : List CellD} {k : Nat} (hb : ∀ i (hi : i < l.length), l[i].num ≠ k) : idxI l k = -1 := by
 have h : l.findIdx? (fun c => c.num == k) = none := by
  rw [List.findIdx?_eq_none_iff]
  intro c hc
  obtain ⟨i, hi, rfl⟩ := List.getElem_of_mem hc
  simpa using hb i hi
 unfold idxI
 rw [h]

set_option maxRecDepth 20000 in
set_option maxHeartbeats 1600000 in
theorem find06_calls (B : Nat) (v : Value) (l : List CellD) (k : Nat) (w : World) (h : SlAt B w v l.length (fun i => (l[i]?.map cellV).getD []) 3) (hB : B ≤ w.heap.size) :
  Calls Tryz.prog 54 #[v, .int .u32 (k : Int)] w fun e w' => e = .returned (.int .i64 (idxI l k)) ∧ Below w.heap.size w w' := by
 obtain ⟨a, cap, rfl, hn, hr⟩ := h
 have hat := fun t ht => @idx_at l k t ht
 have hno := @idx_none l k
 generalize idxI l k = X at *
 have HAT := Lib.hid (And.intro hat hno)
 clear hat hno
 unfold maxLen at hn
 go_enter Tryz.func54, Tryz.ntmps54
 go_wp2_with fail
 go_loopw [9] (fun v wr => ∃ t : Nat, t ≤ l.length ∧ v = .int .i64 t ∧ (∀ i (hi : i < l.length), i < t → l[i].num ≠ k) ∧ Below w.heap.size w wr) (fun v _ => l.length - (intOf v).toNat)
 case atStart => exact ⟨0, by omega, rfl, fun i _ hi => absurd hi (Nat.not_lt_zero _), Below.refl _ _⟩
 case round =>
  obtain ⟨t, ht, rfl, hbf, hb⟩ := hrel
  by_cases hlt : t < l.length
  ·obtain ⟨b, o, rfl, hbB, hc⟩ := hr (by omega)
   have hci : wr.rangeAt b (o + t * 3) (cellV l[t]) := by
    have := rangeAt_below (hc t hlt) hb (by omega)
    rwa [List.getElem?_eq_getElem hlt] at this
   have c0 : wr.cell? ⟨b, o + t * 3, none⟩ = some (.int .u32 (l[t].num : Int)) := hci 0 _ rfl
   have c1 : wr.cell? ⟨b, o + t * 3 + 1, none⟩ = some (.string l[t].data) := hci 1 _ rfl
   have c2 : wr.cell? ⟨b, o + t * 3 + 2, none⟩ = some (.int .i64 l[t].refs) := hci 2 _ rfl
   have hlti : (t : Int) < (l.length : Int) := by omega
   have hq : ∀ C : Array Value, Below w.heap.size w (wr.alloc (.cells C 57)) := fun C => hb.alloc hb.size _
   have HQ := Lib.hid hq
   have hstep : l[t].num ≠ k → ∀ i (hi : i < l.length), i < t + 1 → l[i].num ≠ k := fun hne i hi hit => by
    rcases Nat.lt_or_ge i t with q | q
    ·exact hbf i hi q
    ·obtain rfl : i = t := by omega
     exact hne
   have HST := Lib.hid hstep
   have HHIT := Lib.hid (fun hk : l[t].num = k => HAT.out.1 t hlt hk hbf)
   clear hc hr hci hq hstep hbf hb
   generalize l[t].num = num at *
   generalize l[t].data = dat at *
   generalize l[t].refs = rf at *
   by_cases hk : num = k
   ·have hX := HHIT.out hk
    have HX := Lib.hid hX
    subst hk
    clear hX HST
    go_wp2_with fail
    go_ret
    exact ⟨by rw [HX.out]; rfl, HQ.out _⟩
   ·have HS := Lib.hid (HST.out hk)
    have hne : ((num : Int) == (k : Int)) = false := by simpa using fun e => hk (by omega)
    clear HST
    go_wp2_with fail
    go_roundw
    case rel => exact ⟨t + 1, by omega, by go_num, HS.out, HQ.out _⟩
    case measure => simp [intOf]; omega
  ·have htl : t = l.length := by omega
   have hX := HAT.out.2 (fun i hi => hbf i hi (by omega))
   have HX := Lib.hid hX
   clear hX hbf hr htl
   have i1 : ¬ (t : Int) < (l.length : Int) := by omega
   go_wp2_with fail
   go_ret
   exact ⟨by rw [HX.out]; rfl, hb⟩

end Go.Proofs.YtimkklaidodkdaaGreatDoor

namespace Go.Proofs.YtimkklaidodkdaaGreatDoor
open Go.RowKit

set_option maxRecDepth 100000 in
set_option maxHeartbeats 6400000 in
theorem rnamed_calls (B : Nat) (v : Value) (n : NodeD) (w : World) (h : NodeAt B w v n) (hB : B ≤ w.heap.size) (hz : n.kids.length + n.vols.length ≤ 1048576) :
  Calls Tryz.prog 88 #[v] w fun e w' => ∃ r, e = .returned r ∧ w'.ownsRow w.heap.size 38 34 r (namedK n).length ((namedK n).flatMap kidV) ∧ Below w.heap.size w w' := by
 obtain ⟨hw, vi, vk, vv, rfl, _, h2, h3⟩ := h
 obtain ⟨iR0, hR, hRz0, hRz1, hRz2⟩ := info_parts info_kid
 obtain ⟨kind, items, kids, vols⟩ := n
 simp only [] at h2 h3 hz
 have hwk := hw.2.1
 have hwv := hw.2.2
 simp only [] at hwk hwv
 have hX : namedK ⟨kind, items, kids, vols⟩ = kids.map kmap ++ vnam vols := rfl
 rw [hX]
 clear hw hX
 obtain ⟨W0, hW0⟩ : ∃ W0, W0 = w.alloc (.cells #[.int .u8 (kind : Int), vi, vk, vv] 28) := ⟨_, rfl⟩
 have hbx : RowIs W0 w.heap.size 28 #[.int .u8 (kind : Int), vi, vk, vv] := by rw [hW0]; exact RowIs.new w _ _
 have hb0 : Below w.heap.size w W0 := by rw [hW0]; exact (Below.refl _ _).alloc (Nat.le_refl _) _
 have hlt0 := hbx.lt
 have HW0 := Lib.hid hW0
 clear hW0
 have hnil : W0.ownsRow W0.heap.size 38 34 (.slice none 0 0) 0 [] := ⟨by simp, .inl ⟨rfl, rfl⟩⟩
 obtain ⟨a2, cap2, rfl, hn2, hr2⟩ := h2
 obtain ⟨a3, cap3, rfl, hn3, hr3⟩ := h3
 unfold maxLen at hn2 hn3
 have c2 : W0.cell? ⟨w.heap.size, 2, none⟩ = some (.slice a2 kids.length cap2) := by rw [hbx.cell]; rfl
 show Calls Tryz.prog 88 #[.agg #[.int .u8 (kind : Int), vi, .slice a2 kids.length cap2, .slice a3 vols.length cap3]] w _
 generalize hBB : w.heap.size = BB at *
 generalize hB0 : W0.heap.size = B0 at *
 go_enter Tryz.func88, Tryz.ntmps88
 go_wp2_with (refine wpList_world HW0.out ?_)
 go_loopw [3, 11] (fun v3 v wr => ∃ t : Nat, t ≤ kids.length ∧ v = .int .i64 t ∧ wr.ownsRow B0 38 34 v3 ((kids.take t).map kmap).length (((kids.take t).map kmap).flatMap kidV) ∧ Below B0 W0 wr) (fun _ v _ => kids.length - (intOf v).toNat)
 case atStart => exact ⟨0, by omega, rfl, hnil, Below.refl _ _⟩
 case round =>
  clear hnil
  obtain ⟨t, ht, rfl, hown, hb⟩ := hrel
  by_cases hlt : t < kids.length
  ·obtain ⟨b, o, rfl, hbB, hc⟩ := hr2 (by omega)
   have hci : wr.rangeAt b (o + t * 34) (kidV kids[t]) := by
    have := rangeAt_below (rangeAt_below (hc t hlt) hb0 (by omega)) hb (by omega)
    rwa [List.getElem?_eq_getElem hlt] at this
   have hkl := kidV_length (hwk kids[t] (List.getElem_mem hlt)).2
   have hone := kidV_one kids[t]
   have hksz : (Tryz.prog.info? 38).map (·.size) = some (kidV kids[t]).length := by rw [hkl]; kernel_rfl
   have hksz2 : (Tryz.prog.info? 38).map (·.size) = some (kidV kids[t]).toArray.size := by rw [List.size_toArray, hkl]; kernel_rfl
   obtain ⟨W, W2, hW, hW2, hG, hb2, hthere⟩ := alloc_fill wr kidZ (kidV kids[t]).toArray 38 (by rw [List.size_toArray, hkl]; rfl)
   have hbz := hb.size
   have hbW2 := hb.trans (hb2.mono (show B0 ≤ wr.heap.size by omega))
   have hown2 := ownsRow_below hown hb2
   have c1 : W2.cell? ⟨wr.heap.size, 1, none⟩ = some (.int .u32 (kids[t].num : Int)) := by rw [hG.cell]; rfl
   have hhr : W2.rangeAt wr.heap.size 2 (bytesV kids[t].hash) := fun j u hj => by
    rw [hG.cell]
    rw [List.getElem?_toArray, kidV, List.getElem?_append_right (by simp)]
    rw [← hj]; congr 1; simp
   have hhsz : (Tryz.prog.info? 36).map (·.size) = some (bytesV kids[t].hash).length := by rw [show (bytesV kids[t].hash).length = 32 by simp [bytesV, (hwk kids[t] (List.getElem_mem hlt)).2]]; kernel_rfl
   have hbk := built_kidN (kids[t].num : Int) kids[t].hash (hwk kids[t] (List.getElem_mem hlt)).2
   have hnkl : (kidV (kmap kids[t])).length = 34 := kidV_length (hwk kids[t] (List.getElem_mem hlt)).2
   have hnone := kidV_one (kmap kids[t])
   have hnall : ∀ u ∈ kidV (kmap kids[t]), u.oneCell' = true := fun u hu => by rw [Array.all_eq_true'] at hnone; exact hnone u (by simpa using hu)
   have hsn : (kids.take (t + 1)).map kmap = (kids.take t).map kmap ++ [kmap kids[t]] := by rw [List.take_succ_eq_append_getElem hlt, List.map_append]; rfl
   have hll : ((kids.take t).map kmap).length = t := by rw [List.length_map, List.length_take]; omega
   have HW := Lib.hid hW
   have HW2 := Lib.hid hW2
   have HBK := Lib.hid (show Tryz.prog.built 38 [(1, .int .u32 (kids[t].num : Int)), (2, .agg (bytesV kids[t].hash).toArray)] = some (kidV (kmap kids[t])).toArray from hbk)
   clear hW hW2 hG hb2 hkl hown hc hb hbk hnone
   generalize kidV kids[t] = cs at *
   generalize hkc : kidV (kmap kids[t]) = kc at *
   generalize (kids[t].num : Int) = num at *
   generalize bytesV kids[t].hash = hcs at *
   obtain ⟨W3, hW3⟩ : ∃ W3, W3 = W2.alloc (.cells kc.toArray 38) := ⟨_, rfl⟩
   have hal := (Below.refl _ W2).alloc (Nat.le_refl _) (.cells kc.toArray 38)
   have hN3 := RowIs.new W2 38 kc.toArray
   rw [← hW3] at hal hN3
   have hsz2' := hbW2.size
   have hown3 := ownsRow_below hown2 hal
   have hb3 := hbW2.trans (hal.mono (show B0 ≤ W2.heap.size by omega))
   have hs3 : B0 ≤ W3.heap.size := by have := hb3.size; omega
   have HW3 := Lib.hid hW3
   clear hW3 hal
   generalize hA : (kids.take t).map kmap = A at *
   have HA := Lib.hid hA
   have HS := Lib.hid hsn
   clear hA hsn
   go_wp2_with (first | (refine wpList_world HW.out ?_) | (refine wpList_load_mid rfl 38 _ rfl b (o + t * 34) rfl cs _ hci Tryz.underlying38 rfl hksz ?_) | (refine wpList_store_mid rfl 38 _ _ rfl wr.heap.size 0 cs.toArray rfl rfl hthere hksz2 hone ?_; refine wpList_world HW2.out ?_) | (refine wpList_load_mid rfl 36 _ rfl wr.heap.size 2 rfl hcs _ hhr Tryz.underlying36 rfl hhsz ?_) | (refine wpList_build_eqH rfl 38 [(1, .tmp 17), (2, .tmp 19)] rfl kc.toArray (by exact HBK.out) ?_) | (refine wpList_buildSlice_oneH rfl 25 38 _ rfl Tryz.underlying25 iR0 hR _ hRz0 34 hRz1 kc.toArray rfl (by rw [List.size_toArray]; exact hnkl) (by omega) (by omega) ?_; refine wpList_world HW3.out ?_) | (at_builtin; refine wpList_append_own _ rfl _ _ 25 rfl B0 38 iR0 (.agg kidZ) 34 56 Tryz.underlying25 hR hRz0 hRz1 hRz2 rfl (by decide) u3 A.length (A.flatMap kidV) rfl hown3 ⟨W2.heap.size, 0, none⟩ 1 1 kc rfl (by rw [hnkl]) (fun j u hj => by rw [Addr.add_mid, Nat.zero_add, RowIs.cell hN3]; simpa using hj) hnall (by unfold maxLen; omega) (by omega) hs3 ?_))
   intro v4 w4 hown4 hgrow _
   have hb4 : Below B0 W0 w4 := hb3.grown hgrow hs3 (fun k hk => hown3.lt k hk |>.1)
   rw [← hkc, ← kids_snoc] at hown4
   go_wp2_with fail
   go_roundw
   case rel => exact ⟨t + 1, by omega, by go_num, by rw [HS.out, List.length_append, hll]; exact hown4, hb4⟩
   case measure => simp [intOf]; omega
  ·have htl : t = kids.length := by omega
   subst htl
   rw [List.take_length] at hown
   have hbxr := hbx.below hb hlt0
   have c3 : wr.cell? ⟨BB, 3, none⟩ = some (.slice a3 vols.length cap3) := by rw [hbxr.cell]; rfl
   have hlk : (kids.map kmap).length = kids.length := List.length_map _
   have HLK := Lib.hid hlk
   generalize hK0 : kids.map kmap = K0 at *
   have HK0 := Lib.hid hK0
   clear hK0
   clear hr2 hbxr hlk hwk
   have HOB := Lib.hid (And.intro hown hb)
   clear hown hb
   go_wp2_with fail
   go_loopw [3, 27] (fun v3 v wq => ∃ t : Nat, t ≤ vols.length ∧ v = .int .i64 t ∧ wq.ownsRow B0 38 34 v3 (K0 ++ vnam (vols.take t)).length ((K0 ++ vnam (vols.take t)).flatMap kidV) ∧ Below B0 W0 wq) (fun _ v _ => vols.length - (intOf v).toNat)
   case atStart => exact ⟨0, by omega, rfl, by simpa [vnam] using HOB.out.1, HOB.out.2⟩
   case round =>
    obtain ⟨t, ht, rfl, hown, hb⟩ := hrel
    clear HOB
    by_cases hlt : t < vols.length
    ·obtain ⟨b, o, rfl, hbB, hc⟩ := hr3 (by omega)
     have hci : wr.rangeAt b (o + t * 37) (volV vols[t]) := by
      have := rangeAt_below (rangeAt_below (hc t hlt) hb0 (by omega)) hb (by omega)
      rwa [List.getElem?_eq_getElem hlt] at this
     have hkl := volV_length (hwv vols[t] (List.getElem_mem hlt)).2.2.2
     have hone := volV_one vols[t]
     have hksz : (Tryz.prog.info? 89).map (·.size) = some (volV vols[t]).length := by rw [hkl]; kernel_rfl
     have hksz2 : (Tryz.prog.info? 89).map (·.size) = some (volV vols[t]).toArray.size := by rw [List.size_toArray, hkl]; kernel_rfl
     obtain ⟨W, W2, hW, hW2, hG, hb2, hthere⟩ := alloc_fill wr volZ (volV vols[t]).toArray 89 (by rw [List.size_toArray, hkl]; rfl)
     have hbz := hb.size
     have hbW2 := hb.trans (hb2.mono (show B0 ≤ wr.heap.size by omega))
     have hown2 := ownsRow_below hown hb2
     have c1 : W2.cell? ⟨wr.heap.size, 4, none⟩ = some (.int .u32 (vols[t].root : Int)) := by rw [hG.cell]; rfl
     have hhr : W2.rangeAt wr.heap.size 5 (bytesV vols[t].hash) := fun j u hj => by
      rw [hG.cell]
      rw [List.getElem?_toArray, volV, List.getElem?_append_right (by simp)]
      rw [← hj]; congr 1; simp
     have hhsz : (Tryz.prog.info? 36).map (·.size) = some (bytesV vols[t].hash).length := by rw [show (bytesV vols[t].hash).length = 32 by simp [bytesV, (hwv vols[t] (List.getElem_mem hlt)).2.2.2]]; kernel_rfl
     have hbk := built_kidN (vols[t].root : Int) vols[t].hash (hwv vols[t] (List.getElem_mem hlt)).2.2.2
     have hnkl : (kidV (vmap vols[t])).length = 34 := kidV_length (hwv vols[t] (List.getElem_mem hlt)).2.2.2
     have hnone := kidV_one (vmap vols[t])
     have hnall : ∀ u ∈ kidV (vmap vols[t]), u.oneCell' = true := fun u hu => by rw [Array.all_eq_true'] at hnone; exact hnone u (by simpa using hu)
     have hsn : vnam (vols.take (t + 1)) = if vols[t].root = 0 then vnam (vols.take t) else vnam (vols.take t) ++ [vmap vols[t]] := vnam_snoc vols t hlt
     have hll : (K0 ++ vnam (vols.take t)).length ≤ kids.length + t := by
      have := vnam_le vols t
      rw [List.length_append, HLK.out]; omega
     have HW := Lib.hid hW
     have HW2 := Lib.hid hW2
     have HBK := Lib.hid (show Tryz.prog.built 38 [(1, .int .u32 (vols[t].root : Int)), (2, .agg (bytesV vols[t].hash).toArray)] = some (kidV (vmap vols[t])).toArray from hbk)
     clear hW hW2 hG hb2 hkl hown hc hb hbk hnone
     generalize volV vols[t] = cs at *
     generalize hkc : kidV (vmap vols[t]) = kc at *
     generalize hrt : vols[t].root = num at *
     generalize bytesV vols[t].hash = hcs at *
     obtain ⟨W3, hW3⟩ : ∃ W3, W3 = W2.alloc (.cells kc.toArray 38) := ⟨_, rfl⟩
     have hal := (Below.refl _ W2).alloc (Nat.le_refl _) (.cells kc.toArray 38)
     have hN3 := RowIs.new W2 38 kc.toArray
     rw [← hW3] at hal hN3
     have hsz2' := hbW2.size
     have hown3 := ownsRow_below hown2 hal
     have hb3 := hbW2.trans (hal.mono (show B0 ≤ W2.heap.size by omega))
     have hs3 : B0 ≤ W3.heap.size := by have := hb3.size; omega
     have HW3 := Lib.hid hW3
     clear hW3 hal
     generalize hA : K0 ++ vnam (vols.take t) = A at *
     have HA := Lib.hid hA
     have HS := Lib.hid hsn
     clear hA hsn
     by_cases h0 : num = 0
     ·subst h0
      have HS2 := Lib.hid (show K0 ++ vnam (vols.take (t + 1)) = A by rw [HS.out, if_pos rfl, HA.out])
      have HO2 := Lib.hid (And.intro hown2 hbW2)
      clear hown3 hN3 hb3 hown2 hbW2 hhr
      go_wp2_with (first | (refine wpList_world HW.out ?_) | (refine wpList_load_mid rfl 89 _ rfl b (o + t * 37) rfl cs _ hci Tryz.underlying89 rfl hksz ?_) | (refine wpList_store_mid rfl 89 _ _ rfl wr.heap.size 0 cs.toArray rfl rfl hthere hksz2 hone ?_; refine wpList_world HW2.out ?_))
      go_roundw
      case rel => exact ⟨t + 1, by omega, by go_num, by rw [HS2.out]; exact HO2.out.1, HO2.out.2⟩
      case measure => simp [intOf]; omega
     ·have hnz : ((num : Int) == 0) = false := by
       rw [Bool.eq_false_iff]; simp; omega
      have hnz2 : ¬ (num : Int) = 0 := by omega
      have HS2 := Lib.hid (show K0 ++ vnam (vols.take (t + 1)) = A ++ [vmap vols[t]] by rw [HS.out, if_neg h0, ← HA.out, List.append_assoc])
      go_wp2_with (first | (refine wpList_world HW.out ?_) | (refine wpList_load_mid rfl 89 _ rfl b (o + t * 37) rfl cs _ hci Tryz.underlying89 rfl hksz ?_) | (refine wpList_store_mid rfl 89 _ _ rfl wr.heap.size 0 cs.toArray rfl rfl hthere hksz2 hone ?_; refine wpList_world HW2.out ?_) | (refine wpList_load_mid rfl 36 _ rfl wr.heap.size 5 rfl hcs _ hhr Tryz.underlying36 rfl hhsz ?_) | (refine wpList_build_eqH rfl 38 [(1, .tmp 36), (2, .tmp 38)] rfl kc.toArray (by exact HBK.out) ?_) | (refine wpList_buildSlice_oneH rfl 25 38 _ rfl Tryz.underlying25 iR0 hR _ hRz0 34 hRz1 kc.toArray rfl (by rw [List.size_toArray]; exact hnkl) (by omega) (by omega) ?_; refine wpList_world HW3.out ?_) | (at_builtin; refine wpList_append_own _ rfl _ _ 25 rfl B0 38 iR0 (.agg kidZ) 34 56 Tryz.underlying25 hR hRz0 hRz1 hRz2 rfl (by decide) u3 A.length (A.flatMap kidV) rfl hown3 ⟨W2.heap.size, 0, none⟩ 1 1 kc rfl (by rw [hnkl]) (fun j u hj => by rw [Addr.add_mid, Nat.zero_add, RowIs.cell hN3]; simpa using hj) hnall (by unfold maxLen; omega) (by omega) hs3 ?_))
      intro v4 w4 hown4 hgrow _
      have hb4 : Below B0 W0 w4 := hb3.grown hgrow hs3 (fun k hk => hown3.lt k hk |>.1)
      rw [← hkc, ← kids_snoc] at hown4
      go_wp2_with fail
      go_roundw
      case rel => exact ⟨t + 1, by omega, by go_num, by rw [HS2.out, List.length_append]; exact hown4, hb4⟩
      case measure => simp [intOf]; omega
    ·have htl : t = vols.length := by omega
     subst htl
     rw [List.take_length] at hown
     have HF := Lib.hid (And.intro (ownsRow_base hown (show BB ≤ B0 by omega)) (hb0.trans (hb.mono (show BB ≤ B0 by omega))))
     clear hr3 hown hb
     go_wp2_with fail
     go_ret
     exact ⟨u3, rfl, by rw [HK0.out]; exact HF.out⟩

set_option maxRecDepth 100000 in
set_option maxHeartbeats 1600000 in
theorem node06_calls (c : CellD) (w : World) (hs : c.data.size ≤ 140737488351232) :
  Calls Tryz.prog 55 #[.agg (cellV c).toArray] w fun e w' => ∃ v, e = .returned v ∧ OwnAt w.heap.size w' v c.node ∧ Below w.heap.size w w' := by
 obtain ⟨W1, hW1⟩ : ∃ W, W = w.alloc (.cells (cellV c).toArray 57) := ⟨_, rfl⟩
 obtain ⟨W2, hW2⟩ : ∃ W, W = W1.alloc (.cells #[.int .u8 0, .slice none 0 0, .slice none 0 0, .slice none 0 0] 28) := ⟨_, rfl⟩
 have hs1 : W1.heap.size = w.heap.size + 1 := by rw [hW1]; exact Array.size_push _
 have hX1 : RowIs W1 w.heap.size 57 (cellV c).toArray := by rw [hW1]; exact RowIs.new w _ _
 have hX2 : RowIs W2 w.heap.size 57 (cellV c).toArray := by rw [hW2]; exact RowIs.alloc hX1 _
 have hP : RowIs W2 (w.heap.size + 1) 28 #[.int .u8 0, .slice none 0 0, .slice none 0 0, .slice none 0 0] := by rw [hW2, ← hs1]; exact RowIs.new W1 _ _
 have hb : Below w.heap.size w W2 := by rw [hW2]; exact Below.alloc (by rw [hW1]; exact (Below.refl _ _).alloc (Nat.le_refl _) _) (by omega) _
 have c1 : W2.cell? ⟨w.heap.size, 1, none⟩ = some (.string c.data) := by rw [hX2.cell]; rfl
 have hcall := rdecode_calls c.data W2 hs
 have hn : nodeL c.data.data.toList = c.node := rfl
 have hszZ : (Tryz.prog.info? 28).map (·.size) = some (#[.int .u8 0, .slice none 0 0, .slice none 0 0, .slice none 0 0] : Array Value).size := by kernel_rfl
 have HW1 := Lib.hid hW1
 have HW2 := Lib.hid hW2
 have HN := Lib.hid hn
 have HB := Lib.hid (And.intro hb hP)
 generalize (cellV c).toArray = C at *
 clear hW1 hW2 hX1 hX2 hb hP hn
 go_enter Tryz.func55, Tryz.ntmps55
 go_wp2_with (first | (refine wpList_world HW1.out ?_) | (refine wpList_world HW2.out ?_))
 refine hcall.mono ?_
 rintro e w3 ⟨v, rfl, ho, hq⟩
 obtain ⟨hb, hP⟩ := HB.out
 rw [HN.out] at ho
 have hP3 := hP.below hq hP.lt
 have hb3 := hb.trans (hq.mono hb.size)
 have ho3 := ho.base (C := w.heap.size) hb.size
 obtain ⟨hwf, vi, vk, vv, rfl, oi, ok, ov⟩ := id ho3
 obtain ⟨p1, q1, rfl⟩ := own_shape oi
 obtain ⟨p2, q2, rfl⟩ := own_shape ok
 obtain ⟨p3, q3, rfl⟩ := own_shape ov
 obtain ⟨D, hD⟩ : ∃ D : Array Value, D = #[.int .u8 (c.node.kind : Int), .slice p1 c.node.items.length q1, .slice p2 c.node.kids.length q2, .slice p3 c.node.vols.length q3] := ⟨_, rfl⟩
 rw [← hD] at ho3
 rw [← hD]
 have hDs : D.size = 4 := by rw [hD]; rfl
 have hone : D.all (·.oneCell') = true := by rw [hD]; simp [Value.oneCell']
 have hszD : (Tryz.prog.info? 28).map (·.size) = some D.size := by rw [hDs]; kernel_rfl
 obtain ⟨W4, W5, hW4, hW5, hN5, hb5, hth5⟩ := alloc_fill w3 #[.int .u8 0, .slice none 0 0, .slice none 0 0, .slice none 0 0] D 28 (by rw [hDs]; rfl)
 have hP5 := hP3.below hb5 hP3.lt
 have ho5 := ho3.below hb5 (Nat.le_refl _)
 have hb5' := hb3.trans (hb5.mono hb3.size)
 have hNP : w3.heap.size ≠ w.heap.size + 1 := by have := hP3.lt; omega
 have hthP := hP5.there 0 D.size (by rw [hDs]; exact Nat.le_refl _)
 have hst := store_row hP5 (D := D) (by rw [hDs]; rfl)
 have hbz := setCells_below (w.heap.size + 1) w.heap.size (by omega) D.toList 0 _ _ hb5'
 have hoz := ho5.store hP5 D.toList 0
 have HZ := Lib.hid (And.intro hst (And.intro hbz hoz))
 have HW4 := Lib.hid hW4
 have HW5 := Lib.hid hW5
 clear hD hDs ho ho3 hP hP3 hb hb3 oi ok ov hq hcall hW4 hW5 ho5 hb5' hst hbz hoz hP5 hb5 c1
 go_wp2_with (first | (refine wpList_world HW4.out ?_) | (refine wpList_store_mid rfl 28 _ _ rfl w3.heap.size 0 D rfl rfl hth5 hszD hone ?_; refine wpList_world HW5.out ?_) | (refine wpList_load_row rfl 28 _ rfl w3.heap.size rfl 28 D (0, 0) _ hN5 Tryz.underlying28 rfl hszD ?_) | (refine wpList_store_mid rfl 28 _ _ rfl (w.heap.size + 1) 0 D rfl rfl hthP hszD hone ?_))
 refine bodyPost_ret (v := .agg D) (results_cell_row (p := 2) (ty := 28) (by rfl) _ _ (w.heap.size + 1) 28 D (0, 0) _ (by rfl) HZ.out.1 Tryz.underlying28 (by rfl) hszD) (by rfl) ?_
 exact ⟨_, rfl, HZ.out.2.2, HZ.out.2.1⟩

theorem kid_hash_range (k : KidD) (j : Nat) (u : Value) (hj : (bytesV k.hash)[j]? = some u) : (kidV k).toArray[2 + j]? = some u := by
 rw [List.getElem?_toArray, kidV, List.getElem?_append_right (by simp)]
 rw [show 2 + j - [Value.string k.key, Value.int .u32 (k.num : Int)].length = j by simp]
 exact hj
theorem idx_find {l : List CellD} {k : Nat} : (idxI l k < 0 ↔ findC l k = none) ∧ (∀ c, findC l k = some c → ∃ i, ∃ h : i < l.length, idxI l k = (i : Int) ∧ l[i] = c) := by
 unfold idxI
 cases h : l.findIdx? (fun c => c.num == k) with
 | none =>
  have hn : findC l k = none := by
   rw [find_none]
   intro c hc
   have := (List.findIdx?_eq_none_iff.1 h) c hc
   simpa using this
  exact ⟨⟨fun _ => hn, fun _ => by decide⟩, fun c hc => by rw [hn] at hc; cases hc⟩
 | some i =>
  obtain ⟨hi, hk, hlt⟩ := List.findIdx?_eq_some_iff_getElem.1 h
  have hf : findC l k = some l[i] := by
   unfold findC
   rw [List.find?_eq_some_iff_getElem]
   refine ⟨by simpa using hk, i, hi, rfl, fun j hj => ?_⟩
   have := hlt j hj
   simpa using this
  refine ⟨⟨fun q => ?_, fun q => by rw [hf] at q; cases q⟩, fun c hc => ⟨i, hi, rfl, ?_⟩⟩
  ·have : (0 : Int) ≤ (i : Int) := Int.natCast_nonneg _
   simp only [] at q
   omega
  ·rw [hf] at hc; injection hc

set_option maxRecDepth 100000 in
set_option maxHeartbeats 6400000 in
theorem told06_calls (B : Nat) (cv nv : Value) (l : List CellD) (n : NodeD) (w : World) (h : SlAt B w cv l.length (fun i => (l[i]?.map cellV).getD []) 3) (hB : B ≤ w.heap.size) (hds : ∀ c ∈ l, c.data.size ≤ 140737488351232)
  (hn : NodeAt B w nv n) (hz : n.kids.length + n.vols.length ≤ 1048576) :
  Calls Tryz.prog 60 #[cv, nv] w fun e w' => e = .returned (.int .i64 (toldN l n)) ∧ Below w.heap.size w w' := by
 have hwf := namedK_wf n hn.wf
 have hnn := namedK_named n
 have hfd := fun k W (hb : Below w.heap.size w W) => find06_calls B cv l k W (h.below hb hB) (Nat.le_trans hB hb.size)
 have hnm := fun W (hb : Below w.heap.size w W) => rnamed_calls B nv n W (hn.below hb hB) (Nat.le_trans hB hb.size) hz
 have hX : toldN l n = toldC l 0 (namedN n) := rfl
 rw [← hnn] at hX
 have hkl : (namedK n).length ≤ 1048576 := by
  unfold namedK
  rw [List.length_append, List.length_map, List.length_map]
  have := List.length_filter_le (fun v : VolD => decide (v.root ≠ 0)) n.vols
  omega
 obtain ⟨k0, vi, vk, vv, hv0⟩ : ∃ k0 vi vk vv, nv = .agg #[.int .u8 k0, vi, vk, vv] := by
  obtain ⟨_, vi, vk, vv, hv, _⟩ := hn
  exact ⟨_, vi, vk, vv, hv⟩
 subst hv0
 obtain ⟨ap, acap, rfl, hlc, hrl⟩ := h
 have HRL := Lib.hid hrl
 unfold maxLen at hlc
 obtain ⟨W0, hW0⟩ : ∃ W0, W0 = w.alloc (.cells #[.int .u8 k0, vi, vk, vv] 28) := ⟨_, rfl⟩
 have hbx : RowIs W0 w.heap.size 28 #[.int .u8 k0, vi, vk, vv] := by rw [hW0]; exact RowIs.new w _ _
 have hb0 : Below w.heap.size w W0 := by rw [hW0]; exact (Below.refl _ _).alloc (Nat.le_refl _) _
 have hcall := hnm W0 hb0
 have hszN : (Tryz.prog.info? 28).map (·.size) = some (#[.int .u8 k0, vi, vk, vv] : Array Value).size := by kernel_rfl
 have hds' : ∀ i (hi : i < l.length), l[i].data.size ≤ 140737488351232 := fun i hi => hds _ (List.getElem_mem hi)
 have HDS := Lib.hid hds'
 have HW0 := Lib.hid hW0
 have HB0 := Lib.hid hb0
 have HX := Lib.hid hX
 have HFD := Lib.hid hfd
 clear hW0 hnm hX hnn hn hz hrl hds hds' hfd
 generalize toldN l n = X at *
 generalize namedK n = ks at *
 go_enter Tryz.func60, Tryz.ntmps60
 go_wp2_with (first | (refine wpList_world HW0.out ?_) | (refine wpList_load_row rfl 28 _ rfl w.heap.size rfl 28 #[.int .u8 k0, vi, vk, vv] (0, 0) _ hbx Tryz.underlying28 rfl hszN ?_))
 refine hcall.mono ?_
 rintro e w1 ⟨r, rfl, hown, hq⟩
 have hb1 := hb0.trans (hq.mono hb0.size)
 obtain ⟨p, cap, rfl⟩ := own_shape hown
 have HI := Lib.hid (And.intro hb1 hown)
 clear hbx hcall hb1 hown hq hb0
 go_wp2_with fail
 go_loopw [5, 12] (fun vy x wr => ∃ t : Nat, ∃ y : Int, t ≤ ks.length ∧ x = .int .i64 t ∧ vy = .int .i64 y ∧ X = toldC l y ((ks.drop t).map (fun k => (k.num, k.hash))) ∧ Below w.heap.size w wr ∧ wr.ownsRow W0.heap.size 38 34 (.slice p ks.length cap) ks.length (ks.flatMap kidV)) (fun _ x _ => ks.length - (intOf x).toNat)
 case atStart => exact ⟨0, 0, by omega, rfl, rfl, HX.out, HI.out.1, HI.out.2⟩
 case round =>
  obtain ⟨t, y, ht, rfl, rfl, hXt, hb, hown⟩ := hrel
  have HXt := Lib.hid hXt
  clear hXt HX HI
  by_cases hlt : t < ks.length
  ·have i1 : (t : Int) < (ks.length : Int) := by omega
   have hdrop : ks.drop t = ks[t] :: ks.drop (t + 1) := List.drop_eq_getElem_cons hlt
   have hXs : X = (match findC l ks[t].num with | none => 5 | some c => toldC l (if c.hash = ks[t].hash then y else 9) ((ks.drop (t + 1)).map (fun k => (k.num, k.hash)))) := by rw [HXt.out, hdrop]; rfl
   have hwk := hwf ks[t] (List.getElem_mem hlt)
   obtain ⟨b, o, hpe, hbs, hci⟩ : ∃ b o, p = some ⟨b, o, none⟩ ∧ b < wr.heap.size ∧ wr.rangeAt b (o + t * 34) (kidV ks[t]) := by
    obtain ⟨a, cap', hv, _, hr⟩ := own_sl hown (fun k hk => kidV_length (hwf k hk).2)
    obtain ⟨b, o, ha, hbl, hc⟩ := hr (by omega)
    injection hv with hv _ _
    have h2 : wr.rangeAt b (o + t * 34) ((ks[t]?.map kidV).getD []) := hc t hlt
    rw [List.getElem?_eq_getElem hlt] at h2
    exact ⟨b, o, hv.trans ha, hbl, h2⟩
   subst hpe
   have hkvl := kidV_length hwk.2
   have hone := kidV_one ks[t]
   have hksz : (Tryz.prog.info? 38).map (·.size) = some (kidV ks[t]).length := by rw [hkvl]; kernel_rfl
   have hksz2 : (Tryz.prog.info? 38).map (·.size) = some (kidV ks[t]).toArray.size := by rw [List.size_toArray, hkvl]; kernel_rfl
   obtain ⟨W, W2, hW, hW2, hG, hb2, hthere⟩ := alloc_fill wr kidZ (kidV ks[t]).toArray 38 (by rw [List.size_toArray, hkvl]; rfl)
   have c1 : W2.cell? ⟨wr.heap.size, 1, none⟩ = some (.int .u32 (ks[t].num : Int)) := by rw [hG.cell]; rfl
   have hbW := hb.trans (hb2.mono hb.size)
   have hown2 := ownsRow_below hown hb2
   have hcall := HFD.out ks[t].num W2 hbW
   obtain ⟨C, hC⟩ : ∃ C, C = (kidV ks[t]).toArray := ⟨_, rfl⟩
   have HC := Lib.hid hC
   rw [← hC] at hG hone hksz2 hthere hW2
   have HW := Lib.hid hW
   have HW2 := Lib.hid hW2
   have HXs := Lib.hid hXs
   have HF := Lib.hid (And.intro hG (And.intro hbW hown2))
   clear hW hW2 hb2 hkvl hb hown hbW hown2 hdrop hXs hG hC
   go_wp2_with (first | (refine wpList_world HW.out ?_) | (refine wpList_load_mid rfl 38 _ rfl b (o + t * 34) rfl (kidV ks[t]) _ hci Tryz.underlying38 rfl hksz ?_; rw [← HC.out]) | (refine wpList_store_mid rfl 38 _ _ rfl wr.heap.size 0 C rfl rfl hthere hksz2 hone ?_; refine wpList_world HW2.out ?_))
   generalize wr.heap.size = XX at *
   refine hcall.mono ?_
   rintro e w3 ⟨rfl, hq⟩
   obtain ⟨hG, hbW, hown2⟩ := HF.out
   have hG3 := hG.below hq hG.lt
   have hb3 := hbW.trans (hq.mono hbW.size)
   have hown3 := ownsRow_below hown2 hq
   clear hcall hthere hq hG hbW hown2 HF hci c1 HW HW2 hone hksz hksz2
   cases hf : findC l ks[t].num with
   | none =>
    have hneg := idx_find.1.2 hf
    have hX5 : X = 5 := by rw [HXs.out, hf]
    have HE := Lib.hid (And.intro hX5 hb3)
    generalize idxI l ks[t].num = ix at *
    have hd : decide (ix < 0) = true := decide_eq_true hneg
    clear hX5 hb3 hown3 hG3
    go_wp2_with fail
    go_ret
    exact ⟨by rw [HE.out.1]; rfl, HE.out.2⟩
   | some c =>
    obtain ⟨i, hi, hix, hci⟩ := idx_find.2 c hf
    have hXs2 : X = toldC l (if c.hash = ks[t].hash then y else 9) ((ks.drop (t + 1)).map (fun k => (k.num, k.hash))) := by rw [HXs.out, hf]
    have HXs2 := Lib.hid hXs2
    rw [hix]
    have hnn : ¬ (i : Int) < 0 := by omega
    obtain ⟨b2, o2, hap, hb2B, hcl⟩ := HRL.out (by omega)
    subst hap
    have hcr : w3.rangeAt b2 (o2 + i * 3) (cellV c) := by
     have := rangeAt_below (hcl i hi) hb3 (by omega)
     rw [List.getElem?_eq_getElem hi, hci] at this
     exact this
    have hbnd : (i : Int) < (l.length : Int) := by omega
    have hbnd0 : (0 : Int) ≤ (i : Int) := by omega
    have d1 : w3.cell? ⟨b2, o2 + i * 3 + 1, none⟩ = some (.string c.data) := hcr 1 _ rfl
    have hdsz := HDS.out i hi
    rw [hci] at hdsz
    have hsha := fun W => refshasum_calls c.data W hdsz
    have hch : c.hash = sha c.data.data.toList := by rw [CellD.hash, CellD.d]
    rw [← hch] at hsha
    have hcl32 : c.hash.length = 32 := by rw [hch]; exact sha_length _
    obtain ⟨CH, hCH⟩ : ∃ CH, CH = c.hash := ⟨_, rfl⟩
    rw [← hCH] at hsha hcl32
    have hneq := fun W => neq_bytes CH ks[t].hash W hcl32 hwk.2
    have hhsz : (Tryz.prog.info? 36).map (·.size) = some (bytesV ks[t].hash).length := by rw [show (bytesV ks[t].hash).length = 32 by simp [bytesV, hwk.2]]; kernel_rfl
    have hhr : ∀ W, RowIs W XX 38 C → W.rangeAt XX 2 (bytesV ks[t].hash) := fun W hr j u hj => by
     rw [hr.cell, HC.out]; exact kid_hash_range ks[t] j u hj
    have hbc : (Value.agg (byteCells CH)) = Value.agg (bytesV CH).toArray := rfl
    rw [hbc] at hsha
    have hdata : ∀ W, Below w.heap.size w W → W.cell? ⟨b2, o2 + i * 3 + 1, none⟩ = some (.string c.data) := fun W hW => by
     have := rangeAt_below (hcl i hi) hW (by omega)
     rw [List.getElem?_eq_getElem hi, hci] at this
     exact this 1 _ rfl
    have HSH := Lib.hid (And.intro hhr hdata)
    clear hix hci hcr hch hbc hdsz hXs2 hhr hdata hcl hf
    generalize ks[t].hash = KH at *
    have HCH := Lib.hid hCH
    clear hCH
    go_wp2_with fail
    have hGc := hG3.drew
    have hbc : Below w.heap.size w w3.drew := Below.drew hb3
    have hoc := ownsRow_below hown3 (Below.drew (Below.refl _ _))
    clear hG3 hb3 hown3 d1
    refine wp_region_held_drew (S := fun w' => RowIs w' XX 38 C ∧ Below w.heap.size w w') (by kernel_rfl) ⟨hGc, hbc⟩ (fun hHeld => ?_)
    generalize w3.drew = wv at *
    refine take_N (i := 0) (v := ?_) (some 22) #[true, false, false, false, false, false, false, false, false] rfl rfl (by kernel_rfl) (by kernel_rfl) (by kernel_rfl) (by kernel_rfl) (fun _ _ _ h => h) ⟨hGc, hbc⟩ (Or.inl ⟨by rfl, ?_⟩) ?_
    rotate_left
    ·intro w_ hSw_; go_simp; try with_reducible rfl
    try simp only [Act.put, List.setIfInBounds_toArray, List.set_cons_zero, List.set_cons_succ]
    refine take_N (i := 1) (v := ?_) (some 23) #[true, true, false, false, false, false, false, false, false] rfl rfl (by kernel_rfl) (by kernel_rfl) (by kernel_rfl) (by kernel_rfl) (fun _ _ _ h => h) ⟨hGc, hbc⟩ (Or.inl ⟨by rfl, ?_⟩) ?_
    rotate_left
    ·intro w_ hSw_; go_simp; try with_reducible rfl
    try simp only [Act.put, List.setIfInBounds_toArray, List.set_cons_zero, List.set_cons_succ]
    refine take_N (i := 2) (v := ?_) (some 24) #[true, true, true, false, false, false, false, false, false] rfl rfl (by kernel_rfl) (by kernel_rfl) (by kernel_rfl) (by kernel_rfl) (fun _ _ _ h => h) ⟨hGc, hbc⟩ (Or.inl ⟨by rfl, ?_⟩) ?_
    rotate_left
    ·intro w_ hSw_; go_simp; try with_reducible rfl
    try simp only [Act.put, List.setIfInBounds_toArray, List.set_cons_zero, List.set_cons_succ]
    refine take_N (i := 3) (v := ?_) (some 25) #[true, true, true, true, false, false, false, false, false] rfl rfl (by kernel_rfl) (by kernel_rfl) (by kernel_rfl) (by kernel_rfl) (fun _ _ _ h => h) ⟨hGc, hbc⟩ (Or.inl ⟨by rfl, ?_⟩) ?_
    rotate_left
    ·intro w_ hSw_; go_simp; try with_reducible rfl
    try simp only [Act.put, List.setIfInBounds_toArray, List.set_cons_zero, List.set_cons_succ]
    refine take_N (i := 4) (v := .string c.data) (some 26) #[true, true, true, true, true, false, false, false, false] rfl rfl (by kernel_rfl) (by kernel_rfl) (by kernel_rfl) (by kernel_rfl) (fun _ _ _ h => h) ⟨hGc, hbc⟩ (Or.inl ⟨by rfl, ?_⟩) ?_
    ·intro w_ hSw_; exact (by have hcc := HSH.out.2 _ hSw_.2; go_simp)
    try simp only [Act.put, List.setIfInBounds_toArray, List.set_cons_zero, List.set_cons_succ]
    refine take_N (i := 6) (v := ?_) (some 28) #[true, true, true, true, true, false, true, false, false] rfl rfl (by kernel_rfl) (by kernel_rfl) (by kernel_rfl) (by kernel_rfl) (fun _ _ _ h => h) ⟨hGc, hbc⟩ (Or.inl ⟨by rfl, ?_⟩) ?_
    rotate_left
    ·intro w_ hSw_; go_simp; try with_reducible rfl
    try simp only [Act.put, List.setIfInBounds_toArray, List.set_cons_zero, List.set_cons_succ]
    refine take_N (i := 7) (v := .agg (bytesV KH).toArray) (some 29) #[true, true, true, true, true, false, true, true, false] rfl rfl (by kernel_rfl) (by kernel_rfl) (by kernel_rfl) (by kernel_rfl) (fun _ _ _ h => h) ⟨hGc, hbc⟩ (Or.inl ⟨by rfl, ?_⟩) ?_
    ·intro w_ hSw_; exact (exec_load_mid 36 _ (by rfl) XX 2 (by rfl) (bytesV KH) _ (HSH.out.1 _ hSw_.1) Tryz.underlying36 (by rfl) hhsz)
    try simp only [Act.put, List.setIfInBounds_toArray, List.set_cons_zero, List.set_cons_succ]
    refine step_N (i := 5) #[true, true, true, true, true, true, true, true, false] rfl (by kernel_rfl) (by kernel_rfl) (fun K hK => ?_)
    rw [if_pos (by rfl)]
    go_simp
    refine (hsha _).mono ?_
    rintro e wa ⟨rfl, hq⟩
    have hG2 := hGc.below hq hGc.lt
    replace hbc := hbc.trans (hq.mono hbc.size)
    replace hoc := ownsRow_below hoc hq
    clear hGc hq
    have hGc := hG2
    clear hG2
    refine hK.out _ _ ⟨hGc, hbc⟩ ?_
    clear hK K
    try simp only [Act.put, List.setIfInBounds_toArray, List.set_cons_zero, List.set_cons_succ]
    refine take_N (i := 8) (v := .bool (!(decide (CH = KH)))) (some 30) #[true, true, true, true, true, true, true, true, true] rfl rfl (by kernel_rfl) (by kernel_rfl) (by kernel_rfl) (by kernel_rfl) (fun _ _ _ h => h) ⟨hGc, hbc⟩ (Or.inl ⟨by rfl, ?_⟩) ?_
    ·intro w_ hSw_; exact exec_neqR rfl (by rfl) (by rfl) guard_32R (hneq _)
    try simp only [Act.put, List.setIfInBounds_toArray, List.set_cons_zero, List.set_cons_succ]
    refine wpAnyH_done (by kernel_rfl) ?_ _
    clear hHeld
    have HQ := Lib.hid (And.intro hbc hoc)
    clear hGc hbc hoc hsha hhsz hneq
    generalize hnb : (!(decide (CH = KH))) = nb at *
    cases nb with
    | false =>
     have HE := Lib.hid (show CH = KH by simpa using hnb)
     clear hnb
     go_wp2_with fail
     go_roundw
     case rel => exact ⟨t + 1, y, by omega, by go_num, rfl, by rw [HXs2.out, ← HCH.out, if_pos HE.out], HQ.out.1, HQ.out.2⟩
     case measure => simp [intOf]; omega
    | true =>
     have HE := Lib.hid (show ¬ CH = KH by simpa using hnb)
     clear hnb
     go_wp2_with fail
     go_roundw
     case rel => exact ⟨t + 1, 9, by omega, by go_num, rfl, by rw [HXs2.out, ← HCH.out, if_neg HE.out], HQ.out.1, HQ.out.2⟩
     case measure => simp [intOf]; omega
  ·have htl : t = ks.length := by omega
   subst htl
   have i1 : ¬ (ks.length : Int) < (ks.length : Int) := by omega
   have hXe : X = y := by rw [HXt.out, List.drop_length]; rfl
   have HXe := Lib.hid hXe
   clear hXe hown
   go_wp2_with fail
   go_ret
   exact ⟨by rw [HXe.out]; rfl, hb⟩

end Go.Proofs.YtimkklaidodkdaaGreatDoor
