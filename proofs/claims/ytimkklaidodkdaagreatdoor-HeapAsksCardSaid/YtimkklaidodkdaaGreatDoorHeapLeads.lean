/- The store's leads: walked. -/
import Derived.Test.YtimkklaidodkdaaGreatDoorHeapAt
import Derived.Test.YtimkklaidodkdaaGreatDoorHeapNamed
import Derived.Test.YtimkklaidodkdaaGreatDoorSame
namespace Go.Proofs.YtimkklaidodkdaaGreatDoor
open Go.RowKit

theorem neq_bytes (xs ys : List UInt8) (w : World) (hx : xs.length = 32) (hy : ys.length = 32) : (binOp .neq 36 (.agg (bytesV xs).toArray) (.agg (bytesV ys).toArray)).run Tryz.prog w = .ok (.bool (!(decide (xs = ys)))) w := by
 have h : (Op.equalIn 10000 36 (.agg (byteCells xs)) (.agg (byteCells ys))).run Tryz.prog w = .ok (xs == ys) w :=
  run_equalIn_bytes w 9998 36 5 32 Tryz.underlying36 Tryz.underlying5 Tryz.sizeOf5 xs ys hx hy
 have e : (xs == ys) = decide (xs = ys) := by rw [Bool.eq_iff_iff]; simp
 rw [e] at h
 show (binOp .neq 36 (.agg (byteCells xs)) (.agg (byteCells ys))).run Tryz.prog w = _
 rw [run_neq_struct, h]; rfl
theorem guard_hash : Tryz.prog.eqGuardType Tryz.prog.depth 36 = false := by kernel_rfl
theorem row_hash (c : CellM) (w : World) (h : RowIs w c.ptr 109 c.row.toArray) (h4 : c.nv.length = 4) : w.rangeAt c.ptr 7 (bytesV c.hash) := fun j u hj => by
 have hjl := (List.getElem?_eq_some_iff.1 hj).1
 rw [h.cell, List.getElem?_toArray, CellM.row, List.getElem?_append_right (by simp; omega), List.getElem?_append_right (by simp [h4]; omega), List.getElem?_append_left (by simp [h4]; omega)]
 rw [← hj]; congr 1; simp [h4]; omega
theorem kid_hash (k : KidD) (X : Nat) (w : World) (h : RowIs w X 38 (kidV k).toArray) : w.rangeAt X 2 (bytesV k.hash) := fun j u hj => by
 rw [h.cell, List.getElem?_toArray, kidV, List.getElem?_append_right (by simp)]
 rw [← hj]; congr 1; simp

set_option maxRecDepth 100000 in
set_option maxHeartbeats 3200000 in
theorem leads_calls (B S size : Nat) (vs : Value) (L : List CellM) (n : NodeD) (v : Value) (w : World) (h : StoreAt B w S size vs L) (hs : (L.map CellM.d).Pairwise (fun a b => a.num < b.num)) (hl : L.length ≤ 65536) (hh : ∀ c ∈ L, c.hash = c.d.hash)
  (hn : NodeAt w.heap.size w v n) (hz : n.kids.length + n.vols.length ≤ 1048576) :
  Calls Tryz.prog 74 #[.pointer (some ⟨S, 0, none⟩), v] w fun e w' => e = .returned (.int .i64 (toldN (L.map CellM.d) n)) ∧ StoreAt B w' S size vs L ∧ Keep B w w' := by
 have hwf := namedK_wf n hn.wf
 have hnn := namedK_named n
 have hat := fun k W h => at_calls B S size vs L k W h hs hl
 have hnm := fun W (hW : NodeAt w.heap.size W v n) hle => named2_calls w.heap.size v n W hW hle hz
 have hX : toldN (L.map CellM.d) n = toldC (L.map CellM.d) 0 (namedN n) := rfl
 rw [← hnn] at hX
 have hkl : (namedK n).length ≤ 1048576 := by
  unfold namedK
  rw [List.length_append, List.length_map, List.length_map]
  have := List.length_filter_le (fun v : VolD => decide (v.root ≠ 0)) n.vols
  omega
 obtain ⟨k0, vi, vk, vv, hv0⟩ : ∃ k0 vi vk vv, v = .agg #[.int .u8 k0, vi, vk, vv] := by
  obtain ⟨_, vi, vk, vv, hv, _⟩ := hn
  exact ⟨_, vi, vk, vv, hv⟩
 subst hv0
 obtain ⟨W0, hW0⟩ : ∃ W0, W0 = w.alloc (.cells #[.int .u8 k0, vi, vk, vv] 28) := ⟨_, rfl⟩
 have hbx : RowIs W0 w.heap.size 28 #[.int .u8 k0, vi, vk, vv] := by rw [hW0]; exact RowIs.new w _ _
 have hb0 : Below w.heap.size w W0 := by rw [hW0]; exact (Below.refl _ _).alloc (Nat.le_refl _) _
 have hnm0 := hnm W0 (hn.below hb0 (Nat.le_refl _)) hb0.size
 have hst0 := h.below hb0 (Nat.le_refl _)
 have hszN : (Tryz.prog.info? 28).map (·.size) = some (#[.int .u8 k0, vi, vk, vv] : Array Value).size := by kernel_rfl
 have HW0 := Lib.hid hW0
 have HB0 := Lib.hid hb0
 have HX := Lib.hid hX
 clear hW0 hnm hX hb0 hnn h hn hz
 generalize toldN (L.map CellM.d) n = X at *
 generalize namedK n = ks at *
 go_enter Tryz.func74, Tryz.ntmps74
 go_wp2_with (first | (refine wpList_world HW0.out ?_) | (refine wpList_load_row rfl 28 _ rfl w.heap.size rfl 28 #[.int .u8 k0, vi, vk, vv] (0, 0) _ hbx Tryz.underlying28 rfl hszN ?_))
 refine hnm0.mono ?_
 rintro e w1 ⟨r, rfl, hown, hb1⟩
 have hst1 := hst0.below hb1 (Nat.le_refl _)
 have hk1 : Keep B w w1 := (Keep.of HB0.out).trans (Keep.of hb1)
 obtain ⟨p, cap, rfl⟩ := own_shape hown
 clear hbx hnm0 hst0 hb1
 have HI := Lib.hid (And.intro hst1 (And.intro hk1 hown))
 clear hst1 hk1 hown
 go_wp2_with fail
 go_loopw [5, 12] (fun vy x wr => ∃ t : Nat, ∃ y : Int, t ≤ ks.length ∧ x = .int .i64 t ∧ vy = .int .i64 y ∧ X = toldC (L.map CellM.d) y ((ks.drop t).map (fun k => (k.num, k.hash))) ∧ StoreAt B wr S size vs L ∧ Keep B w wr ∧ wr.ownsRow W0.heap.size 38 34 (.slice p ks.length cap) ks.length (ks.flatMap kidV)) (fun _ x _ => ks.length - (intOf x).toNat)
 case atStart => exact ⟨0, 0, by omega, rfl, rfl, HX.out, HI.out.1, HI.out.2.1, HI.out.2.2⟩
 case round =>
  obtain ⟨t, y, ht, rfl, rfl, hXt, hst, hk, hown⟩ := hrel
  have HXt := Lib.hid hXt
  clear hXt HX HI
  by_cases hlt : t < ks.length
  ·have i1 : (t : Int) < (ks.length : Int) := by omega
   have hdrop : ks.drop t = ks[t] :: ks.drop (t + 1) := List.drop_eq_getElem_cons hlt
   have hXs : X = (match findC (L.map CellM.d) ks[t].num with | none => 5 | some c => toldC (L.map CellM.d) (if c.hash = ks[t].hash then y else 9) ((ks.drop (t + 1)).map (fun k => (k.num, k.hash)))) := by rw [HXt.out, hdrop]; rfl
   rw [atM_map] at hXs
   have hwk := hwf ks[t] (List.getElem_mem hlt)
   obtain ⟨b, o, hpe, hbs, hci⟩ : ∃ b o, p = some ⟨b, o, none⟩ ∧ b < wr.heap.size ∧ wr.rangeAt b (o + t * 34) (kidV ks[t]) := by
    obtain ⟨a, cap', hv, _, hr⟩ := own_sl hown (fun k hk => kidV_length (hwf k hk).2)
    obtain ⟨b, o, ha, hbl, hc⟩ := hr (by omega)
    injection hv with hv _ _
    have h2 : wr.rangeAt b (o + t * 34) ((ks[t]?.map kidV).getD []) := hc t hlt
    rw [List.getElem?_eq_getElem hlt] at h2
    exact ⟨b, o, hv.trans ha, hbl, h2⟩
   subst hpe
   have hkvl := kidV_length hwk.2
   have hone := kidV_one ks[t]
   have hksz : (Tryz.prog.info? 38).map (·.size) = some (kidV ks[t]).length := by rw [hkvl]; kernel_rfl
   have hksz2 : (Tryz.prog.info? 38).map (·.size) = some (kidV ks[t]).toArray.size := by rw [List.size_toArray, hkvl]; kernel_rfl
   obtain ⟨W, W2, hW, hW2, hG, hb2, hthere⟩ := alloc_fill wr kidZ (kidV ks[t]).toArray 38 (by rw [List.size_toArray, hkvl]; rfl)
   have c1 : W2.cell? ⟨wr.heap.size, 1, none⟩ = some (.int .u32 (ks[t].num : Int)) := by rw [hG.cell]; rfl
   have hst2 := hst.below hb2 (Nat.le_refl _)
   have hk2 := hk.trans (Keep.of hb2)
   have hown2 := ownsRow_below hown hb2
   have hcall := hat ks[t].num W2 hst2
   have HW := Lib.hid hW
   have HW2 := Lib.hid hW2
   have HXs := Lib.hid hXs
   have HG := Lib.hid hG
   clear hW hW2 hb2 hkvl hst hk hown hst2 hdrop hXs hG
   generalize hcs : kidV ks[t] = cs at *
   generalize hXX : wr.heap.size = XX at *
   go_wp2_with (first | (refine wpList_world HW.out ?_) | (refine wpList_load_mid rfl 38 _ rfl b (o + t * 34) rfl cs _ hci Tryz.underlying38 rfl hksz ?_) | (refine wpList_store_mid rfl 38 _ _ rfl XX 0 cs.toArray rfl rfl hthere hksz2 hone ?_; refine wpList_world HW2.out ?_))
   refine hcall.mono ?_
   rintro e w3 ⟨rfl, hst3, hk3⟩
   have hG3 := hk3.row HG.out (.inr (by decide))
   have hk4 := hk2.trans hk3
   have hown3 := hk3.owns hown2 (by decide)
   clear hcall hk2 hk3 hown2 hthere
   cases hf : atM L ks[t].num with
   | none =>
    have hX5 : X = 5 := by rw [HXs.out, hf]; rfl
    have HF := Lib.hid (And.intro hX5 (And.intro hst3 hk4))
    clear hX5 hst3 hk4 hown3 hG3
    rw [ptrV]
    go_wp2_with fail
    go_ret
    exact ⟨by rw [HF.out.1]; rfl, HF.out.2⟩
   | some c =>
    obtain ⟨hcm, hcn⟩ := atM_mem hf
    have hca := hst3.cells c hcm
    have hX6 : X = toldC (L.map CellM.d) (if c.hash = ks[t].hash then y else 9) ((ks.drop (t + 1)).map (fun k => (k.num, k.hash))) := by rw [HXs.out, hf, hh c hcm]; rfl
    have hr1 := row_hash c w3 hca.row hca.nv
    rw [← hcs] at hG3
    have hr2 := kid_hash ks[t] XX w3 hG3
    have hneq := fun W => neq_bytes c.hash ks[t].hash W hca.hash hwk.2
    have hs1 : (Tryz.prog.info? 36).map (·.size) = some (bytesV c.hash).length := by rw [show (bytesV c.hash).length = 32 by simp [bytesV, hca.hash]]; kernel_rfl
    have hs2 : (Tryz.prog.info? 36).map (·.size) = some (bytesV ks[t].hash).length := by rw [show (bytesV ks[t].hash).length = 32 by simp [bytesV, hwk.2]]; kernel_rfl
    have hcp : c.p = .pointer (some ⟨c.ptr, 0, none⟩) := rfl
    rw [ptrV, hcp]
    have HF := Lib.hid (And.intro hX6 (And.intro hst3 (And.intro hk4 hown3)))
    clear hX6 hst3 hk4 hown3 hG3 hca hcp hci c1
    generalize hdq : decide (c.hash = ks[t].hash) = q at *
    generalize bytesV c.hash = h1 at *
    generalize bytesV ks[t].hash = h2 at *
    generalize c.ptr = P at *
    have HDQ := Lib.hid hdq
    clear hdq
    go_wp2_with fail
    refine wp_region_quiet_lit (by kernel_rfl) (by kernel_rfl) ?_
    go_big_quiet_step (fail)
    go_big_quiet_step (fail)
    go_big_quiet_step (fail)
    refine quiet_exec _ (by rfl) (fun n => exec_load_mid 36 _ rfl P 7 (by rfl) h1 _ (rangeAt_drewN hr1 n) Tryz.underlying36 rfl hs1) ?_
    simp only [Act.put, List.setIfInBounds_toArray, List.set_cons_zero, List.set_cons_succ]
    go_big_quiet_step (fail)
    refine quiet_exec _ (by rfl) (fun n => exec_load_mid 36 _ rfl XX 2 (by rfl) h2 _ (rangeAt_drewN hr2 n) Tryz.underlying36 rfl hs2) ?_
    simp only [Act.put, List.setIfInBounds_toArray, List.set_cons_zero, List.set_cons_succ]
    refine quiet_exec _ (by rfl) (fun n => exec_neq rfl (by rfl) (by rfl) guard_hash (hneq _)) ?_
    simp only [Act.put, List.setIfInBounds_toArray, List.set_cons_zero, List.set_cons_succ]
    refine wpQuiet_nil ?_
    intro _ hw'
    obtain ⟨nq, hw''⟩ := hw'
    subst hw''
    have hbd : Below w3.heap.size w3 (w3.drewN nq) := ⟨rfl, rfl, rfl, Nat.le_refl _, fun _ _ => rfl⟩
    have HE := Lib.hid (And.intro (HF.out.2.1.below hbd (Nat.le_refl _)) (And.intro (HF.out.2.2.1.trans (Keep.of hbd)) (ownsRow_below HF.out.2.2.2 hbd)))
    clear hbd hr1 hr2 hneq
    cases q with
    | true =>
     have hq := of_decide_eq_true HDQ.out
     have HX7 := Lib.hid (HF.out.1.trans (by rw [if_pos hq]))
     clear hq
     go_wp2_with fail
     go_roundw
     case rel => exact ⟨t + 1, y, by omega, by go_num, rfl, HX7.out, HE.out⟩
     case measure => simp [intOf]; omega
    | false =>
     have hq := of_decide_eq_false HDQ.out
     have HX7 := Lib.hid (HF.out.1.trans (by rw [if_neg hq]))
     clear hq
     go_wp2_with fail
     go_roundw
     case rel => exact ⟨t + 1, 9, by omega, by go_num, rfl, HX7.out, HE.out⟩
     case measure => simp [intOf]; omega
  ·have i1 : ¬ (t : Int) < (ks.length : Int) := by omega
   have htl : t = ks.length := by omega
   subst htl
   have hXy : X = y := by rw [HXt.out, List.drop_length]; rfl
   have HF := Lib.hid (And.intro hXy (And.intro hst hk))
   clear hXy hst hk hown
   go_wp2_with fail
   go_ret
   exact ⟨by rw [HF.out.1]; rfl, HF.out.2⟩

end Go.Proofs.YtimkklaidodkdaaGreatDoor
