/- cambiumref05.Size: walked. -/
import Derived.Test.YtokanfceipkfpaaDoorNodeShaped
namespace Go.Proofs.YtokanfceipkfpaaDoor
open Go.RowKit

set_option maxRecDepth 20000 in
set_option maxHeartbeats 3200000 in
theorem rsizew_calls (B : Nat) (v : Value) (n : NodeD) (w : World) (h : NodeAt B w v n) (hB : B ≤ w.heap.size) (hz : fitN n) :
    Calls Tryd.prog 15 #[v] w fun e w' => e = .returned (.int .i64 (sw (sizeN n))) ∧ Below w.heap.size w w' := by
  obtain ⟨hw, vi, vk, vv, rfl, h1, h2, h3⟩ := h
  obtain ⟨kind, items, kids, vols⟩ := n
  simp only [] at h1 h2 h3
  generalize hX : sizeN ⟨kind, items, kids, vols⟩ = X at *
  have HX := Lib.hid hX
  clear hX
  have hbW : Below w.heap.size w (w.alloc (.cells #[.int .u8 (kind : Int), vi, vk, vv] 27)) := (Below.refl _ _).alloc (Nat.le_refl _) _
  show Calls Tryd.prog 15 #[.agg #[.int .u8 (kind : Int), vi, vk, vv]] w _
  go_enter Tryd.func15, Tryd.ntmps15
  by_cases hk1 : kind = 1
  · have i1 : (kind : Int) = 1 := by omega
    subst hk1
    have hX : X = 2 + (items.map itemS).sum := by rw [← HX.out, sizeN]; simp
    have hzz := hz.2.1
    simp only [] at hzz
    replace HX := Lib.hid hX
    clear hX hz
    clear h2
    clear h3
    generalize hl : (items.map itemS).sum = total at *
    generalize items = l at *
    obtain ⟨a, cap, rfl, hn, hr⟩ := h1
    unfold maxLen at hn
    go_wp2_with fail
    go_loopw [3, 17] (fun v3 v wr => ∃ t : Nat, t ≤ l.length ∧ v = .int .i64 t ∧ v3 = .int .i64 (sw (2 + ((l.take t).map itemS).sum)) ∧ Below w.heap.size w wr) (fun _ v _ => l.length - (intOf v).toNat)
    case atStart => exact ⟨0, by omega, rfl, sw_two, hbW⟩
    case round =>
      obtain ⟨t, ht, rfl, rfl, hb⟩ := hrel
      by_cases hlt : t < l.length
      · obtain ⟨b, o, rfl, hbB, hc⟩ := hr (by omega)
        have hci : wr.rangeAt b (o + t * 2) (itemV l[t]) := by
          have := rangeAt_below (hc t hlt) hb (by omega)
          rwa [List.getElem?_eq_getElem hlt] at this
        have hst := sum_take_succ itemS l t hlt
        have hzt := hzz _ (List.getElem_mem hlt)
        have hlti : (t : Int) < (l.length : Int) := by omega
        have c0 : wr.cell? ⟨b, o + t * 2, none⟩ = some (.string l[t].key) := hci 0 _ rfl
        have c1 : wr.cell? ⟨b, o + t * 2 + 1, none⟩ = some (.string l[t].val) := hci 1 _ rfl
        have hS : itemS l[t] = 2 + l[t].key.size + l[t].val.size := rfl
        have hbW2 := hb.alloc hb.size (.cells #[.string l[t].key, .string l[t].val] 51)
        rw [hS] at hst
        generalize l[t].key = key at *
        generalize l[t].val = val at *
        generalize hq1 : ((l.take t).map itemS).sum = s1 at *
        generalize hq2 : ((l.take (t + 1)).map itemS).sum = s2 at *
        subst hst
        have Hq2 := Lib.hid hq2
        clear hc hr hb hS hq1 hq2 hzz
        generalize hy : sw (2 + s1) = y at *
        have Hy := Lib.hid hy
        clear hy
        go_wp2_with fail
        go_roundw
        case rel => exact ⟨t + 1, by omega, by go_num, by rw [Hq2.out, ← Nat.add_assoc]; exact sw_step (x := _) Hy.out (by first | (push_cast; omega) | omega), hbW2⟩
        case measure => simp [intOf]; omega
      · have htl : t = l.length := by omega
        subst htl
        rw [List.take_length, hl]
        clear hr
        go_wp2_with fail
        go_ret
        exact ⟨by rw [HX.out]; rfl, hb⟩
  by_cases hk2 : kind = 2
  · have i2 : (kind : Int) = 2 := by omega
    subst hk2
    have hX : X = 2 + (kids.map kidS).sum := by rw [← HX.out, sizeN]; simp
    have hzz := hz.2.2.1
    simp only [] at hzz
    replace HX := Lib.hid hX
    clear hX hz
    have hwf := hw.2.1
    clear h1
    clear h3
    generalize hl : (kids.map kidS).sum = total at *
    generalize kids = l at *
    obtain ⟨a, cap, rfl, hn, hr⟩ := h2
    unfold maxLen at hn
    go_wp2_with fail
    go_loopw [3, 37] (fun v3 v wr => ∃ t : Nat, t ≤ l.length ∧ v = .int .i64 t ∧ v3 = .int .i64 (sw (2 + ((l.take t).map kidS).sum)) ∧ Below w.heap.size w wr) (fun _ v _ => l.length - (intOf v).toNat)
    case atStart => exact ⟨0, by omega, rfl, sw_two, hbW⟩
    case round =>
      obtain ⟨t, ht, rfl, rfl, hb⟩ := hrel
      by_cases hlt : t < l.length
      · obtain ⟨b, o, rfl, hbB, hc⟩ := hr (by omega)
        have hci : wr.rangeAt b (o + t * 34) (kidV l[t]) := by
          have := rangeAt_below (hc t hlt) hb (by omega)
          rwa [List.getElem?_eq_getElem hlt] at this
        have hst := sum_take_succ kidS l t hlt
        have hzt := hzz _ (List.getElem_mem hlt)
        have hlti : (t : Int) < (l.length : Int) := by omega
        have hwk := hwf l[t] (List.getElem_mem hlt)
        have hkl := kidV_length hwk.2
        have hone := kidV_one l[t]
        have hksz : (Tryd.prog.info? 55).map (·.size) = some (kidV l[t]).length := by rw [hkl]; kernel_rfl
        have hksz2 : (Tryd.prog.info? 55).map (·.size) = some (kidV l[t]).toArray.size := by rw [List.size_toArray, hkl]; kernel_rfl
        obtain ⟨W, W2, hW, hW2, hG, hb2, hthere⟩ := alloc_fill wr kidZ (kidV l[t]).toArray 55 (by rw [List.size_toArray, hkl]; rfl)
        have hbW2 := hb.trans (hb2.mono hb.size)
        have c0 : W2.cell? ⟨wr.heap.size, 0, none⟩ = some (.string l[t].key) := by rw [hG.cell]; rfl
        have hS : kidS l[t] = 37 + l[t].key.size := rfl
        have HW := Lib.hid hW
        have HW2 := Lib.hid hW2
        clear hW hW2 hG hb2 hkl hwk
        rw [hS] at hst
        generalize hkv : kidV l[t] = cs at *
        generalize l[t].key = key at *
        generalize hq1 : ((l.take t).map kidS).sum = s1 at *
        generalize hq2 : ((l.take (t + 1)).map kidS).sum = s2 at *
        subst hst
        have Hq2 := Lib.hid hq2
        clear hc hr hb hS hq1 hq2 hzz
        generalize hy : sw (2 + s1) = y at *
        have Hy := Lib.hid hy
        clear hy
        go_wp2_with (first | (refine wpList_world HW.out ?_) | (refine wpList_load_mid rfl 55 _ rfl b (o + t * 34) rfl cs _ hci Tryd.underlying55 rfl hksz ?_) | (refine wpList_store_mid rfl 55 _ _ rfl wr.heap.size 0 cs.toArray rfl rfl hthere hksz2 hone ?_; refine wpList_world HW2.out ?_))
        go_roundw
        case rel => exact ⟨t + 1, by omega, by go_num, by rw [Hq2.out, ← Nat.add_assoc]; exact sw_step (x := _) Hy.out (by first | (push_cast; omega) | omega), hbW2⟩
        case measure => simp [intOf]; omega
      · have htl : t = l.length := by omega
        subst htl
        rw [List.take_length, hl]
        clear hr
        go_wp2_with fail
        go_ret
        exact ⟨by rw [HX.out]; rfl, hb⟩
  by_cases hk3 : kind = 3
  · have i3 : (kind : Int) = 3 := by omega
    subst hk3
    have hX : X = 2 + (vols.map volS).sum := by rw [← HX.out, sizeN]; simp
    have hzz := hz.2.2.2
    simp only [] at hzz
    replace HX := Lib.hid hX
    clear hX hz
    have hwf := hw.2.2
    clear h1
    clear h2
    generalize hl : (vols.map volS).sum = total at *
    generalize vols = l at *
    obtain ⟨a, cap, rfl, hn, hr⟩ := h3
    unfold maxLen at hn
    go_wp2_with fail
    go_loopw [3, 53] (fun v3 v wr => ∃ t : Nat, t ≤ l.length ∧ v = .int .i64 t ∧ v3 = .int .i64 (sw (2 + ((l.take t).map volS).sum)) ∧ Below w.heap.size w wr) (fun _ v _ => l.length - (intOf v).toNat)
    case atStart => exact ⟨0, by omega, rfl, sw_two, hbW⟩
    case round =>
      obtain ⟨t, ht, rfl, rfl, hb⟩ := hrel
      by_cases hlt : t < l.length
      · obtain ⟨b, o, rfl, hbB, hc⟩ := hr (by omega)
        have hci : wr.rangeAt b (o + t * 37) (volV l[t]) := by
          have := rangeAt_below (hc t hlt) hb (by omega)
          rwa [List.getElem?_eq_getElem hlt] at this
        have hst := sum_take_succ volS l t hlt
        have hzt := hzz _ (List.getElem_mem hlt)
        have hlti : (t : Int) < (l.length : Int) := by omega
        have hwk := hwf l[t] (List.getElem_mem hlt)
        have hkl := volV_length hwk.2.2.2
        have hone := volV_one l[t]
        have hksz : (Tryd.prog.info? 62).map (·.size) = some (volV l[t]).length := by rw [hkl]; kernel_rfl
        have hksz2 : (Tryd.prog.info? 62).map (·.size) = some (volV l[t]).toArray.size := by rw [List.size_toArray, hkl]; kernel_rfl
        obtain ⟨W, W2, hW, hW2, hG, hb2, hthere⟩ := alloc_fill wr volZ (volV l[t]).toArray 62 (by rw [List.size_toArray, hkl]; rfl)
        have hbW2 := hb.trans (hb2.mono hb.size)
        have c0 : W2.cell? ⟨wr.heap.size, 0, none⟩ = some (.string l[t].name) := by rw [hG.cell]; rfl
        have c2 : W2.cell? ⟨wr.heap.size, 2, none⟩ = some (.string l[t].frm) := by rw [hG.cell]; rfl
        have hS : volS l[t] = 47 + l[t].name.size + l[t].frm.size := rfl
        have HW := Lib.hid hW
        have HW2 := Lib.hid hW2
        clear hW hW2 hG hb2 hkl hwk
        rw [hS] at hst
        generalize hkv : volV l[t] = cs at *
        generalize l[t].name = key at *
        generalize l[t].frm = val at *
        generalize hq1 : ((l.take t).map volS).sum = s1 at *
        generalize hq2 : ((l.take (t + 1)).map volS).sum = s2 at *
        subst hst
        have Hq2 := Lib.hid hq2
        clear hc hr hb hS hq1 hq2 hzz
        generalize hy : sw (2 + s1) = y at *
        have Hy := Lib.hid hy
        clear hy
        go_wp2_with (first | (refine wpList_world HW.out ?_) | (refine wpList_load_mid rfl 62 _ rfl b (o + t * 37) rfl cs _ hci Tryd.underlying62 rfl hksz ?_) | (refine wpList_store_mid rfl 62 _ _ rfl wr.heap.size 0 cs.toArray rfl rfl hthere hksz2 hone ?_; refine wpList_world HW2.out ?_))
        go_roundw
        case rel => exact ⟨t + 1, by omega, by go_num, by rw [Hq2.out, ← Nat.add_assoc]; exact sw_step (x := _) Hy.out (by first | (push_cast; omega) | omega), hbW2⟩
        case measure => simp [intOf]; omega
      · have htl : t = l.length := by omega
        subst htl
        rw [List.take_length, hl]
        clear hr
        go_wp2_with fail
        go_ret
        exact ⟨by rw [HX.out]; rfl, hb⟩
  · clear hz
    have j1 : ¬ (kind : Int) = 1 := by omega
    have j2 : ¬ (kind : Int) = 2 := by omega
    have j3 : ¬ (kind : Int) = 3 := by omega
    have hX : X = 2 := by rw [← HX.out, sizeN]; simp [hk1, hk2, hk3]
    replace HX := Lib.hid hX
    clear hX
    go_wp2_with fail
    go_ret
    exact ⟨by rw [HX.out, ← sw_two]; rfl, hbW⟩

end Go.Proofs.YtokanfceipkfpaaDoor

namespace Go.Proofs.YtokanfceipkfpaaDoor
open Go.RowKit

end Go.Proofs.YtokanfceipkfpaaDoor
