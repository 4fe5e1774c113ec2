/- The law HeapHolds: walked. -/
import Derived.Test.YtimkklaidodkdaaGreatDoorHeapRoom
import Derived.Test.YtimkklaidodkdaaGreatDoorHeapSame
import Derived.Test.YtimkklaidodkdaaGreatDoorHeapHoldsP
namespace Go.Proofs.YtimkklaidodkdaaGreatDoor
open Go.RowKit

/-- heap.Hold, however it went. -/
theorem hold_any (v : Value) (h : HeapD) (k : Nat) (w : World) (a : HeapAt w.heap.size w v h) : Calls Tryz.prog 22 #[v, .int .u32 (k : Int)] w fun e w' => ∃ (n : Int) (p : Option Addr) (m c : Nat) (x : Int), e = .returned (.tuple #[.agg #[.int .u32 n, .slice p m c], .int .i64 x]) ∧ (x = 0 → RightH h ∧ holdE h k = 0 ∧ OwnH w.heap.size w' (.agg #[.int .u32 n, .slice p m c]) (holdH h k)) ∧ Below w.heap.size w w' := (hold_calls v h k w a).mono (by
  rintro e w' ⟨⟨r, ⟨hr, rfl, ho⟩ | ⟨hno, rfl, ho⟩⟩, hb⟩
  · obtain ⟨p, c, rfl⟩ := ho.shape
    exact ⟨_, p, _, c, _, rfl, fun h0 => ⟨hr, h0, ho⟩, hb⟩
  · obtain ⟨p, c, rfl⟩ := ho.shape
    exact ⟨_, p, _, c, _, rfl, fun h0 => (by cases h0), hb⟩)

set_option maxRecDepth 100000 in
set_option maxHeartbeats 6400000 in
theorem holds_calls (v : Value) (h : HeapD) (k : Nat) (w : World) (a : HeapAt w.heap.size w v h) :
    Calls Tryz.prog 5 #[v, .int .u32 (k : Int)] w fun e w' => e = .returned (.bool true) ∧ Below w.heap.size w w' := by
  obtain ⟨p, cap, rfl⟩ := a.shape
  obtain ⟨W0, hW0⟩ : ∃ W0, W0 = w.alloc (.cells #[.int .u32 (h.size : Int), .slice p h.cells.length cap] 35) := ⟨_, rfl⟩
  have hx : RowIs W0 w.heap.size 35 #[.int .u32 (h.size : Int), .slice p h.cells.length cap] := by rw [hW0]; exact RowIs.new w _ _
  have hb0 : Below w.heap.size w W0 := by rw [hW0]; exact (Below.refl _ _).alloc (Nat.le_refl _) _
  have hlv := hlives_calls W0
  have hsz : (Tryz.prog.info? 35).map (·.size) = some (#[.int .u32 (h.size : Int), .slice p h.cells.length cap] : Array Value).size := by kernel_rfl
  have hszH : ∀ x y : Value, (Tryz.prog.info? 35).map (·.size) = some (#[x, y] : Array Value).size := fun x y => by kernel_rfl
  have HSZ := Lib.hid hszH
  have HW0 := Lib.hid hW0
  have HA := Lib.hid (And.intro a (And.intro hx hb0))
  have HAT := Lib.hid a.at_
  have HA0 := Lib.hid a
  clear hW0 a hx hb0 hszH
  generalize hXg : w.heap.size = X at *
  go_enter Tryz.func5, Tryz.ntmps5
  go_wp2_with (refine wpList_world HW0.out ?_)
  refine hlv.mono ?_
  rintro e w1 ⟨rfl, hq⟩
  obtain ⟨a, hx, hb⟩ := HA.out
  have hx1 := hx.below hq hx.lt
  have hb1 := hb.trans (hq.mono (by have := hb.size; omega))
  have ha1 : HeapAt w1.heap.size w1 (.agg #[.int .u32 (h.size : Int), .slice p h.cells.length cap]) h := (a.below hb1 (Nat.le_refl _)).mono (by have := hb1.size; omega)
  have hhold := hold_any _ h k w1 ha1
  have HB := Lib.hid (And.intro ha1 (And.intro hx1 hb1))
  clear hlv hq a hx hb ha1 hb1 HA
  go_wp2_with (refine wpList_load_row rfl 35 _ rfl X rfl 35 #[.int .u32 (h.size : Int), .slice p h.cells.length cap] (0, 0) _ hx1 Tryz.underlying35 rfl hsz ?_)
  refine hhold.mono ?_
  rintro e w2 ⟨n2, p2, m2, c2, x2, rfl, hok, hq⟩
  obtain ⟨W3, hW3⟩ : ∃ W3, W3 = w2.alloc (.cells #[.int .u32 0, .slice none 0 0] 35) := ⟨_, rfl⟩
  obtain ⟨W4, hW4⟩ : ∃ W4, W4 = W3.setCells w2.heap.size 0 [.int .u32 n2, .slice p2 m2 c2] := ⟨_, rfl⟩
  have hal : Below w2.heap.size w2 W3 := by rw [hW3]; exact (Below.refl _ _).alloc (Nat.le_refl _) _
  have hV : RowIs W3 w2.heap.size 35 #[.int .u32 0, .slice none 0 0] := by rw [hW3]; exact RowIs.new _ _ _
  have hal2 : Below w2.heap.size w2 W4 := by rw [hW4]; exact setCells_below _ _ (Nat.le_refl _) _ 0 _ _ hal
  have hA4 : RowIs W4 w2.heap.size 35 #[.int .u32 n2, .slice p2 m2 c2] := by rw [hW4]; exact store_row hV (D := #[.int .u32 n2, .slice p2 m2 c2]) rfl
  have hth := hV.there 0 2 (by simp)
  have hone := oneH n2 p2 m2 c2
  have hsz2 := HSZ.out (.int .u32 n2) (.slice p2 m2 c2)
  have hw2s : w1.heap.size ≤ w2.heap.size := hq.size
  have hX1 := HB.out.2.2.size
  have hx4 := (hx1.below hq hx1.lt).below hal2 (Nat.lt_of_lt_of_le hx1.lt hq.size)
  have hb4 : Below X w W4 := (HB.out.2.2.trans (hq.mono (by omega))).trans (hal2.mono (by omega))
  have ha4 : HeapAt W4.heap.size W4 (.agg #[.int .u32 (h.size : Int), .slice p h.cells.length cap]) h := ((HB.out.1.below hq (Nat.le_refl _)).below hal2 hw2s).mono (Nat.le_trans hw2s hal2.size)
  have HW3 := Lib.hid hW3
  have HW4 := Lib.hid hW4
  have HOK := Lib.hid (And.intro hok hal2)
  have HI := Lib.hid (And.intro hx4 (And.intro hb4 (And.intro ha4 hA4)))
  clear hhold hok hq hW3 hW4 hal hV hal2 hA4 hx4 hb4 ha4 hx1
  generalize hT : w2.heap.size = T at *
  by_cases h0 : x2 = 0
  · subst h0
    obtain ⟨hr, he, ho⟩ := HOK.out.1 rfl
    obtain ⟨c, hf, _⟩ := hold_some he
    obtain ⟨hx4, hb4, ha4, hA4⟩ := HI.out
    have hra := holdH_right (k := k) hr
    have ho4 := ho.below HOK.out.2 (Nat.le_of_eq hT)
    have hfa : findC (holdH h k).cells k = some { c with refs := c.refs + 1 } := by rw [hold_heap he]; exact inc_find hr hf
    have hheld := held_well _ h k W4 ha4 hr hf
    have HI2 := Lib.hid (And.intro hx4 (And.intro hb4 (And.intro ha4 (And.intro hA4 (And.intro ho4 (And.intro hra (And.intro hfa (And.intro hr (And.intro he hf)))))))))
    clear ho hb4 ha4 hA4 ho4 hra hfa hr he hf HI HOK
    go_wp2_with (first | (refine wpList_world HW3.out ?_) | (refine wpList_store_mid rfl 35 _ _ rfl T 0 #[.int .u32 n2, .slice p2 m2 c2] rfl rfl hth hsz2 hone ?_; refine wpList_world HW4.out ?_) | (refine wpList_load_row rfl 35 _ rfl X rfl 35 #[.int .u32 (h.size : Int), .slice p h.cells.length cap] (0, 0) _ hx4 Tryz.underlying35 rfl hsz ?_))
    refine hheld.mono ?_
    rintro e w5 ⟨rfl, hq⟩
    obtain ⟨_, hb4, ha4, hA4, ho4, hra, hfa, hr, he, hf⟩ := HI2.out
    have hx5 := hx4.below hq hx4.lt
    have hA5 := hA4.below hq hA4.lt
    have hX4 := hb4.size
    have hb5 := hb4.trans (hq.mono (by omega))
    have ho5 := ho4.below hq (Nat.le_refl _)
    have ha5 : HeapAt w5.heap.size w5 (.agg #[.int .u32 (h.size : Int), .slice p h.cells.length cap]) h := (ha4.below hq (Nat.le_refl _)).mono hq.size
    have hheld2 := held_well _ (holdH h k) k w5 (ho5.heap hra) hra hfa
    rw [hold_held he] at hheld2
    have hy0 : 0 ≤ heldC h c := by have := hr.led c (find_mem hf).1; unfold heldC; omega
    have hy1 : heldC h c ≤ 16777216 := by have := hr.most c (find_mem hf).1; unfold heldC; omega
    have HI3 := Lib.hid (And.intro hb5 (And.intro ho5 (And.intro ha5 (And.intro hra (And.intro hr (And.intro he hf))))))
    clear hheld hq hb4 ha4 hA4 ho4 hra hfa hr he hf hx4 HI2 hb5 ho5 ha5 HW3 HW4 hth hone
    generalize heldC h c = y at *
    go_wp2_with (refine wpList_load_row rfl 35 _ rfl T rfl 35 #[.int .u32 n2, .slice p2 m2 c2] (0, 0) _ hA5 Tryz.underlying35 rfl hsz2 ?_)
    refine hheld2.mono ?_
    rintro e w6 ⟨rfl, hq⟩
    obtain ⟨hb5, ho5, ha5, hra, hr, he, hf⟩ := HI3.out
    have hx6 := hx5.below hq hx5.lt
    have hA6 := hA5.below hq hA5.lt
    have hX5 := hb5.size
    have hb6 := hb5.trans (hq.mono (by omega))
    have ha6 : HeapAt w6.heap.size w6 (.agg #[.int .u32 (h.size : Int), .slice p h.cells.length cap]) h := (ha5.below hq (Nat.le_refl _)).mono hq.size
    have ho6 := ho5.below hq (Nat.le_refl _)
    have hdr := hold_drop hr he hf
    obtain ⟨H, hH⟩ : ∃ H, H = dropH (holdH h k) k := ⟨_, rfl⟩
    have hrH : RightH H := by rw [hH]; exact dropH_right hra
    have hdrop := drop_well _ (holdH h k) k w6 (ho6.heap hra) hra (x := 0) (H := H) ⟨hdr.1, hH.symm⟩
    rw [← hH] at hdr
    have HI4 := Lib.hid (And.intro hb6 (And.intro ha6 (And.intro hr (And.intro hf (And.intro hdr.2 hrH)))))
    clear hheld2 hq hA5 hx5 hb5 ho5 ha5 hra hr he hf hb6 ha6 ho6 hdr hrH hH HI3
    go_wp2_with (refine wpList_load_row rfl 35 _ rfl T rfl 35 #[.int .u32 n2, .slice p2 m2 c2] (0, 0) _ hA6 Tryz.underlying35 rfl hsz2 ?_)
    refine hdrop.mono ?_
    rintro e w7 ⟨p7, c7, rfl, ho7, hq⟩
    obtain ⟨hb6, ha6, hr, hf, hdH, hrH⟩ := HI4.out
    obtain ⟨W8, hW8⟩ : ∃ W8, W8 = w7.alloc (.cells #[.int .u32 0, .slice none 0 0] 35) := ⟨_, rfl⟩
    obtain ⟨W9, hW9⟩ : ∃ W9, W9 = W8.setCells w7.heap.size 0 [.int .u32 (H.size : Int), .slice p7 H.cells.length c7] := ⟨_, rfl⟩
    have hal : Below w7.heap.size w7 W8 := by rw [hW8]; exact (Below.refl _ _).alloc (Nat.le_refl _) _
    have hV : RowIs W8 w7.heap.size 35 #[.int .u32 0, .slice none 0 0] := by rw [hW8]; exact RowIs.new _ _ _
    have hal2 : Below w7.heap.size w7 W9 := by rw [hW9]; exact setCells_below _ _ (Nat.le_refl _) _ 0 _ _ hal
    have hB9 : RowIs W9 w7.heap.size 35 #[.int .u32 (H.size : Int), .slice p7 H.cells.length c7] := by rw [hW9]; exact store_row hV (D := #[.int .u32 (H.size : Int), .slice p7 H.cells.length c7]) rfl
    have hth8 := hV.there 0 2 (by simp)
    have hone8 := oneH (H.size : Int) p7 H.cells.length c7
    have hsz8 := HSZ.out (.int .u32 (H.size : Int)) (.slice p7 H.cells.length c7)
    have hX6 := hb6.size
    have hq6 := hq.size
    have hx9 := (hx6.below hq hx6.lt).below hal2 (Nat.lt_of_lt_of_le hx6.lt hq6)
    have hb9 : Below X w W9 := (hb6.trans (hq.mono (by omega))).trans (hal2.mono (by omega))
    have ho9 := ho7.below hal2 (Nat.le_refl _)
    have cx1 : W9.cell? ⟨X, 1, none⟩ = some (.slice p h.cells.length cap) := by rw [hx9.cell]; rfl
    have HW8 := Lib.hid hW8
    have HW9 := Lib.hid hW9
    have HI5 := Lib.hid (And.intro hx9 (And.intro hB9 (And.intro hb9 (And.intro ho9 (And.intro hr (And.intro hf (And.intro hdH hrH)))))))
    clear hdrop hq ho7 hb6 ha6 hr hf hdH hrH hW8 hW9 hal hV hal2 hB9 hx9 hb9 ho9 hx6 hA6 HI4
    obtain ⟨sl, hv, pa, capa, rfl, hn0, hr0⟩ := HAT.out
    have hv2 : Value.slice p h.cells.length cap = .slice pa h.cells.length capa := by
      injection hv with hv
      simpa using hv
    injection hv2 with hv3 hv4 hv5
    subst hv3
    clear hv hv4 hv5
    unfold maxLen at hn0
    have HR0 := Lib.hid hr0
    clear hr0
    generalize hT11 : w7.heap.size = T11 at *
    generalize hng : h.cells.length = n at *
    go_wp2_with (first | (refine wpList_world HW8.out ?_) | (refine wpList_store_mid rfl 35 _ _ rfl T11 0 #[.int .u32 (H.size : Int), .slice p7 H.cells.length c7] rfl rfl hth8 hsz8 hone8 ?_; refine wpList_world HW9.out ?_))
    go_loopg [62] n (fun g s62 wx => ∃ t : Nat, t ≤ n ∧ g = n - t ∧ s62 = .int .i64 t ∧ (∀ i (hi : i < h.cells.length), i < t → ¬ (h.cells[i].num = k ∧ h.cells[i].refs = 0)) ∧ RowIs wx X 35 #[.int .u32 (h.size : Int), .slice p n cap] ∧ RowIs wx T11 35 #[.int .u32 (H.size : Int), .slice p7 H.cells.length c7] ∧ Below X w wx ∧ OwnH w6.heap.size wx (.agg #[.int .u32 (H.size : Int), .slice p7 H.cells.length c7]) H)
    case atStart => exact ⟨0, by omega, by omega, rfl, fun i _ hi => absurd hi (Nat.not_lt_zero _), HI5.out.1, HI5.out.2.1, HI5.out.2.2.1, HI5.out.2.2.2.1⟩
    case round =>
      obtain ⟨t, ht, rfl, rfl, hnz, hx, hB, hb, ho⟩ := hrel
      by_cases hlt : t < n
      · have i1 : (t : Int) < (n : Int) := by omega
        have hltc : t < h.cells.length := by omega
        obtain ⟨b, o, hpb, hbX, hc⟩ := HR0.out (by omega)
        subst hpb
        have hci : wr.rangeAt b (o + t * 3) (cellV h.cells[t]) := by
          have h2 : w.rangeAt b (o + t * 3) ((h.cells[t]?.map cellV).getD []) := hc t hlt
          rw [List.getElem?_eq_getElem hltc] at h2
          exact rangeAt_below h2 hb hbX
        have c0 : wr.cell? ⟨b, o + t * 3, none⟩ = some (.int .u32 (h.cells[t].num : Int)) := hci 0 _ rfl
        have c1 : wr.cell? ⟨b, o + t * 3 + 1, none⟩ = some (.string h.cells[t].data) := hci 1 _ rfl
        have c2 : wr.cell? ⟨b, o + t * 3 + 2, none⟩ = some (.int .i64 h.cells[t].refs) := hci 2 _ rfl
        obtain ⟨W57, hW57⟩ : ∃ W57, W57 = wr.alloc (.cells #[.int .u32 (h.cells[t].num : Int), .string h.cells[t].data, .int .i64 h.cells[t].refs] 57) := ⟨_, rfl⟩
        have hN : RowIs W57 wr.heap.size 57 #[.int .u32 (h.cells[t].num : Int), .string h.cells[t].data, .int .i64 h.cells[t].refs] := by rw [hW57]; exact RowIs.new _ _ _
        have cn : W57.cell? ⟨wr.heap.size, 0, none⟩ = some (.int .u32 (h.cells[t].num : Int)) := by rw [hN.cell]; rfl
        have cr : W57.cell? ⟨wr.heap.size, 2, none⟩ = some (.int .i64 h.cells[t].refs) := by rw [hN.cell]; rfl
        have hq57 : Below wr.heap.size wr W57 := by rw [hW57]; exact (Below.refl _ _).alloc (Nat.le_refl _) _
        have hXr : X ≤ wr.heap.size := by have := hb.size; omega
        have hb57 : Below X w W57 := hb.trans (hq57.mono hXr)
        have hx57 := hx.below hq57 hx.lt
        have hB57 := hB.below hq57 hB.lt
        have ho57 := ho.below hq57 (Nat.le_refl _)
        have hnz57 : ¬ (h.cells[t].num = k ∧ h.cells[t].refs = 0) → ∀ i (hi : i < h.cells.length), i < t + 1 → ¬ (h.cells[i].num = k ∧ h.cells[i].refs = 0) := fun hno i hi hit => by
          rcases Nat.lt_or_ge i t with q | q
          · exact hnz i hi q
          · obtain rfl : i = t := by omega
            exact hno
        have HW57 := Lib.hid hW57
        have HB57 := Lib.hid (And.intro hx57 (And.intro hB57 (And.intro hb57 ho57)))
        have HNZ := Lib.hid hnz57
        clear hW57 hN hb57 hb hc hci hx hx57 hB hB57 ho ho57 hnz hnz57 hq57
        generalize h.cells[t].num = num at *
        generalize h.cells[t].data = dat at *
        generalize h.cells[t].refs = rf at *
        by_cases hk : num = k
        · subst hk
          by_cases hz : rf = 0
          · subst hz
            clear HNZ
            go_wp2_with (refine wpList_world HW57.out ?_)
            go_ret
            exact ⟨rfl, HB57.out.2.2.1⟩
          · have HF := Lib.hid (HNZ.out (fun q => hz q.2))
            have hne : (rf == 0) = false := by simpa using hz
            clear HNZ
            go_wp2_with (refine wpList_world HW57.out ?_)
            go_roundg (n - (t + 1))
            case measure => omega
            case rel => exact ⟨t + 1, by omega, rfl, by go_num, HF.out, HB57.out.1, HB57.out.2.1, HB57.out.2.2.1, HB57.out.2.2.2⟩
        · have HF := Lib.hid (HNZ.out (fun q => hk q.1))
          have hne : ((num : Int) == (k : Int)) = false := by simpa using fun e => hk (by omega)
          clear HNZ
          go_wp2_with (refine wpList_world HW57.out ?_)
          go_roundg (n - (t + 1))
          case measure => omega
          case rel => exact ⟨t + 1, by omega, rfl, by go_num, HF.out, HB57.out.1, HB57.out.2.1, HB57.out.2.2.1, HB57.out.2.2.2⟩
      · obtain rfl : t = n := by omega
        have i1 : ¬ (t : Int) < (t : Int) := by omega
        obtain ⟨_, _, _, _, hr, hf, hdH, hrH⟩ := HI5.out
        have hc0 : c.refs ≠ 0 := fun h0 => by
          obtain ⟨hcm, hcn⟩ := find_mem hf
          obtain ⟨i, hi, rfl⟩ := List.getElem_of_mem hcm
          exact hnz i hi (by omega) ⟨hcn, h0⟩
        have hHh := hdH hc0
        have hat : HeapAt wr.heap.size wr (.agg #[.int .u32 (h.size : Int), .slice p t cap]) h := by
          have := hb.size
          exact (HeapAt.below HA0.out hb (Nat.le_refl _)).mono (by omega)
        have hHat := ho.heap hrH
        rw [hHh] at hHat hB
        rw [hng] at hHat hB
        have hcall := same06_calls _ _ _ h wr hat hHat (Nat.le_refl _)
        have HF := Lib.hid (And.intro hb (show X ≤ wr.heap.size by have := hb.size; omega))
        have hsz9 := HSZ.out (.int .u32 (h.size : Int)) (.slice p7 t c7)
        clear hat hHat hb ho hr hf hdH hrH hc0 hHh hnz HI5 HAT HA0 hng HR0 hn0 hlt ht
        go_wp2_with (first | (refine wpList_load_row rfl 35 _ rfl X rfl 35 #[.int .u32 (h.size : Int), .slice p t cap] (0, 0) _ hx Tryz.underlying35 rfl hsz ?_) | (refine wpList_load_row rfl 35 _ rfl T11 rfl 35 #[.int .u32 (h.size : Int), .slice p7 t c7] (0, 0) _ hB Tryz.underlying35 rfl hsz9 ?_))
        refine hcall.mono ?_
        rintro e wz ⟨rfl, hq⟩
        have HG := Lib.hid (HF.out.1.trans (hq.mono HF.out.2))
        clear hcall hq
        go_wp2_with fail
        go_ret
        exact ⟨rfl, HG.out⟩
  · have e1 : (x2 == 0) = false := by simpa using h0
    have e2 : (x2 != 0) = true := by simpa using h0
    go_wp2_with (first | (refine wpList_world HW3.out ?_) | (refine wpList_store_mid rfl 35 _ _ rfl T 0 #[.int .u32 n2, .slice p2 m2 c2] rfl rfl hth hsz2 hone ?_; refine wpList_world HW4.out ?_))
    go_ret
    exact ⟨rfl, HI.out.2.1⟩

end Go.Proofs.YtimkklaidodkdaaGreatDoor
