/- The law HeapRoom: walked. -/
import Derived.Test.YtimkklaidodkdaaGreatDoorHeapLives
namespace Go.Proofs.YtimkklaidodkdaaGreatDoor
open Go.RowKit

def anyT (cells : List CellD) (k t : Nat) : Bool := (cells.take t).any fun c => decide (c.num = k)
theorem anyT_succ {cells : List CellD} {k t : Nat} (h : t < cells.length) : anyT cells k (t + 1) = (anyT cells k t || decide (cells[t].num = k)) := by
  unfold anyT
  rw [List.take_succ_eq_append_getElem h, List.any_append]; simp
theorem anyT_find {cells : List CellD} {k : Nat} : anyT cells k cells.length = (findC cells k).isSome := by
  unfold anyT findC
  rw [List.take_length, Bool.eq_iff_iff, List.any_eq_true, List.find?_isSome]
  simp

def errK (h : HeapD) (k : Nat) : Int := if (findC h.cells k).isSome then 0 else 5
theorem held_any (v : Value) (h : HeapD) (k : Nat) (w : World) (a : HeapAt w.heap.size w v h) (hr : RightH h) : Calls Tryz.prog 23 #[v, .int .u32 (k : Int)] w fun e w' => ∃ x : Int, 0 ≤ x ∧ e = .returned (.tuple #[.int .i64 x, .int .i64 (errK h k)]) ∧ Below w.heap.size w w' := (held_calls v h k w a).mono (by
  rintro e w' ⟨⟨_, ⟨c, hc, he⟩ | ⟨hn, he⟩⟩ | ⟨hno, _⟩, hb⟩
  · have hm := hr.led c (find_mem hc).1
    exact ⟨heldC h c, by unfold heldC; omega, by rw [he, errK, hc]; rfl, hb⟩
  · exact ⟨0, Int.le_refl _, by rw [he, errK, hn]; rfl, hb⟩
  · exact absurd hr hno)
theorem get_any (v : Value) (h : HeapD) (k : Nat) (w : World) (a : HeapAt w.heap.size w v h) (hr : RightH h) : Calls Tryz.prog 17 #[v, .int .u32 (k : Int)] w fun e w' => ∃ (kd : Int) (p1 p2 p3 : Option Addr) (n1 n2 n3 c1 c2 c3 : Nat), e = .returned (.tuple #[.agg #[.int .u8 kd, .slice p1 n1 c1, .slice p2 n2 c2, .slice p3 n3 c3], .int .i64 (errK h k)]) ∧ Below w.heap.size w w' := (get_calls v h k w a).mono (by
  rintro e w' ⟨⟨r, ⟨_, ⟨c, hc, he, hn⟩ | ⟨hn, hz, he⟩⟩ | ⟨hno, _⟩⟩, hb⟩
  · obtain ⟨p1, c1, p2, c2, p3, c3, rfl⟩ := hn.shapeN
    exact ⟨_, _, _, _, _, _, _, _, _, _, by rw [he, errK, hc]; rfl, hb⟩
  · subst hz
    exact ⟨0, none, none, none, 0, 0, 0, 0, 0, 0, by rw [he, errK, hn]; rfl, hb⟩
  · exact absurd hr hno)
theorem asc_idx2 {l : List CellD} (h : l.Pairwise (fun a b => a.num < b.num)) (h2 : ∀ c ∈ l, 2 ≤ c.num) : ∀ i (hi : i < l.length), i + 2 ≤ l[i].num
  | 0, hi => by have := h2 _ (List.getElem_mem hi); omega
  | i + 1, hi => by
    have := asc_idx2 h h2 i (by omega)
    have := (List.pairwise_iff_getElem.1 h) i (i + 1) (by omega) hi (Nat.lt_succ_self _)
    omega
theorem RightH.len {h : HeapD} (r : RightH h) : h.cells.length + 2 ≤ h.size := by
  rcases Nat.eq_zero_or_pos h.cells.length with h0 | h0
  · have := r.lo; omega
  · have h1 := asc_idx2 r.asc (fun c hc => (r.ok c hc).2.1) (h.cells.length - 1) (by omega)
    have h2 := (r.ok _ (List.getElem_mem (show h.cells.length - 1 < h.cells.length by omega))).2.2
    omega

set_option maxRecDepth 100000 in
set_option maxHeartbeats 6400000 in
theorem room_calls (v : Value) (h : HeapD) (k : Nat) (w : World) (a : HeapAt w.heap.size w v h) :
    Calls Tryz.prog 6 #[v, .int .u32 (k : Int)] w fun e w' => e = .returned (.bool true) ∧ Below w.heap.size w w' := by
  obtain ⟨p, cap, rfl⟩ := a.shape
  obtain ⟨W0, hW0⟩ : ∃ W0, W0 = w.alloc (.cells #[.int .u32 (h.size : Int), .slice p h.cells.length cap] 35) := ⟨_, rfl⟩
  have hx : RowIs W0 w.heap.size 35 #[.int .u32 (h.size : Int), .slice p h.cells.length cap] := by rw [hW0]; exact RowIs.new w _ _
  have hb0 : Below w.heap.size w W0 := by rw [hW0]; exact (Below.refl _ _).alloc (Nat.le_refl _) _
  have hlv := hlives_calls W0
  have hsz : (Tryz.prog.info? 35).map (·.size) = some (#[.int .u32 (h.size : Int), .slice p h.cells.length cap] : Array Value).size := by kernel_rfl
  have HW0 := Lib.hid hW0
  have HA := Lib.hid (And.intro a (And.intro hx hb0))
  have HAT := Lib.hid a.at_
  clear hW0 a hx hb0
  generalize hXg : w.heap.size = X at *
  go_enter Tryz.func6, Tryz.ntmps6
  go_wp2_with (refine wpList_world HW0.out ?_)
  refine hlv.mono ?_
  rintro e w1 ⟨rfl, hq⟩
  obtain ⟨a, hx, hb⟩ := HA.out
  have hx1 := hx.below hq hx.lt
  have hb1 := hb.trans (hq.mono (by have := hb.size; omega))
  have ha1 : HeapAt w1.heap.size w1 (.agg #[.int .u32 (h.size : Int), .slice p h.cells.length cap]) h := (a.below hb1 (Nat.le_refl _)).mono (by have := hb1.size; omega)
  have hfree := free2_calls _ h w1 ha1
  have HB := Lib.hid (And.intro ha1 (And.intro hx1 hb1))
  clear hlv hq a hx hb ha1 hb1 HA
  go_wp2_with (refine wpList_load_row rfl 35 _ rfl X rfl 35 #[.int .u32 (h.size : Int), .slice p h.cells.length cap] (0, 0) _ hx1 Tryz.underlying35 rfl hsz ?_)
  refine hfree.mono ?_
  rintro e w2 ⟨⟨hr, rfl⟩ | ⟨hno, rfl⟩, hq⟩
  · have hX1 := HB.out.2.2.size
    have hb2 := HB.out.2.2.trans (hq.mono (by omega))
    have hx2 := hx1.below hq hx1.lt
    have ha2 : HeapAt w2.heap.size w2 (.agg #[.int .u32 (h.size : Int), .slice p h.cells.length cap]) h := (HB.out.1.below hq (Nat.le_refl _)).mono hq.size
    have hheld := held_any _ h k w2 ha2 hr
    have HB2 := Lib.hid (And.intro ha2 hb2)
    clear hfree hq hx1 ha2 hb2
    go_wp2_with (refine wpList_load_row rfl 35 _ rfl X rfl 35 #[.int .u32 (h.size : Int), .slice p h.cells.length cap] (0, 0) _ hx2 Tryz.underlying35 rfl hsz ?_)
    refine hheld.mono ?_
    rintro e w3 ⟨x, hx0, rfl, hq⟩
    have hX2 := HB2.out.2.size
    have hb3 := HB2.out.2.trans (hq.mono (by omega))
    have hx3 := hx2.below hq hx2.lt
    have ha3 : HeapAt w3.heap.size w3 (.agg #[.int .u32 (h.size : Int), .slice p h.cells.length cap]) h := (HB2.out.1.below hq (Nat.le_refl _)).mono hq.size
    have hget := get_any _ h k w3 ha3 hr
    have HB3 := Lib.hid hb3
    clear hheld hq hx2 ha3 hb3
    go_wp2_with (refine wpList_load_row rfl 35 _ rfl X rfl 35 #[.int .u32 (h.size : Int), .slice p h.cells.length cap] (0, 0) _ hx3 Tryz.underlying35 rfl hsz ?_)
    refine hget.mono ?_
    rintro e w4 ⟨kd, p1, p2, p3, n1, n2, n3, c1, c2, c3, rfl, hq⟩
    obtain ⟨W5, hW5⟩ : ∃ W5, W5 = w4.alloc (.cells #[.int .u8 0, .slice none 0 0, .slice none 0 0, .slice none 0 0] 28) := ⟨_, rfl⟩
    obtain ⟨W6, hW6⟩ : ∃ W6, W6 = W5.setCells w4.heap.size 0 [.int .u8 kd, .slice p1 n1 c1, .slice p2 n2 c2, .slice p3 n3 c3] := ⟨_, rfl⟩
    have hal : Below w4.heap.size w4 W5 := by rw [hW5]; exact (Below.refl _ _).alloc (Nat.le_refl _) _
    have hV : RowIs W5 w4.heap.size 28 #[.int .u8 0, .slice none 0 0, .slice none 0 0, .slice none 0 0] := by rw [hW5]; exact RowIs.new _ _ _
    have hal2 : Below w4.heap.size w4 W6 := by rw [hW6]; exact setCells_below _ _ (Nat.le_refl _) _ 0 _ _ hal
    have hth := hV.there 0 4 (by decide)
    have hone : (#[.int .u8 kd, .slice p1 n1 c1, .slice p2 n2 c2, .slice p3 n3 c3] : Array Value).all (·.oneCell') = true := all_oneCell_toArray (cs := [.int .u8 kd, .slice p1 n1 c1, .slice p2 n2 c2, .slice p3 n3 c3]) fun v hv => by
      simp only [List.mem_cons, List.not_mem_nil, or_false] at hv
      rcases hv with rfl | rfl | rfl | rfl <;> rfl
    have hszN : (Tryz.prog.info? 28).map (·.size) = some (#[.int .u8 kd, .slice p1 n1 c1, .slice p2 n2 c2, .slice p3 n3 c3] : Array Value).size := by kernel_rfl
    have hX3 := HB3.out.size
    have hx6 := (hx3.below hq hx3.lt).below hal2 (Nat.lt_of_lt_of_le hx3.lt hq.size)
    have hb6 : Below X w W6 := (HB3.out.trans (hq.mono (by omega))).trans (hal2.mono (by have := hq.size; omega))
    have cx1 : W6.cell? ⟨X, 1, none⟩ = some (.slice p h.cells.length cap) := by rw [hx6.cell]; rfl
    have HW5 := Lib.hid hW5
    have HW6 := Lib.hid hW6
    have HI := Lib.hid (And.intro hx6 hb6)
    have hlen := hr.len
    have hhi := hr.hi
    have HR := Lib.hid hr
    obtain ⟨sl, hv, pa, capa, rfl, hn0, hr0⟩ := HAT.out
    have hv2 : Value.slice p h.cells.length cap = .slice pa h.cells.length capa := by
      injection hv with hv
      simpa using hv
    injection hv2 with hv3 hv4 hv5
    subst hv3
    clear hv hv4 hv5
    unfold maxLen at hn0
    have HR0 := Lib.hid hr0
    clear hr0
    clear hget hq hx3 hW5 hW6 hal hV hal2 hx6 hb6 hr
    generalize hNg : w4.heap.size = NB at *
    generalize hng : h.cells.length = n at *
    go_wp2_with (first | (refine wpList_world HW5.out ?_) | (refine wpList_store_mid rfl 28 _ _ rfl NB 0 #[.int .u8 kd, .slice p1 n1 c1, .slice p2 n2 c2, .slice p3 n3 c3] rfl rfl hth hszN hone ?_; refine wpList_world HW6.out ?_))
    go_loopg [11, 40] n (fun g s11 s40 wx => ∃ t : Nat, t ≤ n ∧ g = n - t ∧ s40 = .int .i64 t ∧ s11 = .bool (anyT h.cells k t) ∧ Below X w wx ∧ RowIs wx X 35 #[.int .u32 (h.size : Int), .slice p n cap])
    case atStart => exact ⟨0, by omega, by omega, rfl, rfl, HI.out.2, HI.out.1⟩
    case round =>
      obtain ⟨t, ht, rfl, rfl, rfl, hb, hx⟩ := hrel
      by_cases hlt : t < n
      · have i1 : (t : Int) < (n : Int) := by omega
        have hltc : t < h.cells.length := by omega
        obtain ⟨b, o, hpb, hbX, hc⟩ := HR0.out (by omega)
        subst hpb
        have hci : wr.rangeAt b (o + t * 3) (cellV h.cells[t]) := by
          have h2 : w.rangeAt b (o + t * 3) ((h.cells[t]?.map cellV).getD []) := hc t hlt
          rw [List.getElem?_eq_getElem hltc] at h2
          exact rangeAt_below h2 hb hbX
        have c0 : wr.cell? ⟨b, o + t * 3, none⟩ = some (.int .u32 (h.cells[t].num : Int)) := hci 0 _ rfl
        have c1 : wr.cell? ⟨b, o + t * 3 + 1, none⟩ = some (.string h.cells[t].data) := hci 1 _ rfl
        have c2 : wr.cell? ⟨b, o + t * 3 + 2, none⟩ = some (.int .i64 h.cells[t].refs) := hci 2 _ rfl
        obtain ⟨W57, hW57⟩ : ∃ W57, W57 = wr.alloc (.cells #[.int .u32 (h.cells[t].num : Int), .string h.cells[t].data, .int .i64 h.cells[t].refs] 57) := ⟨_, rfl⟩
        have hN : RowIs W57 wr.heap.size 57 #[.int .u32 (h.cells[t].num : Int), .string h.cells[t].data, .int .i64 h.cells[t].refs] := by rw [hW57]; exact RowIs.new _ _ _
        have cn : W57.cell? ⟨wr.heap.size, 0, none⟩ = some (.int .u32 (h.cells[t].num : Int)) := by rw [hN.cell]; rfl
        have hb57 : Below X w W57 := by rw [hW57]; exact hb.alloc (by have := hb.size; omega) _
        have HS := Lib.hid (anyT_succ (k := k) hltc)
        have HW57 := Lib.hid hW57
        have hx57 : RowIs W57 X 35 #[.int .u32 (h.size : Int), .slice (some ⟨b, o, none⟩) n cap] := by rw [hW57]; exact hx.alloc _
        have HB57 := Lib.hid (And.intro hb57 hx57)
        clear hW57 hN hb57 hb hc hci hx hx57
        generalize h.cells[t].num = num at *
        generalize h.cells[t].data = dat at *
        generalize h.cells[t].refs = rf at *
        cases hany : anyT h.cells k t with
        | true =>
          have HF := Lib.hid (show anyT h.cells k (t + 1) = true by rw [HS.out, hany]; rfl)
          clear hany
          go_wp2_with (refine wpList_world HW57.out ?_)
          go_roundg (n - (t + 1))
          case measure => omega
          case rel => exact ⟨t + 1, by omega, rfl, by go_num, by rw [HF.out], HB57.out.1, HB57.out.2⟩
        | false =>
          by_cases hk : num = k
          · have HF := Lib.hid (show anyT h.cells k (t + 1) = true by rw [HS.out, hany, decide_eq_true hk]; rfl)
            subst hk
            clear hany
            go_wp2_with (refine wpList_world HW57.out ?_)
            go_roundg (n - (t + 1))
            case measure => omega
            case rel => exact ⟨t + 1, by omega, rfl, by go_num, by rw [HF.out], HB57.out.1, HB57.out.2⟩
          · have HF := Lib.hid (show anyT h.cells k (t + 1) = false by rw [HS.out, hany, decide_eq_false hk]; rfl)
            have hne : ((num : Int) == (k : Int)) = false := by simpa using fun e => hk (by omega)
            clear hany
            go_wp2_with (refine wpList_world HW57.out ?_)
            go_roundg (n - (t + 1))
            case measure => omega
            case rel => exact ⟨t + 1, by omega, rfl, by go_num, by rw [HF.out], HB57.out.1, HB57.out.2⟩
      · obtain rfl : t = n := by omega
        have i1 : ¬ (t : Int) < (t : Int) := by omega
        have hfa : anyT h.cells k t = (findC h.cells k).isSome := by rw [← hng]; exact anyT_find
        rw [hfa]
        have HF := Lib.hid hb
        have cz0 : wr.cell? ⟨X, 0, none⟩ = some (.int .u32 (h.size : Int)) := by rw [hx.cell]; rfl
        have cz1 : wr.cell? ⟨X, 1, none⟩ = some (.slice p t cap) := by rw [hx.cell]; rfl
        have hw1 : IntKind.i64.wrap (h.size : Int) = (h.size : Int) := by rw [IntKind.wrap_i64]; omega
        have b1 : (0 : Int) ≤ (h.size : Int) - 2 - (t : Int) := by omega
        have b2 : (h.size : Int) ≤ 65536 := by omega
        have b3 : (t : Int) ≤ 65536 := by omega
        have b4 : (0 : Int) ≤ (h.size : Int) - 2 := by omega
        clear hb hx hfa hng HR0 hn0 hlt ht hlen hhi
        cases hs : (findC h.cells k).isSome with
        | true =>
          have hE : errK h k = 0 := by rw [errK, hs]; rfl
          rw [hE]
          clear hE hs
          go_wp2_with fail
          go_ret
          exact ⟨rfl, HF.out⟩
        | false =>
          have hE : errK h k = 5 := by rw [errK, hs]; rfl
          rw [hE]
          clear hE hs
          go_wp2_with fail
          go_ret
          exact ⟨rfl, HF.out⟩
  · have HF := Lib.hid (HB.out.2.2.trans (hq.mono (by have := HB.out.2.2.size; omega)))
    clear hfree hq hx1
    go_wp2_with fail
    go_ret
    exact ⟨rfl, HF.out⟩

end Go.Proofs.YtimkklaidodkdaaGreatDoor
