/- heap.open: walked. -/
import Derived.Test.YtimkklaidodkdaaGreatDoorHeapLed
import Derived.Deep.Cut
import Derived.Deep.CutRange
import Derived.Great.BuildSlice
namespace Go.Proofs.YtimkklaidodkdaaGreatDoor
open Go.RowKit

theorem OwnAt.shapeH {B : Nat} {w : World} {v : Value} {n : NodeD} (h : OwnAt B w v n) : ∃ p1 c1 p2 c2 p3 c3, v = .agg #[.int .u8 (n.kind : Int), .slice p1 n.items.length c1, .slice p2 n.kids.length c2, .slice p3 n.vols.length c3] := by
 obtain ⟨_, vi, vk, vv, rfl, a, b, c⟩ := h
 obtain ⟨p1, c1, rfl⟩ := own_shape a
 obtain ⟨p2, c2, rfl⟩ := own_shape b
 obtain ⟨p3, c3, rfl⟩ := own_shape c
 exact ⟨p1, c1, p2, c2, p3, c3, rfl⟩
/-- The cells as they are read in: no hash yet, nothing leads to them. -/
def rawM (c : CellM) : Prop := c.hash = zeroH ∧ c.led = 0

theorem below_drewH (B : Nat) (w : World) (n : Nat) : Below B w (w.drewN n) := ⟨rfl, rfl, rfl, Nat.le_refl _, fun _ _ => rfl⟩
theorem exec_box {P : Program} {o : Oper} {ev : Operand → Value} {t : TypeId} {x : Operand} {C : Array Value} (ho : o.op = .box t x) (hx : ev x = .agg C) (w : World) : (execOp ev o).run P w = .ok (.value (.pointer (some ⟨w.heap.size, 0, none⟩))) (w.alloc (.cells C t)) := by
 unfold execOp
 simp only [ho, hx, Sem.run_bind, run_box_agg t C w, Result.andThen_ok, Sem.run_pure]
theorem wp_buildSlice_val {P : Program} {o : Oper} {a : Act} {w : World} {K : Act → World → Prop} {Q : Exit → Act → World → Prop} (t e : TypeId) (x : Operand) (ho : o.op = .buildSlice t 1 #[(0, x)]) (hu : P.underlying t = some (.slice e)) (i : TypeInfo) (hi : P.info? e = some i) (z : Value) (hz : i.zero = some z) (his : i.size = 1) (u : Value) (hx : a.eval x = u) (hu1 : u.cells = #[u])
  (h : K (a.put o.dst (.slice (some ⟨w.heap.size, 0, none⟩) 1 1)) (w.alloc (.cells #[u] e))) : o.wp P a w K Q := by
 refine wp_buildSlice t e 1 #[(0, x)] ho #[u] i z hu hi hz (by omega) (by omega) ?_ h
 simp only [List.map_toArray, List.map_cons, List.map_nil, hx, his]
 rw [fill_one (off := 0) rfl hu1 (by simp), Instr.fill]
 congr 1
 apply Array.ext'
 simp

set_option maxRecDepth 100000 in
set_option maxHeartbeats 12800000 in
theorem open_calls (v : Value) (h : HeapD) (w : World) (hv : HeapAt w.heap.size w v h) :
  Calls Tryz.prog 45 #[v] w fun e w' => (¬ RightH h ∧ e = .returned (.tuple #[.pointer none, .int .i64 7]) ∧ Below w.heap.size w w') ∨
   (RightH h ∧ ∃ S vs L, e = .returned (.tuple #[.pointer (some ⟨S, 0, none⟩), .int .i64 0]) ∧ L.map CellM.d = h.cells ∧ (∀ c ∈ L, c.hash = c.d.hash ∧ c.led = (ledC h.cells c.d.num : Int)) ∧ StoreAt w.heap.size w' S h.size vs L ∧ Keep w.heap.size w w') := by
 obtain ⟨hsz, hnum, hmany, sl, rfl, hsl⟩ := hv
 obtain ⟨size, cells⟩ := h
 simp only [] at hsz hnum hmany hsl
 obtain ⟨a0, cap0, rfl, hn0, hr0⟩ := hsl
 unfold maxLen at hn0
 obtain ⟨iP0, hP, hPz0, hPz1, hPz2⟩ := info_parts info_ptr
 obtain ⟨W0, hW0⟩ : ∃ W0, W0 = w.alloc (.cells #[.int .u32 (size : Int), .slice a0 cells.length cap0] 35) := ⟨_, rfl⟩
 have hbx0 : RowIs W0 w.heap.size 35 #[.int .u32 (size : Int), .slice a0 cells.length cap0] := by rw [hW0]; exact RowIs.new w _ _
 have hk0 : Keep w.heap.size w W0 := by rw [hW0]; exact Keep.of ((Below.refl _ _).alloc (Nat.le_refl _) _)
 obtain ⟨W1, hW1⟩ : ∃ W1, W1 = W0.alloc (.cells #[.int .u32 (size : Int), .slice none 0 0, .int .i64 0] 118) := ⟨_, rfl⟩
 have hS1 : RowIs W1 W0.heap.size 118 #[.int .u32 (size : Int), .slice none 0 0, .int .i64 0] := by rw [hW1]; exact RowIs.new W0 _ _
 have hk1 : Keep w.heap.size w W1 := by rw [hW1]; exact hk0.trans (Keep.of ((Below.refl _ _).alloc (Nat.le_refl _) _))
 have hbx1 : RowIs W1 w.heap.size 35 #[.int .u32 (size : Int), .slice a0 cells.length cap0] := by rw [hW1]; exact hbx0.alloc _
 have hle0 : w.heap.size < W0.heap.size := hbx0.lt
 have hst1 : StoreAt w.heap.size W1 W0.heap.size size (.slice none 0 0) [] := ⟨hk1.size, ⟨0, hS1, ⟨rfl, .inl ⟨rfl, rfl⟩⟩⟩, Nat.le_of_lt hle0, by simp, by simp⟩
 have cA0 : W0.cell? ⟨w.heap.size, 0, none⟩ = some (.int .u32 (size : Int)) := by rw [hbx0.cell]; rfl
 have cB0 : W1.cell? ⟨w.heap.size, 0, none⟩ = some (.int .u32 (size : Int)) := by rw [hbx1.cell]; rfl
 have cB1 : W1.cell? ⟨w.heap.size, 1, none⟩ = some (.slice a0 cells.length cap0) := by rw [hbx1.cell]; rfl
 have HW0 := Lib.hid hW0
 have HW1 := Lib.hid hW1
 have HBS := Lib.hid (built_store (size : Int))
 have hnot : ∀ (x : Bool) (w : World), (Op.unary .not (.bool x)).run Tryz.prog w = .ok (.bool (!x)) w := fun _ _ => rfl
 have HK0 := Lib.hid (And.intro hbx1 (And.intro hk1 hst1))
 clear hW0 hW1 hbx0 hbx1 hk0 hk1 hst1 hS1
 generalize hBB : w.heap.size = B at *
 generalize hSS : W0.heap.size = S at *
 go_enter Tryz.func45, Tryz.ntmps45
 go_upto_region 2 with (first | (refine wpList_world HW0.out ?_) | (refine wpList_build_eqH rfl 118 [(0, .tmp 19)] rfl #[.int .u32 (size : Int), .slice none 0 0, .int .i64 0] (by exact HBS.out) ?_) | (refine wpList_world HW1.out ?_))
 try rw [← HW1.out]
 try rw [hSS]
 go_cut [5] (fun s5 wx => wx = W1 ∧ s5 = .bool (okT size cells 0))
 case first =>
  by_cases h1 : 16 ≤ size
  ·have i1 : (16 : Int) ≤ (size : Int) := by omega
   by_cases h2 : size ≤ 65536
   ·have i2 : (size : Int) ≤ 65536 := by omega
    have HO := Lib.hid (show okT size cells 0 = true by rw [okT, decide_eq_true h1, decide_eq_true h2]; rfl)
    go_wp2_with fail
    go_meet
    case rel => exact ⟨rfl, by rw [HO.out]⟩
   ·have i2 : ¬ (size : Int) ≤ 65536 := by omega
    have HO := Lib.hid (show okT size cells 0 = false by rw [okT, decide_eq_false h2, Bool.and_false])
    go_wp2_with fail
    go_meet
    case rel => exact ⟨rfl, by rw [HO.out]⟩
  ·have i1 : ¬ (16 : Int) ≤ (size : Int) := by omega
   have HO := Lib.hid (show okT size cells 0 = false by rw [okT, decide_eq_false h1, Bool.false_and])
   go_wp2_with fail
   go_meet
   case rel => exact ⟨rfl, by rw [HO.out]⟩
 case rest =>
  obtain ⟨rfl, rfl⟩ := hcut
  go_wp2_with fail
  go_loopg [5, 33] cells.length (fun g s5 s33 wx => ∃ t : Nat, ∃ vs : Value, ∃ L : List CellM, t ≤ cells.length ∧ g = cells.length - t ∧ s33 = .int .i64 t ∧ s5 = .bool (okT size cells t) ∧ L.map CellM.d = cells.take t ∧ (∀ c ∈ L, rawM c) ∧ RowIs wx B 35 #[.int .u32 (size : Int), .slice a0 cells.length cap0] ∧ StoreAt B wx S size vs L ∧ Keep B w wx)
  case atStart => exact ⟨0, _, [], by omega, by omega, rfl, rfl, rfl, by simp, HK0.out.1, HK0.out.2.2, HK0.out.2.1⟩
  case round =>
   obtain ⟨t, vs, L, ht, rfl, rfl, rfl, hLd, hraw, hbx, hst, hk⟩ := hrel
   clear HK0 HW0 HW1 HBS cA0 cB0 cB1
   by_cases hlt : t < cells.length
   ·have i1 : (t : Int) < (cells.length : Int) := by omega
    obtain ⟨b, o, rfl, hbB, hc⟩ := hr0 (by omega)
    have hkb := hk.below (show B ≤ w.heap.size by omega)
    have hci : wr.rangeAt b (o + t * 3) (cellV cells[t]) := by
     have h2 : w.rangeAt b (o + t * 3) ((cells[t]?.map cellV).getD []) := hc t hlt
     rw [List.getElem?_eq_getElem hlt] at h2
     exact rangeAt_below h2 hkb hbB
    have c0 : wr.cell? ⟨b, o + t * 3, none⟩ = some (.int .u32 (cells[t].num : Int)) := hci 0 _ rfl
    have c1 : wr.cell? ⟨b, o + t * 3 + 1, none⟩ = some (.string cells[t].data) := hci 1 _ rfl
    have c2 : wr.cell? ⟨b, o + t * 3 + 2, none⟩ = some (.int .i64 cells[t].refs) := hci 2 _ rfl
    obtain ⟨hnm, hds⟩ := hnum cells[t] (List.getElem_mem hlt)
    obtain ⟨W57, hW57⟩ : ∃ W57, W57 = wr.alloc (.cells #[.int .u32 (cells[t].num : Int), .string cells[t].data, .int .i64 cells[t].refs] 57) := ⟨_, rfl⟩
    have hX57 : RowIs W57 wr.heap.size 57 #[.int .u32 (cells[t].num : Int), .string cells[t].data, .int .i64 cells[t].refs] := by rw [hW57]; exact RowIs.new wr _ _
    have hal := (Below.refl _ wr).alloc (Nat.le_refl _) (.cells #[.int .u32 (cells[t].num : Int), .string cells[t].data, .int .i64 cells[t].refs] 57)
    rw [← hW57] at hal
    have cd1 : W57.cell? ⟨wr.heap.size, 1, none⟩ = some (.string cells[t].data) := by rw [hX57.cell]; rfl
    have hdec := decode_calls cells[t].data W57 hds
    have hst57 := hst.below hal (Nat.le_refl _)
    have hk57 := hk.trans (Keep.of hal)
    have hbx57 := hbx.below hal hbx.lt
    have HW57 := Lib.hid hW57
    clear hW57 hal hst hk hbx hci
    generalize hX : wr.heap.size = X at *
    go_wp2_with (refine wpList_world HW57.out ?_)
    refine hdec.mono ?_
    rintro e w2 ⟨vn, rfl, hown, hq⟩
    obtain ⟨p1, cc1, p2, cc2, p3, cc3, rfl⟩ := hown.shapeH
    have hX2 := hX57.below hq hX57.lt
    have hst2 := hst57.below hq (Nat.le_refl _)
    have hk2 := hk57.trans (Keep.of hq)
    have hbx2 := hbx57.below hq hbx57.lt
    clear hq hdec hX57 hst57 hk57 hbx57 HW57
    obtain ⟨W28, hW28⟩ : ∃ W28, W28 = w2.alloc (.cells #[.int .u8 ((nodeL cells[t].data.data.toList).kind : Int), .slice p1 (nodeL cells[t].data.data.toList).items.length cc1, .slice p2 (nodeL cells[t].data.data.toList).kids.length cc2, .slice p3 (nodeL cells[t].data.data.toList).vols.length cc3] 28) := ⟨_, rfl⟩
    have hN28 := RowIs.new w2 28 #[.int .u8 ((nodeL cells[t].data.data.toList).kind : Int), .slice p1 (nodeL cells[t].data.data.toList).items.length cc1, .slice p2 (nodeL cells[t].data.data.toList).kids.length cc2, .slice p3 (nodeL cells[t].data.data.toList).vols.length cc3]
    have hal := (Below.refl _ w2).alloc (Nat.le_refl _) (.cells #[.int .u8 ((nodeL cells[t].data.data.toList).kind : Int), .slice p1 (nodeL cells[t].data.data.toList).items.length cc1, .slice p2 (nodeL cells[t].data.data.toList).kids.length cc2, .slice p3 (nodeL cells[t].data.data.toList).vols.length cc3] 28)
    rw [← hW28] at hal hN28
    have hX3 := hX2.below hal hX2.lt
    have hst3 := hst2.below hal (Nat.le_refl _)
    have hk3 := hk2.trans (Keep.of hal)
    have hbx3 := hbx2.below hal hbx2.lt
    have hown3 := hown.below hal (Nat.le_refl _)
    have HW28 := Lib.hid hW28
    have hkb3 := hk3.below (show B ≤ w.heap.size by omega)
    have hprev : ∀ (h0 : 0 < t), W28.cell? ⟨b, o + (t - 1) * 3, none⟩ = some (.int .u32 ((cells[t - 1]'(by omega)).num : Int)) := fun h0 => by
     have h2 : w.rangeAt b (o + (t - 1) * 3) ((cells[t - 1]?.map cellV).getD []) := hc (t - 1) (by omega)
     rw [List.getElem?_eq_getElem (show t - 1 < cells.length by omega)] at h2
     exact rangeAt_below h2 hkb3 hbB 0 _ rfl
    have hokn : okT size cells (t + 1) = (okT size cells t && okAt size cells t) := rfl
    have hoka : okAt size cells t = (decide (decOk cells[t].d) && (decide (2 ≤ cells[t].num) && (decide (cells[t].num < size) && (decide (t = 0) || match cells[t - 1]? with | some p => decide (p.num < cells[t].num) | none => true)))) := by
     rw [okAt, List.getElem?_eq_getElem hlt]; rfl
    have hde : decE cells[t].data.data.toList = if decOk cells[t].d then 0 else 9 := rfl
    have hndd : cells[t].node = nodeL cells[t].data.data.toList := rfl
    have HOK := Lib.hid (And.intro hokn hoka)
    have HN := Lib.hid (And.intro hndd (And.intro hown3 (And.intro hX3 (And.intro hN28 (And.intro hbx3 (And.intro hst3 hk3))))))
    have HDE := Lib.hid hde
    have HPV := Lib.hid hprev
    have cz : W28.cell? ⟨B, 0, none⟩ = some (.int .u32 (size : Int)) := by rw [hbx3.cell]; rfl
    have czl : W28.cell? ⟨B, 1, none⟩ = some (.slice (some ⟨b, o, none⟩) cells.length cap0) := by rw [hbx3.cell]; rfl
    have cn : W28.cell? ⟨X, 0, none⟩ = some (.int .u32 (cells[t].num : Int)) := by rw [hX3.cell]; rfl
    clear hW28 hal hX2 hst2 hk2 hbx2 hown hokn hoka hde hprev hkb hkb3 hown3 hX3 hN28 hbx3 hst3 hk3 hndd cd1 c0 c1 c2 hc
    generalize decE cells[t].data.data.toList = DE at *
    generalize hNK : ((nodeL cells[t].data.data.toList).kind : Int) = nk at *
    generalize hNI : (nodeL cells[t].data.data.toList).items.length = ni at *
    generalize hNR : (nodeL cells[t].data.data.toList).kids.length = nr at *
    generalize hNV : (nodeL cells[t].data.data.toList).vols.length = nv at *
    generalize hD : cells[t].data = data at *
    generalize hR : cells[t].refs = refs at *
    go_upto_region 7 with (refine wpList_world HW28.out ?_)
    go_cut [5, 33] from 33 to 90 (fun s5 s33 wx => s33 = .int .i64 t ∧ s5 = .bool (okT size cells (t + 1)) ∧ ∃ n, wx = W28.drewN n)
    case first =>
     cases hob : okT size cells t with
     | false =>
      have HR := Lib.hid (show okT size cells (t + 1) = false by rw [HOK.out.1, hob]; rfl)
      go_wp2_with fail
      go_quiet (fail)
      go_wp2_with fail
      go_meet
      case rel => exact ⟨rfl, by rw [HR.out], nq, rfl⟩
     | true =>
      by_cases hd : decOk cells[t].d
      ·have hDE : DE = 0 := by rw [HDE.out, if_pos hd]
       subst hDE
       by_cases h2 : 2 ≤ cells[t].num
       ·have i2 : (2 : Int) ≤ (cells[t].num : Int) := by omega
        by_cases h3 : cells[t].num < size
        ·have i3 : (cells[t].num : Int) < (size : Int) := by omega
         by_cases h0 : t = 0
         ·subst h0
          have HR := Lib.hid (show okT size cells (0 + 1) = true by rw [HOK.out.1, HOK.out.2, hob, decide_eq_true hd, decide_eq_true h2, decide_eq_true h3]; rfl)
          go_wp2_with fail
          go_quiet (fail)
          go_wp2_with fail
          go_meet
          case rel => exact ⟨rfl, by rw [HR.out], nq, rfl⟩
         ·have cp := HPV.out (by omega)
          have j0 : ¬ (t : Int) = 0 := by omega
          have j1 : ((t : Int) == 0) = false := by simpa using j0
          have j2 : ((t : Int) - 1).toNat = t - 1 := by omega
          have j3 : (0 : Int) ≤ (t : Int) - 1 := by omega
          have j4 : (t : Int) - 1 < (cells.length : Int) := by omega
          have hgp : cells[t - 1]? = some (cells[t - 1]'(by omega)) := List.getElem?_eq_getElem (by omega)
          by_cases h4 : (cells[t - 1]'(by omega)).num < cells[t].num
          ·have i4 : ((cells[t - 1]'(by omega)).num : Int) < (cells[t].num : Int) := by omega
           have HR := Lib.hid (show okT size cells (t + 1) = true by rw [HOK.out.1, HOK.out.2, hob, decide_eq_true hd, decide_eq_true h2, decide_eq_true h3, hgp]; simp [h4])
           clear hgp
           generalize ((cells[t - 1]'(by omega)).num : Int) = pn at *
           go_wp2_with fail
           go_quiet (fail)
           go_wp2_with fail
           go_meet
           case rel => exact ⟨rfl, by rw [HR.out], nq, rfl⟩
          ·have i4 : ¬ ((cells[t - 1]'(by omega)).num : Int) < (cells[t].num : Int) := by omega
           have k4 := decide_eq_false i4
           have HR := Lib.hid (show okT size cells (t + 1) = false by rw [HOK.out.1, HOK.out.2, hob, decide_eq_true hd, decide_eq_true h2, decide_eq_true h3, hgp]; simp [h4, h0])
           clear hgp
           generalize ((cells[t - 1]'(by omega)).num : Int) = pn at *
           go_wp2_with fail
           go_quiet (fail)
           go_wp2_with fail
           go_meet
           case rel => exact ⟨rfl, by rw [HR.out], nq, rfl⟩
        ·have i3 : ¬ (cells[t].num : Int) < (size : Int) := by omega
         have k3 := decide_eq_false i3
         have HR := Lib.hid (show okT size cells (t + 1) = false by rw [HOK.out.1, HOK.out.2, decide_eq_false h3]; simp)
         go_wp2_with fail
         go_quiet (fail)
         go_wp2_with fail
         go_meet
         case rel => exact ⟨rfl, by rw [HR.out], nq, rfl⟩
       ·have i2 : ¬ (2 : Int) ≤ (cells[t].num : Int) := by omega
        have k2 := decide_eq_false i2
        have HR := Lib.hid (show okT size cells (t + 1) = false by rw [HOK.out.1, HOK.out.2, decide_eq_false h2]; simp)
        go_wp2_with fail
        go_quiet (fail)
        go_wp2_with fail
        go_meet
        case rel => exact ⟨rfl, by rw [HR.out], nq, rfl⟩
      ·have hDE : DE = 9 := by rw [HDE.out, if_neg hd]
       subst hDE
       have HR := Lib.hid (show okT size cells (t + 1) = false by rw [HOK.out.1, HOK.out.2, decide_eq_false hd]; simp)
       go_wp2_with fail
       go_quiet (fail)
       go_wp2_with fail
       go_meet
       case rel => exact ⟨rfl, by rw [HR.out], nq, rfl⟩
    case rest =>
     obtain ⟨rfl, rfl, nq, rfl⟩ := hcut
     obtain ⟨hnd, hown4, hX4, hN4, hbx4, hst4, hk4⟩ := HN.out
     have hbd : Below W28.heap.size W28 (W28.drewN nq) := ⟨rfl, rfl, rfl, Nat.le_refl _, fun _ _ => rfl⟩
     replace hown4 := hown4.below hbd (Nat.le_refl _)
     replace hX4 := hX4.below hbd hX4.lt
     replace hN4 := hN4.below hbd hN4.lt
     replace hbx4 := hbx4.below hbd hbx4.lt
     replace hst4 := hst4.below hbd (Nat.le_refl _)
     replace hk4 := hk4.trans (Keep.of hbd)
     clear hbd HN HOK HDE HPV cz czl cn
     generalize W28.drewN nq = wb at *
     obtain ⟨ask, hS4, ho4⟩ := hst4.row
     have HCR := Lib.hid (built_cell (cells[t].num : Int) data refs nk p1 p2 p3 ni nr nv cc1 cc2 cc3)
     generalize hCRl : [Value.int .u32 (cells[t].num : Int), Value.string data, Value.int .i64 refs, Value.int .u8 nk, Value.slice p1 ni cc1, Value.slice p2 nr cc2, Value.slice p3 nv cc3] ++ (bytesV zeroH ++ [Value.int .i64 0]) = CR at *
     have HCRl := Lib.hid hCRl
     have hLl : L.length = t := by
      have := congrArg List.length hLd
      rw [List.length_map, List.length_take] at this; omega
     clear hCRl
     generalize w2.heap.size = XN at *
     go_wp2_with fail
     refine wp_region_gate 13 (S := fun w' => RowIs w' S 118 #[.int .u32 (size : Int), vs, .int .i64 ask] ∧ RowIs w' X 57 #[.int .u32 (cells[t].num : Int), .string data, .int .i64 refs] ∧ RowIs w' XN 28 #[.int .u8 nk, .slice p1 ni cc1, .slice p2 nr cc2, .slice p3 nv cc3]) (by kernel_rfl) ⟨hS4.drew, hX4.drew, hN4.drew⟩ (fun hS0 => ?_)
     replace hS4 := hS4.drew
     replace hX4 := hX4.drew
     replace hN4 := hN4.drew
     have hbd : Below wb.heap.size wb wb.drew := (Below.refl _ _).drew
     replace hst4 := hst4.below hbd (Nat.le_refl _)
     replace hk4 := hk4.trans (Keep.of hbd)
     replace hbx4 := hbx4.drew
     replace hown4 := hown4.below hbd (Nat.le_refl _)
     replace ho4 := ownsRow_below ho4 hbd
     clear hbd
     generalize wb.drew = wu at *
     refine takep_G (i := 0) (v := ?_) (some 77) #[true, false, false, false, false, false, false, false, false, false, false, false, false, false] rfl rfl (by kernel_rfl) (by kernel_rfl) (by kernel_rfl) (by kernel_rfl) (fun _ _ _ h => h) (by kernel_rfl) hS0 (Or.inl ⟨by rfl, ?_⟩) ?_
     rotate_left
     ·intro w_ hSw_; go_simp; try with_reducible rfl
     try simp only [Act.put, List.setIfInBounds_toArray, List.set_cons_zero, List.set_cons_succ]
     refine takep_G (i := 1) (v := ?_) (some 78) #[true, true, false, false, false, false, false, false, false, false, false, false, false, false] rfl rfl (by kernel_rfl) (by kernel_rfl) (by kernel_rfl) (by kernel_rfl) (fun _ _ _ h => h) (by kernel_rfl) hS0 (Or.inl ⟨by rfl, ?_⟩) ?_
     rotate_left
     ·intro w_ hSw_; go_simp; try with_reducible rfl
     try simp only [Act.put, List.setIfInBounds_toArray, List.set_cons_zero, List.set_cons_succ]
     refine takep_G (i := 2) (v := ?_) (some 79) #[true, true, true, false, false, false, false, false, false, false, false, false, false, false] rfl rfl (by kernel_rfl) (by kernel_rfl) (by kernel_rfl) (by kernel_rfl) (fun _ _ _ h => h) (by kernel_rfl) hS0 (Or.inl ⟨by rfl, ?_⟩) ?_
     rotate_left
     ·intro w_ hSw_; go_simp; try with_reducible rfl
     try simp only [Act.put, List.setIfInBounds_toArray, List.set_cons_zero, List.set_cons_succ]
     refine takep_G (i := 3) (v := ?_) (some 80) #[true, true, true, true, false, false, false, false, false, false, false, false, false, false] rfl rfl (by kernel_rfl) (by kernel_rfl) (by kernel_rfl) (by kernel_rfl) (fun _ _ _ h => h) (by kernel_rfl) hS0 (Or.inl ⟨by rfl, ?_⟩) ?_
     rotate_left
     ·intro w_ hSw_; go_simp; try with_reducible rfl
     try simp only [Act.put, List.setIfInBounds_toArray, List.set_cons_zero, List.set_cons_succ]
     refine take_B (i := 4) (v := vs) [10, 13] (some 81) #[true, true, true, true, true, false, false, false, false, false, false, false, false, false] rfl rfl (by kernel_rfl) (by kernel_rfl) (by kernel_rfl) (by kernel_rfl) (by kernel_rfl) (fun _ _ _ h => h) (by kernel_rfl) hS0 (Or.inl ⟨by rfl, ?_⟩) ?_
     ·intro w_ hSw_; exact (by have hcc : w_.cell? ⟨S, 1, none⟩ = some vs := (by rw [RowIs.cell hSw_.1]; rfl); go_simp)
     try simp only [Act.put, List.setIfInBounds_toArray, List.set_cons_zero, List.set_cons_succ]
     refine take_B (i := 5) (v := (.agg #[.int .u32 (cells[t].num : Int), .string data, .int .i64 refs])) [7, 8, 9, 10, 13] (some 82) #[true, true, true, true, true, true, false, false, false, false, false, false, false, false] rfl rfl (by kernel_rfl) (by kernel_rfl) (by kernel_rfl) (by kernel_rfl) (by kernel_rfl) (fun _ _ _ h => h) (by kernel_rfl) hS0 (Or.inl ⟨by rfl, ?_⟩) ?_
     ·intro w_ hSw_; exact exec_load_row 57 _ (by rfl) X (by rfl) 57 #[.int .u32 (cells[t].num : Int), .string data, .int .i64 refs] (0, 0) _ hSw_.2.1 Tryz.underlying57 rfl (by kernel_rfl)
     try simp only [Act.put, List.setIfInBounds_toArray, List.set_cons_zero, List.set_cons_succ]
     refine take_B (i := 6) (v := (.agg #[.int .u8 nk, .slice p1 ni cc1, .slice p2 nr cc2, .slice p3 nv cc3])) [7, 8, 9, 10, 13] (some 83) #[true, true, true, true, true, true, true, false, false, false, false, false, false, false] rfl rfl (by kernel_rfl) (by kernel_rfl) (by kernel_rfl) (by kernel_rfl) (by kernel_rfl) (fun _ _ _ h => h) (by kernel_rfl) hS0 (Or.inl ⟨by rfl, ?_⟩) ?_
     ·intro w_ hSw_; exact exec_load_row 28 _ (by rfl) XN (by rfl) 28 #[.int .u8 nk, .slice p1 ni cc1, .slice p2 nr cc2, .slice p3 nv cc3] (0, 0) _ hSw_.2.2 Tryz.underlying28 rfl (by kernel_rfl)
     try simp only [Act.put, List.setIfInBounds_toArray, List.set_cons_zero, List.set_cons_succ]
     refine step_G (i := 7) #[true, true, true, true, true, true, true, true, false, false, false, false, false, false] rfl (by kernel_rfl) (by kernel_rfl) (fun K hK => ?_)
     rw [if_pos (by rfl)]
     refine wp_build_eq 109 [(0, .tmp 82), (1, .tmp 83)] rfl CR.toArray (by exact HCR.out) ?_
     refine hK.out _ _ hS0 ?_
     clear hK K
     try simp only [Act.put, List.setIfInBounds_toArray]
     refine step_G (i := 8) #[true, true, true, true, true, true, true, true, true, false, false, false, false, false] rfl (by kernel_rfl) (by kernel_rfl) (fun K hK => ?_)
     rw [if_pos (by rfl)]
     unfold Oper.wp
     rw [show ((execOp _ _).run Tryz.prog wu) = .ok (.value (.pointer (some ⟨wu.heap.size, 0, none⟩))) (wu.alloc (.cells CR.toArray 109)) from exec_box rfl (by rfl) wu]
     have hC5 := RowIs.new wu 109 CR.toArray
     have hal5 := (Below.refl _ wu).alloc (Nat.le_refl _) (.cells CR.toArray 109)
     change K _ (wu.alloc (.cells CR.toArray 109))
     have hlt5 : wu.heap.size < (wu.alloc (.cells CR.toArray 109)).heap.size := hC5.lt
     generalize hw5 : wu.alloc (.cells CR.toArray 109) = w5 at *
     clear hw5
     have hS5 := hS4.below hal5 hS4.lt
     have hX5 := hX4.below hal5 hX4.lt
     have hN5 := hN4.below hal5 hN4.lt
     have hst5 := hst4.below hal5 (Nat.le_refl _)
     have hk5 := hk4.trans (Keep.of hal5)
     have hbx5 := hbx4.below hal5 hbx4.lt
     have hown5 := hown4.below hal5 (Nat.le_refl _)
     have ho5 := ownsRow_below ho4 hal5
     have hBu : B ≤ wu.heap.size := hst4.hB
     have hnew : ∀ c ∈ L, c.ptr < wu.heap.size := fun c hc => (hst4.cells c hc).row.lt
     clear hal5 hS4 hX4 hN4 hst4 hk4 hbx4 hown4 ho4
     generalize wu.heap.size = X40 at *
     refine hK.out _ _ ⟨hS5, hX5, hN5⟩ ?_
     clear hK K
     try simp only [Act.put]
     refine step_G (i := 9) #[true, true, true, true, true, true, true, true, true, true, false, false, false, false] rfl (by kernel_rfl) (by kernel_rfl) (fun K hK => ?_)
     rw [if_pos (by rfl)]
     refine wp_buildSlice_val 111 106 _ rfl Tryz.underlying111 iP0 hP _ hPz0 hPz1 (.pointer (some ⟨X40, 0, none⟩)) (by rfl) rfl ?_
     have hR6 := RowIs.new w5 106 #[.pointer (some ⟨X40, 0, none⟩)]
     have hal6 := (Below.refl _ w5).alloc (Nat.le_refl _) (.cells #[.pointer (some ⟨X40, 0, none⟩)] 106)
     change K _ (w5.alloc (.cells #[.pointer (some ⟨X40, 0, none⟩)] 106))
     generalize hw6 : w5.alloc (.cells #[.pointer (some ⟨X40, 0, none⟩)] 106) = w6 at *
     clear hw6
     have hS6 := hS5.below hal6 hS5.lt
     have hX6 := hX5.below hal6 hX5.lt
     have hN6 := hN5.below hal6 hN5.lt
     have hC6 := hC5.below hal6 hC5.lt
     have hst6 := hst5.below hal6 (Nat.le_refl _)
     have hk6 := hk5.trans (Keep.of hal6)
     have hbx6 := hbx5.below hal6 hbx5.lt
     have hown6 := hown5.below hal6 (Nat.le_refl _)
     have ho6 := ownsRow_below ho5 hal6
     have hs6 : B ≤ w6.heap.size := hst6.hB
     clear hal6 hS5 hX5 hN5 hC5 hst5 hk5 hbx5 hown5 ho5 hlt5
     generalize w5.heap.size = X1 at *
     refine hK.out _ _ ⟨hS6, hX6, hN6⟩ ?_
     clear hK K
     try simp only [Act.put]
     refine step_G (i := 10) #[true, true, true, true, true, true, true, true, true, true, true, false, false, false] rfl (by kernel_rfl) (by kernel_rfl) (fun K hK => ?_)
     rw [if_pos (by rfl)]
     refine wp_append_own _ _ _ 111 rfl B 106 iP0 (.pointer none) 1 8 Tryz.underlying111 hP hPz0 hPz1 hPz2 rfl (by decide) vs L.length (L.map CellM.p) rfl ho6 ⟨X1, 0, none⟩ 1 1 [.pointer (some ⟨X40, 0, none⟩)] rfl rfl (fun j u hj => by rw [Addr.add_mid, Nat.zero_add, RowIs.cell hR6, ← hj]; simp) (fun u hu => by simp only [List.mem_cons, List.not_mem_nil, or_false] at hu; rcases hu with rfl; rfl) (by unfold maxLen; omega) (by omega) hs6 ?_
     intro v7 w7 ho7 hgr _
     have hot := fun g hg => own_type ho6 (g := g) hg
     have hgk : Keep B w6 w7 := Keep.grown hgr (fun k hk => ⟨(ho6.lt k hk).1, by obtain ⟨c, hc⟩ := hot k hk; exact ⟨c, _, hc, by decide⟩⟩)
     have hrow7 : ∀ {b : Nat} {t : TypeId} {C : Array Value}, RowIs w6 b t C → t ≠ 106 → RowIs w7 b t C := fun hr hne => row_grown hr hgr (fun q => by obtain ⟨c, hc⟩ := hot _ q.symm; exact hne (row_type hr hc))
     have hS7 := hrow7 hS6 (by decide)
     have hX7 := hrow7 hX6 (by decide)
     have hN7 := hrow7 hN6 (by decide)
     have hC7 := hrow7 hC6 (by decide)
     have hcs7 : ∀ c ∈ L, RowIs w7 c.ptr 109 c.row.toArray := fun c hc => hrow7 (hst6.cells c hc).row (by decide)
     have hk7 := hk6.trans hgk
     have hbx7 := hgk.row hbx6 (.inr (by decide))
     have hown7 := hgk.own hown6
     have hst6' := hst6
     rw [hLl] at ho7
     obtain ⟨p7, c7, rfl⟩ := own_shape ho7
     clear hgr hot hS6 hX6 hN6 hC6 hk6 hbx6 hown6 ho6 hR6 hrow7
     refine hK.out _ _ ⟨hS7, hX7, hN7⟩ ?_
     clear hK K
     try simp only [Act.put]
     refine takep_G (i := 11) (v := ?_) (some 88) #[true, true, true, true, true, true, true, true, true, true, true, true, false, false] rfl rfl (by kernel_rfl) (by kernel_rfl) (by kernel_rfl) (by kernel_rfl) (fun _ _ _ h => h) (by kernel_rfl) ⟨hS7, hX7, hN7⟩ (Or.inl ⟨by rfl, ?_⟩) ?_
     rotate_left
     ·intro w_ hSw_; go_simp; try with_reducible rfl
     try simp only [Act.put]
     refine takep_G (i := 12) (v := ?_) (some 89) #[true, true, true, true, true, true, true, true, true, true, true, true, true, false] rfl rfl (by kernel_rfl) (by kernel_rfl) (by kernel_rfl) (by kernel_rfl) (fun _ _ _ h => h) (by kernel_rfl) ⟨hS7, hX7, hN7⟩ (Or.inl ⟨by rfl, ?_⟩) ?_
     rotate_left
     ·intro w_ hSw_; go_simp; try with_reducible rfl
     try simp only [Act.put]
     refine gate_G (i := 13) #[true, true, true, true, true, true, true, true, true, true, true, true, true, true] rfl (by kernel_rfl) (by kernel_rfl) (fun K hK => ?_)
     rw [if_pos (by rfl)]
     have hcd : w7.cell? ⟨S, 1, none⟩ = some vs := by rw [hS7.cell]; rfl
     have hfd := hS7.free 1
     go_simp
     have hkS := Keep.set (B := B) hS7 (by decide) (Nat.le_of_lt hle0) 1 (.slice p7 (t + 1) c7)
     have hS8 : RowIs (w7.setCell ⟨S, 1, none⟩ (.slice p7 (t + 1) c7)) S 118 #[.int .u32 (size : Int), .slice p7 (t + 1) c7, .int .i64 ask] := hS7.set 1 _
     have hb8 := (But.refl S w7).setCell 1 (.slice p7 (t + 1) c7)
     generalize w7.setCell ⟨S, 1, none⟩ (.slice p7 (t + 1) c7) = w8 at *
     refine hK.out _ _ trivial ?_
     clear hK K
     try simp only [Act.put]
     refine wpAnyH_done (by kernel_rfl) ?_ _
     have hk8 := hk7.trans hkS
     have hbx8 := hkS.row hbx7 (.inr (by decide))
     have hown8 := hkS.own hown7
     have ho8 := ownsRow_but ho7 hb8 (fun c hc => by have := row_type hS7 hc; revert this; decide)
     have hlt8 := hk8.size
     have hne8 : ∀ {b : Nat} {C : Array Value}, RowIs w7 b 109 C → b ≠ S := fun hr => row_ne hr hS7 (by decide)
     have hcell8 : ∀ c ∈ L, CellAt B w8 c := fun c hc => ⟨(hcs7 c hc).but hb8 (hne8 (hcs7 c hc)), (hst6'.cells c hc).ge, (hst6'.cells c hc).nv, (hst6'.cells c hc).hash, (((hst6'.cells c hc).node.keep hgk hst6'.hB).keep hkS (Nat.le_trans hst6'.hB hgk.size))⟩
     have hcn8 : CellAt B w8 ⟨X40, cells[t], [.int .u8 nk, .slice p1 ni cc1, .slice p2 nr cc2, .slice p3 nv cc3], zeroH, 0⟩ := ⟨by
      have hrow8 := hC7.but hb8 (hne8 hC7)
      rw [← HCRl.out, ← hD, ← hR] at hrow8
      exact hrow8, hBu, rfl, rfl, .inl (by
       show OwnAt 0 w8 _ cells[t].node
       rw [hnd]
       exact hown8.base (Nat.zero_le _))⟩
     have hst8 : StoreAt B w8 S size (.slice p7 (t + 1) c7) (L ++ [⟨X40, cells[t], [.int .u8 nk, .slice p1 ni cc1, .slice p2 nr cc2, .slice p3 nv cc3], zeroH, 0⟩]) := by
      refine ⟨by have := hst6'.hB; have := hgk.size; have := hkS.size; omega, ⟨ask, hS8, ?_⟩, Nat.le_of_lt hle0, fun c hc => ?_, ?_⟩
      ·rw [List.length_append, hLl, List.map_append]; exact ho8
      ·rcases List.mem_append.1 hc with hc | hc
       ·exact hcell8 c hc
       ·rw [List.mem_singleton.1 hc]; exact hcn8
      ·rw [List.map_append, List.nodup_append]
       refine ⟨hst6'.nodup, by simp, fun a ha b hb => ?_⟩
       obtain ⟨c, hc, rfl⟩ := List.mem_map.1 ha
       have := hnew c hc
       simp only [List.map_cons, List.map_nil, List.mem_singleton] at hb
       omega
     have hLd8 : (L ++ [(⟨X40, cells[t], [.int .u8 nk, .slice p1 ni cc1, .slice p2 nr cc2, .slice p3 nv cc3], zeroH, 0⟩ : CellM)]).map CellM.d = cells.take (t + 1) := by
      rw [List.map_append, hLd, List.take_succ_eq_append_getElem hlt]; rfl
     have hraw8 : ∀ c ∈ L ++ [(⟨X40, cells[t], [.int .u8 nk, .slice p1 ni cc1, .slice p2 nr cc2, .slice p3 nv cc3], zeroH, 0⟩ : CellM)], rawM c := fun c hc => by
      rcases List.mem_append.1 hc with hc | hc
      ·exact hraw c hc
      ·rw [List.mem_singleton.1 hc]; exact ⟨rfl, rfl⟩
     have HF := Lib.hid (And.intro hLd8 (And.intro hraw8 (And.intro hbx8 (And.intro hst8 hk8))))
     clear hLd8 hraw8 hbx8 hst8 hk8 hcn8 hcell8 hne8 ho8 hown8 hgk hst6' hcs7 hst6 hk7 hbx7 hown7 hS7 hX7 hN7 hC7 ho7 hS8 hb8 hkS hnew
     go_wp2_with fail
     go_roundg (cells.length - (t + 1))
     case measure => omega
     case rel =>
      refine ⟨t + 1, .slice p7 (t + 1) c7, L ++ [⟨X40, cells[t], [.int .u8 nk, .slice p1 ni cc1, .slice p2 nr cc2, .slice p3 nv cc3], zeroH, 0⟩], by omega, rfl, by go_num, rfl, HF.out.1, HF.out.2.1, HF.out.2.2.1, HF.out.2.2.2.1, HF.out.2.2.2.2⟩
   ·have htl : t = cells.length := by omega
    subst htl
    rw [List.take_length] at hLd
    cases hok : okT size cells cells.length with
    | false =>
     have hno : ¬ RightH ⟨size, cells⟩ := fun r => by
      have := (okT_iff ⟨size, cells⟩).2 r.okH
      simp only [hok] at this
      cases this
     have HF := Lib.hid (And.intro hno (hk.below (show B ≤ w.heap.size by omega)))
     clear hno hst hk hbx hLd hraw hr0
     go_wp2_with fail
     go_ret2
     exact .inl ⟨HF.out.1, rfl, HF.out.2⟩
    | true =>
     have hokh := (okT_iff ⟨size, cells⟩).1 hok
     have hlen := hokh.len
     simp only [] at hlen
     obtain ⟨ask9, hS9, ho9⟩ := hst.row
     obtain ⟨p, cap, rfl⟩ := own_shape ho9
     have hLn : L.length = cells.length := by rw [← hLd, List.length_map]
     have c9 : wr.cell? ⟨S, 1, none⟩ = some (.slice p cells.length cap) := by rw [hS9.cell, ← hLn]; rfl
     have HOH := Lib.hid hokh
     have HI := Lib.hid (And.intro hLd (And.intro (fun c hc => (hraw c hc).2) (And.intro hst hk)))
     rw [hLn] at HI
     clear hokh hS9 ho9 hst hk hLd hraw hbx hr0 hLn
     generalize hn : cells.length = n at *
     go_wp2_with fail
     go_loopg [98] n (fun g s98 wx => ∃ t : Nat, ∃ L : List CellM, t ≤ n ∧ g = n - t ∧ s98 = .int .i64 t ∧ L.map CellM.d = cells ∧ (∀ c ∈ L, c.led = 0) ∧ (∀ i (hi : i < L.length), i < t → L[i].hash = L[i].d.hash) ∧ StoreAt B wx S size (.slice p n cap) L ∧ Keep B w wx)
     case atStart => exact ⟨0, L, by omega, by omega, rfl, HI.out.1, HI.out.2.1, fun i _ h => by omega, HI.out.2.2.1, HI.out.2.2.2⟩
     case round =>
      obtain ⟨t, M, ht, rfl, rfl, hLd, hled, hha, hst, hk⟩ := hrel
      have hMn : M.length = n := by rw [← hn, ← hLd, List.length_map]
      by_cases hlt : t < n
      ·have i1 : (t : Int) < (n : Int) := by omega
       have htM : t < M.length := by omega
       obtain ⟨ask9, hS9, ho9⟩ := hst.row
       obtain ⟨p', cap', hpe, hpc⟩ := own_ptrs ho9
       injection hpe with hpe hle1 hle2
       clear hle1 hle2
       obtain ⟨R, hpR, hcell⟩ := hpc t htM
       rw [← hpe] at hpR
       subst hpR
       have hca := hst.cells _ (List.getElem_mem htM)
       have hmem : M[t].d ∈ cells := by rw [← hLd]; exact List.mem_map_of_mem (List.getElem_mem htM)
       have hdl : M[t].d.data.size ≤ 512 := by
        have := (HOH.out.ok _ hmem).1.1
        rwa [CellD.d, Array.length_toList] at this
       have cd : wr.cell? ⟨M[t].ptr, 1, none⟩ = some (.string M[t].d.data) := by rw [hca.row.cell]; rfl
       rw [CellM.p] at hcell
       have hsum := shasum_calls M[t].d.data wr (by omega)
       have hXd : sha M[t].d.data.data.toList = M[t].d.hash := rfl
       rw [hXd] at hsum
       have hx32 : M[t].d.hash.length = 32 := sha_length _
       have hH := fun W (h : StoreAt B W S size (.slice (some ⟨R, 0, none⟩) n cap) M) => upd_hash h t htM M[t].d.hash hx32
       have HM := Lib.hid (And.intro hLd (And.intro hled hha))
       have hthere := fun W (h : StoreAt B W S size (.slice (some ⟨R, 0, none⟩) n cap) M) => (h.cells _ (List.getElem_mem htM)).row.there 7 32 (by rw [List.size_toArray, CellM.row_length _ (h.cells _ (List.getElem_mem htM)).nv (h.cells _ (List.getElem_mem htM)).hash]; decide)
       clear hLd hled hha hS9 ho9 hpc hpe hca
       generalize hPt : M[t].ptr = P at *
       generalize hDt : M[t].d.data = data at *
       generalize hXt : M[t].d.hash = X at *
       have HXt := Lib.hid hXt
       have HHT := Lib.hid (And.intro hH (And.intro hthere (And.intro hst hk)))
       clear hPt hDt hXt hXd hdl hH hthere hst hk
       go_wp2_with fail
       refine hsum.mono ?_
       rintro e w2 ⟨rfl, hq⟩
       obtain ⟨hH, hthere, hst, hk⟩ := HHT.out
       have hst2 := hst.below hq (Nat.le_refl _)
       have hk2 := hk.trans (Keep.of hq)
       obtain ⟨hst3, hk3⟩ := hH w2 hst2
       have hth := hthere w2 hst2
       have hbcs : (byteCells X).size = 32 := by rw [byteCells_size, hx32]
       have hbsz : (Tryz.prog.info? 36).map (·.size) = some (byteCells X).size := by rw [hbcs]; kernel_rfl
       have hb1 : (byteCells X).all (·.oneCell') = true := all_oneCell_toArray (fun v hv => one_bytesV X v hv)
       have hth' : w2.there P 7 (byteCells X).size := by rw [hbcs]; exact hth
       have hbl : (byteCells X).toList = bytesV X := rfl
       clear hsum hq hst hk hst2 hH hthere hth hcell cd hbcs
       have HF := Lib.hid (And.intro hst3 (hk2.trans hk3))
       clear hst3 hk3 hk2
       generalize byteCells X = BX at *
       generalize hbY : bytesV X = BY at *
       clear hbY hx32 hmem HHT
       go_wp2_with (refine wpList_store_mid rfl 36 _ _ rfl P 7 BX rfl rfl hth' hbsz hb1 ?_; rw [hbl])
       go_roundg (n - (t + 1))
       case measure => omega
       case rel =>
        refine ⟨t + 1, M.set t { M[t] with hash := X }, by omega, rfl, by go_num, ?_, fun c hc => ?_, fun i hi hit => ?_, HF.out.1, HF.out.2⟩
        ·exact (set_map (L := M) htM (c := { M[t] with hash := X }) rfl).trans HM.out.1
        ·rcases List.mem_or_eq_of_mem_set hc with hc | rfl
         ·exact HM.out.2.1 c hc
         ·show M[t].led = 0
          exact HM.out.2.1 M[t] (List.getElem_mem htM)
        ·rw [List.length_set] at hi
         by_cases hit2 : t = i
         ·subst hit2
          rw [List.getElem_set_self]
          exact HXt.out.symm
         ·rw [List.getElem_set_ne hit2]
          exact HM.out.2.2 i hi (by omega)
      ·have htn : n = t := by omega
       subst htn
       have hh : ∀ c ∈ M, c.hash = c.d.hash := fun c hc => by
        obtain ⟨i, hi, rfl⟩ := List.getElem_of_mem hc
        exact hha i hi (by omega)
       obtain ⟨ask9, hS9, ho9⟩ := hst.row
       have c10 : wr.cell? ⟨S, 1, none⟩ = some (.slice p n cap) := by rw [hS9.cell, ← hMn]; rfl
       have hasc : cells.Pairwise (fun a b => a.num < b.num) := HOH.out.asc
       have HASC := Lib.hid hasc
       have HI3 := Lib.hid (And.intro hLd (And.intro hh (And.intro hled (And.intro hst hk))))
       clear hLd hha hh hled hst hk hS9 ho9 c9 HI hMn hasc
       go_wp2_with fail
       go_loopg [117] n (fun g s117 wx => ∃ t : Nat, ∃ L : List CellM, t ≤ n ∧ g = n - t ∧ s117 = .int .i64 t ∧ L.map CellM.d = cells ∧ (∀ c ∈ L, c.hash = c.d.hash) ∧ (∀ q (hq : q < L.length), L[q].led = (ledC (cells.take t) L[q].d.num : Int)) ∧ (∀ c ∈ cells.take t, toldN cells c.node = 0) ∧ StoreAt B wx S size (.slice p n cap) L ∧ Keep B w wx)
       case atStart => exact ⟨0, M, by omega, by omega, rfl, HI3.out.1, HI3.out.2.1, fun q hq => by rw [HI3.out.2.2.1 _ (List.getElem_mem hq)]; simp [ledC], by simp, HI3.out.2.2.2.1, HI3.out.2.2.2.2⟩
       case round =>
        obtain ⟨t, L3, ht, rfl, rfl, hLd, hh, hled, htold, hst, hk⟩ := hrel
        have hMn : L3.length = n := by rw [← hn, ← hLd, List.length_map]
        by_cases hlt : t < n
        ·have i1 : (t : Int) < (n : Int) := by omega
         have htM : t < L3.length := by omega
         obtain ⟨ask9, hS9, ho9⟩ := hst.row
         obtain ⟨p', cap', hpe, hpc⟩ := own_ptrs ho9
         injection hpe with hpe hle1 hle2
         clear hle1 hle2
         obtain ⟨R, hpR, hcell⟩ := hpc t htM
         rw [← hpe] at hpR
         subst hpR
         rw [CellM.p] at hcell
         clear hS9 ho9 hpc hpe
         have hca := hst.cells _ (List.getElem_mem htM)
         have hct : L3[t].d = cells[t]'(by omega) := by
          have : (L3.map CellM.d)[t]'(by simpa using htM) = L3[t].d := List.getElem_map _
          rw [← this]; simp only [hLd]
         have hcm : L3[t].d ∈ cells := by rw [hct]; exact List.getElem_mem _
         have hnode := hca.node.at hst.hB
         have hnr := row_node hca
         have hnv4 := hca.nv
         have hnsz : (Tryz.prog.info? 28).map (·.size) = some L3[t].nv.length := by rw [hca.nv]; kernel_rfl
         have hsm := nodeL_small L3[t].d.d
         have hshp : shapedN L3[t].d.node = true := dec_shape (HOH.out.ok _ hcm).1
         have hld := leads_calls B S size (.slice (some ⟨R, 0, none⟩) n cap) L3 L3[t].d.node (.agg L3[t].nv.toArray) wr hst (by rw [hLd]; exact HASC.out) (by omega) hh hnode (by show (nodeL L3[t].d.d).kids.length + (nodeL L3[t].d.d).vols.length ≤ _; omega)
         rw [hLd] at hld
         have hnd2 := fun W (h : StoreAt B W S size (.slice (some ⟨R, 0, none⟩) n cap) L3) => ((h.cells _ (List.getElem_mem htM)).node.at h.hB)
         have hnr2 := fun W (h : StoreAt B W S size (.slice (some ⟨R, 0, none⟩) n cap) L3) => row_node (h.cells _ (List.getElem_mem htM))
         have hfit : fitN L3[t].d.node := nodeL_fitH _
         have hkn : (kidNums L3[t].d.node).length ≤ 255 := kidNums_small L3[t].d.d
         have HM := Lib.hid (And.intro hLd (And.intro hh (And.intro hled htold)))
         have HCT := Lib.hid hct
         have HN2 := Lib.hid (And.intro hnd2 hnr2)
         have HKK := Lib.hid hk
         clear hLd hh hled htold hca hct hnode hsm hk hst hnd2 hnr2 c10 HI3
         generalize hPt : L3[t].ptr = P at *
         generalize hNVt : L3[t].nv = nvs at *
         generalize hNDt : L3[t].d.node = nd at *
         have HND := Lib.hid hNDt
         clear hPt hNVt hNDt
         go_wp2_with (refine wpList_load_mid rfl 28 _ rfl P 3 rfl nvs _ hnr Tryz.underlying28 rfl hnsz ?_)
         refine hld.mono ?_
         rintro e w2 ⟨rfl, hst2, hk2⟩
         clear hld hnr
         by_cases hz : toldN cells nd = 0
         ·rw [hz]
          have hnr2 := HN2.out.2 w2 hst2
          have hkc := kidNums_calls w2.heap.size (.agg nvs.toArray) nd w2 (HN2.out.1 w2 hst2) (Nat.le_refl _) hfit
          have HZ := Lib.hid hz
          have HST2 := Lib.hid (And.intro hst2 hk2)
          clear hz hst2 hk2 HN2
          go_wp2_with (refine wpList_load_mid rfl 28 _ rfl P 3 rfl nvs _ hnr2 Tryz.underlying28 rfl hnsz ?_)
          refine hkc.mono ?_
          rintro e w3 ⟨r, rfl, hown, hb3⟩
          obtain ⟨pk, ck, rfl⟩ := own_shape hown
          have HI4 := Lib.hid (And.intro (HST2.out.1.below hb3 (Nat.le_refl _)) (And.intro ((HKK.out.trans HST2.out.2).trans (Keep.of hb3)) hown))
          have hkt : ∀ k ∈ kidNums nd, ∃ c ∈ cells, c.num = k := fun k hk => kid_there HASC.out hshp HZ.out hk
          have HKT := Lib.hid hkt
          clear hkc hb3 hown hnr2 HST2 hkt
          generalize hks : kidNums nd = ks at *
          have HKS := Lib.hid hks
          clear hks
          go_wp2_with fail
          go_loopg [134] ks.length (fun g s134 wx => ∃ j : Nat, ∃ L : List CellM, j ≤ ks.length ∧ g = ks.length - j ∧ s134 = .int .i64 j ∧ L.map CellM.d = cells ∧ (∀ c ∈ L, c.hash = c.d.hash) ∧ (∀ q (hq : q < L.length), L[q].led = ((ledC (cells.take t) L[q].d.num + (ks.take j).count L[q].d.num : Nat) : Int)) ∧ StoreAt B wx S size (.slice (some ⟨R, 0, none⟩) n cap) L ∧ Keep B w wx ∧ wx.ownsRow w2.heap.size 32 1 (.slice pk ks.length ck) ks.length (numsV ks))
          case atStart => exact ⟨0, L3, by omega, by omega, rfl, HM.out.1, HM.out.2.1, fun q hq => by rw [HM.out.2.2.1 q hq]; simp, HI4.out.1, HI4.out.2.1, HI4.out.2.2⟩
          case round =>
           obtain ⟨j, L4, hj, rfl, rfl, hLd, hh, hled, hst, hk, hown⟩ := hrel
           have hM4 : L4.length = n := by rw [← hn, ← hLd, List.length_map]
           by_cases hlj : j < ks.length
           ·have i2 : (j : Int) < (ks.length : Int) := by omega
            obtain ⟨q, hq, hat, hqn, hoth⟩ := atM_idx hLd HASC.out (HKT.out ks[j] (List.getElem_mem hlj))
            obtain ⟨pz, cz, hpz, hcz⟩ := own_one hown
            injection hpz with hpz hle1 hle2
            clear hle1 hle2
            obtain ⟨R2, hR2, hc2⟩ := hcz j hlj
            rw [← hpz] at hR2
            subst hR2
            have hcj : wr.cell? ⟨R2, j, none⟩ = some (.int .u32 (ks[j] : Int)) := by rw [hc2]; simp [numsV, List.getElem?_eq_getElem hlj]
            have hcall := at_calls B S size (.slice (some ⟨R, 0, none⟩) n cap) L4 ks[j] wr hst (by rw [hLd]; exact HASC.out) (by omega)
            rw [hat, ptrV, CellM.p] at hcall
            have hb1 := led_le (cells.take t) L4[q].d.num
            have hb2 : (ks.take j).count L4[q].d.num ≤ 255 := Nat.le_trans List.count_le_length (by rw [List.length_take]; omega)
            have hb3 : (cells.take t).length ≤ 65536 := by rw [List.length_take]; omega
            obtain ⟨a, ha, hab⟩ : ∃ a : Nat, L4[q].led = (a : Int) ∧ a ≤ 16777216 := ⟨_, hled q hq, by omega⟩
            have HM4 := Lib.hid (And.intro hLd (And.intro hh (And.intro hled (And.intro hqn hoth))))
            have HU := Lib.hid (fun W (h : StoreAt B W S size (.slice (some ⟨R, 0, none⟩) n cap) L4) => And.intro (row_led (h.cells _ (List.getElem_mem hq))) (And.intro ((h.cells _ (List.getElem_mem hq)).row.free 39) (upd_led h q hq ((a : Int) + 1))))
            have HKO := Lib.hid (And.intro hk hown)
            have HA := Lib.hid ha
            rw [ha] at HU
            clear hLd hh hled hqn hoth hat hpz hcz hc2 hst hk hown hb1 hb2 hb3 HI4 ha
            generalize L4[q].ptr = P4 at *
            generalize hkj : (ks[j] : Int) = kj at *
            have HKJ := Lib.hid hkj
            clear hkj
            go_wp2_with fail
            refine hcall.mono ?_
            rintro e w5 ⟨rfl, hst5, hk5⟩
            obtain ⟨hl5, hf5, hst6, hk6⟩ := HU.out w5 hst5
            have HF := Lib.hid (And.intro hst6 (And.intro ((HKO.out.1.trans hk5).trans hk6) (hk6.owns (hk5.owns HKO.out.2 (by decide)) (by decide))))
            clear hcall hst5 hk5 hst6 hk6 hcj
            go_wp2_with fail
            go_roundg (ks.length - (j + 1))
            case measure => omega
            case rel =>
             refine ⟨j + 1, L4.set q { L4[q] with led := (a : Int) + 1 }, by omega, rfl, by go_num, (set_map (L := L4) hq (c := { L4[q] with led := (a : Int) + 1 }) rfl).trans HM4.out.1, fun c hc => ?_, fun i hi => ?_, HF.out.1, HF.out.2.1, HF.out.2.2⟩
             ·rcases List.mem_or_eq_of_mem_set hc with hc | rfl
              ·exact HM4.out.2.1 c hc
              ·exact HM4.out.2.1 L4[q] (List.getElem_mem hq)
             ·rw [List.length_set] at hi
              by_cases hiq : q = i
              ·subst hiq
               rw [List.getElem_set_self, count_take ks j _ hlj]
               have h1 := HM4.out.2.2.1 q hq
               have h2 := HM4.out.2.2.2.1
               rw [HA.out] at h1
               show (a : Int) + 1 = ((ledC (cells.take t) L4[q].d.num + ((ks.take j).count L4[q].d.num + if ks[j] = L4[q].d.num then 1 else 0) : Nat) : Int)
               rw [if_pos h2.symm]
               omega
              ·rw [List.getElem_set_ne hiq, HM4.out.2.2.1 i hi, count_take ks j _ hlj, if_neg (fun e => HM4.out.2.2.2.2 i hi (fun e2 => hiq e2.symm) e.symm)]
               rfl
           ·have hjk : ks.length = j := by omega
            have HE := Lib.hid (And.intro hLd (And.intro hh (And.intro hled (And.intro hst hk))))
            clear hLd hh hled hst hk hown HI4
            go_wp2_with fail
            go_roundg (n - (t + 1))
            case measure => omega
            case rel =>
             refine ⟨t + 1, L4, by omega, rfl, by go_num, HE.out.1, HE.out.2.1, fun q hq => ?_, fun c hc => ?_, HE.out.2.2.2.1, HE.out.2.2.2.2⟩
             ·rw [HE.out.2.2.1 q hq, led_take cells t _ (by omega), ← HCT.out, HND.out, HKS.out, ← hjk, List.take_length]
             ·rw [List.take_succ_eq_append_getElem (show t < cells.length by omega)] at hc
              rcases List.mem_append.1 hc with hc | hc
              ·exact HM.out.2.2.2 c hc
              ·rw [List.mem_singleton.1 hc, ← HCT.out, HND.out]; exact HZ.out
         ·have hz1 : (toldN cells nd == 0) = false := by simpa using hz
          have hz2 : (toldN cells nd != 0) = true := by simpa using hz
          have hno : ¬ RightH ⟨size, cells⟩ := fun r => hz (by rw [← HND.out]; exact r.told _ hcm)
          have HF := Lib.hid (And.intro hno ((HKK.out.trans hk2).below (show B ≤ w.heap.size by omega)))
          clear hno hst2 hk2
          generalize toldN cells nd = X at *
          go_wp2_with fail
          go_ret2
          exact .inl ⟨HF.out.1, rfl, HF.out.2⟩
        ·have htn : n = t := by omega
         subst htn
         have hled2 : ∀ q (hq : q < L3.length), L3[q].led = (ledC cells L3[q].d.num : Int) := fun q hq => by
          have := hled q hq
          rwa [List.take_of_length_le (by omega)] at this
         have htold2 : ∀ c ∈ cells, toldN cells c.node = 0 := fun c hc => htold c (by rw [List.take_of_length_le (by omega)]; exact hc)
         obtain ⟨ask9, hS9, ho9⟩ := hst.row
         have c11 : wr.cell? ⟨S, 1, none⟩ = some (.slice p n cap) := by rw [hS9.cell, ← hMn]; rfl
         have HI5 := Lib.hid (And.intro hLd (And.intro hh (And.intro hled2 (And.intro htold2 (And.intro hst hk)))))
         clear hLd hh hled hled2 htold htold2 hst hk hS9 ho9 c10 HI3
         have HMn := Lib.hid hMn
         clear hMn
         go_wp2_with fail
         go_loopg [154] n (fun g s154 wx => ∃ t : Nat, t ≤ n ∧ g = n - t ∧ s154 = .int .i64 t ∧ (∀ c ∈ cells.take t, (ledC cells c.num : Int) ≤ c.refs ∧ c.refs ≤ 16777216) ∧ StoreAt B wx S size (.slice p n cap) L3 ∧ Keep B w wx)
         case atStart => exact ⟨0, by omega, by omega, rfl, by simp, HI5.out.2.2.2.2.1, HI5.out.2.2.2.2.2⟩
         case round =>
          obtain ⟨t, ht, rfl, rfl, hrf, hst, hk⟩ := hrel
          by_cases hlt : t < n
          ·have i1 : (t : Int) < (n : Int) := by omega
           have hMn := HMn.out
           have htM : t < L3.length := by omega
           obtain ⟨ask9, hS9, ho9⟩ := hst.row
           obtain ⟨p', cap', hpe, hpc⟩ := own_ptrs ho9
           injection hpe with hpe hle1 hle2
           clear hle1 hle2
           obtain ⟨R, hpR, hcell⟩ := hpc t htM
           rw [← hpe] at hpR
           subst hpR
           rw [CellM.p] at hcell
           clear hS9 ho9 hpc hpe
           clear hMn
           have hca := hst.cells _ (List.getElem_mem htM)
           have hct : L3[t].d = cells[t]'(by omega) := by
            have : (L3.map CellM.d)[t]'(by simpa using htM) = L3[t].d := List.getElem_map _
            rw [← this]; simp only [HI5.out.1]
           have hcm : L3[t].d ∈ cells := by rw [hct]; exact List.getElem_mem _
           have cr : wr.cell? ⟨L3[t].ptr, 2, none⟩ = some (.int .i64 L3[t].d.refs) := by rw [hca.row.cell]; rfl
           have cl := row_led hca
           rw [HI5.out.2.2.1 t htM] at cl
           have HH := Lib.hid (And.intro hct (And.intro hcm (And.intro hrf (And.intro hst hk))))
           clear hca hct hcm hrf hst hk c11
           generalize L3[t].ptr = P at *
           generalize hrg : L3[t].d.refs = rf at *
           generalize hlg : (ledC cells L3[t].d.num : Int) = lg at *
           have HG := Lib.hid (And.intro hrg hlg)
           clear hrg hlg
           by_cases h1 : rf < lg
           ·have hno : ¬ RightH ⟨size, cells⟩ := fun r => by
             have := r.led _ HH.out.2.1
             simp only [] at this
             rw [HG.out.1, HG.out.2] at this; omega
            have HF := Lib.hid (And.intro hno (HH.out.2.2.2.2.below (show B ≤ w.heap.size by omega)))
            have k1 := decide_eq_true h1
            clear hno
            go_wp2_with fail
            go_quiet (fail)
            go_wp2_with fail
            go_ret2
            exact .inl ⟨HF.out.1, rfl, HF.out.2.trans (below_drewH B wr nq)⟩
           ·have k1 := decide_eq_false h1
            by_cases h2 : 16777216 < rf
            ·have hno : ¬ RightH ⟨size, cells⟩ := fun r => by
              have := r.most _ HH.out.2.1
              rw [HG.out.1] at this; omega
             have HF := Lib.hid (And.intro hno (HH.out.2.2.2.2.below (show B ≤ w.heap.size by omega)))
             clear hno
             go_wp2_with fail
             go_quiet (fail)
             go_wp2_with fail
             go_ret2
             exact .inl ⟨HF.out.1, rfl, HF.out.2.trans (below_drewH B wr nq)⟩
            ·have k2 := decide_eq_false h2
             have HF := Lib.hid (And.intro h1 h2)
             go_wp2_with fail
             go_quiet (fail)
             go_wp2_with fail
             go_roundg (n - (t + 1))
             case measure => omega
             case rel =>
              refine ⟨t + 1, by omega, rfl, by go_num, fun c hc => ?_, HH.out.2.2.2.1.below (below_drewH _ wr nq) (Nat.le_refl _), HH.out.2.2.2.2.trans (Keep.of (below_drewH _ wr nq))⟩
              rw [List.take_succ_eq_append_getElem (show t < cells.length by omega)] at hc
              rcases List.mem_append.1 hc with hc | hc
              ·exact HH.out.2.2.1 c hc
              ·rw [List.mem_singleton.1 hc, ← HH.out.1, HG.out.1, HG.out.2]
               have := HF.out
               omega
          ·have htn : n = t := by omega
           subst htn
           have hr : RightH ⟨size, cells⟩ := ⟨HOH.out.lo, HOH.out.hi, HOH.out.ok, HOH.out.asc, HI5.out.2.2.2.1, fun c hc => (hrf c (by rw [List.take_of_length_le (by omega)]; exact hc)).1, fun c hc => (hrf c (by rw [List.take_of_length_le (by omega)]; exact hc)).2⟩
           have HF := Lib.hid (And.intro hr (And.intro hst hk))
           clear hr hst hk hrf c11
           go_wp2_with fail
           go_ret2
           exact .inr ⟨HF.out.1, S, _, L3, rfl, HI5.out.1, fun c hc => ⟨HI5.out.2.1 c hc, by
            obtain ⟨i, hi, rfl⟩ := List.getElem_of_mem hc
            exact HI5.out.2.2.1 i hi⟩, HF.out.2.1, HF.out.2.2⟩

end Go.Proofs.YtimkklaidodkdaaGreatDoor
