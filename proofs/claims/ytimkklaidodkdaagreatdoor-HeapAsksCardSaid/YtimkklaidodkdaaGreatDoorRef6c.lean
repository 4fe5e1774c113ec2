/- cambiumref06.Check: walked. -/
import Derived.Test.YtimkklaidodkdaaGreatDoorRef6b
import Derived.Test.YtimkklaidodkdaaGreatDoorHeapFree
import Derived.BigQuiet
namespace Go.Proofs.YtimkklaidodkdaaGreatDoor
open Go.RowKit

theorem right_okH {h : HeapD} (r : RightH h) : OkH h := ⟨r.lo, r.hi, r.ok, r.asc⟩
theorem sl_upH {B C : Nat} {w : World} {v : Value} {n z : Nat} {cs : Nat → List Value} (h : SlAt B w v n cs z) (hC : B ≤ C) : SlAt C w v n cs z := by
 obtain ⟨a, cap, hv, hn, hr⟩ := h
 refine ⟨a, cap, hv, hn, fun h0 => ?_⟩
 obtain ⟨b, o, ha, hb, hc⟩ := hr h0
 exact ⟨b, o, ha, Nat.lt_of_lt_of_le hb hC, hc⟩

set_option maxRecDepth 100000 in
set_option maxHeartbeats 6400000 in
theorem check06_calls (v : Value) (h : HeapD) (w : World) (a : HeapAt w.heap.size w v h) :
  Calls Tryz.prog 30 #[v] w fun e w' => ((RightH h ∧ e = .returned (.int .i64 0)) ∨ (¬ RightH h ∧ e = .returned (.int .i64 7))) ∧ Below w.heap.size w w' := by
 obtain ⟨p, cap, rfl⟩ := a.shape
 obtain ⟨size, cells⟩ := h
 obtain ⟨hz, hnums, hmany, sl, hv, hs⟩ := a
 simp only [] at hz hnums hmany hv hs
 have hsl : Value.slice p cells.length cap = sl := by
  injection hv with hv
  have := congrArg (fun a => a[1]?) hv
  simpa using this
 subst hsl
 clear hv
 have HSL := Lib.hid hs
 obtain ⟨pa, capa, hpa, hn0, hr0⟩ := hs
 injection hpa with hpa1 hpa2 hpa3
 subst hpa1
 clear hpa2 hpa3
 have HR0 := Lib.hid hr0
 have HNM := Lib.hid hnums
 have HDS := Lib.hid (show ∀ c ∈ cells, c.data.size ≤ 140737488351232 from fun c hc => (hnums c hc).2)
 have hbadAt : ∀ t, t < cells.length → okAt size cells t = false → ¬ RightH ⟨size, cells⟩ := fun t ht hf r => by
  have h1 := (okT_iff ⟨size, cells⟩).2 (right_okH r)
  have h2 := (okT_le h1).2 t ht
  simp only [] at h2
  rw [hf] at h2; cases h2
 have HBA := Lib.hid hbadAt
 clear hr0 hnums hbadAt
 obtain ⟨W0, hW0⟩ : ∃ W, W = w.alloc (.cells #[.int .u32 (size : Int), .slice p cells.length cap] 35) := ⟨_, rfl⟩
 have hH0 : RowIs W0 w.heap.size 35 #[.int .u32 (size : Int), .slice p cells.length cap] := by rw [hW0]; exact RowIs.new w _ _
 have hb0 : Below w.heap.size w W0 := by rw [hW0]; exact (Below.refl _ _).alloc (Nat.le_refl _) _
 have f0 : W0.cell? ⟨w.heap.size, 0, none⟩ = some (.int .u32 (size : Int)) := by rw [hH0.cell]; rfl
 have f1 : W0.cell? ⟨w.heap.size, 1, none⟩ = some (.slice p cells.length cap) := by rw [hH0.cell]; rfl
 have HW0 := Lib.hid hW0
 have HB0 := Lib.hid (And.intro hb0 hH0)
 clear hW0 hH0
 show Calls Tryz.prog 30 #[.agg #[.int .u32 (size : Int), .slice p cells.length cap]] w _
 go_enter Tryz.func30, Tryz.ntmps30
 by_cases h16 : size < 16
 ·have i1 : (size : Int) < 16 := by omega
  have HE := Lib.hid (show ¬ RightH ⟨size, cells⟩ from fun r => by have := r.lo; simp only [] at this; omega)
  clear HSL HR0 HNM HDS HBA
  go_wp2_with (refine wpList_world HW0.out ?_)
  go_ret
  exact ⟨.inr ⟨HE.out, rfl⟩, hb0⟩
 by_cases h65 : 65536 < size
 ·have i1 : ¬ (size : Int) < 16 := by omega
  have i2 : (65536 : Int) < (size : Int) := by omega
  have HE := Lib.hid (show ¬ RightH ⟨size, cells⟩ from fun r => by have := r.hi; simp only [] at this; omega)
  clear HSL HR0 HNM HDS HBA
  go_wp2_with (refine wpList_world HW0.out ?_)
  go_ret
  exact ⟨.inr ⟨HE.out, rfl⟩, hb0⟩
 have i1 : ¬ (size : Int) < 16 := by omega
 have i2 : ¬ (65536 : Int) < (size : Int) := by omega
 go_wp2_with (refine wpList_world HW0.out ?_)
 clear f0 f1 hb0
 go_loopw [21] (fun x wr => ∃ t : Nat, t ≤ cells.length ∧ x = .int .i64 t ∧ okT size cells t = true ∧ Below w.heap.size w wr ∧ RowIs wr w.heap.size 35 #[.int .u32 (size : Int), .slice p cells.length cap]) (fun x _ => cells.length - (intOf x).toNat)
 case atStart => exact ⟨0, by omega, rfl, by rw [okT, decide_eq_true (by omega), decide_eq_true (by omega)]; rfl, HB0.out.1, HB0.out.2⟩
 case round =>
  clear HB0 HW0
  obtain ⟨t, ht, rfl, hok, hb, hH⟩ := hrel
  by_cases hlt : t < cells.length
  ·have j1 : (t : Int) < (cells.length : Int) := by omega
   obtain ⟨b2, o2, hap, hb2B, hcl⟩ := HR0.out (by omega)
   subst hap
   obtain ⟨c, hc⟩ : ∃ c, c = cells[t] := ⟨_, rfl⟩
   have hci : wr.rangeAt b2 (o2 + t * 3) (cellV c) := by
    have := rangeAt_below (hcl t hlt) hb (by omega)
    rw [List.getElem?_eq_getElem hlt, ← hc] at this
    exact this
   have hcsz : c.data.size ≤ 140737488351232 := by rw [hc]; exact HDS.out _ (List.getElem_mem hlt)
   have hpv : ∀ h0 : 0 < t, ∀ W, Below w.heap.size w W → W.cell? ⟨b2, o2 + (t - 1) * 3, none⟩ = some (.int .u32 ((cells[t - 1]'(by omega)).num : Int)) := fun h0 W hW => by
    have := rangeAt_below (hcl (t - 1) (by omega)) hW (by omega)
    rw [List.getElem?_eq_getElem (by omega)] at this
    exact this 0 _ rfl
   have hone : (cellV c).toArray.all (·.oneCell') = true := by simp [cellV, Value.oneCell']
   have hksz : (Tryz.prog.info? 57).map (·.size) = some (cellV c).length := by kernel_rfl
   have hksz2 : (Tryz.prog.info? 57).map (·.size) = some (cellV c).toArray.size := by kernel_rfl
   obtain ⟨WA, WB, hWA, hWB, hG, hbq, hth⟩ := alloc_fill wr #[.int .u32 0, .string ⟨#[]⟩, .int .i64 0] (cellV c).toArray 57 rfl
   have d1 : WB.cell? ⟨wr.heap.size, 1, none⟩ = some (.string c.data) := by rw [hG.cell]; rfl
   have hcall := rdecode_calls c.data WB hcsz
   have hb2 := hb.trans (hbq.mono hb.size)
   have hH2 := hH.below hbq hH.lt
   have HWA := Lib.hid hWA
   have HWB := Lib.hid hWB
   have HF := Lib.hid (And.intro hb2 (And.intro hH2 (And.intro hG hpv)))
   have HCC := Lib.hid hc
   have HOK := Lib.hid hok
   clear hWA hWB hbq hb hH hb2 hH2 hG hpv hcl hcsz hc hok
   obtain ⟨C, hC⟩ : ∃ C, C = (cellV c).toArray := ⟨_, rfl⟩
   have HC := Lib.hid hC
   rw [← hC] at hone hksz2 hth
   have HWB := Lib.hid (show WB = WA.setCells wr.heap.size 0 C.toList by rw [HWB.out, HC.out])
   clear hC
   go_wp2_with (first | (refine wpList_world HWA.out ?_) | (refine wpList_load_mid rfl 57 _ rfl b2 (o2 + t * 3) rfl (cellV c) _ hci Tryz.underlying57 rfl hksz ?_; rw [← HC.out]) | (refine wpList_store_mid rfl 57 _ _ rfl wr.heap.size 0 C rfl rfl hth hksz2 hone ?_; refine wpList_world HWB.out ?_))
   clear hone hksz hksz2 hth hci HWA HWB d1
   generalize wr.heap.size = XX at *
   refine hcall.mono ?_
   rintro e w3 ⟨v, rfl, ho, hq⟩
   obtain ⟨hb, hH, hG, hpv⟩ := HF.out
   have hb3 := hb.trans (hq.mono hb.size)
   have hH3 := hH.below hq hH.lt
   have hG3 := hG.below hq hG.lt
   generalize hND : nodeL c.data.data.toList = ND at *
   obtain ⟨_, vi, vk, vv, rfl, oi, ok, ov⟩ := id ho
   obtain ⟨p1, q1, rfl⟩ := own_shape oi
   obtain ⟨p2, q2, rfl⟩ := own_shape ok
   obtain ⟨p3, q3, rfl⟩ := own_shape ov
   obtain ⟨D, hD⟩ : ∃ D : Array Value, D = #[.int .u8 (ND.kind : Int), .slice p1 ND.items.length q1, .slice p2 ND.kids.length q2, .slice p3 ND.vols.length q3] := ⟨_, rfl⟩
   rw [← hD]
   have hDs : D.size = 4 := by rw [hD]; rfl
   have honD : D.all (·.oneCell') = true := by rw [hD]; simp [Value.oneCell']
   have hszD : (Tryz.prog.info? 28).map (·.size) = some D.size := by rw [hDs]; kernel_rfl
   obtain ⟨W4, W5, hW4, hW5, hN5, hb5, hth5⟩ := alloc_fill w3 #[.int .u8 0, .slice none 0 0, .slice none 0 0, .slice none 0 0] D 28 (by rw [hDs]; rfl)
   have hbW := hb3.trans (hb5.mono hb3.size)
   have hH5 := hH3.below hb5 hH3.lt
   have hG5 := hG3.below hb5 hG3.lt
   have HW4 := Lib.hid hW4
   have HW5 := Lib.hid hW5
   have hdE : decE c.data.data.toList = (if decOk c.d then 0 else 9) := rfl
   generalize hde : decE c.data.data.toList = DE at *
   have HDE := Lib.hid hdE
   have HPV := Lib.hid hpv
   clear hND hD hDs oi ok ov ho hb hH hG hq hcall hb3 hH3 hG3 hW4 hW5 hb5 hN5 HF hpv hdE hde
   go_wp2_with (first | (refine wpList_world HW4.out ?_) | (refine wpList_store_mid rfl 28 _ _ rfl w3.heap.size 0 D rfl rfl hth5 hszD honD ?_; refine wpList_world HW5.out ?_))
   try rw [← HW5.out]
   clear hth5 hszD honD HW4 HW5
   have e0 : W5.cell? ⟨XX, 0, none⟩ = some (.int .u32 (c.num : Int)) := by rw [hG5.cell]; rfl
   have f0 : W5.cell? ⟨w.heap.size, 0, none⟩ = some (.int .u32 (size : Int)) := by rw [hH5.cell]; rfl
   have f1 : W5.cell? ⟨w.heap.size, 1, none⟩ = some (.slice (some ⟨b2, o2, none⟩) cells.length cap) := by rw [hH5.cell]; rfl
   have hoka : okAt size cells t = (decide (decOk c.d) && (decide (2 ≤ c.num) && (decide (c.num < size) && (decide (t = 0) || match cells[t - 1]? with | some q => decide (q.num < c.num) | none => true)))) := by
    rw [HCC.out, okAt, List.getElem?_eq_getElem hlt]; rfl
   have HOA := Lib.hid hoka
   have HCP := Lib.hid (fun h0 : 0 < t => HPV.out h0 W5 hbW)
   have HBW := Lib.hid (And.intro hbW hH5)
   clear hoka hbW hH5 hG5 HPV
   generalize hnm : c.num = num at *
   clear hnm HDS HNM HSL HR0 hn0 hz
   by_cases hdo : decOk c.d
   ·have hDE : DE = 0 := by rw [HDE.out, if_pos hdo]
    subst hDE
    have HDO := Lib.hid hdo
    clear hdo
    by_cases h2 : num < 2
    ·have k2 : (num : Int) < 2 := by omega
     have k2d : decide ((num : Int) < 2) = true := decide_eq_true k2
     have hf : okAt size cells t = false := by rw [HOA.out]; rw [decide_eq_false (show ¬ 2 ≤ num by omega)]; simp
     have HE := Lib.hid (HBA.out t hlt hf)
     clear hf
     go_quiet (fail)
     go_wp2_with fail
     go_ret
     exact ⟨.inr ⟨HE.out, rfl⟩, below_drewN HBW.out.1 _⟩
    have k2 : ¬ (num : Int) < 2 := by omega
    have k2d : decide ((num : Int) < 2) = false := decide_eq_false k2
    by_cases h3 : size ≤ num
    ·have k3 : (size : Int) ≤ (num : Int) := by omega
     have k3d : decide ((size : Int) ≤ (num : Int)) = true := decide_eq_true k3
     have k3n : decide (size ≤ num) = true := decide_eq_true h3
     have hf : okAt size cells t = false := by rw [HOA.out]; rw [decide_eq_false (show ¬ num < size by omega)]; simp
     have HE := Lib.hid (HBA.out t hlt hf)
     clear hf
     go_quiet (fail)
     go_wp2_with fail
     go_ret
     exact ⟨.inr ⟨HE.out, rfl⟩, below_drewN HBW.out.1 _⟩
    have k3 : ¬ (size : Int) ≤ (num : Int) := by omega
    have k3d : decide ((size : Int) ≤ (num : Int)) = false := decide_eq_false k3
    have k3n : decide (size ≤ num) = false := decide_eq_false h3
    by_cases h0 : t = 0
    ·have hnp : ¬ (0 : Int) < (t : Int) := by omega
     have hnd : decide ((0 : Int) < (t : Int)) = false := decide_eq_false hnp
     have hndN : decide (0 < t) = false := decide_eq_false (by omega)
     have hf : okAt size cells t = true := by rw [HOA.out, decide_eq_true HDO.out, decide_eq_true (show 2 ≤ num by omega), decide_eq_true (show num < size by omega)]; rw [decide_eq_true h0]; rfl
     have HE := Lib.hid (show okT size cells (t + 1) = true by rw [okT, HOK.out, hf]; rfl)
     clear hf
     go_quiet (fail)
     go_wp2_with fail
     go_roundw
     case rel => exact ⟨t + 1, by omega, by go_num, HE.out, below_drewN HBW.out.1 _, HBW.out.2.below (below_drewN (Below.refl _ _) _) HBW.out.2.lt⟩
     case measure => simp [intOf]; omega
    have hpos : (0 : Int) < (t : Int) := by omega
    have hpd : decide ((0 : Int) < (t : Int)) = true := decide_eq_true hpos
    have hposN : 0 < t := by omega
    have hdec : decide (0 < t) = true := decide_eq_true hposN
    have hcq := HCP.out (by omega)
    have hm1 : ((t : Int) - 1).toNat = t - 1 := by omega
    have hm2 : (0 : Int) ≤ (t : Int) - 1 := by omega
    have hm3 : (t : Int) - 1 < (cells.length : Int) := by omega
    have HPQ := Lib.hid (show (match cells[t - 1]? with | some q => decide (q.num < num) | none => true) = decide ((cells[t - 1]'(by omega)).num < num) by rw [List.getElem?_eq_getElem (by omega)])
    generalize (cells[t - 1]'(by omega)).num = pn at *
    by_cases h4 : num ≤ pn
    ·have k4 : (num : Int) ≤ (pn : Int) := by omega
     have k4d : decide ((num : Int) ≤ (pn : Int)) = true := decide_eq_true k4
     have k4n : decide (num ≤ pn) = true := decide_eq_true h4
     have hf : okAt size cells t = false := by rw [HOA.out]; rw [HPQ.out, decide_eq_false (show ¬ pn < num by omega), decide_eq_false h0]; simp
     have HE := Lib.hid (HBA.out t hlt hf)
     clear hf
     go_quiet (fail)
     go_wp2_with fail
     go_ret
     exact ⟨.inr ⟨HE.out, rfl⟩, below_drewN HBW.out.1 _⟩
    ·have k4 : ¬ (num : Int) ≤ (pn : Int) := by omega
     have k4d : decide ((num : Int) ≤ (pn : Int)) = false := decide_eq_false k4
     have k4n : decide (num ≤ pn) = false := decide_eq_false h4
     have hf : okAt size cells t = true := by rw [HOA.out, decide_eq_true HDO.out, decide_eq_true (show 2 ≤ num by omega), decide_eq_true (show num < size by omega)]; rw [HPQ.out, decide_eq_true (show pn < num by omega)]; simp
     have HE := Lib.hid (show okT size cells (t + 1) = true by rw [okT, HOK.out, hf]; rfl)
     clear hf
     go_quiet (fail)
     go_wp2_with fail
     go_roundw
     case rel => exact ⟨t + 1, by omega, by go_num, HE.out, below_drewN HBW.out.1 _, HBW.out.2.below (below_drewN (Below.refl _ _) _) HBW.out.2.lt⟩
     case measure => simp [intOf]; omega
   ·have hDE : DE = 9 := by rw [HDE.out, if_neg hdo]
    subst hDE
    have hf : okAt size cells t = false := by rw [HOA.out]; rw [decide_eq_false hdo]; rfl
    have HE := Lib.hid (HBA.out t hlt hf)
    clear hf
    go_quiet (fail)
    go_wp2_with fail
    go_ret
    exact ⟨.inr ⟨HE.out, rfl⟩, below_drewN HBW.out.1 _⟩
  ·have htl : t = cells.length := by omega
   subst htl
   have j1 : ¬ (cells.length : Int) < (cells.length : Int) := by omega
   have hO : OkH ⟨size, cells⟩ := (okT_iff ⟨size, cells⟩).1 hok
   have hln := hO.len
   simp only [] at hln
   have f1 : wr.cell? ⟨w.heap.size, 1, none⟩ = some (.slice p cells.length cap) := by rw [hH.cell]; rfl
   have hcall := led06_calls w.heap.size (.slice p cells.length cap) cells wr (HSL.out.below hb (Nat.le_refl _)) hb.size HDS.out hO.asc hln
   have HO := Lib.hid hO
   have HB := Lib.hid (And.intro hb hH)
   have HLX := hb.size
   have HLT := hH.lt
   clear hok hO hb hH hn0 hmany hz HBA HNM
   generalize wr.heap.size = LX at *
   go_wp2_with fail
   refine hcall.mono ?_
   rintro e w1 ⟨rfl, hL, hq⟩
   have hLX : w.heap.size ≤ LX := HLX
   have hb1 := HB.out.1.trans (hq.mono hLX)
   have hH1 := HB.out.2.below hq HLT
   have f1 : w1.cell? ⟨w.heap.size, 1, none⟩ = some (.slice p cells.length cap) := by rw [hH1.cell]; rfl
   obtain ⟨LR, hLR⟩ : ∃ R, R = ledRow cells (cells.flatMap CellD.kids) := ⟨_, rfl⟩
   rw [← hLR] at hL
   have hget : ∀ i (hi : i < cells.length), LR[i]? = some (.int .i64 (ledC cells cells[i].num : Int)) := fun i hi => by rw [hLR, ledRow_get cells _ i hi]; rfl
   have HGET := Lib.hid hget
   have HI := Lib.hid (And.intro hb1 (And.intro hH1 hL))
   clear hcall hq hL hb1 hH1 hLR hget HB
   go_wp2_with fail
   clear f1
   go_loopw [69] (fun x wr => ∃ t : Nat, t ≤ cells.length ∧ x = .int .i64 t ∧ (∀ i (hi : i < cells.length), i < t → toldN cells cells[i].node = 0 ∧ (ledC cells cells[i].num : Int) ≤ cells[i].refs ∧ cells[i].refs ≤ 16777216) ∧ Below w.heap.size w wr ∧ RowIs wr w.heap.size 35 #[.int .u32 (size : Int), .slice p cells.length cap] ∧ RowIs wr LX 3 LR) (fun x _ => cells.length - (intOf x).toNat)
   case atStart => exact ⟨0, by omega, rfl, fun i _ hi => absurd hi (Nat.not_lt_zero _), HI.out.1, HI.out.2.1, HI.out.2.2⟩
   case round =>
    clear HI
    obtain ⟨t, ht, rfl, hgd, hb, hH, hL⟩ := hrel
    by_cases hlt : t < cells.length
    ·have j1 : (t : Int) < (cells.length : Int) := by omega
     obtain ⟨b2, o2, hap, hb2B, hcl⟩ := HR0.out (by omega)
     subst hap
     obtain ⟨c, hc⟩ : ∃ c, c = cells[t] := ⟨_, rfl⟩
     have hci : wr.rangeAt b2 (o2 + t * 3) (cellV c) := by
      have := rangeAt_below (hcl t hlt) hb (by omega)
      rw [List.getElem?_eq_getElem hlt, ← hc] at this
      exact this
     have hcsz : c.data.size ≤ 140737488351232 := by rw [hc]; exact HDS.out _ (List.getElem_mem hlt)
     have hone : (cellV c).toArray.all (·.oneCell') = true := by simp [cellV, Value.oneCell']
     have hksz : (Tryz.prog.info? 57).map (·.size) = some (cellV c).length := by kernel_rfl
     have hksz2 : (Tryz.prog.info? 57).map (·.size) = some (cellV c).toArray.size := by kernel_rfl
     obtain ⟨WA, WB, hWA, hWB, hG, hbq, hth⟩ := alloc_fill wr #[.int .u32 0, .string ⟨#[]⟩, .int .i64 0] (cellV c).toArray 57 rfl
     have hnc := fun W => node06_calls c W hcsz
     have htc := fun nv W (hW : Below w.heap.size w W) (hn : NodeAt W.heap.size W nv c.node) => told06_calls W.heap.size (.slice (some ⟨b2, o2, none⟩) cells.length cap) nv cells c.node W (sl_upH (HSL.out.below hW (Nat.le_refl _)) hW.size) (Nat.le_refl _) HDS.out hn (by have := (nodeL_small c.d).2.2; show (nodeL c.d).kids.length + (nodeL c.d).vols.length ≤ 1048576; omega)
     have hb2 := hb.trans (hbq.mono hb.size)
     have hH2 := hH.below hbq hH.lt
     have hL2 := hL.below hbq hL.lt
     have hlr := HGET.out t hlt
     rw [← hc] at hlr
     have HWA := Lib.hid hWA
     have HWB := Lib.hid hWB
     have HF := Lib.hid (And.intro hb2 (And.intro hH2 (And.intro hL2 (And.intro hnc htc))))
     have HCC := Lib.hid hc
     have HGD := Lib.hid hgd
     obtain ⟨C, hC⟩ : ∃ C, C = (cellV c).toArray := ⟨_, rfl⟩
     have HC := Lib.hid hC
     rw [← hC] at hone hksz2 hth hG
     have HWB := Lib.hid (show WB = WA.setCells wr.heap.size 0 C.toList by rw [HWB.out, HC.out])
     clear hWA hWB hbq hb hH hL hb2 hH2 hL2 hnc htc hcl hcsz hc hgd hC
     go_wp2_with (first | (refine wpList_world HWA.out ?_) | (refine wpList_load_mid rfl 57 _ rfl b2 (o2 + t * 3) rfl (cellV c) _ hci Tryz.underlying57 rfl hksz ?_; rw [← HC.out]) | (refine wpList_store_mid rfl 57 _ _ rfl wr.heap.size 0 C rfl rfl hth hksz2 hone ?_; refine wpList_world HWB.out ?_))
     try rw [← HWB.out]
     clear hone hksz hth hci HWA
     generalize wr.heap.size = XX at *
     obtain ⟨hb, hH, hL, hnc, htc⟩ := HF.out
     have hGc : RowIs WB.drew w.heap.size 35 #[.int .u32 (size : Int), .slice (some ⟨b2, o2, none⟩) cells.length cap] ∧ RowIs WB.drew XX 57 C ∧ RowIs WB.drew LX 3 LR := ⟨hH.drew, hG.drew, hL.drew⟩
     have hbc : Below w.heap.size w WB.drew := Below.drew hb
     have c2 : C[2]? = some (.int .i64 c.refs) := by rw [HC.out]; rfl
     obtain ⟨TV, hTV⟩ : ∃ T, T = toldN cells c.node := ⟨_, rfl⟩
     rw [← hTV] at htc
     have HTV := Lib.hid hTV
     clear hTV hb hH hL hG HF HWB
     generalize hlv : (ledC cells c.num : Int) = lv at *
     have HLV := Lib.hid hlv
     clear hlv
     generalize hrf : c.refs = rf at *
     have HRF := Lib.hid hrf
     clear hrf
     have HNOT := Lib.hid (fun (hb : ¬ (TV = 0 ∧ lv ≤ rf ∧ rf ≤ 16777216)) => show ¬ RightH ⟨size, cells⟩ from fun r => hb ⟨by rw [HTV.out, HCC.out]; exact r.told _ (List.getElem_mem hlt), by rw [← HLV.out, ← HRF.out, HCC.out]; exact r.led _ (List.getElem_mem hlt), by rw [← HRF.out, HCC.out]; exact r.most _ (List.getElem_mem hlt)⟩)
     by_cases hT : TV = 0
     ·subst hT
      by_cases hl1 : rf < lv
      ·have m1 : decide (rf < lv) = true := decide_eq_true hl1
       have HE := Lib.hid (HNOT.out (fun q => by omega))
       refine wp_region_held_drew (S := fun w' => RowIs w' w.heap.size 35 #[.int .u32 (size : Int), .slice (some ⟨b2, o2, none⟩) cells.length cap] ∧ RowIs w' XX 57 C ∧ RowIs w' LX 3 LR) (by kernel_rfl) hGc (fun hHeld => ?_)
       generalize WB.drew = wv at *
       refine take_N (i := 0) (v := ?_) (some 74) #[true, false, false, false, false, false, false, false, false, false, false, false, false, false, false, false, false, false, false, false] rfl rfl (by kernel_rfl) (by kernel_rfl) (by kernel_rfl) (by kernel_rfl) (fun _ _ _ h => h) hGc (Or.inl ⟨by rfl, ?_⟩) ?_
       rotate_left
       ·intro w_ hSw_; go_simp; try with_reducible rfl
       try simp only [Act.put, List.setIfInBounds_toArray, List.set_cons_zero, List.set_cons_succ]
       refine take_N (i := 1) (v := .slice (some ⟨b2, o2, none⟩) cells.length cap) (some 75) #[true, true, false, false, false, false, false, false, false, false, false, false, false, false, false, false, false, false, false, false] rfl rfl (by kernel_rfl) (by kernel_rfl) (by kernel_rfl) (by kernel_rfl) (fun _ _ _ h => h) hGc (Or.inl ⟨by rfl, ?_⟩) ?_
       ·intro w_ hSw_; exact (by have hcc : w_.cell? ⟨w.heap.size, 1, none⟩ = some (.slice (some ⟨b2, o2, none⟩) cells.length cap) := (by rw [RowIs.cell hSw_.1]; rfl); go_simp)
       try simp only [Act.put, List.setIfInBounds_toArray, List.set_cons_zero, List.set_cons_succ]
       refine take_N (i := 2) (v := .agg C) (some 76) #[true, true, true, false, false, false, false, false, false, false, false, false, false, false, false, false, false, false, false, false] rfl rfl (by kernel_rfl) (by kernel_rfl) (by kernel_rfl) (by kernel_rfl) (fun _ _ _ h => h) hGc (Or.inl ⟨by rfl, ?_⟩) ?_
       ·intro w_ hSw_; exact exec_load_row 57 _ (by rfl) XX (by rfl) 57 C (0, 0) _ hSw_.2.1 Tryz.underlying57 (by rfl) hksz2
       try simp only [Act.put, List.setIfInBounds_toArray, List.set_cons_zero, List.set_cons_succ]
       refine step_N (i := 3) #[true, true, true, true, false, false, false, false, false, false, false, false, false, false, false, false, false, false, false, false] rfl (by kernel_rfl) (by kernel_rfl) (fun K hK => ?_)
       rw [if_pos (by rfl)]
       go_simp
       rw [HC.out]
       refine (hnc _).mono ?_
       rintro e wa ⟨nv, rfl, ho, hq⟩
       rw [← HC.out]
       have hnv := ho.node
       clear ho
       have hG2 : RowIs wa w.heap.size 35 #[.int .u32 (size : Int), .slice (some ⟨b2, o2, none⟩) cells.length cap] ∧ RowIs wa XX 57 C ∧ RowIs wa LX 3 LR := ⟨hGc.1.below hq hGc.1.lt, hGc.2.1.below hq hGc.2.1.lt, hGc.2.2.below hq hGc.2.2.lt⟩
       replace hbc := hbc.trans (hq.mono hbc.size)
       clear hGc hq
       have hGc := hG2
       clear hG2
       refine hK.out _ _ hGc ?_
       clear hK K
       refine step_N (i := 4) #[true, true, true, true, true, false, false, false, false, false, false, false, false, false, false, false, false, false, false, false] rfl (by kernel_rfl) (by kernel_rfl) (fun K hK => ?_)
       rw [if_pos (by rfl)]
       go_simp
       refine (htc nv _ hbc hnv).mono ?_
       rintro e wb ⟨rfl, hq⟩
       clear hnv
       have hG2 : RowIs wb w.heap.size 35 #[.int .u32 (size : Int), .slice (some ⟨b2, o2, none⟩) cells.length cap] ∧ RowIs wb XX 57 C ∧ RowIs wb LX 3 LR := ⟨hGc.1.below hq hGc.1.lt, hGc.2.1.below hq hGc.2.1.lt, hGc.2.2.below hq hGc.2.2.lt⟩
       replace hbc := hbc.trans (hq.mono hbc.size)
       clear hGc hq
       have hGc := hG2
       clear hG2
       refine hK.out _ _ hGc ?_
       clear hK K
       refine take_N (i := 5) (v := ?_) (some 79) #[true, true, true, true, true, true, false, false, false, false, false, false, false, false, false, false, false, false, false, false] rfl rfl (by kernel_rfl) (by kernel_rfl) (by kernel_rfl) (by kernel_rfl) (fun _ _ _ h => h) hGc (Or.inl ⟨by rfl, ?_⟩) ?_
       rotate_left
       ·intro w_ hSw_; go_simp; try with_reducible rfl
       try simp only [Act.put, List.setIfInBounds_toArray, List.set_cons_zero, List.set_cons_succ]
       refine take_N (i := 6) (v := ?_) (some 80) #[true, true, true, true, true, true, true, false, false, false, false, false, false, false, false, false, false, false, false, false] rfl rfl (by kernel_rfl) (by kernel_rfl) (by kernel_rfl) (by kernel_rfl) (fun _ _ _ h => h) hGc (Or.inl ⟨by rfl, ?_⟩) ?_
       rotate_left
       ·intro w_ hSw_; go_simp; try with_reducible rfl
       try simp only [Act.put, List.setIfInBounds_toArray, List.set_cons_zero, List.set_cons_succ]
       refine take_N (i := 7) (v := ?_) (some 81) #[true, true, true, true, true, true, true, true, false, false, false, false, false, false, false, false, false, false, false, false] rfl rfl (by kernel_rfl) (by kernel_rfl) (by kernel_rfl) (by kernel_rfl) (fun _ _ _ h => h) hGc (Or.inl ⟨by rfl, ?_⟩) ?_
       rotate_left
       ·intro w_ hSw_; go_simp; try with_reducible rfl
       try simp only [Act.put, List.setIfInBounds_toArray, List.set_cons_zero, List.set_cons_succ]
       refine take_N (i := 8) (v := .int .i64 rf) (some 82) #[true, true, true, true, true, true, true, true, true, false, false, false, false, false, false, false, false, false, false, false] rfl rfl (by kernel_rfl) (by kernel_rfl) (by kernel_rfl) (by kernel_rfl) (fun _ _ _ h => h) hGc (Or.inl ⟨by rfl, ?_⟩) ?_
       ·intro w_ hSw_; exact (by have hcc : w_.cell? ⟨XX, 2, none⟩ = some (.int .i64 rf) := (by rw [RowIs.cell hSw_.2.1]; exact c2); go_simp)
       try simp only [Act.put, List.setIfInBounds_toArray, List.set_cons_zero, List.set_cons_succ]
       refine take_N (i := 9) (v := ?_) (some 83) #[true, true, true, true, true, true, true, true, true, true, false, false, false, false, false, false, false, false, false, false] rfl rfl (by kernel_rfl) (by kernel_rfl) (by kernel_rfl) (by kernel_rfl) (fun _ _ _ h => h) hGc (Or.inl ⟨by rfl, ?_⟩) ?_
       rotate_left
       ·intro w_ hSw_; go_simp; try with_reducible rfl
       try simp only [Act.put, List.setIfInBounds_toArray, List.set_cons_zero, List.set_cons_succ]
       refine take_N (i := 10) (v := ?_) (some 84) #[true, true, true, true, true, true, true, true, true, true, true, false, false, false, false, false, false, false, false, false] rfl rfl (by kernel_rfl) (by kernel_rfl) (by kernel_rfl) (by kernel_rfl) (fun _ _ _ h => h) hGc (Or.inl ⟨by rfl, ?_⟩) ?_
       rotate_left
       ·intro w_ hSw_; go_simp; try with_reducible rfl
       try simp only [Act.put, List.setIfInBounds_toArray, List.set_cons_zero, List.set_cons_succ]
       refine take_N (i := 11) (v := ?_) (some 85) #[true, true, true, true, true, true, true, true, true, true, true, true, false, false, false, false, false, false, false, false] rfl rfl (by kernel_rfl) (by kernel_rfl) (by kernel_rfl) (by kernel_rfl) (fun _ _ _ h => h) hGc (Or.inl ⟨by rfl, ?_⟩) ?_
       rotate_left
       ·intro w_ hSw_; go_simp; try with_reducible rfl
       try simp only [Act.put, List.setIfInBounds_toArray, List.set_cons_zero, List.set_cons_succ]
       refine take_N (i := 12) (v := .int .i64 lv) (some 86) #[true, true, true, true, true, true, true, true, true, true, true, true, true, false, false, false, false, false, false, false] rfl rfl (by kernel_rfl) (by kernel_rfl) (by kernel_rfl) (by kernel_rfl) (fun _ _ _ h => h) hGc (Or.inl ⟨by rfl, ?_⟩) ?_
       ·intro w_ hSw_; exact (by have hcc : w_.cell? ⟨LX, t, none⟩ = some (.int .i64 lv) := (by rw [RowIs.cell hSw_.2.2]; exact hlr); go_simp)
       try simp only [Act.put, List.setIfInBounds_toArray, List.set_cons_zero, List.set_cons_succ]
       refine take_N (i := 13) (v := ?_) (some 87) #[true, true, true, true, true, true, true, true, true, true, true, true, true, true, false, false, false, false, false, false] rfl rfl (by kernel_rfl) (by kernel_rfl) (by kernel_rfl) (by kernel_rfl) (fun _ _ _ h => h) hGc (Or.inl ⟨by rfl, ?_⟩) ?_
       rotate_left
       ·intro w_ hSw_; go_simp; try with_reducible rfl
       try simp only [Act.put, List.setIfInBounds_toArray, List.set_cons_zero, List.set_cons_succ]
       refine take_N (i := 14) (v := ?_) (some 88) #[true, true, true, true, true, true, true, true, true, true, true, true, true, true, true, false, false, false, false, false] rfl rfl (by kernel_rfl) (by kernel_rfl) (by kernel_rfl) (by kernel_rfl) (fun _ _ _ h => h) hGc (Or.inl ⟨by rfl, ?_⟩) ?_
       rotate_left
       ·intro w_ hSw_; go_simp; try with_reducible rfl
       try simp only [Act.put, List.setIfInBounds_toArray, List.set_cons_zero, List.set_cons_succ]
       refine take_N (i := 15) (v := ?_) (some 89) #[true, true, true, true, true, true, true, true, true, true, true, true, true, true, true, true, false, false, false, false] rfl rfl (by kernel_rfl) (by kernel_rfl) (by kernel_rfl) (by kernel_rfl) (fun _ _ _ h => h) hGc (Or.inl ⟨by rfl, ?_⟩) ?_
       rotate_left
       ·intro w_ hSw_; go_simp; try with_reducible rfl
       try simp only [Act.put, List.setIfInBounds_toArray, List.set_cons_zero, List.set_cons_succ]
       refine take_N (i := 16) (v := undef) (some 90) #[true, true, true, true, true, true, true, true, true, true, true, true, true, true, true, true, true, false, false, false] rfl rfl (by kernel_rfl) (by kernel_rfl) (by kernel_rfl) (by kernel_rfl) (fun _ _ _ h => h) hGc (Or.inr ⟨by rfl, rfl⟩) ?_
       try simp only [Act.put, List.setIfInBounds_toArray, List.set_cons_zero, List.set_cons_succ]
       refine take_N (i := 17) (v := undef) (some 91) #[true, true, true, true, true, true, true, true, true, true, true, true, true, true, true, true, true, true, false, false] rfl rfl (by kernel_rfl) (by kernel_rfl) (by kernel_rfl) (by kernel_rfl) (fun _ _ _ h => h) hGc (Or.inr ⟨by rfl, rfl⟩) ?_
       try simp only [Act.put, List.setIfInBounds_toArray, List.set_cons_zero, List.set_cons_succ]
       refine take_N (i := 18) (v := undef) (some 92) #[true, true, true, true, true, true, true, true, true, true, true, true, true, true, true, true, true, true, true, false] rfl rfl (by kernel_rfl) (by kernel_rfl) (by kernel_rfl) (by kernel_rfl) (fun _ _ _ h => h) hGc (Or.inr ⟨by rfl, rfl⟩) ?_
       try simp only [Act.put, List.setIfInBounds_toArray, List.set_cons_zero, List.set_cons_succ]
       refine take_N (i := 19) (v := ?_) (some 93) #[true, true, true, true, true, true, true, true, true, true, true, true, true, true, true, true, true, true, true, true] rfl rfl (by kernel_rfl) (by kernel_rfl) (by kernel_rfl) (by kernel_rfl) (fun _ _ _ h => h) hGc (Or.inl ⟨by rfl, ?_⟩) ?_
       rotate_left
       ·intro w_ hSw_; go_simp; try with_reducible rfl
       try simp only [Act.put, List.setIfInBounds_toArray, List.set_cons_zero, List.set_cons_succ]
       refine wpAnyH_done (by kernel_rfl) ?_ _
       clear hHeld hnc htc
       clear hGc
       go_wp2_with fail
       go_ret
       exact ⟨.inr ⟨HE.out, rfl⟩, hbc⟩
      have m1 : decide (rf < lv) = false := decide_eq_false hl1
      by_cases hl2 : 16777216 < rf
      ·have m2 : decide ((16777216 : Int) < rf) = true := decide_eq_true hl2
       have HE := Lib.hid (HNOT.out (fun q => by omega))
       refine wp_region_held_drew (S := fun w' => RowIs w' w.heap.size 35 #[.int .u32 (size : Int), .slice (some ⟨b2, o2, none⟩) cells.length cap] ∧ RowIs w' XX 57 C ∧ RowIs w' LX 3 LR) (by kernel_rfl) hGc (fun hHeld => ?_)
       generalize WB.drew = wv at *
       refine take_N (i := 0) (v := ?_) (some 74) #[true, false, false, false, false, false, false, false, false, false, false, false, false, false, false, false, false, false, false, false] rfl rfl (by kernel_rfl) (by kernel_rfl) (by kernel_rfl) (by kernel_rfl) (fun _ _ _ h => h) hGc (Or.inl ⟨by rfl, ?_⟩) ?_
       rotate_left
       ·intro w_ hSw_; go_simp; try with_reducible rfl
       try simp only [Act.put, List.setIfInBounds_toArray, List.set_cons_zero, List.set_cons_succ]
       refine take_N (i := 1) (v := .slice (some ⟨b2, o2, none⟩) cells.length cap) (some 75) #[true, true, false, false, false, false, false, false, false, false, false, false, false, false, false, false, false, false, false, false] rfl rfl (by kernel_rfl) (by kernel_rfl) (by kernel_rfl) (by kernel_rfl) (fun _ _ _ h => h) hGc (Or.inl ⟨by rfl, ?_⟩) ?_
       ·intro w_ hSw_; exact (by have hcc : w_.cell? ⟨w.heap.size, 1, none⟩ = some (.slice (some ⟨b2, o2, none⟩) cells.length cap) := (by rw [RowIs.cell hSw_.1]; rfl); go_simp)
       try simp only [Act.put, List.setIfInBounds_toArray, List.set_cons_zero, List.set_cons_succ]
       refine take_N (i := 2) (v := .agg C) (some 76) #[true, true, true, false, false, false, false, false, false, false, false, false, false, false, false, false, false, false, false, false] rfl rfl (by kernel_rfl) (by kernel_rfl) (by kernel_rfl) (by kernel_rfl) (fun _ _ _ h => h) hGc (Or.inl ⟨by rfl, ?_⟩) ?_
       ·intro w_ hSw_; exact exec_load_row 57 _ (by rfl) XX (by rfl) 57 C (0, 0) _ hSw_.2.1 Tryz.underlying57 (by rfl) hksz2
       try simp only [Act.put, List.setIfInBounds_toArray, List.set_cons_zero, List.set_cons_succ]
       refine step_N (i := 3) #[true, true, true, true, false, false, false, false, false, false, false, false, false, false, false, false, false, false, false, false] rfl (by kernel_rfl) (by kernel_rfl) (fun K hK => ?_)
       rw [if_pos (by rfl)]
       go_simp
       rw [HC.out]
       refine (hnc _).mono ?_
       rintro e wa ⟨nv, rfl, ho, hq⟩
       rw [← HC.out]
       have hnv := ho.node
       clear ho
       have hG2 : RowIs wa w.heap.size 35 #[.int .u32 (size : Int), .slice (some ⟨b2, o2, none⟩) cells.length cap] ∧ RowIs wa XX 57 C ∧ RowIs wa LX 3 LR := ⟨hGc.1.below hq hGc.1.lt, hGc.2.1.below hq hGc.2.1.lt, hGc.2.2.below hq hGc.2.2.lt⟩
       replace hbc := hbc.trans (hq.mono hbc.size)
       clear hGc hq
       have hGc := hG2
       clear hG2
       refine hK.out _ _ hGc ?_
       clear hK K
       refine step_N (i := 4) #[true, true, true, true, true, false, false, false, false, false, false, false, false, false, false, false, false, false, false, false] rfl (by kernel_rfl) (by kernel_rfl) (fun K hK => ?_)
       rw [if_pos (by rfl)]
       go_simp
       refine (htc nv _ hbc hnv).mono ?_
       rintro e wb ⟨rfl, hq⟩
       clear hnv
       have hG2 : RowIs wb w.heap.size 35 #[.int .u32 (size : Int), .slice (some ⟨b2, o2, none⟩) cells.length cap] ∧ RowIs wb XX 57 C ∧ RowIs wb LX 3 LR := ⟨hGc.1.below hq hGc.1.lt, hGc.2.1.below hq hGc.2.1.lt, hGc.2.2.below hq hGc.2.2.lt⟩
       replace hbc := hbc.trans (hq.mono hbc.size)
       clear hGc hq
       have hGc := hG2
       clear hG2
       refine hK.out _ _ hGc ?_
       clear hK K
       refine take_N (i := 5) (v := ?_) (some 79) #[true, true, true, true, true, true, false, false, false, false, false, false, false, false, false, false, false, false, false, false] rfl rfl (by kernel_rfl) (by kernel_rfl) (by kernel_rfl) (by kernel_rfl) (fun _ _ _ h => h) hGc (Or.inl ⟨by rfl, ?_⟩) ?_
       rotate_left
       ·intro w_ hSw_; go_simp; try with_reducible rfl
       try simp only [Act.put, List.setIfInBounds_toArray, List.set_cons_zero, List.set_cons_succ]
       refine take_N (i := 6) (v := ?_) (some 80) #[true, true, true, true, true, true, true, false, false, false, false, false, false, false, false, false, false, false, false, false] rfl rfl (by kernel_rfl) (by kernel_rfl) (by kernel_rfl) (by kernel_rfl) (fun _ _ _ h => h) hGc (Or.inl ⟨by rfl, ?_⟩) ?_
       rotate_left
       ·intro w_ hSw_; go_simp; try with_reducible rfl
       try simp only [Act.put, List.setIfInBounds_toArray, List.set_cons_zero, List.set_cons_succ]
       refine take_N (i := 7) (v := ?_) (some 81) #[true, true, true, true, true, true, true, true, false, false, false, false, false, false, false, false, false, false, false, false] rfl rfl (by kernel_rfl) (by kernel_rfl) (by kernel_rfl) (by kernel_rfl) (fun _ _ _ h => h) hGc (Or.inl ⟨by rfl, ?_⟩) ?_
       rotate_left
       ·intro w_ hSw_; go_simp; try with_reducible rfl
       try simp only [Act.put, List.setIfInBounds_toArray, List.set_cons_zero, List.set_cons_succ]
       refine take_N (i := 8) (v := .int .i64 rf) (some 82) #[true, true, true, true, true, true, true, true, true, false, false, false, false, false, false, false, false, false, false, false] rfl rfl (by kernel_rfl) (by kernel_rfl) (by kernel_rfl) (by kernel_rfl) (fun _ _ _ h => h) hGc (Or.inl ⟨by rfl, ?_⟩) ?_
       ·intro w_ hSw_; exact (by have hcc : w_.cell? ⟨XX, 2, none⟩ = some (.int .i64 rf) := (by rw [RowIs.cell hSw_.2.1]; exact c2); go_simp)
       try simp only [Act.put, List.setIfInBounds_toArray, List.set_cons_zero, List.set_cons_succ]
       refine take_N (i := 9) (v := ?_) (some 83) #[true, true, true, true, true, true, true, true, true, true, false, false, false, false, false, false, false, false, false, false] rfl rfl (by kernel_rfl) (by kernel_rfl) (by kernel_rfl) (by kernel_rfl) (fun _ _ _ h => h) hGc (Or.inl ⟨by rfl, ?_⟩) ?_
       rotate_left
       ·intro w_ hSw_; go_simp; try with_reducible rfl
       try simp only [Act.put, List.setIfInBounds_toArray, List.set_cons_zero, List.set_cons_succ]
       refine take_N (i := 10) (v := ?_) (some 84) #[true, true, true, true, true, true, true, true, true, true, true, false, false, false, false, false, false, false, false, false] rfl rfl (by kernel_rfl) (by kernel_rfl) (by kernel_rfl) (by kernel_rfl) (fun _ _ _ h => h) hGc (Or.inl ⟨by rfl, ?_⟩) ?_
       rotate_left
       ·intro w_ hSw_; go_simp; try with_reducible rfl
       try simp only [Act.put, List.setIfInBounds_toArray, List.set_cons_zero, List.set_cons_succ]
       refine take_N (i := 11) (v := ?_) (some 85) #[true, true, true, true, true, true, true, true, true, true, true, true, false, false, false, false, false, false, false, false] rfl rfl (by kernel_rfl) (by kernel_rfl) (by kernel_rfl) (by kernel_rfl) (fun _ _ _ h => h) hGc (Or.inl ⟨by rfl, ?_⟩) ?_
       rotate_left
       ·intro w_ hSw_; go_simp; try with_reducible rfl
       try simp only [Act.put, List.setIfInBounds_toArray, List.set_cons_zero, List.set_cons_succ]
       refine take_N (i := 12) (v := .int .i64 lv) (some 86) #[true, true, true, true, true, true, true, true, true, true, true, true, true, false, false, false, false, false, false, false] rfl rfl (by kernel_rfl) (by kernel_rfl) (by kernel_rfl) (by kernel_rfl) (fun _ _ _ h => h) hGc (Or.inl ⟨by rfl, ?_⟩) ?_
       ·intro w_ hSw_; exact (by have hcc : w_.cell? ⟨LX, t, none⟩ = some (.int .i64 lv) := (by rw [RowIs.cell hSw_.2.2]; exact hlr); go_simp)
       try simp only [Act.put, List.setIfInBounds_toArray, List.set_cons_zero, List.set_cons_succ]
       refine take_N (i := 13) (v := ?_) (some 87) #[true, true, true, true, true, true, true, true, true, true, true, true, true, true, false, false, false, false, false, false] rfl rfl (by kernel_rfl) (by kernel_rfl) (by kernel_rfl) (by kernel_rfl) (fun _ _ _ h => h) hGc (Or.inl ⟨by rfl, ?_⟩) ?_
       rotate_left
       ·intro w_ hSw_; go_simp; try with_reducible rfl
       try simp only [Act.put, List.setIfInBounds_toArray, List.set_cons_zero, List.set_cons_succ]
       refine take_N (i := 14) (v := ?_) (some 88) #[true, true, true, true, true, true, true, true, true, true, true, true, true, true, true, false, false, false, false, false] rfl rfl (by kernel_rfl) (by kernel_rfl) (by kernel_rfl) (by kernel_rfl) (fun _ _ _ h => h) hGc (Or.inl ⟨by rfl, ?_⟩) ?_
       rotate_left
       ·intro w_ hSw_; go_simp; try with_reducible rfl
       try simp only [Act.put, List.setIfInBounds_toArray, List.set_cons_zero, List.set_cons_succ]
       refine take_N (i := 15) (v := ?_) (some 89) #[true, true, true, true, true, true, true, true, true, true, true, true, true, true, true, true, false, false, false, false] rfl rfl (by kernel_rfl) (by kernel_rfl) (by kernel_rfl) (by kernel_rfl) (fun _ _ _ h => h) hGc (Or.inl ⟨by rfl, ?_⟩) ?_
       rotate_left
       ·intro w_ hSw_; go_simp; try with_reducible rfl
       try simp only [Act.put, List.setIfInBounds_toArray, List.set_cons_zero, List.set_cons_succ]
       refine take_N (i := 16) (v := ?_) (some 90) #[true, true, true, true, true, true, true, true, true, true, true, true, true, true, true, true, true, false, false, false] rfl rfl (by kernel_rfl) (by kernel_rfl) (by kernel_rfl) (by kernel_rfl) (fun _ _ _ h => h) hGc (Or.inl ⟨by rfl, ?_⟩) ?_
       rotate_left
       ·intro w_ hSw_; go_simp; try with_reducible rfl
       try simp only [Act.put, List.setIfInBounds_toArray, List.set_cons_zero, List.set_cons_succ]
       refine take_N (i := 17) (v := .int .i64 rf) (some 91) #[true, true, true, true, true, true, true, true, true, true, true, true, true, true, true, true, true, true, false, false] rfl rfl (by kernel_rfl) (by kernel_rfl) (by kernel_rfl) (by kernel_rfl) (fun _ _ _ h => h) hGc (Or.inl ⟨by rfl, ?_⟩) ?_
       ·intro w_ hSw_; exact (by have hcc : w_.cell? ⟨XX, 2, none⟩ = some (.int .i64 rf) := (by rw [RowIs.cell hSw_.2.1]; exact c2); go_simp)
       try simp only [Act.put, List.setIfInBounds_toArray, List.set_cons_zero, List.set_cons_succ]
       refine take_N (i := 18) (v := ?_) (some 92) #[true, true, true, true, true, true, true, true, true, true, true, true, true, true, true, true, true, true, true, false] rfl rfl (by kernel_rfl) (by kernel_rfl) (by kernel_rfl) (by kernel_rfl) (fun _ _ _ h => h) hGc (Or.inl ⟨by rfl, ?_⟩) ?_
       rotate_left
       ·intro w_ hSw_; go_simp; try with_reducible rfl
       try simp only [Act.put, List.setIfInBounds_toArray, List.set_cons_zero, List.set_cons_succ]
       refine take_N (i := 19) (v := ?_) (some 93) #[true, true, true, true, true, true, true, true, true, true, true, true, true, true, true, true, true, true, true, true] rfl rfl (by kernel_rfl) (by kernel_rfl) (by kernel_rfl) (by kernel_rfl) (fun _ _ _ h => h) hGc (Or.inl ⟨by rfl, ?_⟩) ?_
       rotate_left
       ·intro w_ hSw_; go_simp; try with_reducible rfl
       try simp only [Act.put, List.setIfInBounds_toArray, List.set_cons_zero, List.set_cons_succ]
       refine wpAnyH_done (by kernel_rfl) ?_ _
       clear hHeld hnc htc
       clear hGc
       go_wp2_with fail
       go_ret
       exact ⟨.inr ⟨HE.out, rfl⟩, hbc⟩
      ·have m2 : decide ((16777216 : Int) < rf) = false := decide_eq_false hl2
       have HE := Lib.hid (show ∀ i (hi : i < cells.length), i < t + 1 → toldN cells cells[i].node = 0 ∧ (ledC cells cells[i].num : Int) ≤ cells[i].refs ∧ cells[i].refs ≤ 16777216 from fun i hi hit => by
        rcases Nat.lt_or_ge i t with q | q
        ·exact HGD.out i hi q
        ·obtain rfl : i = t := by omega
         rw [← HCC.out, ← HTV.out, HLV.out, HRF.out]
         exact ⟨rfl, by omega, by omega⟩)
       refine wp_region_held_drew (S := fun w' => RowIs w' w.heap.size 35 #[.int .u32 (size : Int), .slice (some ⟨b2, o2, none⟩) cells.length cap] ∧ RowIs w' XX 57 C ∧ RowIs w' LX 3 LR) (by kernel_rfl) hGc (fun hHeld => ?_)
       generalize WB.drew = wv at *
       refine take_N (i := 0) (v := ?_) (some 74) #[true, false, false, false, false, false, false, false, false, false, false, false, false, false, false, false, false, false, false, false] rfl rfl (by kernel_rfl) (by kernel_rfl) (by kernel_rfl) (by kernel_rfl) (fun _ _ _ h => h) hGc (Or.inl ⟨by rfl, ?_⟩) ?_
       rotate_left
       ·intro w_ hSw_; go_simp; try with_reducible rfl
       try simp only [Act.put, List.setIfInBounds_toArray, List.set_cons_zero, List.set_cons_succ]
       refine take_N (i := 1) (v := .slice (some ⟨b2, o2, none⟩) cells.length cap) (some 75) #[true, true, false, false, false, false, false, false, false, false, false, false, false, false, false, false, false, false, false, false] rfl rfl (by kernel_rfl) (by kernel_rfl) (by kernel_rfl) (by kernel_rfl) (fun _ _ _ h => h) hGc (Or.inl ⟨by rfl, ?_⟩) ?_
       ·intro w_ hSw_; exact (by have hcc : w_.cell? ⟨w.heap.size, 1, none⟩ = some (.slice (some ⟨b2, o2, none⟩) cells.length cap) := (by rw [RowIs.cell hSw_.1]; rfl); go_simp)
       try simp only [Act.put, List.setIfInBounds_toArray, List.set_cons_zero, List.set_cons_succ]
       refine take_N (i := 2) (v := .agg C) (some 76) #[true, true, true, false, false, false, false, false, false, false, false, false, false, false, false, false, false, false, false, false] rfl rfl (by kernel_rfl) (by kernel_rfl) (by kernel_rfl) (by kernel_rfl) (fun _ _ _ h => h) hGc (Or.inl ⟨by rfl, ?_⟩) ?_
       ·intro w_ hSw_; exact exec_load_row 57 _ (by rfl) XX (by rfl) 57 C (0, 0) _ hSw_.2.1 Tryz.underlying57 (by rfl) hksz2
       try simp only [Act.put, List.setIfInBounds_toArray, List.set_cons_zero, List.set_cons_succ]
       refine step_N (i := 3) #[true, true, true, true, false, false, false, false, false, false, false, false, false, false, false, false, false, false, false, false] rfl (by kernel_rfl) (by kernel_rfl) (fun K hK => ?_)
       rw [if_pos (by rfl)]
       go_simp
       rw [HC.out]
       refine (hnc _).mono ?_
       rintro e wa ⟨nv, rfl, ho, hq⟩
       rw [← HC.out]
       have hnv := ho.node
       clear ho
       have hG2 : RowIs wa w.heap.size 35 #[.int .u32 (size : Int), .slice (some ⟨b2, o2, none⟩) cells.length cap] ∧ RowIs wa XX 57 C ∧ RowIs wa LX 3 LR := ⟨hGc.1.below hq hGc.1.lt, hGc.2.1.below hq hGc.2.1.lt, hGc.2.2.below hq hGc.2.2.lt⟩
       replace hbc := hbc.trans (hq.mono hbc.size)
       clear hGc hq
       have hGc := hG2
       clear hG2
       refine hK.out _ _ hGc ?_
       clear hK K
       refine step_N (i := 4) #[true, true, true, true, true, false, false, false, false, false, false, false, false, false, false, false, false, false, false, false] rfl (by kernel_rfl) (by kernel_rfl) (fun K hK => ?_)
       rw [if_pos (by rfl)]
       go_simp
       refine (htc nv _ hbc hnv).mono ?_
       rintro e wb ⟨rfl, hq⟩
       clear hnv
       have hG2 : RowIs wb w.heap.size 35 #[.int .u32 (size : Int), .slice (some ⟨b2, o2, none⟩) cells.length cap] ∧ RowIs wb XX 57 C ∧ RowIs wb LX 3 LR := ⟨hGc.1.below hq hGc.1.lt, hGc.2.1.below hq hGc.2.1.lt, hGc.2.2.below hq hGc.2.2.lt⟩
       replace hbc := hbc.trans (hq.mono hbc.size)
       clear hGc hq
       have hGc := hG2
       clear hG2
       refine hK.out _ _ hGc ?_
       clear hK K
       refine take_N (i := 5) (v := ?_) (some 79) #[true, true, true, true, true, true, false, false, false, false, false, false, false, false, false, false, false, false, false, false] rfl rfl (by kernel_rfl) (by kernel_rfl) (by kernel_rfl) (by kernel_rfl) (fun _ _ _ h => h) hGc (Or.inl ⟨by rfl, ?_⟩) ?_
       rotate_left
       ·intro w_ hSw_; go_simp; try with_reducible rfl
       try simp only [Act.put, List.setIfInBounds_toArray, List.set_cons_zero, List.set_cons_succ]
       refine take_N (i := 6) (v := ?_) (some 80) #[true, true, true, true, true, true, true, false, false, false, false, false, false, false, false, false, false, false, false, false] rfl rfl (by kernel_rfl) (by kernel_rfl) (by kernel_rfl) (by kernel_rfl) (fun _ _ _ h => h) hGc (Or.inl ⟨by rfl, ?_⟩) ?_
       rotate_left
       ·intro w_ hSw_; go_simp; try with_reducible rfl
       try simp only [Act.put, List.setIfInBounds_toArray, List.set_cons_zero, List.set_cons_succ]
       refine take_N (i := 7) (v := ?_) (some 81) #[true, true, true, true, true, true, true, true, false, false, false, false, false, false, false, false, false, false, false, false] rfl rfl (by kernel_rfl) (by kernel_rfl) (by kernel_rfl) (by kernel_rfl) (fun _ _ _ h => h) hGc (Or.inl ⟨by rfl, ?_⟩) ?_
       rotate_left
       ·intro w_ hSw_; go_simp; try with_reducible rfl
       try simp only [Act.put, List.setIfInBounds_toArray, List.set_cons_zero, List.set_cons_succ]
       refine take_N (i := 8) (v := .int .i64 rf) (some 82) #[true, true, true, true, true, true, true, true, true, false, false, false, false, false, false, false, false, false, false, false] rfl rfl (by kernel_rfl) (by kernel_rfl) (by kernel_rfl) (by kernel_rfl) (fun _ _ _ h => h) hGc (Or.inl ⟨by rfl, ?_⟩) ?_
       ·intro w_ hSw_; exact (by have hcc : w_.cell? ⟨XX, 2, none⟩ = some (.int .i64 rf) := (by rw [RowIs.cell hSw_.2.1]; exact c2); go_simp)
       try simp only [Act.put, List.setIfInBounds_toArray, List.set_cons_zero, List.set_cons_succ]
       refine take_N (i := 9) (v := ?_) (some 83) #[true, true, true, true, true, true, true, true, true, true, false, false, false, false, false, false, false, false, false, false] rfl rfl (by kernel_rfl) (by kernel_rfl) (by kernel_rfl) (by kernel_rfl) (fun _ _ _ h => h) hGc (Or.inl ⟨by rfl, ?_⟩) ?_
       rotate_left
       ·intro w_ hSw_; go_simp; try with_reducible rfl
       try simp only [Act.put, List.setIfInBounds_toArray, List.set_cons_zero, List.set_cons_succ]
       refine take_N (i := 10) (v := ?_) (some 84) #[true, true, true, true, true, true, true, true, true, true, true, false, false, false, false, false, false, false, false, false] rfl rfl (by kernel_rfl) (by kernel_rfl) (by kernel_rfl) (by kernel_rfl) (fun _ _ _ h => h) hGc (Or.inl ⟨by rfl, ?_⟩) ?_
       rotate_left
       ·intro w_ hSw_; go_simp; try with_reducible rfl
       try simp only [Act.put, List.setIfInBounds_toArray, List.set_cons_zero, List.set_cons_succ]
       refine take_N (i := 11) (v := ?_) (some 85) #[true, true, true, true, true, true, true, true, true, true, true, true, false, false, false, false, false, false, false, false] rfl rfl (by kernel_rfl) (by kernel_rfl) (by kernel_rfl) (by kernel_rfl) (fun _ _ _ h => h) hGc (Or.inl ⟨by rfl, ?_⟩) ?_
       rotate_left
       ·intro w_ hSw_; go_simp; try with_reducible rfl
       try simp only [Act.put, List.setIfInBounds_toArray, List.set_cons_zero, List.set_cons_succ]
       refine take_N (i := 12) (v := .int .i64 lv) (some 86) #[true, true, true, true, true, true, true, true, true, true, true, true, true, false, false, false, false, false, false, false] rfl rfl (by kernel_rfl) (by kernel_rfl) (by kernel_rfl) (by kernel_rfl) (fun _ _ _ h => h) hGc (Or.inl ⟨by rfl, ?_⟩) ?_
       ·intro w_ hSw_; exact (by have hcc : w_.cell? ⟨LX, t, none⟩ = some (.int .i64 lv) := (by rw [RowIs.cell hSw_.2.2]; exact hlr); go_simp)
       try simp only [Act.put, List.setIfInBounds_toArray, List.set_cons_zero, List.set_cons_succ]
       refine take_N (i := 13) (v := ?_) (some 87) #[true, true, true, true, true, true, true, true, true, true, true, true, true, true, false, false, false, false, false, false] rfl rfl (by kernel_rfl) (by kernel_rfl) (by kernel_rfl) (by kernel_rfl) (fun _ _ _ h => h) hGc (Or.inl ⟨by rfl, ?_⟩) ?_
       rotate_left
       ·intro w_ hSw_; go_simp; try with_reducible rfl
       try simp only [Act.put, List.setIfInBounds_toArray, List.set_cons_zero, List.set_cons_succ]
       refine take_N (i := 14) (v := ?_) (some 88) #[true, true, true, true, true, true, true, true, true, true, true, true, true, true, true, false, false, false, false, false] rfl rfl (by kernel_rfl) (by kernel_rfl) (by kernel_rfl) (by kernel_rfl) (fun _ _ _ h => h) hGc (Or.inl ⟨by rfl, ?_⟩) ?_
       rotate_left
       ·intro w_ hSw_; go_simp; try with_reducible rfl
       try simp only [Act.put, List.setIfInBounds_toArray, List.set_cons_zero, List.set_cons_succ]
       refine take_N (i := 15) (v := ?_) (some 89) #[true, true, true, true, true, true, true, true, true, true, true, true, true, true, true, true, false, false, false, false] rfl rfl (by kernel_rfl) (by kernel_rfl) (by kernel_rfl) (by kernel_rfl) (fun _ _ _ h => h) hGc (Or.inl ⟨by rfl, ?_⟩) ?_
       rotate_left
       ·intro w_ hSw_; go_simp; try with_reducible rfl
       try simp only [Act.put, List.setIfInBounds_toArray, List.set_cons_zero, List.set_cons_succ]
       refine take_N (i := 16) (v := ?_) (some 90) #[true, true, true, true, true, true, true, true, true, true, true, true, true, true, true, true, true, false, false, false] rfl rfl (by kernel_rfl) (by kernel_rfl) (by kernel_rfl) (by kernel_rfl) (fun _ _ _ h => h) hGc (Or.inl ⟨by rfl, ?_⟩) ?_
       rotate_left
       ·intro w_ hSw_; go_simp; try with_reducible rfl
       try simp only [Act.put, List.setIfInBounds_toArray, List.set_cons_zero, List.set_cons_succ]
       refine take_N (i := 17) (v := .int .i64 rf) (some 91) #[true, true, true, true, true, true, true, true, true, true, true, true, true, true, true, true, true, true, false, false] rfl rfl (by kernel_rfl) (by kernel_rfl) (by kernel_rfl) (by kernel_rfl) (fun _ _ _ h => h) hGc (Or.inl ⟨by rfl, ?_⟩) ?_
       ·intro w_ hSw_; exact (by have hcc : w_.cell? ⟨XX, 2, none⟩ = some (.int .i64 rf) := (by rw [RowIs.cell hSw_.2.1]; exact c2); go_simp)
       try simp only [Act.put, List.setIfInBounds_toArray, List.set_cons_zero, List.set_cons_succ]
       refine take_N (i := 18) (v := ?_) (some 92) #[true, true, true, true, true, true, true, true, true, true, true, true, true, true, true, true, true, true, true, false] rfl rfl (by kernel_rfl) (by kernel_rfl) (by kernel_rfl) (by kernel_rfl) (fun _ _ _ h => h) hGc (Or.inl ⟨by rfl, ?_⟩) ?_
       rotate_left
       ·intro w_ hSw_; go_simp; try with_reducible rfl
       try simp only [Act.put, List.setIfInBounds_toArray, List.set_cons_zero, List.set_cons_succ]
       refine take_N (i := 19) (v := ?_) (some 93) #[true, true, true, true, true, true, true, true, true, true, true, true, true, true, true, true, true, true, true, true] rfl rfl (by kernel_rfl) (by kernel_rfl) (by kernel_rfl) (by kernel_rfl) (fun _ _ _ h => h) hGc (Or.inl ⟨by rfl, ?_⟩) ?_
       rotate_left
       ·intro w_ hSw_; go_simp; try with_reducible rfl
       try simp only [Act.put, List.setIfInBounds_toArray, List.set_cons_zero, List.set_cons_succ]
       refine wpAnyH_done (by kernel_rfl) ?_ _
       clear hHeld hnc htc
       have HQ := Lib.hid (And.intro hbc hGc)
       clear hbc hGc
       go_wp2_with fail
       go_roundw
       case rel => exact ⟨t + 1, by omega, by go_num, HE.out, HQ.out.1, HQ.out.2.1, HQ.out.2.2.2⟩
       case measure => simp [intOf]; omega
     ·have m0 : (TV == 0) = false := by simpa using hT
      have m1 : (TV != 0) = true := by simpa using hT
      have HE := Lib.hid (HNOT.out (fun q => hT q.1))
      refine wp_region_held_drew (S := fun w' => RowIs w' w.heap.size 35 #[.int .u32 (size : Int), .slice (some ⟨b2, o2, none⟩) cells.length cap] ∧ RowIs w' XX 57 C ∧ RowIs w' LX 3 LR) (by kernel_rfl) hGc (fun hHeld => ?_)
      generalize WB.drew = wv at *
      refine take_N (i := 0) (v := ?_) (some 74) #[true, false, false, false, false, false, false, false, false, false, false, false, false, false, false, false, false, false, false, false] rfl rfl (by kernel_rfl) (by kernel_rfl) (by kernel_rfl) (by kernel_rfl) (fun _ _ _ h => h) hGc (Or.inl ⟨by rfl, ?_⟩) ?_
      rotate_left
      ·intro w_ hSw_; go_simp; try with_reducible rfl
      try simp only [Act.put, List.setIfInBounds_toArray, List.set_cons_zero, List.set_cons_succ]
      refine take_N (i := 1) (v := .slice (some ⟨b2, o2, none⟩) cells.length cap) (some 75) #[true, true, false, false, false, false, false, false, false, false, false, false, false, false, false, false, false, false, false, false] rfl rfl (by kernel_rfl) (by kernel_rfl) (by kernel_rfl) (by kernel_rfl) (fun _ _ _ h => h) hGc (Or.inl ⟨by rfl, ?_⟩) ?_
      ·intro w_ hSw_; exact (by have hcc : w_.cell? ⟨w.heap.size, 1, none⟩ = some (.slice (some ⟨b2, o2, none⟩) cells.length cap) := (by rw [RowIs.cell hSw_.1]; rfl); go_simp)
      try simp only [Act.put, List.setIfInBounds_toArray, List.set_cons_zero, List.set_cons_succ]
      refine take_N (i := 2) (v := .agg C) (some 76) #[true, true, true, false, false, false, false, false, false, false, false, false, false, false, false, false, false, false, false, false] rfl rfl (by kernel_rfl) (by kernel_rfl) (by kernel_rfl) (by kernel_rfl) (fun _ _ _ h => h) hGc (Or.inl ⟨by rfl, ?_⟩) ?_
      ·intro w_ hSw_; exact exec_load_row 57 _ (by rfl) XX (by rfl) 57 C (0, 0) _ hSw_.2.1 Tryz.underlying57 (by rfl) hksz2
      try simp only [Act.put, List.setIfInBounds_toArray, List.set_cons_zero, List.set_cons_succ]
      refine step_N (i := 3) #[true, true, true, true, false, false, false, false, false, false, false, false, false, false, false, false, false, false, false, false] rfl (by kernel_rfl) (by kernel_rfl) (fun K hK => ?_)
      rw [if_pos (by rfl)]
      go_simp
      rw [HC.out]
      refine (hnc _).mono ?_
      rintro e wa ⟨nv, rfl, ho, hq⟩
      rw [← HC.out]
      have hnv := ho.node
      clear ho
      have hG2 : RowIs wa w.heap.size 35 #[.int .u32 (size : Int), .slice (some ⟨b2, o2, none⟩) cells.length cap] ∧ RowIs wa XX 57 C ∧ RowIs wa LX 3 LR := ⟨hGc.1.below hq hGc.1.lt, hGc.2.1.below hq hGc.2.1.lt, hGc.2.2.below hq hGc.2.2.lt⟩
      replace hbc := hbc.trans (hq.mono hbc.size)
      clear hGc hq
      have hGc := hG2
      clear hG2
      refine hK.out _ _ hGc ?_
      clear hK K
      refine step_N (i := 4) #[true, true, true, true, true, false, false, false, false, false, false, false, false, false, false, false, false, false, false, false] rfl (by kernel_rfl) (by kernel_rfl) (fun K hK => ?_)
      rw [if_pos (by rfl)]
      go_simp
      refine (htc nv _ hbc hnv).mono ?_
      rintro e wb ⟨rfl, hq⟩
      clear hnv
      have hG2 : RowIs wb w.heap.size 35 #[.int .u32 (size : Int), .slice (some ⟨b2, o2, none⟩) cells.length cap] ∧ RowIs wb XX 57 C ∧ RowIs wb LX 3 LR := ⟨hGc.1.below hq hGc.1.lt, hGc.2.1.below hq hGc.2.1.lt, hGc.2.2.below hq hGc.2.2.lt⟩
      replace hbc := hbc.trans (hq.mono hbc.size)
      clear hGc hq
      have hGc := hG2
      clear hG2
      refine hK.out _ _ hGc ?_
      clear hK K
      refine take_N (i := 5) (v := ?_) (some 79) #[true, true, true, true, true, true, false, false, false, false, false, false, false, false, false, false, false, false, false, false] rfl rfl (by kernel_rfl) (by kernel_rfl) (by kernel_rfl) (by kernel_rfl) (fun _ _ _ h => h) hGc (Or.inl ⟨by rfl, ?_⟩) ?_
      rotate_left
      ·intro w_ hSw_; go_simp; try with_reducible rfl
      try simp only [Act.put, List.setIfInBounds_toArray, List.set_cons_zero, List.set_cons_succ]
      refine take_N (i := 6) (v := ?_) (some 80) #[true, true, true, true, true, true, true, false, false, false, false, false, false, false, false, false, false, false, false, false] rfl rfl (by kernel_rfl) (by kernel_rfl) (by kernel_rfl) (by kernel_rfl) (fun _ _ _ h => h) hGc (Or.inl ⟨by rfl, ?_⟩) ?_
      rotate_left
      ·intro w_ hSw_; go_simp; try with_reducible rfl
      try simp only [Act.put, List.setIfInBounds_toArray, List.set_cons_zero, List.set_cons_succ]
      refine take_N (i := 7) (v := undef) (some 81) #[true, true, true, true, true, true, true, true, false, false, false, false, false, false, false, false, false, false, false, false] rfl rfl (by kernel_rfl) (by kernel_rfl) (by kernel_rfl) (by kernel_rfl) (fun _ _ _ h => h) hGc (Or.inr ⟨by rfl, rfl⟩) ?_
      try simp only [Act.put, List.setIfInBounds_toArray, List.set_cons_zero, List.set_cons_succ]
      refine take_N (i := 8) (v := undef) (some 82) #[true, true, true, true, true, true, true, true, true, false, false, false, false, false, false, false, false, false, false, false] rfl rfl (by kernel_rfl) (by kernel_rfl) (by kernel_rfl) (by kernel_rfl) (fun _ _ _ h => h) hGc (Or.inr ⟨by rfl, rfl⟩) ?_
      try simp only [Act.put, List.setIfInBounds_toArray, List.set_cons_zero, List.set_cons_succ]
      refine take_N (i := 9) (v := undef) (some 83) #[true, true, true, true, true, true, true, true, true, true, false, false, false, false, false, false, false, false, false, false] rfl rfl (by kernel_rfl) (by kernel_rfl) (by kernel_rfl) (by kernel_rfl) (fun _ _ _ h => h) hGc (Or.inr ⟨by rfl, rfl⟩) ?_
      try simp only [Act.put, List.setIfInBounds_toArray, List.set_cons_zero, List.set_cons_succ]
      refine take_N (i := 10) (v := undef) (some 84) #[true, true, true, true, true, true, true, true, true, true, true, false, false, false, false, false, false, false, false, false] rfl rfl (by kernel_rfl) (by kernel_rfl) (by kernel_rfl) (by kernel_rfl) (fun _ _ _ h => h) hGc (Or.inr ⟨by rfl, rfl⟩) ?_
      try simp only [Act.put, List.setIfInBounds_toArray, List.set_cons_zero, List.set_cons_succ]
      refine take_N (i := 11) (v := undef) (some 85) #[true, true, true, true, true, true, true, true, true, true, true, true, false, false, false, false, false, false, false, false] rfl rfl (by kernel_rfl) (by kernel_rfl) (by kernel_rfl) (by kernel_rfl) (fun _ _ _ h => h) hGc (Or.inr ⟨by rfl, rfl⟩) ?_
      try simp only [Act.put, List.setIfInBounds_toArray, List.set_cons_zero, List.set_cons_succ]
      refine take_N (i := 12) (v := undef) (some 86) #[true, true, true, true, true, true, true, true, true, true, true, true, true, false, false, false, false, false, false, false] rfl rfl (by kernel_rfl) (by kernel_rfl) (by kernel_rfl) (by kernel_rfl) (fun _ _ _ h => h) hGc (Or.inr ⟨by rfl, rfl⟩) ?_
      try simp only [Act.put, List.setIfInBounds_toArray, List.set_cons_zero, List.set_cons_succ]
      refine take_N (i := 13) (v := undef) (some 87) #[true, true, true, true, true, true, true, true, true, true, true, true, true, true, false, false, false, false, false, false] rfl rfl (by kernel_rfl) (by kernel_rfl) (by kernel_rfl) (by kernel_rfl) (fun _ _ _ h => h) hGc (Or.inr ⟨by rfl, rfl⟩) ?_
      try simp only [Act.put, List.setIfInBounds_toArray, List.set_cons_zero, List.set_cons_succ]
      refine take_N (i := 14) (v := ?_) (some 88) #[true, true, true, true, true, true, true, true, true, true, true, true, true, true, true, false, false, false, false, false] rfl rfl (by kernel_rfl) (by kernel_rfl) (by kernel_rfl) (by kernel_rfl) (fun _ _ _ h => h) hGc (Or.inl ⟨by rfl, ?_⟩) ?_
      rotate_left
      ·intro w_ hSw_; go_simp; try with_reducible rfl
      try simp only [Act.put, List.setIfInBounds_toArray, List.set_cons_zero, List.set_cons_succ]
      refine take_N (i := 15) (v := ?_) (some 89) #[true, true, true, true, true, true, true, true, true, true, true, true, true, true, true, true, false, false, false, false] rfl rfl (by kernel_rfl) (by kernel_rfl) (by kernel_rfl) (by kernel_rfl) (fun _ _ _ h => h) hGc (Or.inl ⟨by rfl, ?_⟩) ?_
      rotate_left
      ·intro w_ hSw_; go_simp; try with_reducible rfl
      try simp only [Act.put, List.setIfInBounds_toArray, List.set_cons_zero, List.set_cons_succ]
      refine take_N (i := 16) (v := undef) (some 90) #[true, true, true, true, true, true, true, true, true, true, true, true, true, true, true, true, true, false, false, false] rfl rfl (by kernel_rfl) (by kernel_rfl) (by kernel_rfl) (by kernel_rfl) (fun _ _ _ h => h) hGc (Or.inr ⟨by rfl, rfl⟩) ?_
      try simp only [Act.put, List.setIfInBounds_toArray, List.set_cons_zero, List.set_cons_succ]
      refine take_N (i := 17) (v := undef) (some 91) #[true, true, true, true, true, true, true, true, true, true, true, true, true, true, true, true, true, true, false, false] rfl rfl (by kernel_rfl) (by kernel_rfl) (by kernel_rfl) (by kernel_rfl) (fun _ _ _ h => h) hGc (Or.inr ⟨by rfl, rfl⟩) ?_
      try simp only [Act.put, List.setIfInBounds_toArray, List.set_cons_zero, List.set_cons_succ]
      refine take_N (i := 18) (v := undef) (some 92) #[true, true, true, true, true, true, true, true, true, true, true, true, true, true, true, true, true, true, true, false] rfl rfl (by kernel_rfl) (by kernel_rfl) (by kernel_rfl) (by kernel_rfl) (fun _ _ _ h => h) hGc (Or.inr ⟨by rfl, rfl⟩) ?_
      try simp only [Act.put, List.setIfInBounds_toArray, List.set_cons_zero, List.set_cons_succ]
      refine take_N (i := 19) (v := ?_) (some 93) #[true, true, true, true, true, true, true, true, true, true, true, true, true, true, true, true, true, true, true, true] rfl rfl (by kernel_rfl) (by kernel_rfl) (by kernel_rfl) (by kernel_rfl) (fun _ _ _ h => h) hGc (Or.inl ⟨by rfl, ?_⟩) ?_
      rotate_left
      ·intro w_ hSw_; go_simp; try with_reducible rfl
      try simp only [Act.put, List.setIfInBounds_toArray, List.set_cons_zero, List.set_cons_succ]
      refine wpAnyH_done (by kernel_rfl) ?_ _
      clear hHeld hnc htc
      clear hGc
      go_wp2_with fail
      go_ret
      exact ⟨.inr ⟨HE.out, rfl⟩, hbc⟩
    ·have htl : t = cells.length := by omega
     subst htl
     have j2 : ¬ (cells.length : Int) < (cells.length : Int) := by omega
     have hR : RightH ⟨size, cells⟩ := ⟨HO.out.lo, HO.out.hi, HO.out.ok, HO.out.asc, fun c hc => by
      obtain ⟨i, hi, rfl⟩ := List.getElem_of_mem hc
      exact (hgd i hi hi).1, fun c hc => by
      obtain ⟨i, hi, rfl⟩ := List.getElem_of_mem hc
      exact (hgd i hi hi).2.1, fun c hc => by
      obtain ⟨i, hi, rfl⟩ := List.getElem_of_mem hc
      exact (hgd i hi hi).2.2⟩
     have HR := Lib.hid hR
     clear hR hgd hH hL
     go_wp2_with fail
     go_ret
     exact ⟨.inl ⟨HR.out, rfl⟩, hb⟩

end Go.Proofs.YtimkklaidodkdaaGreatDoor
