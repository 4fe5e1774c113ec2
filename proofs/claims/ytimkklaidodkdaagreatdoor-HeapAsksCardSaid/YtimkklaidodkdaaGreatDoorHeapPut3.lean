/- store.put: walked. -/
/- heap.Put: walked. -/
import Derived.Test.YtimkklaidodkdaaGreatDoorHeapPutP
import Derived.RegionTactic
import Derived.BigRegion
import Derived.Test.YtimkklaidodkdaaGreatDoorKit
namespace Go.Proofs.YtimkklaidodkdaaGreatDoor
open Go.RowKit

set_option maxRecDepth 100000 in
set_option maxHeartbeats 12800000 in
theorem sput_calls (B S : Nat) (vs : Value) (L : List CellM) (h : HeapD) (n : NodeD) (v : Value) (w : World) (hst : StoreAt B w S h.size vs L) (hr : RightH h) (hLd : L.map CellM.d = h.cells) (hLh : ∀ c ∈ L, c.hash = c.d.hash) (hn : NodeOk B w v n) (hfit : fitN n) (hz : n.kids.length + n.vols.length ≤ 1048576) :
  Calls Tryz.prog 46 #[.pointer (some ⟨S, 0, none⟩), v] w (PutPost B S h n w) := by
 obtain ⟨p1, c1, p2, c2, p3, c3, rfl⟩ := (hn.at hst.hB).shapeN
 have hwf : n.wf := (hn.at hst.hB).wf
 have hLn : L.length ≤ 65536 := by rw [← List.length_map (f := CellM.d), hLd]; exact hr.okH.len
 obtain ⟨W0, hW0⟩ : ∃ W0, W0 = w.alloc (.cells #[.int .u8 (n.kind : Int), .slice p1 n.items.length c1, .slice p2 n.kids.length c2, .slice p3 n.vols.length c3] 28) := ⟨_, rfl⟩
 obtain ⟨W1, hW1⟩ : ∃ W1, W1 = W0.alloc (.cells (kidV (kidH 0 zeroH)).toArray 38) := ⟨_, rfl⟩
 have hN0 : RowIs W0 w.heap.size 28 #[.int .u8 (n.kind : Int), .slice p1 n.items.length c1, .slice p2 n.kids.length c2, .slice p3 n.vols.length c3] := by rw [hW0]; exact RowIs.new w _ _
 have hN1 : RowIs W1 w.heap.size 28 #[.int .u8 (n.kind : Int), .slice p1 n.items.length c1, .slice p2 n.kids.length c2, .slice p3 n.vols.length c3] := by rw [hW1]; exact hN0.alloc _
 have hA1 : RowIs W1 W0.heap.size 38 (kidV (kidH 0 zeroH)).toArray := by rw [hW1]; exact RowIs.new W0 _ _
 have hb1 : Below w.heap.size w W1 := by rw [hW1, hW0]; exact ((Below.refl _ _).alloc (Nat.le_refl _) _).alloc (by simp) _
 have hst1 := hst.below hb1 (Nat.le_refl _)
 have hk1 : Keep B w W1 := Keep.of hb1
 have hn1 := hn.keep hk1 hst.hB
 have hszN : (Tryz.prog.info? 28).map (·.size) = some (#[.int .u8 (n.kind : Int), .slice p1 n.items.length c1, .slice p2 n.kids.length c2, .slice p3 n.vols.length c3] : Array Value).size := by kernel_rfl
 have hkz : ((kidV (kidH 0 zeroH)).toArray : Array Value).size = 34 := rfl
 have hszK : ∀ C : Array Value, C.size = 34 → (Tryz.prog.info? 38).map (·.size) = some C.size := fun C hC => by rw [hC]; kernel_rfl
 have henc := encode_calls W1.heap.size _ n W1 (hn1.at hst1.hB) (Nat.le_refl _) hfit
 have HW0 := Lib.hid hW0
 have HW1 := Lib.hid hW1
 have HA := Lib.hid (And.intro hA1 (And.intro hst1 (And.intro hk1 hn1)))
 have HN0 := Lib.hid hn
 have hnods : ∀ c ∈ L, NodeOk B w (.agg c.nv.toArray) c.d.node := fun c hc => (hst.cells c hc).node
 have HH := Lib.hid (And.intro hr (And.intro hLd (And.intro hLh (And.intro hwf (And.intro hLn hnods)))))
 have hBw := hst.hB
 have hAlt := hA1.lt
 have hCA : w.heap.size ≤ W0.heap.size := by rw [HW0.out]; simp
 clear hW0 hW1 hN0 hA1 hb1 hst hst1 hk1 hn hn1 hr hLd hLh hwf hLn hnods
 have hCC : B ≤ w.heap.size := hBw
 generalize hCg : w.heap.size = C at *
 generalize hAg : W0.heap.size = A at *
 go_enter Tryz.func46, Tryz.ntmps46
 go_wp2_with (first | (refine wpList_world HW0.out ?_) | (refine wpList_world HW1.out ?_) | (refine wpList_load_row rfl 28 _ rfl C rfl 28 #[.int .u8 (n.kind : Int), .slice p1 n.items.length c1, .slice p2 n.kids.length c2, .slice p3 n.vols.length c3] (0, 0) _ hN1 Tryz.underlying28 rfl hszN ?_))
 refine henc.mono ?_
 rintro e w1 ⟨rfl, hb1⟩
 have hN2 := hN1.below hb1 hN1.lt
 have hA2 := HA.out.1.below hb1 HA.out.1.lt
 have hst2 := HA.out.2.1.below hb1 (Nat.le_refl _)
 have hk2 := HA.out.2.2.1.trans (Keep.of hb1)
 have hn2 := HA.out.2.2.2.keep (Keep.of (B := B) hb1) HA.out.2.1.hB
 obtain ⟨W2, hW2⟩ : ∃ W2, W2 = w1.alloc (.cells #[.string (strOf (encN n))] 9) := ⟨_, rfl⟩
 have hal := (Below.refl _ w1).alloc (Nat.le_refl _) (.cells #[.string (strOf (encN n))] 9)
 have hD3 := RowIs.new w1 9 #[.string (strOf (encN n))]
 rw [← hW2] at hal hD3
 have hN3 := hN2.below hal hN2.lt
 have hA3 := hA2.below hal hA2.lt
 have hst3 := hst2.below hal (Nat.le_refl _)
 have hk3 := hk2.trans (Keep.of hal)
 have hn3 := hn2.keep (Keep.of (B := B) hal) hst2.hB
 have hst3B := hst3.hB
 have hld := leads_calls B S h.size vs L n _ W2 hst3 (by rw [HH.out.2.1]; exact HH.out.1.asc) HH.out.2.2.2.2.1 HH.out.2.2.1 (hn3.at hst3.hB) hz
 rw [HH.out.2.1] at hld
 have HW2 := Lib.hid hW2
 have HI := Lib.hid (And.intro hA3 (And.intro hk3 (And.intro hn3 hD3)))
 clear henc hb1 hN1 hN2 hA2 hst2 hk2 hn2 hal hA3 hst3 hk3 hn3 hD3 hW2
 generalize hDg : w1.heap.size = D at *
 go_wp2_with (first | (refine wpList_world HW2.out ?_) | (refine wpList_load_row rfl 28 _ rfl C rfl 28 #[.int .u8 (n.kind : Int), .slice p1 n.items.length c1, .slice p2 n.kids.length c2, .slice p3 n.vols.length c3] (0, 0) _ hN3 Tryz.underlying28 rfl hszN ?_))
 refine hld.mono ?_
 rintro e w3 ⟨rfl, hst4, hk4⟩
 have hD4 := hk4.row HI.out.2.2.2 (.inr (by decide))
 have hA4 := hk4.row HI.out.1 (.inr (by decide))
 have hN4 := hk4.row hN3 (.inr (by decide))
 have hk4' := HI.out.2.1.trans hk4
 have hn4 := HI.out.2.2.1.keep hk4 hst3B
 obtain ⟨W4, hW4⟩ : ∃ W4, W4 = w3.alloc (.cells #[.int .i64 (checkN n), .int .i64 (toldN h.cells n)] 29) := ⟨_, rfl⟩
 have hal := (Below.refl _ w3).alloc (Nat.le_refl _) (.cells #[.int .i64 (checkN n), .int .i64 (toldN h.cells n)] 29)
 have hX5 := RowIs.new w3 29 #[.int .i64 (checkN n), .int .i64 (toldN h.cells n)]
 rw [← hW4] at hal hX5
 have hor := or2_calls _ _ _ W4 hX5
 have hN5 := hN4.below hal hN4.lt
 have hA5 := hA4.below hal hA4.lt
 have hD5 := hD4.below hal hD4.lt
 have hst5 := hst4.below hal (Nat.le_refl _)
 have hk5 := hk4'.trans (Keep.of hal)
 have hn5 := hn4.keep (Keep.of (B := B) hal) hst4.hB
 have HW4 := Lib.hid hW4
 clear hld hN3 hst4 hk4 hD4 hA4 hN4 hk4' hn4 hal hX5 hW4 HI
 have hfe : (if checkN n ≠ 0 then checkN n else toldN h.cells n) = firstE h n := rfl
 rw [hfe] at hor
 clear hfe
 go_wp2_with (refine wpList_world HW4.out ?_)
 refine hor.mono ?_
 rintro e w5 ⟨rfl, rfl⟩
 clear hor
 by_cases hE : firstE h n = 0
 ·rw [hE]
  have HE := Lib.hid hE
  clear hE
  have hdok := (newC_node h.cells n HH.out.2.2.2.1 (first_zero HE.out).1).1
  have hel : (strOf (encN n)).size ≤ 140737488351232 := by
   have : (encN n).length ≤ 512 := hdok.1
   show (encN n).toArray.size ≤ _
   rw [List.size_toArray]; omega
  have hsum := shasum_calls (strOf (encN n)) w5 hel
  have hse : sha (strOf (encN n)).data.toList = sha (encN n) := rfl
  rw [hse] at hsum
  have h32 : (sha (encN n)).length = 32 := sha_length _
  have hbk := built_kidH _ h32
  have hkl := kidV_length (k := kidH 0 (sha (encN n))) h32
  have hk1' := kidV_one (kidH 0 (sha (encN n)))
  have hks := kidH_set (freeC h.cells) (sha (encN n))
  have cd : w5.cell? ⟨D, 0, none⟩ = some (.string (strOf (encN n))) := by rw [hD5.cell]; rfl
  have HD := Lib.hid hdok
  clear hdok hel hse hks
  generalize hSH : sha (encN n) = SH at *
  have HBK := Lib.hid hbk
  have HSH := Lib.hid hSH
  clear hbk hSH
  generalize hBX : byteCells SH = BX at *
  have HBX := Lib.hid hBX
  clear hBX
  go_wp2_with fail
  refine hsum.mono ?_
  rintro e w6 ⟨rfl, hb6⟩
  have hN6 := hN5.below hb6 hN5.lt
  have hA6 := hA5.below hb6 hA5.lt
  have hD6 := hD5.below hb6 hD5.lt
  have hst6 := hst5.below hb6 (Nat.le_refl _)
  have hk6 := hk5.trans (Keep.of hb6)
  have hn6 := hn5.keep (Keep.of (B := B) hb6) hst5.hB
  clear hsum hb6 hN5 hA5 hD5 hst5 hk5 hn5 cd
  obtain ⟨W7, hW7⟩ : ∃ W7, W7 = w6.alloc (.cells (kidV (kidH 0 zeroH)).toArray 38) := ⟨_, rfl⟩
  obtain ⟨W8, hW8⟩ : ∃ W8, W8 = W7.setCells w6.heap.size 0 (kidV (kidH 0 SH)) := ⟨_, rfl⟩
  have hal := (Below.refl _ w6).alloc (Nat.le_refl _) (.cells (kidV (kidH 0 zeroH)).toArray 38)
  have hK7 := RowIs.new w6 38 (kidV (kidH 0 zeroH)).toArray
  rw [← hW7] at hal hK7
  have hK8 := store_row hK7 (D := (kidV (kidH 0 SH)).toArray) (by rw [List.size_toArray, hkl]; rfl)
  have hal8 := setCells_below w6.heap.size w6.heap.size (Nat.le_refl _) (kidV (kidH 0 SH)) 0 _ _ hal
  rw [show (kidV (kidH 0 SH)).toArray.toList = kidV (kidH 0 SH) from rfl, ← hW8] at hK8
  rw [← hW8] at hal8
  have hth := hK7.there 0 34 (by rw [hkz]; decide)
  have hsz := hszK (kidV (kidH 0 SH)).toArray (by rw [List.size_toArray, hkl])
  have hth' : W7.there w6.heap.size 0 (kidV (kidH 0 SH)).toArray.size := by rw [show (kidV (kidH 0 SH)).toArray.size = 34 from List.size_toArray.trans hkl]; exact hth
  have hN8 := hN6.below hal8 hN6.lt
  have hA8 := hA6.below hal8 hA6.lt
  have hD8 := hD6.below hal8 hD6.lt
  have hst8 := hst6.below hal8 (Nat.le_refl _)
  have hk8 := hk6.trans (Keep.of hal8)
  have hn8 := hn6.keep (Keep.of (B := B) hal8) hst6.hB
  have hKw : w.heap.size ≤ w6.heap.size := hk6.size
  have hAK0 := hA6.lt
  have HW7 := Lib.hid hW7
  have HW8 := Lib.hid hW8
  clear hal hal8 hN6 hA6 hD6 hst6 hk6 hn6 hW7 hW8 hK7 hth hkl
  have hAK : A < w6.heap.size := hAK0
  generalize hKP : w6.heap.size = KP at *
  obtain ⟨ask8, hS8, ho8⟩ := hst8.row
  obtain ⟨pp, cap, rfl⟩ := own_shape ho8
  have cs8 : W8.cell? ⟨S, 1, none⟩ = some (.slice pp L.length cap) := by rw [hS8.cell]; rfl
  have hidx := indexf_calls L _ D (strOf (encN n)) W8 (own_ptrs ho8) (fun c hc => (hst8.cells c hc).row) hD8 HH.out.2.2.2.2.1
  rw [HH.out.2.1, show (strOf (encN n)).data.toList = encN n from rfl] at hidx
  clear hS8 ho8
  have HI := Lib.hid (And.intro hN8 (And.intro hA8 (And.intro hD8 (And.intro hst8 (And.intro hk8 (And.intro hn8 hK8))))))
  clear hN8 hA8 hD8 hst8 hk8 hn8 hK8
  go_wp2_with (first | (refine wpList_build_eqH rfl 38 [(2, .tmp 36)] rfl (kidV (kidH 0 SH)).toArray (by exact HBK.out) ?_) | (refine wpList_world HW7.out ?_) | (refine wpList_store_mid rfl 38 _ _ rfl KP 0 (kidV (kidH 0 SH)).toArray rfl rfl hth' hsz hk1' ?_; refine wpList_world HW8.out ?_))
  refine hidx.mono ?_
  rintro e w9 ⟨r, rfl, hrr, k9, hw9⟩
  have hdr : Below W8.heap.size W8 w9 := by rw [hw9]; exact below_drewH _ W8 k9
  obtain ⟨hN8, hA8, hD8, hst8, hk8, hn8, hK8⟩ := HI.out
  have hN9 := hN8.below hdr hN8.lt
  have hA9 := hA8.below hdr hA8.lt
  have hD9 := hD8.below hdr hD8.lt
  have hK9 := hK8.below hdr hK8.lt
  have hst9 := hst8.below hdr (Nat.le_refl _)
  have hk9 := hk8.trans (Keep.of hdr)
  have hn9 := hn8.keep (Keep.of (B := B) hdr) hst8.hB
  clear hidx hN8 hA8 hD8 hst8 hk8 hn8 hK8 hdr HI hw9 cs8 hth' HW7 HW8
  rcases hrr with ⟨rfl, hsn⟩ | ⟨i, hi, rfl, hss⟩
  ·have hfr := sfree_calls B S h.size _ L w9 hst9 HH.out.2.2.2.2.1
   rw [HH.out.2.1] at hfr
   have HSN := Lib.hid hsn
   have HI := Lib.hid (And.intro hN9 (And.intro hA9 (And.intro hD9 (And.intro hk9 (And.intro hn9 hK9)))))
   have hB9 := hst9.hB
   clear hsn hN9 hA9 hD9 hst9 hk9 hn9 hK9
   go_wp2_with fail
   refine hfr.mono ?_
   rintro e w10 ⟨rfl, hst10, hkk⟩
   obtain ⟨hN9, hA9, hD9, hk9, hn9, hK9⟩ := HI.out
   have hN10 := hkk.row hN9 (.inr (by decide))
   have hA10 := hkk.row hA9 (.inr (by decide))
   have hD10 := hkk.row hD9 (.inr (by decide))
   have hK10 := hkk.row hK9 (.inr (by decide))
   have hk10 := hk9.trans hkk
   have hn10 := hn9.keep hkk hB9
   clear hfr hN9 hA9 hD9 hk9 hn9 hK9 HI hkk hB9
   by_cases hfs : freeC h.cells < h.size
   ·rw [decide_eq_true hfs]
    have HFS := Lib.hid hfs
    clear hfs
    have hck : checkN n = 0 := (first_zero HE.out).1
    have htl : toldN h.cells n = 0 := (first_zero HE.out).2
    have hshp : shapedN n = true := ((check_ok n).1 hck).1
    have hnd := (newC_node h.cells n HH.out.2.2.2.1 hck).2
    have hkn : (kidNums n).length ≤ 255 := by rw [← hnd]; exact kidNums_small _
    have hkt : ∀ k ∈ kidNums n, ∃ c ∈ h.cells, c.num = k := fun k hk => kid_there HH.out.1.asc hshp htl hk
    have hkc := kidNums_calls w10.heap.size _ n w10 (hn10.at hst10.hB) (Nat.le_refl _) hfit
    have hn10n := fun W (hk : Keep B w10 W) => (hn10.keep hk hst10.hB)
    have HI := Lib.hid (And.intro hN10 (And.intro hA10 (And.intro hD10 (And.intro hk10 (And.intro hn10n (And.intro hK10 hst10))))))
    have HKT := Lib.hid (And.intro hkt (And.intro hck htl))
    have hB10 := hst10.hB
    clear hck htl hshp hnd hkt hn10 hst10 hk10 hA10 hD10 hK10 hn10n
    generalize hks : kidNums n = ks at *
    have HKS := Lib.hid hks
    clear hks
    go_wp2_with (refine wpList_load_row rfl 28 _ rfl C rfl 28 #[.int .u8 (n.kind : Int), .slice p1 n.items.length c1, .slice p2 n.kids.length c2, .slice p3 n.vols.length c3] (0, 0) _ hN10 Tryz.underlying28 rfl hszN ?_)
    refine hkc.mono ?_
    rintro e w11 ⟨rk, rfl, hown, hb11⟩
    obtain ⟨pk, ckk, rfl⟩ := own_shape hown
    have hst11 := HI.out.2.2.2.2.2.2.below hb11 (Nat.le_refl _)
    have hk11 : Keep B w10 w11 := Keep.of hb11
    have hB11 := hst11.hB
    have HJ := Lib.hid (And.intro hk11 (And.intro hst11 hown))
    clear hkc hown hb11 hst11 hk11 hN10
    go_wp2_with fail
    go_loopg [70] ks.length (fun g s70 wx => ∃ t : Nat, t ≤ ks.length ∧ g = ks.length - t ∧ s70 = .int .i64 t ∧ (∀ i (hi : i < ks.length), i < t → fullK h.cells ks ks[i] = false) ∧ StoreAt B wx S h.size (.slice pp L.length cap) L ∧ Keep B w10 wx ∧ wx.ownsRow w10.heap.size 32 1 (.slice pk ks.length ckk) ks.length (numsV ks))
    case atStart => exact ⟨0, by omega, by omega, rfl, fun i _ h => by omega, HJ.out.2.1, HJ.out.1, HJ.out.2.2⟩
    case round =>
     obtain ⟨t, ht, rfl, rfl, hfk, hst, hkw, hownr⟩ := hrel
     by_cases hlt : t < ks.length
     ·have i2 : (t : Int) < (ks.length : Int) := by omega
      obtain ⟨q, hq, hat, hqn, hoth⟩ := atM_idx HH.out.2.1 HH.out.1.asc (HKT.out.1 ks[t] (List.getElem_mem hlt))
      obtain ⟨pz, cz, hpz, hcz⟩ := own_one hownr
      injection hpz with hpz hle1 hle2
      clear hle1 hle2
      obtain ⟨R2, hR2, hc2⟩ := hcz t hlt
      rw [← hpz] at hR2
      subst hR2
      have hcj : wr.cell? ⟨R2, t, none⟩ = some (.int .u32 (ks[t] : Int)) := by rw [hc2]; simp [numsV, List.getElem?_eq_getElem hlt]
      have hcall := at_calls B S h.size _ L ks[t] wr hst (by rw [HH.out.2.1]; exact HH.out.1.asc) HH.out.2.2.2.2.1
      rw [hat, ptrV, CellM.p] at hcall
      have hcd : L[q].d ∈ h.cells := by rw [← HH.out.2.1]; exact List.mem_map_of_mem (List.getElem_mem hq)
      have hfull : fullK h.cells ks ks[t] = decide (16777216 - ((ks.count ks[t] : Nat) : Int) < L[q].d.refs) := by rw [fullK, ← hqn, find_of HH.out.1.asc hcd]
      have hr0 : (0 : Int) ≤ L[q].d.refs := by have := HH.out.1.led _ hcd; omega
      have hr1 : L[q].d.refs ≤ 16777216 := HH.out.1.most _ hcd
      have hcnt : ks.count ks[t] ≤ 255 := Nat.le_trans List.count_le_length hkn
      have hcells := fun W vs (h : StoreAt B W S h.size vs L) => (show W.cell? ⟨L[q].ptr, 2, none⟩ = some (.int .i64 L[q].d.refs) by rw [(h.cells _ (List.getElem_mem hq)).row.cell]; rfl)
      have hlq := fun W vs (h : StoreAt B W S h.size vs L) => (h.cells _ (List.getElem_mem hq)).row.lt
      have hfq : 16777216 - ((ks.count ks[t] : Nat) : Int) < L[q].d.refs → putE h n = 1 := fun hx => put_range HE.out HSN.out HFS.out (by rw [HKS.out]; exact full_true hlt (by rw [hfull]; exact decide_eq_true hx))
      have hfn : L[q].d.refs ≤ 16777216 - ((ks.count ks[t] : Nat) : Int) → ∀ i (hi : i < ks.length), i < t + 1 → fullK h.cells ks ks[i] = false := fun hx i hi hit => by
       rcases Nat.lt_or_ge i t with h9 | h9
       ·exact hfk i hi h9
       ·have : i = t := by omega
        subst this
        rw [hfull]; exact decide_eq_false (by omega)
      have HCE := Lib.hid (And.intro hcells (And.intro hlq (And.intro hfq hfn)))
      have HKW := Lib.hid hkw
      have HKO := Lib.hid hownr
      clear hcells hlq hfq hfn hfull hcd hoth hqn hat hc2 hcz hpz hownr hfk hst hkw
      generalize L[q].ptr = P at *
      generalize L[q].d.refs = rf at *
      generalize ks[t] = kk at *
      go_wp2_with fail
      refine hcall.mono ?_
      rintro e w12 ⟨rfl, hst12, hkk⟩
      have hk12 : Keep B w10 w12 := HKW.out.trans hkk
      have hk12r : Keep B wr w12 := hkk
      have hw9 : IntKind.i64.wrap (16777216 - ((ks.count kk : Nat) : Int)) = 16777216 - ((ks.count kk : Nat) : Int) := by rw [IntKind.wrap_i64]; omega
      clear hcall hkk hcj
      go_wp2_with fail
      refine wp_region_held_drew (S := fun w' => RowIs w' C 28 #[.int .u8 (n.kind : Int), .slice p1 n.items.length c1, .slice p2 n.kids.length c2, .slice p3 n.vols.length c3] ∧ w'.cell? ⟨P, 2, none⟩ = some (.int .i64 rf)) (by kernel_rfl) ⟨(hk12.row HI.out.1 (.inr (by decide))).drew, HCE.out.1 w12 _ hst12⟩ (fun hHeld => ?_)
      have hbd : Below w12.heap.size w12 w12.drew := (Below.refl _ _).drew
      have hNc := (hk12.row HI.out.1 (.inr (by decide))).drew
      have hcc : w12.drew.cell? ⟨P, 2, none⟩ = some (.int .i64 rf) := HCE.out.1 w12 _ hst12
      have hstu := hst12.below hbd (Nat.le_refl _)
      have hku : Keep B w10 w12.drew := hk12.trans (Keep.of hbd)
      have hPl : P < w12.drew.heap.size := HCE.out.2.1 w12 _ hst12
      have hkur : Keep B wr w12.drew := hk12r.trans (Keep.of hbd)
      clear hbd hst12 hk12 hk12r
      generalize w12.drew = wu at *
      have hkc2 := kidNums_calls wu.heap.size _ n wu ((HI.out.2.2.2.2.1 wu hku).at hstu.hB) (Nat.le_refl _) hfit
      rw [HKS.out] at hkc2
      refine take_N (i := 0) (v := ?_) (some 77) #[true, false, false, false, false, false, false, false, false, false, false] rfl rfl (by kernel_rfl) (by kernel_rfl) (by kernel_rfl) (by kernel_rfl) (fun _ _ _ h => h) ⟨hNc, hcc⟩ (Or.inl ⟨by rfl, ?_⟩) ?_
      rotate_left
      ·intro w_ hSw_; go_simp; try with_reducible rfl
      try simp only [Act.put, List.setIfInBounds_toArray, List.set_cons_zero, List.set_cons_succ]
      refine take_N (i := 1) (v := ?_) (some 78) #[true, true, false, false, false, false, false, false, false, false, false] rfl rfl (by kernel_rfl) (by kernel_rfl) (by kernel_rfl) (by kernel_rfl) (fun _ _ _ h => h) ⟨hNc, hcc⟩ (Or.inl ⟨by rfl, ?_⟩) ?_
      rotate_left
      ·intro w_ hSw_; go_simp; try with_reducible rfl
      try simp only [Act.put, List.setIfInBounds_toArray, List.set_cons_zero, List.set_cons_succ]
      refine take_N (i := 2) (v := ?_) (some 79) #[true, true, true, false, false, false, false, false, false, false, false] rfl rfl (by kernel_rfl) (by kernel_rfl) (by kernel_rfl) (by kernel_rfl) (fun _ _ _ h => h) ⟨hNc, hcc⟩ (Or.inl ⟨by rfl, ?_⟩) ?_
      rotate_left
      ·intro w_ hSw_; go_simp; try with_reducible rfl
      try simp only [Act.put, List.setIfInBounds_toArray, List.set_cons_zero, List.set_cons_succ]
      refine take_N (i := 3) (v := ?_) (some 80) #[true, true, true, true, false, false, false, false, false, false, false] rfl rfl (by kernel_rfl) (by kernel_rfl) (by kernel_rfl) (by kernel_rfl) (fun _ _ _ h => h) ⟨hNc, hcc⟩ (Or.inl ⟨by rfl, ?_⟩) ?_
      rotate_left
      ·intro w_ hSw_; go_simp; try with_reducible rfl
      try simp only [Act.put, List.setIfInBounds_toArray, List.set_cons_zero, List.set_cons_succ]
      refine take_N (i := 4) (v := (.int .i64 rf)) (some 81) #[true, true, true, true, true, false, false, false, false, false, false] rfl rfl (by kernel_rfl) (by kernel_rfl) (by kernel_rfl) (by kernel_rfl) (fun _ _ _ h => h) ⟨hNc, hcc⟩ (Or.inl ⟨by rfl, ?_⟩) ?_
      ·intro w_ hSw_; exact (by have hcc := hSw_.2; go_simp)
      try simp only [Act.put, List.setIfInBounds_toArray, List.set_cons_zero, List.set_cons_succ]
      refine take_N (i := 5) (v := (.agg #[.int .u8 (n.kind : Int), .slice p1 n.items.length c1, .slice p2 n.kids.length c2, .slice p3 n.vols.length c3])) (some 82) #[true, true, true, true, true, true, false, false, false, false, false] rfl rfl (by kernel_rfl) (by kernel_rfl) (by kernel_rfl) (by kernel_rfl) (fun _ _ _ h => h) ⟨hNc, hcc⟩ (Or.inl ⟨by rfl, ?_⟩) ?_
      ·intro w_ hSw_; exact exec_load_row 28 _ (by rfl) C (by rfl) 28 #[.int .u8 (n.kind : Int), .slice p1 n.items.length c1, .slice p2 n.kids.length c2, .slice p3 n.vols.length c3] (0, 0) _ hSw_.1 Tryz.underlying28 rfl (by kernel_rfl)
      try simp only [Act.put, List.setIfInBounds_toArray, List.set_cons_zero, List.set_cons_succ]
      refine take_N (i := 7) (v := ?_) (some 84) #[true, true, true, true, true, true, false, true, false, false, false] rfl rfl (by kernel_rfl) (by kernel_rfl) (by kernel_rfl) (by kernel_rfl) (fun _ _ _ h => h) ⟨hNc, hcc⟩ (Or.inl ⟨by rfl, ?_⟩) ?_
      rotate_left
      ·intro w_ hSw_; go_simp; try with_reducible rfl
      try simp only [Act.put, List.setIfInBounds_toArray, List.set_cons_zero, List.set_cons_succ]
      refine step_N (i := 6) #[true, true, true, true, true, true, true, true, false, false, false] rfl (by kernel_rfl) (by kernel_rfl) (fun K hK => ?_)
      rw [if_pos (by rfl)]
      go_simp
      refine hkc2.mono ?_
      rintro e w13 ⟨rk2, rfl, hown2, hb13⟩
      replace hNc := hNc.below hb13 hNc.lt
      replace hcc := (World.cell?_of_block (w := wu) (a := ⟨P, 2, none⟩) (hb13.block P hPl)).trans hcc
      obtain ⟨pk2, ck2, rfl⟩ := own_shape hown2
      refine hK.out _ _ ⟨hNc, hcc⟩ ?_
      clear hK K
      refine step_N (i := 8) #[true, true, true, true, true, true, true, true, true, false, false] rfl (by kernel_rfl) (by kernel_rfl) (fun K hK => ?_)
      rw [if_pos (by rfl)]
      go_simp
      refine (count_calls wu.heap.size _ ks kk w13 hown2 (by omega)).mono ?_
      rintro e w14 ⟨rfl, rfl⟩
      refine hK.out _ _ ⟨hNc, hcc⟩ ?_
      clear hK K
      refine take_N (i := 9) (v := ?_) (some 86) #[true, true, true, true, true, true, true, true, true, true, false] rfl rfl (by kernel_rfl) (by kernel_rfl) (by kernel_rfl) (by kernel_rfl) (fun _ _ _ h => h) ⟨hNc, hcc⟩ (Or.inl ⟨by rfl, ?_⟩) ?_
      rotate_left
      ·intro w_ hSw_; go_simp; try with_reducible rfl
      try simp only [Act.put, List.setIfInBounds_toArray, List.set_cons_zero, List.set_cons_succ]
      refine take_N (i := 10) (v := ?_) (some 87) #[true, true, true, true, true, true, true, true, true, true, true] rfl rfl (by kernel_rfl) (by kernel_rfl) (by kernel_rfl) (by kernel_rfl) (fun _ _ _ h => h) ⟨hNc, hcc⟩ (Or.inl ⟨by rfl, ?_⟩) ?_
      rotate_left
      ·intro w_ hSw_; go_simp; try with_reducible rfl
      try simp only [Act.put, List.setIfInBounds_toArray, List.set_cons_zero, List.set_cons_succ]
      refine wpAnyH_done (by kernel_rfl) ?_ _
      clear hHeld
      have hk14 : Keep B w10 w14 := hku.trans (Keep.of hb13)
      have hown14 := (hkur.trans (Keep.of hb13)).owns HKO.out (by decide)
      have hst14 := hstu.below hb13 (Nat.le_refl _)
      have hA14 := hk14.row HI.out.2.1 (.inr (by decide))
      have hkw14 := HI.out.2.2.2.1.trans hk14
      clear hw9 hr1 hr0 hcnt
      generalize (16777216 - ((ks.count kk : Nat) : Int)) = lim at *
      by_cases hfl : lim < rf
      ·have hq := HCE.out.2.2.1 hfl
       have k1 := decide_eq_true hfl
       simp only [k1]
       clear k1 hfl hk14 hown14 hkur hstu hku hb13 hown2 hNc hcc hkc2
       obtain ⟨q1, q2, q3⟩ := put_err hq (by decide)
       have q4 := hq
       have hthZ := hA14.there 0 34 (by rw [hkz]; decide)
       have hstZ := store_row hA14 (D := (kidV (kidH 0 zeroH)).toArray) rfl
       have hbuZ := (But.refl A w14).setCells ((kidV (kidH 0 zeroH)).toArray : Array Value).toList 0
       have honeZ := kidV_one (kidH 0 zeroH)
       have hszZ := hszK _ hkz
       have hkZ := hkw14.newer hbuZ (by rw [hCg]; exact hCA)
       have hstZ2 := StoreAt.later HH.out.2.2.2.2.2 (by rw [hCg]; exact hBw) hst14 hkZ hA14 (by decide) hbuZ
       have HF := Lib.hid (And.intro hstZ (And.intro hkZ hstZ2))
       have HQ := Lib.hid (And.intro q1 (And.intro q2 (And.intro q3 q4)))
       clear q1 q2 q3 q4 hstZ hbuZ hkZ hstZ2
       go_wp2_with (first | (refine wpList_build_eqH rfl 38 [] rfl (kidV (kidH 0 zeroH)).toArray built_kid0 ?_) | (refine wpList_store_mid rfl 38 _ _ rfl A 0 (kidV (kidH 0 zeroH)).toArray rfl rfl hthZ hszZ honeZ ?_))
       refine bodyPost_ret (v := .tuple #[.agg (kidV (kidH 0 zeroH)).toArray, .int .i64 1]) (results_cell_tmp (p := 4) (q := 5) (ty := 38) (by rfl) _ _ A 38 (kidV (kidH 0 zeroH)).toArray (0, 0) _ (by rfl) HF.out.1 Tryz.underlying38 (by rfl) hszZ) (by rfl) ?_
       exact ⟨_, L, by rw [HQ.out.1, HQ.out.2.1, HQ.out.2.2.2], by rw [HQ.out.2.2.1]; exact HH.out.2.1, HH.out.2.2.1, HF.out.2.2, HF.out.2.1⟩
      ·have hq := HCE.out.2.2.2 (by omega)
       have k1 := decide_eq_false hfl
       simp only [k1]
       have HQ := Lib.hid (And.intro hq (And.intro hst14 (And.intro hk14 hown14)))
       clear k1 hfl hown14 hkur hstu hku hb13 hown2 hNc hcc hq hst14 hA14 hkw14 hk14 hkc2
       go_wp2_with fail
       go_roundg (ks.length - (t + 1))
       case measure => omega
       case rel => exact ⟨t + 1, by omega, rfl, by go_num, HQ.out.1, HQ.out.2.1, HQ.out.2.2.1, HQ.out.2.2.2⟩
     ·have hjk : ks.length = t := by omega
      have hff := full_false (fun i hi => hfk i hi (by omega))
      rw [← HKS.out] at hff
      obtain ⟨q4, q1, q2, q3⟩ := put_new HE.out HSN.out HFS.out hff
      have HQ := Lib.hid (And.intro q1 (And.intro q2 (And.intro q3 q4)))
      have HW := Lib.hid (And.intro hst hkw)
      clear q1 q2 q3 q4 hff hst hkw hownr hfk hjk
      obtain ⟨hst12, hk12⟩ := HW.out
      have hfi := find_calls B S h.size _ L (freeC h.cells) wr hst12 (by rw [HH.out.2.1]; exact HH.out.1.asc) HH.out.2.2.2.2.1
      have hnone : findC h.cells (freeC h.cells) = none := find_none.2 (free_not h.cells 2 HH.out.1.asc (fun c hc => (HH.out.1.ok c hc).2.1))
      rw [HH.out.2.1, hnone] at hfi
      have hio : lowC h.cells (freeC h.cells) ≤ L.length := by
       have := lowC_le h.cells (freeC h.cells)
       rw [← HH.out.2.1, List.length_map] at this
       rwa [HH.out.2.1] at this
      have hio' := Lib.hid (rfl : lowC h.cells (freeC h.cells) = lowC h.cells (freeC h.cells))
      have HKI := Lib.hid hk12
      clear hnone hst12 hk12 HW
      generalize hIO : lowC h.cells (freeC h.cells) = io at *
      generalize hFR : freeC h.cells = fr at *
      have HIF := Lib.hid (And.intro hIO hFR)
      clear hIO hFR hio'
      go_wp2_with fail
      refine hfi.mono ?_
      rintro e w12 ⟨rfl, hst12, hkk⟩
      have hk12 : Keep B w10 w12 := HKI.out.trans hkk
      clear hfi hkk
      go_wp2_with fail
      obtain ⟨iP0, hP, hPz0, hPz1, hPz2⟩ := info_parts info_ptr
      have hsz32 : (Tryz.prog.info? 36).map (·.size) = some (bytesV SH).length := by rw [bytesV_len, h32]; kernel_rfl
      have HCR := Lib.hid (built_cellX (fr : Int) (strOf (encN n)) 0 (n.kind : Int) p1 p2 p3 n.items.length n.kids.length n.vols.length c1 c2 c3 SH h32)
      obtain ⟨CR, hCR⟩ : ∃ CR, CR = ([Value.int .u32 (fr : Int), Value.string (strOf (encN n)), Value.int .i64 0, Value.int .u8 (n.kind : Int), Value.slice p1 n.items.length c1, Value.slice p2 n.kids.length c2, Value.slice p3 n.vols.length c3] ++ (bytesV SH ++ [Value.int .i64 0])) := ⟨_, rfl⟩
      rw [← hCR] at HCR
      have HCRl := Lib.hid hCR
      clear hCR
      obtain ⟨ask0, hS00, _⟩ := hst12.row
      refine wp_region_gate 18 (S := fun w' => RowIs w' S 118 #[.int .u32 (h.size : Int), .slice pp L.length cap, .int .i64 ask0] ∧ RowIs w' D 9 #[.string (strOf (encN n))] ∧ RowIs w' C 28 #[.int .u8 (n.kind : Int), .slice p1 n.items.length c1, .slice p2 n.kids.length c2, .slice p3 n.vols.length c3] ∧ RowIs w' KP 38 (kidV (kidH 0 SH)).toArray) (by kernel_rfl) ⟨hS00.drew, (hk12.row HI.out.2.2.1 (.inr (by decide))).drew, (hk12.row HI.out.1 (.inr (by decide))).drew, (hk12.row HI.out.2.2.2.2.2.1 (.inr (by decide))).drew⟩ (fun hS0 => ?_)
      have hbd : Below w12.heap.size w12 w12.drew := (Below.refl _ _).drew
      obtain ⟨hN4, _, hD4, _, _, hK4, _⟩ := HI.out
      replace hN4 := (hk12.row hN4 (.inr (by decide))).drew
      replace hD4 := (hk12.row hD4 (.inr (by decide))).drew
      replace hK4 := (hk12.row hK4 (.inr (by decide))).drew
      have ho4 := own_of_store hst12
      have hS4 := hS00
      replace hS4 := hS4.drew
      replace ho4 := ownsRow_below ho4 hbd
      have hst4 := hst12.below hbd (Nat.le_refl _)
      have hk4 : Keep B w10 w12.drew := hk12.trans (Keep.of hbd)
      clear hbd hst12 hk12
      generalize w12.drew = wu at *
      refine takep_G (i := 0) (v := ?_) (some 96) #[true, false, false, false, false, false, false, false, false, false, false, false, false, false, false, false, false, false, false] rfl rfl (by kernel_rfl) (by kernel_rfl) (by kernel_rfl) (by kernel_rfl) (fun _ _ _ h => h) (by kernel_rfl) hS0 (Or.inl ⟨by rfl, ?_⟩) ?_
      rotate_left
      ·intro w_ hSw_; go_simp; try with_reducible rfl
      try simp only [Act.put, List.setIfInBounds_toArray, List.set_cons_zero, List.set_cons_succ]
      refine takep_G (i := 1) (v := ?_) (some 97) #[true, true, false, false, false, false, false, false, false, false, false, false, false, false, false, false, false, false, false] rfl rfl (by kernel_rfl) (by kernel_rfl) (by kernel_rfl) (by kernel_rfl) (fun _ _ _ h => h) (by kernel_rfl) hS0 (Or.inl ⟨by rfl, ?_⟩) ?_
      rotate_left
      ·intro w_ hSw_; go_simp; try with_reducible rfl
      try simp only [Act.put, List.setIfInBounds_toArray, List.set_cons_zero, List.set_cons_succ]
      refine takep_G (i := 2) (v := ?_) (some 98) #[true, true, true, false, false, false, false, false, false, false, false, false, false, false, false, false, false, false, false] rfl rfl (by kernel_rfl) (by kernel_rfl) (by kernel_rfl) (by kernel_rfl) (fun _ _ _ h => h) (by kernel_rfl) hS0 (Or.inl ⟨by rfl, ?_⟩) ?_
      rotate_left
      ·intro w_ hSw_; go_simp; try with_reducible rfl
      try simp only [Act.put, List.setIfInBounds_toArray, List.set_cons_zero, List.set_cons_succ]
      refine takep_G (i := 3) (v := ?_) (some 99) #[true, true, true, true, false, false, false, false, false, false, false, false, false, false, false, false, false, false, false] rfl rfl (by kernel_rfl) (by kernel_rfl) (by kernel_rfl) (by kernel_rfl) (fun _ _ _ h => h) (by kernel_rfl) hS0 (Or.inl ⟨by rfl, ?_⟩) ?_
      rotate_left
      ·intro w_ hSw_; go_simp; try with_reducible rfl
      try simp only [Act.put, List.setIfInBounds_toArray, List.set_cons_zero, List.set_cons_succ]
      refine take_B (i := 4) (v := (.slice pp L.length cap)) [15, 18] (some 100) #[true, true, true, true, true, false, false, false, false, false, false, false, false, false, false, false, false, false, false] rfl rfl (by kernel_rfl) (by kernel_rfl) (by kernel_rfl) (by kernel_rfl) (by kernel_rfl) (fun _ _ _ h => h) (by kernel_rfl) hS0 (Or.inl ⟨by rfl, ?_⟩) ?_
      ·intro w_ hSw_; exact (by have hcc : w_.cell? ⟨S, 1, none⟩ = some (.slice pp L.length cap) := (by rw [RowIs.cell hSw_.1]; rfl); go_simp)
      try simp only [Act.put, List.setIfInBounds_toArray, List.set_cons_zero, List.set_cons_succ]
      refine takep_G (i := 5) (v := ?_) (some 101) #[true, true, true, true, true, true, false, false, false, false, false, false, false, false, false, false, false, false, false] rfl rfl (by kernel_rfl) (by kernel_rfl) (by kernel_rfl) (by kernel_rfl) (fun _ _ _ h => h) (by kernel_rfl) hS0 (Or.inl ⟨by rfl, ?_⟩) ?_
      rotate_left
      ·intro w_ hSw_; go_simp; try with_reducible rfl
      try simp only [Act.put, List.setIfInBounds_toArray, List.set_cons_zero, List.set_cons_succ]
      refine takep_G (i := 6) (v := ?_) (some 102) #[true, true, true, true, true, true, true, false, false, false, false, false, false, false, false, false, false, false, false] rfl rfl (by kernel_rfl) (by kernel_rfl) (by kernel_rfl) (by kernel_rfl) (fun _ _ _ h => h) (by kernel_rfl) hS0 (Or.inl ⟨by rfl, ?_⟩) ?_
      rotate_left
      ·intro w_ hSw_; go_simp; try with_reducible rfl
      try simp only [Act.put, List.setIfInBounds_toArray, List.set_cons_zero, List.set_cons_succ]
      refine take_B (i := 7) (v := (.string (strOf (encN n)))) [8, 12, 13, 14, 15, 18] (some 103) #[true, true, true, true, true, true, true, true, false, false, false, false, false, false, false, false, false, false, false] rfl rfl (by kernel_rfl) (by kernel_rfl) (by kernel_rfl) (by kernel_rfl) (by kernel_rfl) (fun _ _ _ h => h) (by kernel_rfl) hS0 (Or.inl ⟨by rfl, ?_⟩) ?_
      ·intro w_ hSw_; exact (by have hcc : w_.cell? ⟨D, 0, none⟩ = some (.string (strOf (encN n))) := (by rw [RowIs.cell hSw_.2.1]; rfl); go_simp)
      try simp only [Act.put, List.setIfInBounds_toArray, List.set_cons_zero, List.set_cons_succ]
      refine take_B (i := 9) (v := (.agg #[.int .u8 (n.kind : Int), .slice p1 n.items.length c1, .slice p2 n.kids.length c2, .slice p3 n.vols.length c3])) [12, 13, 14, 15, 18] (some 105) #[true, true, true, true, true, true, true, true, false, true, false, false, false, false, false, false, false, false, false] rfl rfl (by kernel_rfl) (by kernel_rfl) (by kernel_rfl) (by kernel_rfl) (by kernel_rfl) (fun _ _ _ h => h) (by kernel_rfl) hS0 (Or.inl ⟨by rfl, ?_⟩) ?_
      ·intro w_ hSw_; exact exec_load_row 28 _ (by rfl) C (by rfl) 28 #[.int .u8 (n.kind : Int), .slice p1 n.items.length c1, .slice p2 n.kids.length c2, .slice p3 n.vols.length c3] (0, 0) _ hSw_.2.2.1 Tryz.underlying28 rfl (by kernel_rfl)
      try simp only [Act.put, List.setIfInBounds_toArray, List.set_cons_zero, List.set_cons_succ]
      refine takep_G (i := 10) (v := ?_) (some 106) #[true, true, true, true, true, true, true, true, false, true, true, false, false, false, false, false, false, false, false] rfl rfl (by kernel_rfl) (by kernel_rfl) (by kernel_rfl) (by kernel_rfl) (fun _ _ _ h => h) (by kernel_rfl) hS0 (Or.inl ⟨by rfl, ?_⟩) ?_
      rotate_left
      ·intro w_ hSw_; go_simp; try with_reducible rfl
      try simp only [Act.put, List.setIfInBounds_toArray, List.set_cons_zero, List.set_cons_succ]
      refine take_B (i := 11) (v := (.agg (bytesV SH).toArray)) [12, 13, 14, 15, 18] (some 107) #[true, true, true, true, true, true, true, true, false, true, true, true, false, false, false, false, false, false, false] rfl rfl (by kernel_rfl) (by kernel_rfl) (by kernel_rfl) (by kernel_rfl) (by kernel_rfl) (fun _ _ _ h => h) (by kernel_rfl) hS0 (Or.inl ⟨by rfl, ?_⟩) ?_
      ·intro w_ hSw_; exact exec_load_mid 36 _ (by rfl) KP 2 (by rfl) (bytesV SH) _ (kid_hashP hSw_.2.2.2) Tryz.underlying36 rfl hsz32
      try simp only [Act.put, List.setIfInBounds_toArray, List.set_cons_zero, List.set_cons_succ]
      refine step_G (i := 8) #[true, true, true, true, true, true, true, true, true, true, true, true, false, false, false, false, false, false, false] rfl (by kernel_rfl) (by kernel_rfl) (fun K hK => ?_)
      rw [if_pos (by rfl)]
      refine wp_build_eq 57 [(0, .tmp 102), (1, .tmp 103)] rfl #[.int .u32 (fr : Int), .string (strOf (encN n)), .int .i64 0] (built_cell2 _ _) ?_
      refine hK.out _ _ hS0 ?_
      clear hK K
      try simp only [Act.put, List.setIfInBounds_toArray]
      refine step_G (i := 12) #[true, true, true, true, true, true, true, true, true, true, true, true, true, false, false, false, false, false, false] rfl (by kernel_rfl) (by kernel_rfl) (fun K hK => ?_)
      rw [if_pos (by rfl)]
      refine wp_build_eq 109 [(0, .tmp 104), (1, .tmp 105), (2, .tmp 107)] rfl CR.toArray (by exact HCR.out) ?_
      refine hK.out _ _ hS0 ?_
      clear hK K
      try simp only [Act.put]
      refine step_G (i := 13) #[true, true, true, true, true, true, true, true, true, true, true, true, true, true, false, false, false, false, false] rfl (by kernel_rfl) (by kernel_rfl) (fun K hK => ?_)
      rw [if_pos (by rfl)]
      unfold Oper.wp
      rw [show ((execOp _ _).run Tryz.prog wu) = .ok (.value (.pointer (some ⟨wu.heap.size, 0, none⟩))) (wu.alloc (.cells CR.toArray 109)) from exec_box rfl (by rfl) wu]
      have hC5 := RowIs.new wu 109 CR.toArray
      have hal5 := (Below.refl _ wu).alloc (Nat.le_refl _) (.cells CR.toArray 109)
      change K _ (wu.alloc (.cells CR.toArray 109))
      generalize hw5 : wu.alloc (.cells CR.toArray 109) = w5x at *
      clear hw5
      have hS5 := hS4.below hal5 hS4.lt
      have hD5 := hD4.below hal5 hD4.lt
      have hN5 := hN4.below hal5 hN4.lt
      have hK5 := hK4.below hal5 hK4.lt
      have hst5 := hst4.below hal5 (Nat.le_refl _)
      have hk5 := hk4.trans (Keep.of hal5)
      have ho5 := ownsRow_below ho4 hal5
      have hBu : B ≤ wu.heap.size := hst4.hB
      have hnew : ∀ c ∈ L, c.ptr < wu.heap.size := fun c hc => (hst4.cells c hc).row.lt
      clear hal5 hS4 hD4 hN4 hK4 hst4 hk4 ho4
      generalize wu.heap.size = X40 at *
      refine hK.out _ _ ⟨hS5, hD5, hN5, hK5⟩ ?_
      clear hK K
      try simp only [Act.put]
      refine step_G (i := 14) #[true, true, true, true, true, true, true, true, true, true, true, true, true, true, true, false, false, false, false] rfl (by kernel_rfl) (by kernel_rfl) (fun K hK => ?_)
      rw [if_pos (by rfl)]
      refine wp_buildSlice_val 111 106 _ rfl Tryz.underlying111 iP0 hP _ hPz0 hPz1 (.pointer (some ⟨X40, 0, none⟩)) (by rfl) rfl ?_
      have hR6 := RowIs.new w5x 106 #[.pointer (some ⟨X40, 0, none⟩)]
      have hal6 := (Below.refl _ w5x).alloc (Nat.le_refl _) (.cells #[.pointer (some ⟨X40, 0, none⟩)] 106)
      change K _ (w5x.alloc (.cells #[.pointer (some ⟨X40, 0, none⟩)] 106))
      generalize hw6 : w5x.alloc (.cells #[.pointer (some ⟨X40, 0, none⟩)] 106) = w6x at *
      clear hw6
      have hneX : (Value.slice pp L.length cap).ownBlock ≠ some w5x.heap.size := fun e => by have := (ho5.lt _ e).2; omega
      have hS6 := hS5.below hal6 hS5.lt
      have hD6 := hD5.below hal6 hD5.lt
      have hN6 := hN5.below hal6 hN5.lt
      have hK6 := hK5.below hal6 hK5.lt
      have hC6 := hC5.below hal6 hC5.lt
      have hst6 := hst5.below hal6 (Nat.le_refl _)
      have hk6 := hk5.trans (Keep.of hal6)
      have ho6 := ownsRow_below ho5 hal6
      have hs6 : B ≤ w6x.heap.size := hst6.hB
      clear hal6 hS5 hD5 hN5 hK5 hC5 hst5 hk5 ho5
      generalize w5x.heap.size = X1 at *
      refine hK.out _ _ ⟨hS6, hD6, hN6, hK6⟩ ?_
      clear hK K
      try simp only [Act.put]
      refine step_G (i := 15) #[true, true, true, true, true, true, true, true, true, true, true, true, true, true, true, true, false, false, false] rfl (by kernel_rfl) (by kernel_rfl) (fun K hK => ?_)
      rw [if_pos (by rfl)]
      go_simp
      refine (insert_calls B _ (L.map CellM.p) L.length io X1 (.pointer (some ⟨X40, 0, none⟩)) w6x ho6 hio (one_ptrs L) rfl HH.out.2.2.2.2.1 hR6 hneX hs6).mono ?_
      rintro e w7 ⟨v7, rfl, ho7, hgr⟩
      have hot := fun g hg => own_type ho6 (g := g) hg
      have hgk : Keep B w6x w7 := (store_rows hst6 hgr).1
      have hrow7 : ∀ {b : Nat} {t : TypeId} {C : Array Value}, RowIs w6x b t C → t ≠ 106 → RowIs w7 b t C := fun hr hne => row_grown hr hgr (fun q => by obtain ⟨c, hc⟩ := hot _ q.symm; exact hne (row_type hr hc))
      have hS7 := hrow7 hS6 (by decide)
      have hD7 := hrow7 hD6 (by decide)
      have hN7 := hrow7 hN6 (by decide)
      have hK7 := hrow7 hK6 (by decide)
      have hC7 := hrow7 hC6 (by decide)
      have hk7 := hk6.trans hgk
      clear hot hS6 hD6 hN6 hK6 hC6 hR6 hrow7
      obtain ⟨p7, c7, rfl⟩ := own_shape ho7
      refine hK.out _ _ ⟨hS7, hD7, hN7, hK7⟩ ?_
      clear hK K
      refine takep_G (i := 16) (v := ?_) (some 112) #[true, true, true, true, true, true, true, true, true, true, true, true, true, true, true, true, true, false, false] rfl rfl (by kernel_rfl) (by kernel_rfl) (by kernel_rfl) (by kernel_rfl) (fun _ _ _ h => h) (by kernel_rfl) ⟨hS7, hD7, hN7, hK7⟩ (Or.inl ⟨by rfl, ?_⟩) ?_
      rotate_left
      ·intro w_ hSw_; go_simp; try with_reducible rfl
      try simp only [Act.put]
      refine takep_G (i := 17) (v := ?_) (some 113) #[true, true, true, true, true, true, true, true, true, true, true, true, true, true, true, true, true, true, false] rfl rfl (by kernel_rfl) (by kernel_rfl) (by kernel_rfl) (by kernel_rfl) (fun _ _ _ h => h) (by kernel_rfl) ⟨hS7, hD7, hN7, hK7⟩ (Or.inl ⟨by rfl, ?_⟩) ?_
      rotate_left
      ·intro w_ hSw_; go_simp; try with_reducible rfl
      try simp only [Act.put]
      refine gate_G (i := 18) #[true, true, true, true, true, true, true, true, true, true, true, true, true, true, true, true, true, true, true] rfl (by kernel_rfl) (by kernel_rfl) (fun K hK => ?_)
      rw [if_pos (by rfl)]
      have hcd : w7.cell? ⟨S, 1, none⟩ = some (.slice pp L.length cap) := by rw [hS7.cell]; rfl
      have hfd := hS7.free 1
      go_simp
      generalize hw8 : w7.setCell ⟨S, 1, none⟩ (.slice p7 (L.length + 1) c7) = w8 at *
      clear hcd hfd
      refine hK.out _ _ trivial ?_
      clear hK K
      try simp only [Act.put]
      refine wpAnyH_done (by kernel_rfl) ?_ _
      have hNd := (newC_node h.cells n HH.out.2.2.2.1 HKT.out.2.1).2
      obtain ⟨NC, hNC⟩ : ∃ NC : CellM, NC = ⟨X40, newC h.cells n, [.int .u8 (n.kind : Int), .slice p1 n.items.length c1, .slice p2 n.kids.length c2, .slice p3 n.vols.length c3], SH, 0⟩ := ⟨_, rfl⟩
      have hNCr : NC.row = CR := by
       rw [hNC]
       show [Value.int .u32 ((freeC h.cells : Nat) : Int), Value.string (strOf (encN n)), Value.int .i64 0] ++ (_ ++ (bytesV SH ++ [Value.int .i64 0])) = CR
       rw [HIF.out.2, HCRl.out]; rfl
      have hNp : NC.ptr = X40 := by rw [hNC]
      have hNpp : NC.p = .pointer (some ⟨X40, 0, none⟩) := by rw [hNC]; rfl
      have hNdd : NC.d = newC h.cells n := by rw [hNC]
      have hNv : Value.agg NC.nv.toArray = .agg #[.int .u8 (n.kind : Int), .slice p1 n.items.length c1, .slice p2 n.kids.length c2, .slice p3 n.vols.length c3] := by rw [hNC]
      have hNn0 : NodeOk B w (.agg NC.nv.toArray) NC.d.node := by rw [hNv, hNdd, hNd]; exact HN0.out
      have hNh : NC.hash = NC.d.hash := by
       rw [hNdd]
       show NC.hash = sha (encN n)
       rw [HSH.out, hNC]
      obtain ⟨L2, hL2⟩ : ∃ L2, L2 = L.take io ++ NC :: L.drop io := ⟨_, rfl⟩
      have hmem2 : ∀ c, c ∈ L2 → c = NC ∨ c ∈ L := fun c hc => by
       rw [hL2] at hc
       rcases List.mem_append.1 hc with hc | hc
       ·exact .inr (List.mem_of_mem_take hc)
       ·rcases List.mem_cons.1 hc with hc | hc
        ·exact .inl hc
        ·exact .inr (List.mem_of_mem_drop hc)
      have hL2l : L2.length = L.length + 1 := by rw [hL2, List.length_append, List.length_take, List.length_cons, List.length_drop]; omega
      have hL2p : L2.map CellM.p = (L.map CellM.p).take io ++ Value.pointer (some ⟨X40, 0, none⟩) :: (L.map CellM.p).drop io := by rw [hL2, List.map_append, List.map_cons, List.map_take, List.map_drop, hNpp]
      have hL2d : L2.map CellM.d = insC h.cells (newC h.cells n) := by
       show _ = h.cells.take (lowC h.cells (freeC h.cells)) ++ newC h.cells n :: h.cells.drop (lowC h.cells (freeC h.cells))
       rw [HIF.out.2, HIF.out.1, hL2, List.map_append, List.map_cons, List.map_take, List.map_drop, HH.out.2.1, hNdd]
      have hL2n : (L2.map CellM.ptr).Nodup := by
       have hpm : (L2.map CellM.ptr).Perm (NC.ptr :: L.map CellM.ptr) := by
        have h1 : L2.Perm (NC :: (L.take io ++ L.drop io)) := by rw [hL2]; exact List.perm_middle
        rw [List.take_append_drop] at h1
        exact h1.map CellM.ptr
       rw [hpm.nodup_iff, List.nodup_cons]
       refine ⟨fun hx => ?_, hst6.nodup⟩
       obtain ⟨c, hc, hcx⟩ := List.mem_map.1 hx
       have := hnew c hc
       omega
      have hn7 := HI.out.2.2.2.2.1 w7 hk7
      have hcn7 : CellAt B w7 NC := ⟨by rw [hNp, hNCr]; exact hC7, by rw [hNp]; exact hBu, by rw [hNC]; rfl, by rw [hNC]; exact h32, by rw [hNv, hNdd, hNd]; exact hn7⟩
      obtain ⟨hst8, hk68, _⟩ := store_swap (v' := .slice p7 (L.length + 1) c7) hst6 hgr (L' := L2) (by rw [hL2l, hL2p]; exact ho7) (fun c hc => by
       rcases hmem2 c hc with rfl | hc
       ·exact hcn7
       ·exact (store_rows hst6 hgr).2.2 c (hst6.cells c hc)) hL2n
      rw [hw8] at hst8 hk68
      have hk8 : Keep B w10 w8 := hk6.trans hk68
      have hL2h : ∀ c ∈ L2, c.hash = c.d.hash := fun c hc => by
       rcases hmem2 c hc with rfl | hc
       ·exact hNh
       ·exact HH.out.2.2.1 c hc
      have hL2o : ∀ c ∈ L2, NodeOk B w (.agg c.nv.toArray) c.d.node := fun c hc => by
       rcases hmem2 c hc with rfl | hc
       ·exact hNn0
       ·exact HH.out.2.2.2.2.2 c hc
      have hkc8 := kidNums_calls w8.heap.size _ n w8 ((HI.out.2.2.2.2.1 w8 hk8).at hst8.hB) (Nat.le_refl _) hfit
      rw [HKS.out] at hkc8
      have hN8 := hk8.row HI.out.1 (.inr (by decide))
      have H8 := Lib.hid (And.intro hL2d (And.intro hL2h (And.intro hL2o (And.intro hst8 hk8))))
      have hL2l' := Lib.hid hL2l
      clear hNd hNCr hNp hNpp hNdd hNv hNn0 hNh hmem2 hL2l hL2p hL2d hL2n hn7 hcn7 hst8 hk68 hk8 hL2h hL2o hL2 hS7 hD7 hN7 hK7 hC7 hk7 hk6 hst6 ho6 ho7 hgr hgk hnew hBu hneX hs6 hw8 HCR HCRl hNC
      clear iP0 hP hPz0 hPz1 hPz2 hS00
      go_wp2_with (refine wpList_load_row rfl 28 _ rfl C rfl 28 #[.int .u8 (n.kind : Int), .slice p1 n.items.length c1, .slice p2 n.kids.length c2, .slice p3 n.vols.length c3] (0, 0) _ hN8 Tryz.underlying28 rfl hszN ?_)
      refine hkc8.mono ?_
      rintro e w9 ⟨rk9, rfl, hown9, hb9⟩
      obtain ⟨pk9, ck9, rfl⟩ := own_shape hown9
      have hst9 := H8.out.2.2.2.1.below hb9 (Nat.le_refl _)
      have hk9x : Keep B w10 w9 := H8.out.2.2.2.2.trans (Keep.of hb9)
      have HL0 := Lib.hid (And.intro H8.out.1 (And.intro H8.out.2.1 (And.intro H8.out.2.2.1 (And.intro hst9 (And.intro hk9x hown9)))))
      have hRp := putL_right HH.out.1 HH.out.2.2.2.1 HQ.out.2.2.2 HSN.out
      have hMlen : ∀ j, ((ks.take j).foldl incC (insC h.cells (newC h.cells n))).length ≤ 65536 := fun j => by
       have h1 : (putL h.cells n).length ≤ 65536 := hRp.okH.len
       unfold putL at h1
       rw [incs_length] at h1
       rw [incs_length]; exact h1
      have hMasc : ∀ j, ((ks.take j).foldl incC (insC h.cells (newC h.cells n))).Pairwise (fun a b => a.num < b.num) := fun j => incs_asc _ (ins_asc HH.out.1.asc (fun c hc => free_not h.cells 2 HH.out.1.asc (fun c hc => (HH.out.1.ok c hc).2.1) c hc))
      have hMin : ∀ j k, k ∈ ks → ∃ c ∈ (ks.take j).foldl incC (insC h.cells (newC h.cells n)), c.num = k := fun j k hk => by
       obtain ⟨c, hc, hcn⟩ := HKT.out.1 k hk
       obtain ⟨e, he, h1, _⟩ := incs_mem' (ks.take j) (l := insC h.cells (newC h.cells n)) (ins_mem.2 (.inr hc))
       exact ⟨e, he, h1.trans hcn⟩
      have hMref : ∀ j, ∀ c ∈ (ks.take j).foldl incC (insC h.cells (newC h.cells n)), 0 ≤ c.refs ∧ c.refs ≤ 16777471 := fun j c hc => by
       obtain ⟨c1, h1, _, _, r1⟩ := incs_mem (ks.take j) hc
       have hcl : (ks.take j).count c1.num ≤ 255 := Nat.le_trans List.count_le_length (by rw [List.length_take]; omega)
       rcases ins_mem.1 h1 with rfl | h1
       ·have : (newC h.cells n).refs = 0 := rfl
        omega
       ·have h2 := HH.out.1.most _ h1
        have h3 := HH.out.1.led _ h1
        omega
      have HM := Lib.hid (And.intro hMlen (And.intro hMasc (And.intro hMin hMref)))
      clear hkc8 hb9 hown9 hst9 hk9x hRp hMlen hMasc hMin hMref hN8 H8 hio HIF hB11 hB10 hL2l'
      go_wp2_with fail
      go_loopg [117] ks.length (fun g s117 wx => ∃ t : Nat, ∃ vs : Value, ∃ L' : List CellM, t ≤ ks.length ∧ g = ks.length - t ∧ s117 = .int .i64 t ∧ L'.map CellM.d = (ks.take t).foldl incC (insC h.cells (newC h.cells n)) ∧ (∀ c ∈ L', c.hash = c.d.hash) ∧ (∀ c ∈ L', NodeOk B w (.agg c.nv.toArray) c.d.node) ∧ StoreAt B wx S h.size vs L' ∧ Keep B w10 wx ∧ wx.ownsRow w8.heap.size 32 1 (.slice pk9 ks.length ck9) ks.length (numsV ks))
      case atStart => exact ⟨0, _, L2, by omega, by omega, rfl, HL0.out.1, HL0.out.2.1, HL0.out.2.2.1, HL0.out.2.2.2.1, HL0.out.2.2.2.2.1, HL0.out.2.2.2.2.2⟩
      case round =>
       obtain ⟨t, vs, L3, ht, rfl, rfl, hLd, hLh, hLo, hst, hkw, hownr⟩ := hrel
       by_cases hlt : t < ks.length
       ·have i2 : (t : Int) < (ks.length : Int) := by omega
        obtain ⟨q, hq, hat, hqn, hoth⟩ := atM_idx hLd (HM.out.2.1 t) (HM.out.2.2.1 t ks[t] (List.getElem_mem hlt))
        obtain ⟨pz, cz, hpz, hcz⟩ := own_one hownr
        injection hpz with hpz hle1 hle2
        clear hle1 hle2
        obtain ⟨R2, hR2, hc2⟩ := hcz t hlt
        rw [← hpz] at hR2
        subst hR2
        have hcj : wr.cell? ⟨R2, t, none⟩ = some (.int .u32 (ks[t] : Int)) := by rw [hc2]; simp [numsV, List.getElem?_eq_getElem hlt]
        have hL3 : L3.length ≤ 65536 := by rw [← List.length_map (f := CellM.d), hLd]; exact HM.out.1 t
        have hcall := at_calls B S h.size vs L3 ks[t] wr hst (by rw [hLd]; exact HM.out.2.1 t) hL3
        rw [hat, ptrV, CellM.p] at hcall
        have hcd : L3[q].d ∈ (ks.take t).foldl incC (insC h.cells (newC h.cells n)) := by rw [← hLd]; exact List.mem_map_of_mem (List.getElem_mem hq)
        obtain ⟨hr0, hr1⟩ := HM.out.2.2.2 t _ hcd
        have hinc := inc_set hLd hq hqn hoth
        have hsn : (ks.take (t + 1)).foldl incC (insC h.cells (newC h.cells n)) = incC ((ks.take t).foldl incC (insC h.cells (newC h.cells n))) ks[t] := by rw [List.take_succ_eq_append_getElem hlt, List.foldl_append]; rfl
        rw [← hsn] at hinc
        have hcx := fun W vs (h : StoreAt B W S h.size vs L3) => And.intro (show W.cell? ⟨L3[q].ptr, 2, none⟩ = some (.int .i64 L3[q].d.refs) by rw [(h.cells _ (List.getElem_mem hq)).row.cell]; rfl) (And.intro (row_led (h.cells _ (List.getElem_mem hq))) (And.intro ((h.cells _ (List.getElem_mem hq)).row.free 2) ((h.cells _ (List.getElem_mem hq)).row.free 39)))
        have hAB := fun W (hw : StoreAt B W S h.size vs L3) x => two_refs hw q hq (L3[q].d.refs + 1) x
        have hBA := fun W (hw : StoreAt B W S h.size vs L3) x => two_led hw q hq (L3[q].d.refs + 1) x
        have hmm := fun x => set_both hq x hinc hLh hLo
        have HCX := Lib.hid (And.intro hcx (And.intro hAB (And.intro hBA hmm)))
        have HKW := Lib.hid (And.intro hkw hownr)
        clear hcx hAB hBA hmm hinc hsn hcd hL3 hat hqn hoth hpz hcz hc2 hst hkw hownr hLd hLh hLo HL0
        have hfkj := Lib.hid (rfl : ks[t] = ks[t])
        generalize L3[q].ptr = P at *
        generalize L3[q].d.refs = rf at *
        generalize L3[q].led = ld at *
        generalize ks[t] = kk at *
        go_wp2_with fail
        refine hcall.mono ?_
        rintro e w12 ⟨rfl, hst12, hkk⟩
        obtain ⟨cr, cl, fr2, fl2⟩ := HCX.out.1 w12 _ hst12
        have HS := Lib.hid (And.intro hst12 hkk)
        clear hcall hst12 hkk hcj hfkj
        go_wp2_with fail
        go_big_region
        have HF := Lib.hid (And.intro (HCX.out.2.1 w12 HS.out.1 (wrap64 (ld + 1))) (HCX.out.2.2.2 (wrap64 (ld + 1))))
        clear cr cl fr2 fl2 hr0 hr1
        obtain ⟨⟨hs13, hk13⟩, hmm13⟩ := HF.out
        clear HF
        generalize (w12.setCell ⟨P, 2, none⟩ (.int .i64 (rf + 1))).setCell ⟨P, 39, none⟩ (.int .i64 (wrap64 (ld + 1))) = X13 at *
        have hbd : Below X13.heap.size X13 X13.drew := (Below.refl _ X13).drew
        have hs14 := hs13.below hbd (Nat.le_refl _)
        have hkd : Keep B X13 X13.drew := Keep.of hbd
        have hk14 : Keep B w12 X13.drew := hk13.trans hkd
        have hk15 : Keep B w10 X13.drew := (HKW.out.1.trans HS.out.2).trans hk14
        have ho15 := hk14.owns (HS.out.2.owns HKW.out.2 (by decide)) (by decide)
        have HF := Lib.hid (And.intro hs14 (And.intro hk15 (And.intro ho15 hmm13)))
        clear hbd hs14 hkd hk14 hk15 ho15 hs13 hk13 hmm13
        go_wp2_with fail
        go_roundg (ks.length - (t + 1))
        case measure => omega
        case rel =>
         obtain ⟨hs14, hk15, ho15, hd13, hh13, ho13⟩ := HF.out
         exact ⟨t + 1, vs, bothM L3 q hq (rf + 1) (wrap64 (ld + 1)), by omega, rfl, by go_num, hd13, hh13, ho13, hs14, hk15, ho15⟩
       ·have i2 : ¬ (t : Int) < (ks.length : Int) := by omega
        have htk : ks.take t = ks := List.take_of_length_le (by omega)
        rw [htk] at hLd
        have hput : (putH h n).cells = L3.map CellM.d := by
         rw [HQ.out.2.2.1, hLd, ← HKS.out]; rfl
        have hK9 := hkw.row HI.out.2.2.2.2.2.1 (.inr (by decide))
        have hA9 := hkw.row HI.out.2.1 (.inr (by decide))
        have hk9 := HI.out.2.2.2.1.trans hkw
        have ck : wr.cell? ⟨KP, 1, none⟩ = some (.int .u32 0) := by rw [hK9.cell]; rfl
        have fk := hK9.free 1
        have hK10 := hK9.set 1 (.int .u32 (fr : Int))
        rw [kidH_set] at hK10
        have hbuK := (But.refl KP wr).setCell 1 (.int .u32 (fr : Int))
        have hk10 := hk9.newer hbuK hKw
        have hst10 := StoreAt.later hLo (by rw [hCg]; exact hBw) hst hk10 hK9 (by decide) hbuK
        have hA10 := hA9.but hbuK (by omega)
        have hkl := kidV_length (k := kidH fr SH) h32
        have hone := kidV_one (kidH fr SH)
        have hszX := hszK (kidV (kidH fr SH)).toArray (List.size_toArray.trans hkl)
        have HLH := Lib.hid (And.intro hput hLh)
        generalize hw10 : wr.setCell ⟨KP, 1, none⟩ (.int .u32 (fr : Int)) = w13 at *
        have hthX : w13.there A 0 (kidV (kidH fr SH)).toArray.size := by
         rw [show (kidV (kidH fr SH)).toArray.size = 34 from List.size_toArray.trans hkl]
         exact hA10.there 0 34 (by rw [hkz]; decide)
        have hst11 := store_row hA10 (D := (kidV (kidH fr SH)).toArray) (by rw [List.size_toArray, hkl]; rfl)
        have hbuA := (But.refl A w13).setCells (kidV (kidH fr SH)).toArray.toList 0
        have hk11 := hk10.newer hbuA (by rw [hCg]; exact hCA)
        have hstF := StoreAt.later hLo (by rw [hCg]; exact hBw) hst10 hk11 hA10 (by decide) hbuA
        have HF := Lib.hid (And.intro hst11 (And.intro hk11 hstF))
        clear hst11 hbuA hk11 hstF hst10 hA10 hk10 hkl hput htk hLd hLh hLo hst hkw hownr hk9 hbuK hK9 hA9
        go_wp2_with (first | (refine wpList_load_row rfl 38 _ rfl KP rfl 38 (kidV (kidH fr SH)).toArray (0, 0) _ hK10 Tryz.underlying38 rfl hszX ?_) | (refine wpList_store_mid rfl 38 _ _ rfl A 0 (kidV (kidH fr SH)).toArray rfl rfl hthX hszX hone ?_))
        refine bodyPost_ret (v := .tuple #[.agg (kidV (kidH fr SH)).toArray, .int .i64 0]) (results_cell_tmp (p := 4) (q := 5) (ty := 38) (by rfl) _ _ A 38 (kidV (kidH fr SH)).toArray (0, 0) _ (by rfl) HF.out.1 Tryz.underlying38 (by rfl) hszX) (by rfl) ?_
        exact ⟨_, L3, by rw [HQ.out.1, HQ.out.2.1, HQ.out.2.2.2, HSH.out], HLH.out.1.symm, HLH.out.2, HF.out.2.2, HF.out.2.1⟩
   ·have hq := put_full HE.out HSN.out hfs
    rw [decide_eq_false hfs]
    clear hfs hN10 hD10 hK10 hn10
    obtain ⟨q1, q2, q3⟩ := put_err hq (by decide)
    have q4 := hq
    have hthZ := hA10.there 0 34 (by rw [hkz]; decide)
    have hstZ := store_row hA10 (D := (kidV (kidH 0 zeroH)).toArray) rfl
    have hbuZ := (But.refl A w10).setCells ((kidV (kidH 0 zeroH)).toArray : Array Value).toList 0
    have honeZ := kidV_one (kidH 0 zeroH)
    have hszZ := hszK _ hkz
    have hkZ := hk10.newer hbuZ (by rw [hCg]; exact hCA)
    have hstZ2 := StoreAt.later HH.out.2.2.2.2.2 (by rw [hCg]; exact hBw) hst10 hkZ hA10 (by decide) hbuZ
    have HF := Lib.hid (And.intro hstZ (And.intro hkZ hstZ2))
    have HQ := Lib.hid (And.intro q1 (And.intro q2 (And.intro q3 q4)))
    clear q1 q2 q3 q4 hstZ hbuZ hkZ hstZ2
    go_wp2_with (first | (refine wpList_build_eqH rfl 38 [] rfl (kidV (kidH 0 zeroH)).toArray built_kid0 ?_) | (refine wpList_store_mid rfl 38 _ _ rfl A 0 (kidV (kidH 0 zeroH)).toArray rfl rfl hthZ hszZ honeZ ?_))
    refine bodyPost_ret (v := .tuple #[.agg (kidV (kidH 0 zeroH)).toArray, .int .i64 8]) (results_cell_tmp (p := 4) (q := 5) (ty := 38) (by rfl) _ _ A 38 (kidV (kidH 0 zeroH)).toArray (0, 0) _ (by rfl) HF.out.1 Tryz.underlying38 (by rfl) hszZ) (by rfl) ?_
    exact ⟨_, L, by rw [HQ.out.1, HQ.out.2.1, HQ.out.2.2.2], by rw [HQ.out.2.2.1]; exact HH.out.2.1, HH.out.2.2.1, HF.out.2.2, HF.out.2.1⟩
  ·have i1 : (0 : Int) ≤ (i : Int) := by omega
   have hiL : i < L.length := by
    have := congrArg List.length HH.out.2.1
    rw [List.length_map] at this; omega
   have i2 : (i : Int) < (L.length : Int) := by omega
   have hce : h.cells[i] = L[i].d := by
    have : (L.map CellM.d)[i]'(by simpa using hiL) = L[i].d := List.getElem_map _
    rw [← this]; simp only [HH.out.2.1]
   obtain ⟨q4, q1, q2, q3⟩ := put_same HE.out hss
   rw [hce] at q1
   obtain ⟨ask9, hS9, ho9⟩ := hst9.row
   have cs9 : w9.cell? ⟨S, 1, none⟩ = some (.slice pp L.length cap) := by rw [hS9.cell]; rfl
   obtain ⟨p', cap', hpe, hpc⟩ := own_ptrs ho9
   injection hpe with hpe hle1 hle2
   clear hle1 hle2
   obtain ⟨R, hpR, hcell⟩ := hpc i hiL
   rw [← hpe] at hpR
   subst hpR
   rw [CellM.p] at hcell
   have hca := hst9.cells _ (List.getElem_mem hiL)
   have cn : w9.cell? ⟨L[i].ptr, 0, none⟩ = some (.int .u32 (L[i].d.num : Int)) := by rw [hca.row.cell]; rfl
   have ck : w9.cell? ⟨KP, 1, none⟩ = some (.int .u32 0) := by rw [hK9.cell]; rfl
   have fk := hK9.free 1
   have hK10 := hK9.set 1 (.int .u32 (L[i].d.num : Int))
   rw [kidH_set] at hK10
   have hbuK := (But.refl KP w9).setCell 1 (.int .u32 (L[i].d.num : Int))
   have hk10 := hk9.newer hbuK hKw
   have hst10 := StoreAt.later HH.out.2.2.2.2.2 (by rw [hCg]; exact hBw) hst9 hk10 hK9 (by decide) hbuK
   have hA10 := hA9.but hbuK (by omega)
   have h32' : SH.length = 32 := h32
   have hkl := kidV_length (k := kidH L[i].d.num SH) h32'
   have hone := kidV_one (kidH L[i].d.num SH)
   have hszX := hszK (kidV (kidH L[i].d.num SH)).toArray (List.size_toArray.trans hkl)
   have HQ := Lib.hid (And.intro q1 (And.intro q2 (And.intro q3 q4)))
   clear hca hpc hpe hS9 ho9 hss hce q1 q2 q3 q4 hN9 hD9 hn9 hA9 hst9 hk9 hbuK hK9
   generalize L[i].ptr = P at *
   generalize hNu : L[i].d.num = num at *
   generalize hw10 : w9.setCell ⟨KP, 1, none⟩ (.int .u32 (num : Int)) = w10 at *
   have hthX : w10.there A 0 (kidV (kidH num SH)).toArray.size := by
    rw [show (kidV (kidH num SH)).toArray.size = 34 from List.size_toArray.trans hkl]
    exact hA10.there 0 34 (by rw [hkz]; decide)
   have hst11 := store_row hA10 (D := (kidV (kidH num SH)).toArray) (by rw [List.size_toArray, hkl]; rfl)
   have hbuA := (But.refl A w10).setCells (kidV (kidH num SH)).toArray.toList 0
   have hk11 := hk10.newer hbuA (by rw [hCg]; exact hCA)
   have hstF := StoreAt.later HH.out.2.2.2.2.2 (by rw [hCg]; exact hBw) hst10 hk11 hA10 (by decide) hbuA
   have HF := Lib.hid (And.intro hst11 (And.intro hk11 hstF))
   clear hst11 hbuA hk11 hstF hst10 hA10 hk10 hkl
   go_wp2_with (first | (refine wpList_load_row rfl 38 _ rfl KP rfl 38 (kidV (kidH num SH)).toArray (0, 0) _ hK10 Tryz.underlying38 rfl hszX ?_) | (refine wpList_store_mid rfl 38 _ _ rfl A 0 (kidV (kidH num SH)).toArray rfl rfl hthX hszX hone ?_))
   refine bodyPost_ret (v := .tuple #[.agg (kidV (kidH num SH)).toArray, .int .i64 0]) (results_cell_tmp (p := 4) (q := 5) (ty := 38) (by rfl) _ _ A 38 (kidV (kidH num SH)).toArray (0, 0) _ (by rfl) HF.out.1 Tryz.underlying38 (by rfl) hszX) (by rfl) ?_
   exact ⟨_, L, by rw [HQ.out.1, HQ.out.2.1, HQ.out.2.2.2, HSH.out], by rw [HQ.out.2.2.1]; exact HH.out.2.1, HH.out.2.2.1, HF.out.2.2, HF.out.2.1⟩
 ·obtain ⟨q1, q2, q3⟩ := put_err (put_first hE) hE
  have q4 := put_first hE
  have hb1 : (firstE h n == 0) = false := by simpa using hE
  have hb2 : (firstE h n != 0) = true := by simpa using hE
  have hth := hA5.there 0 34 (by rw [hkz]; decide)
  have hst6 := store_row hA5 (D := (kidV (kidH 0 zeroH)).toArray) rfl
  have hbu := (But.refl A w5).setCells ((kidV (kidH 0 zeroH)).toArray : Array Value).toList 0
  have hone := kidV_one (kidH 0 zeroH)
  have hsz := hszK _ hkz
  have hk6 : Keep B w (w5.setCells A 0 ((kidV (kidH 0 zeroH)).toArray : Array Value).toList) := hk5.newer hbu (by rw [hCg]; exact hCA)
  have hst7 : StoreAt B (w5.setCells A 0 ((kidV (kidH 0 zeroH)).toArray : Array Value).toList) S h.size vs L := StoreAt.later HH.out.2.2.2.2.2 (by rw [hCg]; exact hBw) hst5 hk6 hA5 (by decide) hbu
  have HF := Lib.hid (And.intro hst6 (And.intro hk6 hst7))
  have HQ := Lib.hid (And.intro q1 (And.intro q2 (And.intro q3 q4)))
  clear q1 q2 q3 q4 hst6 hbu hk6 hst7 hk5 hst5 hn5 hD5 hE
  go_wp2_with (first | (refine wpList_build_eqH rfl 38 [] rfl (kidV (kidH 0 zeroH)).toArray built_kid0 ?_) | (refine wpList_store_mid rfl 38 _ _ rfl A 0 (kidV (kidH 0 zeroH)).toArray rfl rfl hth hsz hone ?_))
  refine bodyPost_ret (v := .tuple #[.agg (kidV (kidH 0 zeroH)).toArray, .int .i64 (firstE h n)]) (results_cell_tmp (p := 4) (q := 5) (ty := 38) (by rfl) _ _ A 38 (kidV (kidH 0 zeroH)).toArray (0, 0) _ (by rfl) HF.out.1 Tryz.underlying38 (by rfl) hsz) (by rfl) ?_
  exact ⟨vs, L, by rw [HQ.out.1, HQ.out.2.1, HQ.out.2.2.2], by rw [HQ.out.2.2.1]; exact HH.out.2.1, HH.out.2.2.1, HF.out.2.2, HF.out.2.1⟩

end Go.Proofs.YtimkklaidodkdaaGreatDoor

namespace Go.Proofs.YtimkklaidodkdaaGreatDoor
open Go.RowKit

theorem results_cell2_tmp {P : Program} {fn : Func} {p p' q : Tmp} {ty ty' : TypeId} (h : fn.results = #[.cell p ty, .cell p' ty', .tmp q]) (tmps : Array Value) (w : World) (g : Nat) (t : TypeId) (cs : Array Value) (fr : Nat × Nat) (d : TypeDesc) (g' : Nat) (t' : TypeId) (cs' : Array Value) (fr' : Nat × Nat) (d' : TypeDesc)
  (hp : tmps.getD p undef = .pointer (some ⟨g, 0, none⟩)) (hg : w.heap[g]? = some (.cells cs t fr)) (hp2 : tmps.getD p' undef = .pointer (some ⟨g', 0, none⟩)) (hg2 : w.heap[g']? = some (.cells cs' t' fr'))
  (hu : P.underlying ty = some d) (hd : (match d with | .struct _ | .array _ _ => true | _ => false) = true) (hi : (P.info? ty).map (·.size) = some cs.size)
  (hu' : P.underlying ty' = some d') (hd' : (match d' with | .struct _ | .array _ _ => true | _ => false) = true) (hi' : (P.info? ty').map (·.size) = some cs'.size) :
  (results fn tmps).run P w = .ok (.tuple #[.agg cs, .agg cs', tmps.getD q undef]) w := by
 have hp' : tmps[p]?.getD undef = .pointer (some ⟨g, 0, none⟩) := by simpa using hp
 have hp2' : tmps[p']?.getD undef = .pointer (some ⟨g', 0, none⟩) := by simpa using hp2
 simp [results, h, hp', hp2', asAddr, run_loadVar_row w g t ty cs fr d hg hu hd hi, run_loadVar_row w g' t' ty' cs' fr' d' hg2 hu' hd' hi']
theorem putS_len (h : HeapD) (n : NodeD) : (putS h n).length = 32 := by
 unfold putS
 split
 ·exact sha_length _
 ·exact List.length_replicate

set_option maxRecDepth 100000 in
set_option maxHeartbeats 6400000 in
theorem hput_calls (v : Value) (h : HeapD) (vn : Value) (n : NodeD) (w : World) (a : HeapAt w.heap.size w v h) (an : NodeAt w.heap.size w vn n) (hfit : fitN n) (hz : n.kids.length + n.vols.length ≤ 1048576) :
  Calls Tryz.prog 14 #[v, vn] w fun e w' => (∃ r, ((RightH h ∧ e = .returned (.tuple #[r, .agg (kidV (kidH (putN h n) (putS h n))).toArray, .int .i64 (putE h n)]) ∧ OwnH w.heap.size w' r (putH h n)) ∨ (¬ RightH h ∧ e = .returned (.tuple #[r, .agg (kidV (kidH 0 zeroH)).toArray, .int .i64 7]) ∧ OwnH w.heap.size w' r zeroHp))) ∧ Below w.heap.size w w' := by
 obtain ⟨p, cap, rfl⟩ := a.shape
 obtain ⟨p1, c1, p2, c2, p3, c3, rfl⟩ := an.shapeN
 obtain ⟨W0, hW0⟩ : ∃ W0, W0 = w.alloc (.cells #[.int .u32 (h.size : Int), .slice p h.cells.length cap] 35) := ⟨_, rfl⟩
 obtain ⟨W1, hW1⟩ : ∃ W1, W1 = W0.alloc (.cells #[.int .u8 (n.kind : Int), .slice p1 n.items.length c1, .slice p2 n.kids.length c2, .slice p3 n.vols.length c3] 28) := ⟨_, rfl⟩
 obtain ⟨W2, hW2⟩ : ∃ W2, W2 = W1.alloc (.cells #[.int .u32 0, .slice none 0 0] 35) := ⟨_, rfl⟩
 obtain ⟨W3, hW3⟩ : ∃ W3, W3 = W2.alloc (.cells (kidV (kidH 0 zeroH)).toArray 38) := ⟨_, rfl⟩
 have hx0 : RowIs W0 w.heap.size 35 #[.int .u32 (h.size : Int), .slice p h.cells.length cap] := by rw [hW0]; exact RowIs.new w _ _
 have hx3 : RowIs W3 w.heap.size 35 #[.int .u32 (h.size : Int), .slice p h.cells.length cap] := by rw [hW3, hW2, hW1]; exact ((hx0.alloc _).alloc _).alloc _
 have hN1 : RowIs W1 W0.heap.size 28 #[.int .u8 (n.kind : Int), .slice p1 n.items.length c1, .slice p2 n.kids.length c2, .slice p3 n.vols.length c3] := by rw [hW1]; exact RowIs.new W0 _ _
 have hN3 : RowIs W3 W0.heap.size 28 #[.int .u8 (n.kind : Int), .slice p1 n.items.length c1, .slice p2 n.kids.length c2, .slice p3 n.vols.length c3] := by rw [hW3, hW2]; exact (hN1.alloc _).alloc _
 have hA2 : RowIs W2 W1.heap.size 35 #[.int .u32 0, .slice none 0 0] := by rw [hW2]; exact RowIs.new W1 _ _
 have hA3 : RowIs W3 W1.heap.size 35 #[.int .u32 0, .slice none 0 0] := by rw [hW3]; exact hA2.alloc _
 have hE3 : RowIs W3 W2.heap.size 38 (kidV (kidH 0 zeroH)).toArray := by rw [hW3]; exact RowIs.new W2 _ _
 have hb0 : Below w.heap.size w W0 := by rw [hW0]; exact (Below.refl _ _).alloc (Nat.le_refl _) _
 have hb1 : Below w.heap.size w W1 := by rw [hW1]; exact hb0.alloc hb0.size _
 have hb2 : Below w.heap.size w W2 := by rw [hW2]; exact hb1.alloc hb1.size _
 have hb3 : Below w.heap.size w W3 := by rw [hW3]; exact hb2.alloc hb2.size _
 have hop := openB_calls p cap h w a W3 hb3
 have hnW : NodeAt W3.heap.size W3 (.agg #[.int .u8 (n.kind : Int), .slice p1 n.items.length c1, .slice p2 n.kids.length c2, .slice p3 n.vols.length c3]) n := (an.below hb3 (Nat.le_refl _)).monoB hb3.size
 have hsz : (Tryz.prog.info? 35).map (·.size) = some (#[.int .u32 (h.size : Int), .slice p h.cells.length cap] : Array Value).size := by kernel_rfl
 have hszH : ∀ x y : Value, (Tryz.prog.info? 35).map (·.size) = some (#[x, y] : Array Value).size := fun x y => by kernel_rfl
 have hszN : (Tryz.prog.info? 28).map (·.size) = some (#[.int .u8 (n.kind : Int), .slice p1 n.items.length c1, .slice p2 n.kids.length c2, .slice p3 n.vols.length c3] : Array Value).size := by kernel_rfl
 have hszK : ∀ C : Array Value, C.size = 34 → (Tryz.prog.info? 38).map (·.size) = some C.size := fun C hC => by rw [hC]; kernel_rfl
 have hAw : w.heap.size ≤ W1.heap.size := hb1.size
 have hEw : w.heap.size ≤ W2.heap.size := hb2.size
 have hAE : W1.heap.size < W2.heap.size := hA2.lt
 have hA3l := hA3.lt
 have hE3l := hE3.lt
 have hN3l := hN3.lt
 have hWs : w.heap.size ≤ W3.heap.size := hb3.size
 have hnw : n.wf := an.wf
 have HW0 := Lib.hid hW0
 have HW1 := Lib.hid hW1
 have HW2 := Lib.hid hW2
 have HW3 := Lib.hid (show W3 = W2.alloc (.cells (kidV (kidH 0 zeroH)).toArray 38) from hW3)
 have HI := Lib.hid (And.intro hA3 (And.intro hE3 (And.intro hb3 (And.intro hnW hN3))))
 clear hW0 hW1 hW2 hW3 a an hx0 hN1 hA2 hb0 hb1 hb2 hN3 hA3 hE3 hb3 hnW
 generalize hCg : W0.heap.size = C at *
 generalize hAg : W1.heap.size = A at *
 generalize hEg : W2.heap.size = E at *
 go_enter Tryz.func14, Tryz.ntmps14
 go_wp2_with (first | (refine wpList_world HW0.out ?_) | (refine wpList_world HW1.out ?_) | (refine wpList_world HW2.out ?_) | (refine wpList_world HW3.out ?_) | (refine wpList_load_row rfl 35 _ rfl w.heap.size rfl 35 #[.int .u32 (h.size : Int), .slice p h.cells.length cap] (0, 0) _ hx3 Tryz.underlying35 rfl hsz ?_))
 refine hop.mono ?_
 rintro e w1 (⟨hno, rfl, hq⟩ | ⟨hr, S, vs, L, rfl, hLd, hLa, hst, hk⟩)
 ·obtain ⟨hA3, hE3, hb3, hnW, hN3⟩ := HI.out
  have hA4 := hA3.below hq hA3.lt
  have hE4 := hE3.below hq hE3.lt
  have hb4 := hb3.trans (hq.mono hWs)
  have hthA := hA4.there 0 2 (by simp)
  have hst4 := store_row hA4 (D := #[.int .u32 0, .slice none 0 0]) rfl
  have hbuA := (But.refl A w1).setCells [.int .u32 0, .slice none 0 0] 0
  have hE5 := hE4.but hbuA (by omega)
  have hbs := setCells_below A w.heap.size hAw [.int .u32 0, .slice none 0 0] 0 _ _ hb4
  obtain ⟨W6, hW6⟩ : ∃ W6, W6 = w1.setCells A 0 [.int .u32 0, .slice none 0 0] := ⟨_, rfl⟩
  have hst4' : RowIs W6 A 35 #[.int .u32 0, .slice none 0 0] := by rw [hW6]; exact hst4
  rw [← hW6] at hE5 hbs
  have hthE := hE5.there 0 34 (by decide)
  have hst5 := store_row hE5 (D := (kidV (kidH 0 zeroH)).toArray) rfl
  have hbuE := (But.refl E W6).setCells ((kidV (kidH 0 zeroH)).toArray : Array Value).toList 0
  have hA6 := hst4'.but hbuE (by omega)
  have hbs6 := setCells_below E w.heap.size hEw ((kidV (kidH 0 zeroH)).toArray : Array Value).toList 0 _ _ hbs
  have hone1 : (#[.int .u32 0, .slice none 0 0] : Array Value).all (·.oneCell') = true := oneH 0 none 0 0
  have hone2 := kidV_one (kidH 0 zeroH)
  have hsz1 := hszH (.int .u32 0) (.slice none 0 0)
  have hsz2 := hszK (kidV (kidH 0 zeroH)).toArray rfl
  have HF := Lib.hid (And.intro hno (And.intro hA6 (And.intro hst5 hbs6)))
  have HW6 := Lib.hid hW6
  clear hop hno hq hA3 hE3 hb3 hnW hN3 hA4 hE4 hb4 hst4 hbuA hE5 hbs hW6 hst4' hst5 hbuE hA6 hbs6 hx3
  go_wp2_with (first | (refine wpList_build_eqH rfl 35 [] rfl #[.int .u32 0, .slice none 0 0] built_heap0 ?_) | (refine wpList_build_eqH rfl 38 [] rfl (kidV (kidH 0 zeroH)).toArray built_kid0 ?_) | (refine wpList_store_mid rfl 35 _ _ rfl A 0 #[.int .u32 0, .slice none 0 0] rfl rfl hthA hsz1 hone1 ?_; refine wpList_world HW6.out ?_) | (refine wpList_store_mid rfl 38 _ _ rfl E 0 (kidV (kidH 0 zeroH)).toArray rfl rfl hthE hsz2 hone2 ?_))
  refine bodyPost_ret (v := .tuple #[.agg #[.int .u32 0, .slice none 0 0], .agg (kidV (kidH 0 zeroH)).toArray, .int .i64 7]) (results_cell2_tmp (p := 4) (p' := 5) (q := 6) (ty := 35) (ty' := 38) (by rfl) _ _ A 35 #[.int .u32 0, .slice none 0 0] (0, 0) _ E 38 (kidV (kidH 0 zeroH)).toArray (0, 0) _ (by rfl) HF.out.2.1 (by rfl) HF.out.2.2.1 Tryz.underlying35 (by rfl) hsz1 Tryz.underlying38 (by rfl) hsz2) (by rfl) ?_
  exact ⟨⟨_, .inr ⟨HF.out.1, rfl, own_zero _ _⟩⟩, HF.out.2.2.2⟩
 ·have hLh : ∀ c ∈ L, c.hash = c.d.hash := fun c hc => (hLa c hc).1
  obtain ⟨hA3, hE3, hb3, hnW, hN3⟩ := HI.out
  have hA4 := hk.row hA3 (.inl hA3l)
  have hE4 := hk.row hE3 (.inl hE3l)
  have hN4 := hk.row hN3 (.inl hN3l)
  have hb4 := hb3.trans ((hk.below (Nat.le_refl _)).mono hWs)
  have hn4 : NodeOk W3.heap.size w1 (.agg #[.int .u8 (n.kind : Int), .slice p1 n.items.length c1, .slice p2 n.kids.length c2, .slice p3 n.vols.length c3]) n := .inr (hnW.below (hk.below (Nat.le_refl _)) (Nat.le_refl _))
  have hput := sput_calls W3.heap.size S vs L h n (.agg #[.int .u8 (n.kind : Int), .slice p1 n.items.length c1, .slice p2 n.kids.length c2, .slice p3 n.vols.length c3]) w1 hst hr hLd hLh hn4 hfit hz
  have hB1 := hst.hB
  have HJ := Lib.hid (And.intro hr (And.intro hA4 (And.intro hE4 hb4)))
  clear hop hst hk hLd hLa hLh hr hA3 hE3 hb3 hnW hN3 hA4 hE4 hb4 hn4 HI hx3
  go_wp2_with (refine wpList_load_row rfl 28 _ rfl C rfl 28 #[.int .u8 (n.kind : Int), .slice p1 n.items.length c1, .slice p2 n.kids.length c2, .slice p3 n.vols.length c3] (0, 0) _ hN4 Tryz.underlying28 rfl hszN ?_)
  refine hput.mono ?_
  rintro e w2 ⟨vs2, L2, rfl, hL2d, _, hst2, hk2⟩
  obtain ⟨hr, hA4, hE4, hb4⟩ := HJ.out
  have hA5 := hk2.row hA4 (.inr (by decide))
  have hE5 := hk2.row hE4 (.inr (by decide))
  have hb5 := hb4.trans ((hk2.below hB1).mono hWs)
  have hrp : RightH (putH h n) := putH_right hr hnw
  have hsp : (putH h n).size = h.size := by unfold putH; split <;> rfl
  have hL2n : L2.length ≤ 65536 := by rw [← List.length_map (f := CellM.d), hL2d]; exact hrp.okH.len
  obtain ⟨KR, hKR⟩ : ∃ KR, KR = kidV (kidH (putN h n) (putS h n)) := ⟨_, rfl⟩
  have hkl : KR.length = 34 := by rw [hKR]; exact kidV_length (putS_len h n)
  have hone2 : KR.toArray.all (·.oneCell') = true := by rw [hKR]; exact kidV_one _
  rw [← hKR]
  obtain ⟨W6, hW6⟩ : ∃ W6, W6 = w2.alloc (.cells (kidV (kidH 0 zeroH)).toArray 38) := ⟨_, rfl⟩
  obtain ⟨W7, hW7⟩ : ∃ W7, W7 = W6.setCells w2.heap.size 0 KR := ⟨_, rfl⟩
  have hal := (Below.refl _ w2).alloc (Nat.le_refl _) (.cells (kidV (kidH 0 zeroH)).toArray 38)
  have hK6 := RowIs.new w2 38 (kidV (kidH 0 zeroH)).toArray
  rw [← hW6] at hal hK6
  have hK7 := store_row hK6 (D := KR.toArray) (by rw [List.size_toArray, hkl]; rfl)
  have hal7 := setCells_below w2.heap.size w2.heap.size (Nat.le_refl _) KR 0 _ _ hal
  rw [show KR.toArray.toList = KR from rfl, ← hW7] at hK7
  rw [← hW7] at hal7
  have hth := hK6.there 0 34 (by decide)
  have hszR := hszK KR.toArray (List.size_toArray.trans hkl)
  have hth' : W6.there w2.heap.size 0 KR.toArray.size := by rw [show KR.toArray.size = 34 from List.size_toArray.trans hkl]; exact hth
  have hA7 := hA5.below hal7 hA5.lt
  have hE7 := hE5.below hal7 hE5.lt
  have hst7 := hst2.below hal7 (Nat.le_refl _)
  have hb7 := hb5.trans (hal7.mono hb5.size)
  have hAX := hA5.lt
  have hEX := hE5.lt
  have hcall := fun W (hst : StoreAt W3.heap.size W S h.size vs2 L2) => heap_calls W3.heap.size S h.size vs2 L2 W hst hL2n
  rw [hL2d] at hcall
  have HR := Lib.hid (And.intro hr (And.intro hsp (And.intro hKR hL2d)))
  have HW6 := Lib.hid hW6
  have HW7 := Lib.hid hW7
  clear hput hst2 hk2 hA4 hE4 hb4 hA5 hE5 hb5 hrp hL2d hK6 hal hal7 hth hW6 hW7 hr hsp hKR hN4 HJ
  generalize hX9 : w2.heap.size = X9 at *
  go_wp2_with (first | (refine wpList_world HW6.out ?_) | (refine wpList_store_mid rfl 38 _ _ rfl X9 0 KR.toArray rfl rfl hth' hszR hone2 ?_; refine wpList_world HW7.out ?_))
  refine wp_region_held_drew (S := fun w' => RowIs w' X9 38 KR.toArray) (by kernel_rfl) hK7.drew (fun hHeld => ?_)
  have hK8 := hK7.drew
  have hA8 := hA7.drew
  have hE8 := hE7.drew
  have hbd : Below W7.heap.size W7 W7.drew := (Below.refl _ _).drew
  have hst8 := hst7.below hbd (Nat.le_refl _)
  have hb8 := hb7.trans (hbd.mono hb7.size)
  clear hbd hK7 hA7 hE7 hst7 hb7
  generalize W7.drew = wu at *
  refine take_N (i := 0) (v := ?_) (some 26) #[true, false, false, false, false, false, false] rfl rfl (by kernel_rfl) (by kernel_rfl) (by kernel_rfl) (by kernel_rfl) (fun _ _ _ h => h) hK8 (Or.inl ⟨by rfl, ?_⟩) ?_
  rotate_left
  ·intro w_ hSw_; go_simp; try with_reducible rfl
  try simp only [Act.put, List.setIfInBounds_toArray, List.set_cons_zero, List.set_cons_succ]
  refine take_N (i := 2) (v := (.agg KR.toArray)) (some 28) #[true, false, true, false, false, false, false] rfl rfl (by kernel_rfl) (by kernel_rfl) (by kernel_rfl) (by kernel_rfl) (fun _ _ _ h => h) hK8 (Or.inl ⟨by rfl, ?_⟩) ?_
  ·intro w_ hSw_; exact exec_load_row 38 _ (by rfl) X9 (by rfl) 38 KR.toArray (0, 0) _ hSw_ Tryz.underlying38 rfl hszR
  try simp only [Act.put, List.setIfInBounds_toArray, List.set_cons_zero, List.set_cons_succ]
  refine take_N (i := 3) (v := ?_) (some 29) #[true, false, true, true, false, false, false] rfl rfl (by kernel_rfl) (by kernel_rfl) (by kernel_rfl) (by kernel_rfl) (fun _ _ _ h => h) hK8 (Or.inl ⟨by rfl, ?_⟩) ?_
  rotate_left
  ·intro w_ hSw_; go_simp; try with_reducible rfl
  try simp only [Act.put, List.setIfInBounds_toArray, List.set_cons_zero, List.set_cons_succ]
  refine step_N (i := 1) #[true, true, true, true, false, false, false] rfl (by kernel_rfl) (by kernel_rfl) (fun K hK => ?_)
  rw [if_pos (by rfl)]
  go_simp
  refine (hcall wu hst8).mono ?_
  rintro e w9 ⟨v9, rfl, hown9, hb9⟩
  replace hK8 := hK8.below hb9 hK8.lt
  replace hA8 := hA8.below hb9 hA8.lt
  replace hE8 := hE8.below hb9 hE8.lt
  obtain ⟨p9, c9, rfl⟩ := own_shape hown9
  refine hK.out _ _ hK8 ?_
  clear hK K
  refine step_N (i := 4) #[true, true, true, true, true, false, false] rfl (by kernel_rfl) (by kernel_rfl) (fun K hK => ?_)
  rw [if_pos (by rfl)]
  have hthA := hA8.there 0 2 (by simp)
  refine wp_store_mid 35 _ _ rfl A 0 #[.int .u32 (h.size : Int), .slice p9 L2.length c9] rfl rfl hthA (hszH _ _) (oneH _ _ _ _) ?_
  have hst9 := store_row hA8 (D := #[.int .u32 (h.size : Int), .slice p9 L2.length c9]) rfl
  have hbuA := (But.refl A w9).setCells [.int .u32 (h.size : Int), .slice p9 L2.length c9] 0
  have hb10 := hb8.trans (hb9.mono hb8.size)
  have hbs9 := setCells_below A w.heap.size hAw [.int .u32 (h.size : Int), .slice p9 L2.length c9] 0 _ _ hb10
  have ho9 := ownsRow_but (ownsRow_base hown9 hb8.size) hbuA (fun c hc => by have := row_type hA8 hc; revert this; decide)
  replace hK8 := hK8.but hbuA (by omega)
  replace hE8 := hE8.but hbuA (by omega)
  change K _ (w9.setCells A 0 [.int .u32 (h.size : Int), .slice p9 L2.length c9])
  change RowIs (w9.setCells A 0 [.int .u32 (h.size : Int), .slice p9 L2.length c9]) A _ _ at hst9
  generalize w9.setCells A 0 [.int .u32 (h.size : Int), .slice p9 L2.length c9] = w10 at *
  clear hthA hbuA hb10 hb9 hown9 hA8
  refine hK.out _ _ hK8 ?_
  clear hK K
  try simp only [Act.put]
  refine step_N (i := 5) #[true, true, true, true, true, true, false] rfl (by kernel_rfl) (by kernel_rfl) (fun K hK => ?_)
  rw [if_pos (by rfl)]
  have hthE := hE8.there 0 34 (by decide)
  have hthE' : w10.there E 0 KR.toArray.size := by rw [show KR.toArray.size = 34 from List.size_toArray.trans hkl]; exact hthE
  refine wp_store_mid 38 _ _ rfl E 0 KR.toArray rfl rfl hthE' hszR hone2 ?_
  have hst10 := store_row hE8 (D := KR.toArray) (by rw [List.size_toArray, hkl]; rfl)
  have hbuE := (But.refl E w10).setCells KR.toArray.toList 0
  have hbs10 := setCells_below E w.heap.size hEw KR.toArray.toList 0 _ _ hbs9
  have ho10 := ownsRow_but ho9 hbuE (fun c hc => by have := row_type hE8 hc; revert this; decide)
  replace hK8 := hK8.but hbuE (by omega)
  have hA10 := hst9.but hbuE (by omega)
  generalize w10.setCells E 0 KR.toArray.toList = w11 at *
  clear hthE hthE' hbuE hbs9 ho9 hst9 hE8
  refine hK.out _ _ hK8 ?_
  clear hK K
  try simp only [Act.put]
  refine take_N (i := 6) (v := ?_) (some 6) #[true, true, true, true, true, true, true] rfl rfl (by kernel_rfl) (by kernel_rfl) (by kernel_rfl) (by kernel_rfl) (fun _ _ _ h => h) hK8 (Or.inl ⟨by rfl, ?_⟩) ?_
  rotate_left
  ·intro w_ hSw_; go_simp; try with_reducible rfl
  try simp only [Act.put, List.setIfInBounds_toArray]
  refine wpAnyH_done (by kernel_rfl) ?_ _
  clear hHeld
  have hsz9 := hszH (.int .u32 (h.size : Int)) (.slice p9 L2.length c9)
  have HF := Lib.hid (And.intro hA10 (And.intro hst10 (And.intro ho10 hbs10)))
  clear hA10 hst10 ho10 hbs10 hK8 hcall
  go_wp2_with fail
  refine bodyPost_ret (v := .tuple #[.agg #[.int .u32 (h.size : Int), .slice p9 L2.length c9], .agg KR.toArray, .int .i64 (putE h n)]) (results_cell2_tmp (p := 4) (p' := 5) (q := 6) (ty := 35) (ty' := 38) (by rfl) _ _ A 35 #[.int .u32 (h.size : Int), .slice p9 L2.length c9] (0, 0) _ E 38 KR.toArray (0, 0) _ (by rfl) HF.out.1 (by rfl) HF.out.2.1 Tryz.underlying35 (by rfl) hsz9 Tryz.underlying38 (by rfl) hszR) (by rfl) ?_
  have hll : L2.length = (putH h n).cells.length := by rw [← HR.out.2.2.2, List.length_map]
  exact ⟨⟨_, .inl ⟨HR.out.1, by rw [HR.out.2.2.1], .slice p9 L2.length c9, by rw [HR.out.2.1], by rw [← hll]; exact HF.out.2.2.1⟩⟩, HF.out.2.2.2⟩

end Go.Proofs.YtimkklaidodkdaaGreatDoor
