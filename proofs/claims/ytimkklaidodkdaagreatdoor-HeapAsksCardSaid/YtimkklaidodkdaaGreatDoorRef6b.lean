/- cambiumref06.led: walked. -/
import Derived.Test.YtimkklaidodkdaaGreatDoorRef6a
import Derived.Test.YtimkklaidodkdaaGreatDoorRefKids
namespace Go.Proofs.YtimkklaidodkdaaGreatDoor
open Go.RowKit

def ledRow (l : List CellD) (ks : List Nat) : Array Value := (l.map fun c => Value.int .i64 ((ks.count c.num : Nat) : Int)).toArray
theorem ledRow_size (l : List CellD) (ks : List Nat) : (ledRow l ks).size = l.length := by simp [ledRow]
theorem ledRow_get (l : List CellD) (ks : List Nat) (i : Nat) (h : i < l.length) : (ledRow l ks)[i]? = some (.int .i64 ((ks.count l[i].num : Nat) : Int)) := by simp [ledRow, h]
theorem ledRow_zero (l : List CellD) : (List.replicate l.length (Value.int .i64 0)).toArray = ledRow l [] := by
 unfold ledRow
 congr 1
 symm
 rw [List.eq_replicate_iff]
 refine ⟨by simp, fun b hb => ?_⟩
 obtain ⟨c, _, rfl⟩ := List.mem_map.1 hb
 simp
theorem ledRow_hit {l : List CellD} (ha : l.Pairwise (fun a b => a.num < b.num)) (ks : List Nat) (i : Nat) (hi : i < l.length) : (ledRow l ks).setIfInBounds i (.int .i64 ((ks.count l[i].num : Nat) + 1 : Int)) = ledRow l (ks ++ [l[i].num]) := by
 unfold ledRow
 rw [setIf_list]
 congr 1
 refine List.ext_getElem (by simp) fun j h1 h2 => ?_
 have hj : j < l.length := by simpa using h2
 rw [List.getElem_set]
 simp only [List.getElem_map, List.count_append]
 by_cases e : i = j
 ·subst e
  rw [if_pos rfl]; simp
 ·rw [if_neg e]
  have hne : l[i].num ≠ l[j].num := fun q => by
   have := asc_inj ha (List.getElem_mem hi) (List.getElem_mem hj) q
   rcases Nat.lt_or_ge i j with h3 | h3
   ·have := (List.pairwise_iff_getElem.1 ha) i j hi hj h3; omega
   ·have := (List.pairwise_iff_getElem.1 ha) j i hj hi (by omega); omega
  have h0 : [l[i].num].count l[j].num = 0 := by
   rw [List.count_eq_zero]
   intro q
   exact hne (List.mem_singleton.1 q).symm
  rw [h0]; simp
theorem ledRow_miss {l : List CellD} (ks : List Nat) (k : Nat) (h : ∀ c ∈ l, c.num ≠ k) : ledRow l (ks ++ [k]) = ledRow l ks := by
 unfold ledRow
 congr 1
 refine List.map_congr_left fun c hc => ?_
 have h0 : [k].count c.num = 0 := by
  rw [List.count_eq_zero]
  intro q
  exact h c hc (List.mem_singleton.1 q)
 rw [List.count_append, h0]; simp
theorem info_int : (Tryz.prog.info? 3).map (fun i => (i.zero, i.size, i.bytes)) = some (some (.int .i64 0), 1, 8) := by kernel_rfl
theorem make_ints (w : World) (n : Nat) (hn : n ≤ 1099511627776) : ∃ W2, (Instr.makeSlice 122 (.int .i64 (n : Int)) (.int .i64 (n : Int))).run Tryz.prog w = .ok (.slice (some ⟨w.heap.size, 0, none⟩) n n) W2 ∧
  RowIs W2 w.heap.size 3 (List.replicate n (Value.int .i64 0)).toArray ∧ Below w.heap.size w W2 := by
 obtain ⟨i0, hi, hz0, hz1, hz2⟩ := info_parts info_int
 have hr := run_make (P := Tryz.prog) w 122 3 i0 (.int .i64 0) Tryz.underlying122 hi hz0 .i64 .i64 n n (by omega) (by omega) (by rw [hz2]; omega) (by omega)
 rw [Int.toNat_natCast, hz1, Nat.mul_one] at hr
 have e : madeCells (Value.int .i64 0).cells n = (List.replicate n (Value.int .i64 0)).toArray := by
  apply Array.ext
  ·rw [size_madeCells]; simp
  ·intro i h1 h2
   simp [madeCells, Value.cells, Nat.mod_one]
 rw [e] at hr
 exact ⟨_, hr, RowIs.new _ _ _, (Below.refl _ _).alloc (Nat.le_refl _) _⟩

set_option maxRecDepth 100000 in
set_option maxHeartbeats 6400000 in
theorem led06_calls (B : Nat) (cv : Value) (l : List CellD) (w : World) (h : SlAt B w cv l.length (fun i => (l[i]?.map cellV).getD []) 3) (hB : B ≤ w.heap.size) (hds : ∀ c ∈ l, c.data.size ≤ 140737488351232)
  (ha : l.Pairwise (fun a b => a.num < b.num)) (hl : l.length ≤ 65536) :
  Calls Tryz.prog 56 #[cv] w fun e w' => e = .returned (.slice (some ⟨w.heap.size, 0, none⟩) l.length l.length) ∧ RowIs w' w.heap.size 3 (ledRow l (l.flatMap CellD.kids)) ∧ Below w.heap.size w w' := by
 have hfd := fun k W (hb : Below w.heap.size w W) => find06_calls B cv l k W (h.below hb hB) (Nat.le_trans hB hb.size)
 obtain ⟨ap, acap, rfl, hlc, hrl⟩ := h
 have HRL := Lib.hid hrl
 obtain ⟨W1, hmk, hR1, hb1⟩ := make_ints w l.length (by omega)
 rw [ledRow_zero] at hR1
 have hds' : ∀ i (hi : i < l.length), l[i].data.size ≤ 140737488351232 := fun i hi => hds _ (List.getElem_mem hi)
 have HDS := Lib.hid hds'
 have HFD := Lib.hid hfd
 have HA := Lib.hid ha
 have HI := Lib.hid (And.intro hR1 hb1)
 clear hrl hds hds' hfd ha hR1 hb1 hlc
 go_enter Tryz.func56, Tryz.ntmps56
 go_wp2_with fail
 go_loopw [14] (fun x wr => ∃ t : Nat, t ≤ l.length ∧ x = .int .i64 t ∧ RowIs wr w.heap.size 3 (ledRow l ((l.take t).flatMap CellD.kids)) ∧ Below w.heap.size w wr) (fun x _ => l.length - (intOf x).toNat)
 case atStart => exact ⟨0, by omega, rfl, HI.out.1, HI.out.2⟩
 case round =>
  clear HI hmk
  obtain ⟨t, ht, rfl, hR, hb⟩ := hrel
  by_cases hlt : t < l.length
  ·have i1 : (t : Int) < (l.length : Int) := by omega
   obtain ⟨b2, o2, hap, hb2B, hcl⟩ := HRL.out (by omega)
   subst hap
   have hci : wr.rangeAt b2 (o2 + t * 3) (cellV l[t]) := by
    have := rangeAt_below (hcl t hlt) hb (by omega)
    rwa [List.getElem?_eq_getElem hlt] at this
   obtain ⟨c, hc⟩ : ∃ c, c = l[t] := ⟨_, rfl⟩
   rw [← hc] at hci
   have hcsz := HDS.out t hlt
   rw [← hc] at hcsz
   have hone : (cellV c).toArray.all (·.oneCell') = true := by simp [cellV, Value.oneCell']
   have hksz : (Tryz.prog.info? 57).map (·.size) = some (cellV c).length := by kernel_rfl
   have hksz2 : (Tryz.prog.info? 57).map (·.size) = some (cellV c).toArray.size := by kernel_rfl
   obtain ⟨WA, WB, hWA, hWB, hG, hbq, hth⟩ := alloc_fill wr #[.int .u32 0, .string ⟨#[]⟩, .int .i64 0] (cellV c).toArray 57 rfl
   have hcall := node06_calls c WB hcsz
   have hR2 := hR.below hbq hR.lt
   have hb2 := hb.trans (hbq.mono hb.size)
   have hsn : (l.take (t + 1)).flatMap CellD.kids = (l.take t).flatMap CellD.kids ++ c.kids := by rw [List.take_succ_eq_append_getElem hlt, List.flatMap_append, hc]; simp
   have hkl : c.kids.length ≤ 255 := kidNums_small c.d
   have hcnt : ((l.take t).flatMap CellD.kids).length ≤ 255 * t := by
    have : ∀ m : List CellD, (m.flatMap CellD.kids).length ≤ 255 * m.length := fun m => by
     induction m with
     | nil => simp
     | cons a m ih => rw [List.flatMap_cons, List.length_append, List.length_cons]; have h1 : a.kids.length ≤ 255 := kidNums_small a.d; omega
    have h2 := this (l.take t)
    rw [List.length_take] at h2
    omega
   have HWA := Lib.hid hWA
   have HWB := Lib.hid hWB
   have HF := Lib.hid (And.intro hR2 (And.intro hb2 (And.intro hsn (And.intro hkl hcnt))))
   clear hWA hWB hbq hR hb hR2 hb2 hsn hkl hcnt hc hcl hcsz
   obtain ⟨C, hC⟩ : ∃ C, C = (cellV c).toArray := ⟨_, rfl⟩
   have HC := Lib.hid hC
   rw [← hC] at hone hksz2 hth hG hcall
   have HWB := Lib.hid (show WB = WA.setCells wr.heap.size 0 C.toList by rw [HWB.out, HC.out])
   clear hC
   generalize (l.take t).flatMap CellD.kids = KS at *
   go_wp2_with (first | (refine wpList_world HWA.out ?_) | (refine wpList_load_mid rfl 57 _ rfl b2 (o2 + t * 3) rfl (cellV c) _ hci Tryz.underlying57 rfl hksz ?_; rw [← HC.out]) | (refine wpList_store_mid rfl 57 _ _ rfl wr.heap.size 0 C rfl rfl hth hksz2 hone ?_; refine wpList_world HWB.out ?_) | (refine wpList_load_row rfl 57 _ rfl wr.heap.size rfl 57 C (0, 0) _ hG Tryz.underlying57 rfl hksz2 ?_))
   clear hone hksz hksz2 hth hG hci HWA HWB
   generalize wr.heap.size = XX at *
   refine hcall.mono ?_
   rintro e w3 ⟨v, rfl, ho, hq⟩
   obtain ⟨hR, hb, hsn, hkl, hcnt⟩ := HF.out
   have hR3 := hR.below hq hR.lt
   have hb3 := hb.trans (hq.mono hb.size)
   have hkc := rkidNums_calls w3.heap.size v c.node w3 ho.node (Nat.le_refl _) (nodeL_fitH c.d)
   obtain ⟨_, vi, vk, vv, rfl, oi, ok, ov⟩ := id ho
   have HF2 := Lib.hid (And.intro hR3 (And.intro hb3 (And.intro hsn (And.intro hkl hcnt))))
   clear hcall ho hq hR hb hsn hkl hcnt hR3 hb3 HF oi ok ov
   have hkn : kidNums c.node = c.kids := rfl
   rw [hkn] at hkc
   clear hkn
   generalize c.kids = KC at *
   go_wp2_with fail
   refine hkc.mono ?_
   rintro e w4 ⟨r, rfl, hown, hq⟩
   obtain ⟨hR, hb, hsn, hkl, hcnt⟩ := HF2.out
   have hR4 := hR.below hq hR.lt
   have hb4 := hb.trans (hq.mono hb.size)
   have hown4 := ownsRow_base hown hb.size
   obtain ⟨p, cap, rfl⟩ := own_shape hown
   have HG := Lib.hid (And.intro hsn (And.intro hkl hcnt))
   have HS := Lib.hid (And.intro hR4 (And.intro hb4 hown4))
   clear hkc hown hq hR hb hsn hkl hcnt HF2 hR4 hb4 hown4
   go_wp2_with fail
   go_loopw [22] (fun x wr => ∃ j : Nat, j ≤ KC.length ∧ x = .int .i64 j ∧ RowIs wr w.heap.size 3 (ledRow l (KS ++ KC.take j)) ∧ Below w.heap.size w wr ∧ wr.ownsRow w.heap.size 32 1 (.slice p KC.length cap) KC.length (numsV KC)) (fun x _ => KC.length - (intOf x).toNat)
   case atStart => exact ⟨0, by omega, rfl, by rw [List.take_zero, List.append_nil]; exact HS.out.1, HS.out.2.1, HS.out.2.2⟩
   case round =>
    clear HS
    obtain ⟨j, hj, rfl, hR, hb, hown⟩ := hrel
    by_cases hjl : j < KC.length
    ·have i2 : (j : Int) < (KC.length : Int) := by omega
     have hkl := HG.out.2.1
     obtain ⟨p', cap', hpx, hcx⟩ := own_one hown
     obtain ⟨Y, hY, hyc⟩ := hcx j hjl
     injection hpx with hpx hz1 hz2
     clear hz1 hz2
     subst hY
     subst hpx
     have hcj : wr.cell? ⟨Y, j, none⟩ = some (.int .u32 (KC[j] : Int)) := by rw [hyc]; simp [numsV, List.getElem?_eq_getElem hjl]
     have hcall := HFD.out KC[j] wr hb
     have hsn2 : KC.take (j + 1) = KC.take j ++ [KC[j]] := List.take_succ_eq_append_getElem hjl
     have hcl : ∀ x, (KS ++ KC.take j).count x ≤ 33554432 := fun x => by
      have h1 := List.count_le_length (a := x) (l := KS ++ KC.take j)
      rw [List.length_append, List.length_take] at h1
      have h2 := HG.out.2.1
      have h3 := HG.out.2.2
      omega
     have HN := Lib.hid (And.intro hsn2 hcl)
     have HS := Lib.hid (And.intro hR (And.intro hb hown))
     clear hcx hyc hR hb hown hsn2 hcl
     generalize hKK : KC[j] = kk at *
     have HKK := Lib.hid hKK
     clear hKK
     go_wp2_with fail
     refine hcall.mono ?_
     rintro e w5 ⟨rfl, hq⟩
     obtain ⟨hR, hb, hown⟩ := HS.out
     have hR5 := hR.below hq hR.lt
     have hb5 := hb.trans (hq.mono hb.size)
     have hown5 := ownsRow_below hown hq
     clear hcall hcj hq hR hb hown HS
     cases hf : findC l kk with
     | none =>
      have hneg := idx_find.1.2 hf
      have hrow : ledRow l (KS ++ KC.take (j + 1)) = ledRow l (KS ++ KC.take j) := by rw [HN.out.1, ← List.append_assoc]; exact ledRow_miss _ _ (find_none.1 hf)
      have HE := Lib.hid (And.intro hrow (And.intro hR5 (And.intro hb5 hown5)))
      generalize idxI l kk = ix at *
      have hn0 : ¬ (0 : Int) ≤ ix := by omega
      clear hrow hR5 hb5 hown5 hf hneg
      go_wp2_with fail
      go_roundw
      case rel => exact ⟨j + 1, by omega, by go_num, by rw [HE.out.1]; exact HE.out.2.1, HE.out.2.2.1, HE.out.2.2.2⟩
      case measure => simp [intOf]; omega
     | some c' =>
      obtain ⟨i, hi, hix, hlc'⟩ := idx_find.2 c' hf
      have hnum : l[i].num = kk := by rw [hlc']; exact (find_mem hf).2
      rw [hix]
      have hge : (0 : Int) ≤ (i : Int) := by omega
      have hbnd : (i : Int) < (l.length : Int) := by omega
      have hcl := HN.out.2 l[i].num
      have hcell : w5.cell? ⟨w.heap.size, i, none⟩ = some (.int .i64 (((KS ++ KC.take j).count l[i].num : Nat) : Int)) := by rw [hR5.cell]; exact ledRow_get l _ i hi
      have hfr := hR5.free i
      have hrow := ledRow_hit HA.out (KS ++ KC.take j) i hi
      rw [hnum, List.append_assoc, ← HN.out.1] at hrow
      rw [hnum] at hcell hcl
      generalize hcu : (KS ++ KC.take j).count kk = cu at *
      obtain ⟨W6, hW6⟩ : ∃ W, W = w5.setCell ⟨w.heap.size, i, none⟩ (.int .i64 ((cu : Int) + 1)) := ⟨_, rfl⟩
      have hR6 : RowIs W6 w.heap.size 3 (ledRow l (KS ++ KC.take (j + 1))) := by rw [hW6, ← hrow]; exact hR5.set i _
      have hb6 : Below w.heap.size w W6 := by rw [hW6]; exact hb5.setCell (p := ⟨w.heap.size, i, none⟩) (Nat.le_refl _) _
      have hown6 : W6.ownsRow w.heap.size 32 1 (.slice (some ⟨Y, 0, none⟩) KC.length cap) KC.length (numsV KC) := by
       rw [hW6]
       exact ownsRow_but hown5 ((But.refl _ _).setCell i _) (fun cc hx => by have := hR5; unfold RowIs at this; rw [hx] at this; injection this with this; injection this with _ q2 _; exact absurd q2 (by decide))
      have HE := Lib.hid (And.intro hR6 (And.intro hb6 hown6))
      have HW6 := Lib.hid hW6
      clear hR6 hb6 hown6 hW6 hR5 hb5 hown5 hrow hf hix hlc' hnum hcu
      go_wp2_with (refine wpList_world HW6.out ?_)
      go_roundw
      case rel => exact ⟨j + 1, by omega, by go_num, HE.out.1, HE.out.2.1, HE.out.2.2⟩
      case measure => simp [intOf]; omega
    ·have hjl2 : j = KC.length := by omega
     subst hjl2
     have i2 : ¬ (KC.length : Int) < (KC.length : Int) := by omega
     rw [List.take_length, ← HG.out.1] at hR
     have HE := Lib.hid (And.intro hR hb)
     clear hR hb hown
     go_wp2_with fail
     go_roundw
     case rel => exact ⟨t + 1, by omega, by go_num, HE.out.1, HE.out.2⟩
     case measure => simp [intOf]; omega
  ·have htl : t = l.length := by omega
   subst htl
   have i1 : ¬ (l.length : Int) < (l.length : Int) := by omega
   rw [List.take_length] at hR
   have HE := Lib.hid (And.intro hR hb)
   clear hR hb
   go_wp2_with fail
   go_ret
   exact ⟨rfl, HE.out.1, HE.out.2⟩

end Go.Proofs.YtimkklaidodkdaaGreatDoor
