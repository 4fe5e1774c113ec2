/- cambiumref05.Bytes, Encode: walked. -/
import Derived.Test.YtimkklaidodkdaaGreatDoorRefCheck
import Derived.Test.YtimkklaidodkdaaGreatDoorRefTake
namespace Go.Proofs.YtimkklaidodkdaaGreatDoor
open Go.RowKit

theorem bapp_assoc (a b c : ByteArray) : a ++ b ++ c = a ++ (b ++ c) := by
 apply ByteArray.ext
 apply Array.ext'
 simp
theorem strOf_app (a b : List UInt8) : strOf (a ++ b) = strOf a ++ strOf b := by
 apply ByteArray.ext
 apply Array.ext'
 simp [strOf]
theorem strOf_tx1 (s : ByteArray) : strOf (tx1 s) = beN s.size 1 ++ s := by rw [tx1, strOf_app, strOf_data]; rfl
theorem rcast_u32 (n : Nat) (w : World) (h : n < 4294967296) : (convert 32 81 (.int .u32 (n : Int))).run Tryz.prog w = .ok (.int .u64 (n : Int)) w := by
 have hw : IntKind.u64.wrap (n : Int) = (n : Int) := by rw [IntKind.wrap_u64]; omega
 go_simp
theorem rcast_vk (n : Nat) (w : World) (h : n < 256) : (convert 87 81 (.int .u8 (n : Int))).run Tryz.prog w = .ok (.int .u64 (n : Int)) w := by
 have hw : IntKind.u64.wrap (n : Int) = (n : Int) := by rw [IntKind.wrap_u64]; omega
 go_simp
theorem rcast_nk (n : Nat) (w : World) (h : n < 256) : (convert 24 81 (.int .u8 (n : Int))).run Tryz.prog w = .ok (.int .u64 (n : Int)) w := by
 have hw : IntKind.u64.wrap (n : Int) = (n : Int) := by rw [IntKind.wrap_u64]; omega
 go_simp
theorem rcast_int (n : Nat) (w : World) (h : n < 9223372036854775808) : (convert 3 81 (.int .i64 (n : Int))).run Tryz.prog w = .ok (.int .u64 (n : Int)) w := by
 have hw : IntKind.u64.wrap (n : Int) = (n : Int) := by rw [IntKind.wrap_u64]; omega
 go_simp
theorem rconv_hash {pre : List Value} {T : TypeId} {b o : Nat} (w : World) (l : List UInt8) (hl : l.length = 32) (ho : pre.length = o) (h : RowIs w b T (pre ++ bytesV l).toArray) :
  (convert 75 9 (.slice (some ⟨b, o, none⟩) 32 32)).run Tryz.prog w = .ok (.string (strOf l)) w := by
 rw [← hl]
 subst ho
 exact run_convert_bytes_back w _ _ _ ⟨b, pre.length, none⟩ l.length l Tryz.underlying75 Tryz.underlying5 Tryz.underlying9 fun j hj => by
  rw [Addr.add_mid, h.cell]
  simp [bytesV, hj]
theorem rflat_take_le {α : Type} (f : α → List UInt8) (l : List α) (t : Nat) : ((l.take t).flatMap f).length ≤ (l.flatMap f).length := by
 conv => rhs; rw [← List.take_append_drop t l, List.flatMap_append, List.length_append]
 omega
theorem rflat_take_snoc {α : Type} (f : α → List UInt8) (l : List α) (t : Nat) (h : t < l.length) : (l.take (t + 1)).flatMap f = (l.take t).flatMap f ++ f l[t] := by
 rw [List.take_succ_eq_append_getElem h, List.flatMap_append]; simp

set_option maxRecDepth 100000 in
set_option maxHeartbeats 6400000 in
theorem rbytesN_calls (B : Nat) (v : Value) (n : NodeD) (w : World) (h : NodeAt B w v n) (hB : B ≤ w.heap.size) (hz : fitN n) (hlim : (bytesN n).length ≤ 1048576) :
  Calls Tryz.prog 120 #[v] w fun e w' => e = .returned (.string (strOf (bytesN n))) ∧ Below w.heap.size w w' := by
 have hlen := hz.1
 obtain ⟨hw, vi, vk, vv, rfl, h1, h2, h3⟩ := h
 obtain ⟨kind, items, kids, vols⟩ := n
 simp only [] at h1 h2 h3 hlen
 obtain ⟨ai, ci, rfl, _, hr1⟩ := h1
 obtain ⟨ak, ck, rfl, _, hr2⟩ := h2
 obtain ⟨av, cv, rfl, _, hr3⟩ := h3
 obtain ⟨hk, hwk, hwv⟩ := hw
 simp only [] at hk hwk hwv
 obtain ⟨l1, l2, l3⟩ := hlen
 have hBN : bytesN ⟨kind, items, kids, vols⟩ = beL kind 1 ++ (beL (items.length + kids.length + vols.length) 1 ++ (items.flatMap itemB ++ (kids.flatMap kidB ++ vols.flatMap volB))) := rfl
 obtain ⟨HD, hHD⟩ : ∃ l : List UInt8, l = beL kind 1 ++ beL (items.length + kids.length + vols.length) 1 := ⟨_, rfl⟩
 have hX : bytesN ⟨kind, items, kids, vols⟩ = ((HD ++ items.flatMap itemB) ++ kids.flatMap kidB) ++ vols.flatMap volB := by rw [hBN, hHD]; simp only [List.append_assoc]
 have hlm : HD.length + (items.flatMap itemB).length + (kids.flatMap kidB).length + (vols.flatMap volB).length ≤ 1048576 := by
  rw [hX] at hlim; simp only [List.length_append] at hlim; omega
 have hH2 : strOf HD = beN kind 1 ++ beN (items.length + kids.length + vols.length) 1 := by rw [hHD, strOf_app]; rfl
 obtain ⟨Q1, hQ1⟩ : ∃ Q, Q = HD ++ items.flatMap itemB := ⟨_, rfl⟩
 obtain ⟨Q2, hQ2⟩ : ∃ Q, Q = Q1 ++ kids.flatMap kidB := ⟨_, rfl⟩
 rw [← hQ1, ← hQ2] at hX
 generalize bytesN ⟨kind, items, kids, vols⟩ = X at *
 have HX := Lib.hid hX
 have HL0 := Lib.hid (show HD.length + (items.flatMap itemB).length ≤ 1048576 by omega)
 have HL1 := Lib.hid (show Q1.length + (kids.flatMap kidB).length ≤ 1048576 by rw [hQ1, List.length_append]; omega)
 have HL2 := Lib.hid (show Q2.length + (vols.flatMap volB).length ≤ 1048576 by rw [hQ2, List.length_append, hQ1, List.length_append]; omega)
 have HQ1 := Lib.hid hQ1
 have HQ2 := Lib.hid hQ2
 have hw1 : IntKind.i64.wrap ((items.length : Int) + (kids.length : Int)) = (items.length : Int) + (kids.length : Int) := by rw [IntKind.wrap_i64]; omega
 have hw2 : IntKind.i64.wrap ((items.length : Int) + (kids.length : Int) + (vols.length : Int)) = (items.length : Int) + (kids.length : Int) + (vols.length : Int) := by rw [IntKind.wrap_i64]; omega
 have HH2 := Lib.hid hH2
 clear hX hlm hH2 hBN hHD hlim hz hQ1 hQ2
 obtain ⟨W, hW⟩ : ∃ W, W = w.alloc (.cells #[.int .u8 (kind : Int), .slice ai items.length ci, .slice ak kids.length ck, .slice av vols.length cv] 28) := ⟨_, rfl⟩
 have hg : RowIs W w.heap.size 28 #[.int .u8 (kind : Int), .slice ai items.length ci, .slice ak kids.length ck, .slice av vols.length cv] := by rw [hW]; exact RowIs.new w _ _
 have hb : Below w.heap.size w W := by rw [hW]; exact (Below.refl _ _).alloc (Nat.le_refl _) _
 have HW := Lib.hid hW
 clear hW
 have HR := Lib.hid (And.intro hr1 (And.intro hr2 hr3))
 have HWF := Lib.hid (And.intro hwk hwv)
 clear hr1 hr2 hr3 hwk hwv
 have hn1 := fun w => refbytes_calls kind 1 w (by omega) (by omega)
 have hn2 := fun w => refbytes_calls (items.length + kids.length + vols.length) 1 w (by omega) (by omega)
 rw [show ((1 : Nat) : Int) = 1 from rfl] at hn1 hn2
 have hsum : ((items.length + kids.length + vols.length : Nat) : Int) = (items.length : Int) + (kids.length : Int) + (vols.length : Int) := by omega
 have hci := fun w => rcast_int (items.length + kids.length + vols.length) w (by omega)
 rw [hsum] at hn2 hci
 have s1 : (beN kind 1).size = 1 := beN_size _ _
 have s2 : (beN (items.length + kids.length + vols.length) 1).size = 1 := beN_size _ _
 show Calls Tryz.prog 120 #[.agg #[.int .u8 (kind : Int), .slice ai items.length ci, .slice ak kids.length ck, .slice av vols.length cv]] w _
 generalize hB1 : beN kind 1 = B1 at *
 generalize hB2 : beN (items.length + kids.length + vols.length) 1 = B2 at *
 clear hB1 hB2 hsum
 go_enter Tryz.func120, Tryz.ntmps120
 go_wp2_with (refine wpList_world HW.out ?_)
 try rw [← HW.out]
 have hGc := hg.drew
 have hbc : Below w.heap.size w W.drew := Below.drew hb
 clear hg hb
 refine wp_region_held_drew (S := fun w' => RowIs w' w.heap.size 28 #[.int .u8 (kind : Int), .slice ai items.length ci, .slice ak kids.length ck, .slice av vols.length cv]) (by kernel_rfl) hGc (fun hHeld => ?_)
 generalize W.drew = wv at *
 refine take_N (i := 0) (v := ?_) (some 10) #[true, false, false, false, false, false, false, false, false, false, false, false, false, false, false, false, false, false, false] rfl rfl (by kernel_rfl) (by kernel_rfl) (by kernel_rfl) (by kernel_rfl) (fun _ _ _ h => h) hGc (Or.inl ⟨by rfl, ?_⟩) ?_
 rotate_left
 ·intro w_ hSw_; go_simp; try with_reducible rfl
 try simp only [Act.put, List.setIfInBounds_toArray, List.set_cons_zero, List.set_cons_succ]
 refine take_N (i := 1) (v := .int .u8 (kind : Int)) (some 11) #[true, true, false, false, false, false, false, false, false, false, false, false, false, false, false, false, false, false, false] rfl rfl (by kernel_rfl) (by kernel_rfl) (by kernel_rfl) (by kernel_rfl) (fun _ _ _ h => h) hGc (Or.inl ⟨by rfl, ?_⟩) ?_
 ·intro w_ hSw_; exact (by have hcc : w_.cell? ⟨w.heap.size, 0, none⟩ = some (.int .u8 (kind : Int)) := (by rw [RowIs.cell hSw_]; rfl); go_simp)
 try simp only [Act.put, List.setIfInBounds_toArray, List.set_cons_zero, List.set_cons_succ]
 refine take_N (i := 2) (v := .int .u64 (kind : Int)) (some 12) #[true, true, true, false, false, false, false, false, false, false, false, false, false, false, false, false, false, false, false] rfl rfl (by kernel_rfl) (by kernel_rfl) (by kernel_rfl) (by kernel_rfl) (fun _ _ _ h => h) hGc (Or.inl ⟨by rfl, ?_⟩) ?_
 ·intro w_ hSw_; exact exec_conv rfl rfl (rcast_nk _ _ hk)
 try simp only [Act.put, List.setIfInBounds_toArray, List.set_cons_zero, List.set_cons_succ]
 refine take_N (i := 4) (v := ?_) (some 14) #[true, true, true, false, true, false, false, false, false, false, false, false, false, false, false, false, false, false, false] rfl rfl (by kernel_rfl) (by kernel_rfl) (by kernel_rfl) (by kernel_rfl) (fun _ _ _ h => h) hGc (Or.inl ⟨by rfl, ?_⟩) ?_
 rotate_left
 ·intro w_ hSw_; go_simp; try with_reducible rfl
 try simp only [Act.put, List.setIfInBounds_toArray, List.set_cons_zero, List.set_cons_succ]
 refine take_N (i := 5) (v := .slice ai items.length ci) (some 15) #[true, true, true, false, true, true, false, false, false, false, false, false, false, false, false, false, false, false, false] rfl rfl (by kernel_rfl) (by kernel_rfl) (by kernel_rfl) (by kernel_rfl) (fun _ _ _ h => h) hGc (Or.inl ⟨by rfl, ?_⟩) ?_
 ·intro w_ hSw_; exact (by have hcc : w_.cell? ⟨w.heap.size, 1, none⟩ = some (.slice ai items.length ci) := (by rw [RowIs.cell hSw_]; rfl); go_simp)
 try simp only [Act.put, List.setIfInBounds_toArray, List.set_cons_zero, List.set_cons_succ]
 refine take_N (i := 6) (v := ?_) (some 16) #[true, true, true, false, true, true, true, false, false, false, false, false, false, false, false, false, false, false, false] rfl rfl (by kernel_rfl) (by kernel_rfl) (by kernel_rfl) (by kernel_rfl) (fun _ _ _ h => h) hGc (Or.inl ⟨by rfl, ?_⟩) ?_
 rotate_left
 ·intro w_ hSw_; go_simp; try with_reducible rfl
 try simp only [Act.put, List.setIfInBounds_toArray, List.set_cons_zero, List.set_cons_succ]
 refine take_N (i := 7) (v := ?_) (some 17) #[true, true, true, false, true, true, true, true, false, false, false, false, false, false, false, false, false, false, false] rfl rfl (by kernel_rfl) (by kernel_rfl) (by kernel_rfl) (by kernel_rfl) (fun _ _ _ h => h) hGc (Or.inl ⟨by rfl, ?_⟩) ?_
 rotate_left
 ·intro w_ hSw_; go_simp; try with_reducible rfl
 try simp only [Act.put, List.setIfInBounds_toArray, List.set_cons_zero, List.set_cons_succ]
 refine take_N (i := 8) (v := .slice ak kids.length ck) (some 18) #[true, true, true, false, true, true, true, true, true, false, false, false, false, false, false, false, false, false, false] rfl rfl (by kernel_rfl) (by kernel_rfl) (by kernel_rfl) (by kernel_rfl) (fun _ _ _ h => h) hGc (Or.inl ⟨by rfl, ?_⟩) ?_
 ·intro w_ hSw_; exact (by have hcc : w_.cell? ⟨w.heap.size, 2, none⟩ = some (.slice ak kids.length ck) := (by rw [RowIs.cell hSw_]; rfl); go_simp)
 try simp only [Act.put, List.setIfInBounds_toArray, List.set_cons_zero, List.set_cons_succ]
 refine take_N (i := 9) (v := ?_) (some 19) #[true, true, true, false, true, true, true, true, true, true, false, false, false, false, false, false, false, false, false] rfl rfl (by kernel_rfl) (by kernel_rfl) (by kernel_rfl) (by kernel_rfl) (fun _ _ _ h => h) hGc (Or.inl ⟨by rfl, ?_⟩) ?_
 rotate_left
 ·intro w_ hSw_; go_simp; try with_reducible rfl
 try simp only [Act.put, List.setIfInBounds_toArray, List.set_cons_zero, List.set_cons_succ]
 refine take_N (i := 10) (v := ?_) (some 20) #[true, true, true, false, true, true, true, true, true, true, true, false, false, false, false, false, false, false, false] rfl rfl (by kernel_rfl) (by kernel_rfl) (by kernel_rfl) (by kernel_rfl) (fun _ _ _ h => h) hGc (Or.inl ⟨by rfl, ?_⟩) ?_
 rotate_left
 ·intro w_ hSw_; go_simp; try with_reducible rfl
 try simp only [Act.put, List.setIfInBounds_toArray, List.set_cons_zero, List.set_cons_succ]
 refine take_N (i := 11) (v := ?_) (some 21) #[true, true, true, false, true, true, true, true, true, true, true, true, false, false, false, false, false, false, false] rfl rfl (by kernel_rfl) (by kernel_rfl) (by kernel_rfl) (by kernel_rfl) (fun _ _ _ h => h) hGc (Or.inl ⟨by rfl, ?_⟩) ?_
 rotate_left
 ·intro w_ hSw_; go_simp; try with_reducible rfl
 try simp only [Act.put, List.setIfInBounds_toArray, List.set_cons_zero, List.set_cons_succ]
 refine take_N (i := 12) (v := .slice av vols.length cv) (some 22) #[true, true, true, false, true, true, true, true, true, true, true, true, true, false, false, false, false, false, false] rfl rfl (by kernel_rfl) (by kernel_rfl) (by kernel_rfl) (by kernel_rfl) (fun _ _ _ h => h) hGc (Or.inl ⟨by rfl, ?_⟩) ?_
 ·intro w_ hSw_; exact (by have hcc : w_.cell? ⟨w.heap.size, 3, none⟩ = some (.slice av vols.length cv) := (by rw [RowIs.cell hSw_]; rfl); go_simp)
 try simp only [Act.put, List.setIfInBounds_toArray, List.set_cons_zero, List.set_cons_succ]
 refine take_N (i := 13) (v := ?_) (some 23) #[true, true, true, false, true, true, true, true, true, true, true, true, true, true, false, false, false, false, false] rfl rfl (by kernel_rfl) (by kernel_rfl) (by kernel_rfl) (by kernel_rfl) (fun _ _ _ h => h) hGc (Or.inl ⟨by rfl, ?_⟩) ?_
 rotate_left
 ·intro w_ hSw_; go_simp; try with_reducible rfl
 try simp only [Act.put, List.setIfInBounds_toArray, List.set_cons_zero, List.set_cons_succ]
 refine take_N (i := 14) (v := ?_) (some 24) #[true, true, true, false, true, true, true, true, true, true, true, true, true, true, true, false, false, false, false] rfl rfl (by kernel_rfl) (by kernel_rfl) (by kernel_rfl) (by kernel_rfl) (fun _ _ _ h => h) hGc (Or.inl ⟨by rfl, ?_⟩) ?_
 rotate_left
 ·intro w_ hSw_; go_simp; try with_reducible rfl
 try simp only [Act.put, List.setIfInBounds_toArray, List.set_cons_zero, List.set_cons_succ]
 refine take_N (i := 15) (v := .int .u64 ((items.length : Int) + (kids.length : Int) + (vols.length : Int))) (some 25) #[true, true, true, false, true, true, true, true, true, true, true, true, true, true, true, true, false, false, false] rfl rfl (by kernel_rfl) (by kernel_rfl) (by kernel_rfl) (by kernel_rfl) (fun _ _ _ h => h) hGc (Or.inl ⟨by rfl, ?_⟩) ?_
 ·intro w_ hSw_; exact exec_conv rfl rfl (hci _)
 try simp only [Act.put, List.setIfInBounds_toArray, List.set_cons_zero, List.set_cons_succ]
 refine step_N (i := 3) #[true, true, true, true, true, true, true, true, true, true, true, true, true, true, true, true, false, false, false] rfl (by kernel_rfl) (by kernel_rfl) (fun K hK => ?_)
 rw [if_pos (by rfl)]
 go_simp
 refine (hn1 _).mono ?_
 rintro e wa ⟨rfl, hq⟩
 have hG2 := hGc.below hq hGc.lt
 replace hbc := hbc.trans (hq.mono hbc.size)
 clear hGc hq
 have hGc := hG2
 clear hG2
 refine hK.out _ _ hGc ?_
 clear hK K
 try simp only [Act.put, List.setIfInBounds_toArray, List.set_cons_zero, List.set_cons_succ]
 refine step_N (i := 16) #[true, true, true, true, true, true, true, true, true, true, true, true, true, true, true, true, true, false, false] rfl (by kernel_rfl) (by kernel_rfl) (fun K hK => ?_)
 rw [if_pos (by rfl)]
 go_simp
 refine (hn2 _).mono ?_
 rintro e wb ⟨rfl, hq⟩
 have hG2 := hGc.below hq hGc.lt
 replace hbc := hbc.trans (hq.mono hbc.size)
 clear hGc hq
 have hGc := hG2
 clear hG2
 refine hK.out _ _ hGc ?_
 clear hK K
 try simp only [Act.put, List.setIfInBounds_toArray, List.set_cons_zero, List.set_cons_succ]
 refine take_N (i := 17) (v := ?_) (some 27) #[true, true, true, true, true, true, true, true, true, true, true, true, true, true, true, true, true, true, false] rfl rfl (by kernel_rfl) (by kernel_rfl) (by kernel_rfl) (by kernel_rfl) (fun _ _ _ h => h) hGc (Or.inl ⟨by rfl, ?_⟩) ?_
 rotate_left
 ·intro w_ hSw_; go_simp; try with_reducible rfl
 try simp only [Act.put, List.setIfInBounds_toArray, List.set_cons_zero, List.set_cons_succ]
 refine take_N (i := 18) (v := ?_) (some 3) #[true, true, true, true, true, true, true, true, true, true, true, true, true, true, true, true, true, true, true] rfl rfl (by kernel_rfl) (by kernel_rfl) (by kernel_rfl) (by kernel_rfl) (fun _ _ _ h => h) hGc (Or.inl ⟨by rfl, ?_⟩) ?_
 rotate_left
 ·intro w_ hSw_; go_simp; try with_reducible rfl
 try simp only [Act.put, List.setIfInBounds_toArray, List.set_cons_zero, List.set_cons_succ]
 refine wpAnyH_done (by kernel_rfl) ?_ _
 clear hHeld hn1 hn2 hci hw1 hw2
 rw [← HH2.out]
 have c1 : wb.cell? ⟨w.heap.size, 1, none⟩ = some (.slice ai items.length ci) := by rw [hGc.cell]; rfl
 have hst : strOf HD = strOf (HD ++ (items.take 0).flatMap itemB) := by simp
 have HST := Lib.hid hst
 have HGB := Lib.hid (And.intro hGc hbc)
 clear hGc hbc hst
 go_wp2_with fail
 clear c1
 go_loopw [3, 31] (fun v3 v wr => ∃ t : Nat, t ≤ items.length ∧ v = .int .i64 t ∧ v3 = .string (strOf (HD ++ (items.take t).flatMap itemB)) ∧ Below w.heap.size w wr ∧ RowIs wr w.heap.size 28 #[.int .u8 (kind : Int), .slice ai items.length ci, .slice ak kids.length ck, .slice av vols.length cv]) (fun _ v _ => items.length - (intOf v).toNat)
 case atStart => exact ⟨0, by omega, rfl, by rw [← HST.out], HGB.out.2, HGB.out.1⟩
 case round =>
  clear HGB HST
  obtain ⟨t, ht, rfl, rfl, hbr, hgr⟩ := hrel
  by_cases hlt : t < items.length
  ·obtain ⟨b, o, hab, hbB, hc⟩ := HR.out.1 (by omega)
   subst hab
   have hci : wr.rangeAt b (o + t * 2) (itemV items[t]) := by
    have := rangeAt_below (hc t hlt) hbr (by omega)
    rwa [List.getElem?_eq_getElem hlt] at this
   have hlti : (t : Int) < (items.length : Int) := by omega
   have hkl : (itemV items[t]).length = 2 := rfl
   have hone := itemV_oneR items[t]
   have hksz : (Tryz.prog.info? 44).map (·.size) = some (itemV items[t]).length := by rw [hkl]; kernel_rfl
   have hksz2 : (Tryz.prog.info? 44).map (·.size) = some (itemV items[t]).toArray.size := by rw [List.size_toArray, hkl]; kernel_rfl
   obtain ⟨W1, W2, hW1, hW2, hG, hb2, hthere⟩ := alloc_fill wr itemZ (itemV items[t]).toArray 44 (by rw [List.size_toArray, hkl]; rfl)
   have hbc := hbr.trans (hb2.mono hbr.size)
   have hgc := hgr.below hb2 hgr.lt
   have HW1 := Lib.hid hW1
   have HW2 := Lib.hid hW2
   obtain ⟨C, hC⟩ : ∃ C, C = (itemV items[t]).toArray := ⟨_, rfl⟩
   have hsn := rflat_take_snoc itemB items t hlt
   have hfl := rflat_take_le itemB items (t + 1)
   rw [← hC] at hthere hksz2 hone hG hW2
   have HC := Lib.hid hC
   have HXX := Lib.hid (And.intro hbc hgc)
   clear hW1 hW2 hb2 hkl hc hbr hgr hC hbc hgc
   have HW2 := Lib.hid (show W2 = W1.setCells wr.heap.size 0 C.toList from by rw [HW2.out, HC.out])
   clear hsn hfl
   go_wp2_with (first | (refine wpList_world HW1.out ?_) | (refine wpList_load_mid rfl 44 _ rfl b (o + t * 2) rfl (itemV items[t]) _ hci Tryz.underlying44 rfl hksz ?_; rw [← HC.out]) | (refine wpList_store_mid rfl 44 _ _ rfl wr.heap.size 0 C rfl rfl hthere hksz2 hone ?_; refine wpList_world HW2.out ?_))
   obtain ⟨hbc, hgc⟩ := HXX.out
   clear hci hksz hksz2 hone hthere HXX HW1 HW2
   generalize wr.heap.size = XB at *
   have k0 : C[0]? = some (.string items[t].key) := by rw [HC.out]; rfl
   have k1 : C[1]? = some (.string items[t].val) := by rw [HC.out]; rfl
   have hsz : (strOf (HD ++ (items.take t).flatMap itemB)).size + ((beN items[t].key.size 1 ++ items[t].key).size + (beN items[t].val.size 1 ++ items[t].val).size) ≤ 1048576 := by
    have h1 := rflat_take_le itemB items (t + 1)
    have h2 := rflat_take_snoc itemB items t hlt
    have h3 := HL0.out
    rw [h2, List.length_append, itemB, List.length_append] at h1
    rw [strOf_size, List.length_append, ← strOf_tx1, ← strOf_tx1, strOf_size, strOf_size]
    omega
   have heq : strOf (HD ++ (items.take t).flatMap itemB) ++ ((beN items[t].key.size 1 ++ items[t].key) ++ (beN items[t].val.size 1 ++ items[t].val)) = strOf (HD ++ (items.take (t + 1)).flatMap itemB) := by
    rw [rflat_take_snoc itemB items t hlt, ← List.append_assoc, strOf_app _ (itemB _), itemB, strOf_app (tx1 _), strOf_tx1, strOf_tx1]
   have hz1 : items[t].key.size ≤ 1048576 := by have := hsz; simp only [ByteArray.size_append] at this; omega
   have hz2 : items[t].val.size ≤ 1048576 := by have := hsz; simp only [ByteArray.size_append] at this; omega
   have ht1 := fun w => rtext_calls items[t].key w (by omega)
   have ht2 := fun w => rtext_calls items[t].val w (by omega)
   have HEQ := Lib.hid heq
   clear heq hz1 hz2
   generalize strOf (HD ++ (items.take t).flatMap itemB) = O at *
   generalize beN items[t].key.size 1 ++ items[t].key = T1 at *
   generalize beN items[t].val.size 1 ++ items[t].val = T2 at *
   have n1 : ¬ 9223372036854775807 < T1.size + T2.size := by omega
   have n2 : ¬ 9223372036854775807 < O.size + (T1.size + T2.size) := by omega
   clear hsz
   have hGc := hG.drew
   replace hbc : Below w.heap.size w W2.drew := Below.drew hbc
   replace hgc := hgc.drew
   clear hG
   refine wp_region_held_drew (S := fun w' => RowIs w' XB 44 C) (by kernel_rfl) hGc (fun hHeld => ?_)
   generalize W2.drew = wv at *
   refine take_N (i := 0) (v := ?_) (some 35) #[true, false, false, false, false, false, false, false, false, false] rfl rfl (by kernel_rfl) (by kernel_rfl) (by kernel_rfl) (by kernel_rfl) (fun _ _ _ h => h) hGc (Or.inl ⟨by rfl, ?_⟩) ?_
   rotate_left
   ·intro w_ hSw_; go_simp; try with_reducible rfl
   try simp only [Act.put, List.setIfInBounds_toArray, List.set_cons_zero, List.set_cons_succ]
   refine take_N (i := 1) (v := ?_) (some 36) #[true, true, false, false, false, false, false, false, false, false] rfl rfl (by kernel_rfl) (by kernel_rfl) (by kernel_rfl) (by kernel_rfl) (fun _ _ _ h => h) hGc (Or.inl ⟨by rfl, ?_⟩) ?_
   rotate_left
   ·intro w_ hSw_; go_simp; try with_reducible rfl
   try simp only [Act.put, List.setIfInBounds_toArray, List.set_cons_zero, List.set_cons_succ]
   refine take_N (i := 2) (v := .string items[t].key) (some 37) #[true, true, true, false, false, false, false, false, false, false] rfl rfl (by kernel_rfl) (by kernel_rfl) (by kernel_rfl) (by kernel_rfl) (fun _ _ _ h => h) hGc (Or.inl ⟨by rfl, ?_⟩) ?_
   ·intro w_ hSw_; exact (by have hcc : w_.cell? ⟨XB, 0, none⟩ = some (.string items[t].key) := (by rw [RowIs.cell hSw_]; exact k0); go_simp)
   try simp only [Act.put, List.setIfInBounds_toArray, List.set_cons_zero, List.set_cons_succ]
   refine take_N (i := 4) (v := ?_) (some 39) #[true, true, true, false, true, false, false, false, false, false] rfl rfl (by kernel_rfl) (by kernel_rfl) (by kernel_rfl) (by kernel_rfl) (fun _ _ _ h => h) hGc (Or.inl ⟨by rfl, ?_⟩) ?_
   rotate_left
   ·intro w_ hSw_; go_simp; try with_reducible rfl
   try simp only [Act.put, List.setIfInBounds_toArray, List.set_cons_zero, List.set_cons_succ]
   refine take_N (i := 5) (v := .string items[t].val) (some 40) #[true, true, true, false, true, true, false, false, false, false] rfl rfl (by kernel_rfl) (by kernel_rfl) (by kernel_rfl) (by kernel_rfl) (fun _ _ _ h => h) hGc (Or.inl ⟨by rfl, ?_⟩) ?_
   ·intro w_ hSw_; exact (by have hcc : w_.cell? ⟨XB, 1, none⟩ = some (.string items[t].val) := (by rw [RowIs.cell hSw_]; exact k1); go_simp)
   try simp only [Act.put, List.setIfInBounds_toArray, List.set_cons_zero, List.set_cons_succ]
   refine step_N (i := 3) #[true, true, true, true, true, true, false, false, false, false] rfl (by kernel_rfl) (by kernel_rfl) (fun K hK => ?_)
   rw [if_pos (by rfl)]
   go_simp
   refine (ht1 _).mono ?_
   rintro e wa ⟨rfl, hqwa⟩
   have hGwa := hGc.below hqwa hGc.lt
   replace hbc := hbc.trans (hqwa.mono hbc.size)
   replace hgc := hgc.below hqwa hgc.lt
   clear hGc hqwa
   have hGc := hGwa
   clear hGwa
   refine hK.out _ _ hGc ?_
   clear hK K
   try simp only [Act.put, List.setIfInBounds_toArray, List.set_cons_zero, List.set_cons_succ]
   refine step_N (i := 6) #[true, true, true, true, true, true, true, false, false, false] rfl (by kernel_rfl) (by kernel_rfl) (fun K hK => ?_)
   rw [if_pos (by rfl)]
   go_simp
   refine (ht2 _).mono ?_
   rintro e wb ⟨rfl, hqwb⟩
   have hGwb := hGc.below hqwb hGc.lt
   replace hbc := hbc.trans (hqwb.mono hbc.size)
   replace hgc := hgc.below hqwb hgc.lt
   clear hGc hqwb
   have hGc := hGwb
   clear hGwb
   refine hK.out _ _ hGc ?_
   clear hK K
   try simp only [Act.put, List.setIfInBounds_toArray, List.set_cons_zero, List.set_cons_succ]
   refine take_N (i := 7) (v := ?_) (some 42) #[true, true, true, true, true, true, true, true, false, false] rfl rfl (by kernel_rfl) (by kernel_rfl) (by kernel_rfl) (by kernel_rfl) (fun _ _ _ h => h) hGc (Or.inl ⟨by rfl, ?_⟩) ?_
   rotate_left
   ·intro w_ hSw_; go_simp; try with_reducible rfl
   try simp only [Act.put, List.setIfInBounds_toArray, List.set_cons_zero, List.set_cons_succ]
   refine take_N (i := 8) (v := ?_) (some 43) #[true, true, true, true, true, true, true, true, true, false] rfl rfl (by kernel_rfl) (by kernel_rfl) (by kernel_rfl) (by kernel_rfl) (fun _ _ _ h => h) hGc (Or.inl ⟨by rfl, ?_⟩) ?_
   rotate_left
   ·intro w_ hSw_; go_simp; try with_reducible rfl
   try simp only [Act.put, List.setIfInBounds_toArray, List.set_cons_zero, List.set_cons_succ]
   refine take_N (i := 9) (v := ?_) (some 3) #[true, true, true, true, true, true, true, true, true, true] rfl rfl (by kernel_rfl) (by kernel_rfl) (by kernel_rfl) (by kernel_rfl) (fun _ _ _ h => h) hGc (Or.inl ⟨by rfl, ?_⟩) ?_
   rotate_left
   ·intro w_ hSw_; go_simp; try with_reducible rfl
   try simp only [Act.put, List.setIfInBounds_toArray, List.set_cons_zero, List.set_cons_succ]
   refine wpAnyH_done (by kernel_rfl) ?_ _
   clear hHeld
   clear hGc
   have HBG := Lib.hid (And.intro hbc hgc)
   clear hbc hgc
   go_wp2_with fail
   go_roundw
   case rel => exact ⟨t + 1, by omega, by go_num, by rw [HEQ.out], HBG.out.1, HBG.out.2⟩
   case measure => simp [intOf]; omega
  ·have htl : t = items.length := by omega
   subst htl
   have hnlt : ¬ (items.length : Int) < (items.length : Int) := by omega
   have hfin : strOf (HD ++ (items.take items.length).flatMap itemB) = strOf (HD ++ items.flatMap itemB) := by rw [List.take_length]
   rw [hfin]
   have hGc := hgr
   have hbc := hbr
   clear hgr hbr hfin
   rw [← HQ1.out]
   have c2 : wr.cell? ⟨w.heap.size, 2, none⟩ = some (.slice ak kids.length ck) := by rw [hGc.cell]; rfl
   have hst : strOf Q1 = strOf (Q1 ++ (kids.take 0).flatMap kidB) := by simp
   have HST := Lib.hid hst
   have HGB := Lib.hid (And.intro hGc hbc)
   clear hGc hbc hst
   go_wp2_with fail
   clear c2
   go_loopw [3, 48] (fun v3 v wr => ∃ t : Nat, t ≤ kids.length ∧ v = .int .i64 t ∧ v3 = .string (strOf (Q1 ++ (kids.take t).flatMap kidB)) ∧ Below w.heap.size w wr ∧ RowIs wr w.heap.size 28 #[.int .u8 (kind : Int), .slice ai items.length ci, .slice ak kids.length ck, .slice av vols.length cv]) (fun _ v _ => kids.length - (intOf v).toNat)
   case atStart => exact ⟨0, by omega, rfl, by rw [← HST.out], HGB.out.2, HGB.out.1⟩
   case round =>
    clear HGB HST
    obtain ⟨t, ht, rfl, rfl, hbr, hgr⟩ := hrel
    by_cases hlt : t < kids.length
    ·obtain ⟨b, o, hab, hbB, hc⟩ := HR.out.2.1 (by omega)
     subst hab
     have hci : wr.rangeAt b (o + t * 34) (kidV kids[t]) := by
      have := rangeAt_below (hc t hlt) hbr (by omega)
      rwa [List.getElem?_eq_getElem hlt] at this
     have hlti : (t : Int) < (kids.length : Int) := by omega
     have hkl : (kidV kids[t]).length = 34 := kidV_length (HWF.out.1 kids[t] (List.getElem_mem hlt)).2
     have hone := kidV_one kids[t]
     have hksz : (Tryz.prog.info? 38).map (·.size) = some (kidV kids[t]).length := by rw [hkl]; kernel_rfl
     have hksz2 : (Tryz.prog.info? 38).map (·.size) = some (kidV kids[t]).toArray.size := by rw [List.size_toArray, hkl]; kernel_rfl
     obtain ⟨W1, W2, hW1, hW2, hG, hb2, hthere⟩ := alloc_fill wr kidZ (kidV kids[t]).toArray 38 (by rw [List.size_toArray, hkl]; rfl)
     have hbc := hbr.trans (hb2.mono hbr.size)
     have hgc := hgr.below hb2 hgr.lt
     have HW1 := Lib.hid hW1
     have HW2 := Lib.hid hW2
     obtain ⟨C, hC⟩ : ∃ C, C = (kidV kids[t]).toArray := ⟨_, rfl⟩
     have hsn := rflat_take_snoc kidB kids t hlt
     have hfl := rflat_take_le kidB kids (t + 1)
     rw [← hC] at hthere hksz2 hone hG hW2
     have HC := Lib.hid hC
     have HXX := Lib.hid (And.intro hbc hgc)
     clear hW1 hW2 hb2 hkl hc hbr hgr hC hbc hgc
     have HW2 := Lib.hid (show W2 = W1.setCells wr.heap.size 0 C.toList from by rw [HW2.out, HC.out])
     clear hsn hfl
     go_wp2_with (first | (refine wpList_world HW1.out ?_) | (refine wpList_load_mid rfl 38 _ rfl b (o + t * 34) rfl (kidV kids[t]) _ hci Tryz.underlying38 rfl hksz ?_; rw [← HC.out]) | (refine wpList_store_mid rfl 38 _ _ rfl wr.heap.size 0 C rfl rfl hthere hksz2 hone ?_; refine wpList_world HW2.out ?_))
     obtain ⟨hbc, hgc⟩ := HXX.out
     clear hci hksz hksz2 hone hthere HXX HW1 HW2
     generalize wr.heap.size = XB at *
     have hkw := HWF.out.1 kids[t] (List.getElem_mem hlt)
     have k0 : C[0]? = some (.string kids[t].key) := by rw [HC.out]; rfl
     have k1 : C[1]? = some (.int .u32 (kids[t].num : Int)) := by rw [HC.out]; rfl
     have hsz : (strOf (Q1 ++ (kids.take t).flatMap kidB)).size + ((beN kids[t].key.size 1 ++ kids[t].key).size + 4 + 32) ≤ 1048576 := by
      have h1 := rflat_take_le kidB kids (t + 1)
      have h2 := rflat_take_snoc kidB kids t hlt
      have h3 := HL1.out
      rw [h2, List.length_append, kidB, List.length_append, List.length_append, beL_length, hkw.2] at h1
      rw [strOf_size, List.length_append, ← strOf_tx1, strOf_size]
      omega
     have heq : strOf (Q1 ++ (kids.take t).flatMap kidB) ++ ((beN kids[t].key.size 1 ++ kids[t].key) ++ beN kids[t].num 4 ++ strOf kids[t].hash) = strOf (Q1 ++ (kids.take (t + 1)).flatMap kidB) := by
      rw [rflat_take_snoc kidB kids t hlt, ← List.append_assoc, strOf_app _ (kidB _), kidB, strOf_app (tx1 _), strOf_app (beL _ _), strOf_tx1, bapp_assoc (beN _ _ ++ _)]
      rfl
     have hz1 : kids[t].key.size ≤ 1048576 := by have := hsz; simp only [ByteArray.size_append] at this; omega
     have ht1 := fun w => rtext_calls kids[t].key w (by omega)
     have ht2 := fun w => refbytes_calls kids[t].num 4 w (by have := hkw.1; omega) (by decide)
     rw [show ((4 : Nat) : Int) = 4 from rfl] at ht2
     have HEQ := Lib.hid heq
     have q1 : (beN kids[t].num 4).size = 4 := beN_size _ _
     have q2 : (strOf kids[t].hash).size = 32 := by rw [strOf_size]; exact hkw.2
     clear heq hz1
     generalize strOf (Q1 ++ (kids.take t).flatMap kidB) = O at *
     generalize beN kids[t].key.size 1 ++ kids[t].key = T1 at *
     generalize beN kids[t].num 4 = B4 at *
     have n1 : ¬ 9223372036854775807 < T1.size + 4 := by omega
     have n2 : ¬ 9223372036854775807 < T1.size + 4 + 32 := by omega
     have n3 : ¬ 9223372036854775807 < O.size + (T1.size + 4 + 32) := by omega
     clear hsz
     have hGc := hG.drew
     replace hbc : Below w.heap.size w W2.drew := Below.drew hbc
     replace hgc := hgc.drew
     clear hG
     refine wp_region_held_drew (S := fun w' => RowIs w' XB 38 C) (by kernel_rfl) hGc (fun hHeld => ?_)
     generalize W2.drew = wv at *
     refine take_N (i := 0) (v := ?_) (some 52) #[true, false, false, false, false, false, false, false, false, false, false, false, false, false, false] rfl rfl (by kernel_rfl) (by kernel_rfl) (by kernel_rfl) (by kernel_rfl) (fun _ _ _ h => h) hGc (Or.inl ⟨by rfl, ?_⟩) ?_
     rotate_left
     ·intro w_ hSw_; go_simp; try with_reducible rfl
     try simp only [Act.put, List.setIfInBounds_toArray, List.set_cons_zero, List.set_cons_succ]
     refine take_N (i := 1) (v := ?_) (some 53) #[true, true, false, false, false, false, false, false, false, false, false, false, false, false, false] rfl rfl (by kernel_rfl) (by kernel_rfl) (by kernel_rfl) (by kernel_rfl) (fun _ _ _ h => h) hGc (Or.inl ⟨by rfl, ?_⟩) ?_
     rotate_left
     ·intro w_ hSw_; go_simp; try with_reducible rfl
     try simp only [Act.put, List.setIfInBounds_toArray, List.set_cons_zero, List.set_cons_succ]
     refine take_N (i := 2) (v := .string kids[t].key) (some 54) #[true, true, true, false, false, false, false, false, false, false, false, false, false, false, false] rfl rfl (by kernel_rfl) (by kernel_rfl) (by kernel_rfl) (by kernel_rfl) (fun _ _ _ h => h) hGc (Or.inl ⟨by rfl, ?_⟩) ?_
     ·intro w_ hSw_; exact (by have hcc : w_.cell? ⟨XB, 0, none⟩ = some (.string kids[t].key) := (by rw [RowIs.cell hSw_]; exact k0); go_simp)
     try simp only [Act.put, List.setIfInBounds_toArray, List.set_cons_zero, List.set_cons_succ]
     refine take_N (i := 4) (v := ?_) (some 56) #[true, true, true, false, true, false, false, false, false, false, false, false, false, false, false] rfl rfl (by kernel_rfl) (by kernel_rfl) (by kernel_rfl) (by kernel_rfl) (fun _ _ _ h => h) hGc (Or.inl ⟨by rfl, ?_⟩) ?_
     rotate_left
     ·intro w_ hSw_; go_simp; try with_reducible rfl
     try simp only [Act.put, List.setIfInBounds_toArray, List.set_cons_zero, List.set_cons_succ]
     refine take_N (i := 5) (v := .int .u32 (kids[t].num : Int)) (some 57) #[true, true, true, false, true, true, false, false, false, false, false, false, false, false, false] rfl rfl (by kernel_rfl) (by kernel_rfl) (by kernel_rfl) (by kernel_rfl) (fun _ _ _ h => h) hGc (Or.inl ⟨by rfl, ?_⟩) ?_
     ·intro w_ hSw_; exact (by have hcc : w_.cell? ⟨XB, 1, none⟩ = some (.int .u32 (kids[t].num : Int)) := (by rw [RowIs.cell hSw_]; exact k1); go_simp)
     try simp only [Act.put, List.setIfInBounds_toArray, List.set_cons_zero, List.set_cons_succ]
     refine take_N (i := 6) (v := .int .u64 (kids[t].num : Int)) (some 58) #[true, true, true, false, true, true, true, false, false, false, false, false, false, false, false] rfl rfl (by kernel_rfl) (by kernel_rfl) (by kernel_rfl) (by kernel_rfl) (fun _ _ _ h => h) hGc (Or.inl ⟨by rfl, ?_⟩) ?_
     ·intro w_ hSw_; exact exec_conv rfl rfl (rcast_u32 _ _ hkw.1)
     try simp only [Act.put, List.setIfInBounds_toArray, List.set_cons_zero, List.set_cons_succ]
     refine take_N (i := 9) (v := ?_) (some 61) #[true, true, true, false, true, true, true, false, false, true, false, false, false, false, false] rfl rfl (by kernel_rfl) (by kernel_rfl) (by kernel_rfl) (by kernel_rfl) (fun _ _ _ h => h) hGc (Or.inl ⟨by rfl, ?_⟩) ?_
     rotate_left
     ·intro w_ hSw_; go_simp; try with_reducible rfl
     try simp only [Act.put, List.setIfInBounds_toArray, List.set_cons_zero, List.set_cons_succ]
     refine take_N (i := 10) (v := ?_) (some 62) #[true, true, true, false, true, true, true, false, false, true, true, false, false, false, false] rfl rfl (by kernel_rfl) (by kernel_rfl) (by kernel_rfl) (by kernel_rfl) (fun _ _ _ h => h) hGc (Or.inl ⟨by rfl, ?_⟩) ?_
     rotate_left
     ·intro w_ hSw_; go_simp; try with_reducible rfl
     try simp only [Act.put, List.setIfInBounds_toArray, List.set_cons_zero, List.set_cons_succ]
     refine take_N (i := 11) (v := .string (strOf kids[t].hash)) (some 63) #[true, true, true, false, true, true, true, false, false, true, true, true, false, false, false] rfl rfl (by kernel_rfl) (by kernel_rfl) (by kernel_rfl) (by kernel_rfl) (fun _ _ _ h => h) hGc (Or.inl ⟨by rfl, ?_⟩) ?_
     ·intro w_ hSw_; exact exec_conv rfl rfl (rconv_hash (pre := [.string kids[t].key, .int .u32 (kids[t].num : Int)]) (o := 2) _ kids[t].hash hkw.2 rfl (by have h9 := hSw_; rw [HC.out] at h9; exact h9))
     try simp only [Act.put, List.setIfInBounds_toArray, List.set_cons_zero, List.set_cons_succ]
     refine step_N (i := 3) #[true, true, true, true, true, true, true, false, false, true, true, true, false, false, false] rfl (by kernel_rfl) (by kernel_rfl) (fun K hK => ?_)
     rw [if_pos (by rfl)]
     go_simp
     refine (ht1 _).mono ?_
     rintro e wa ⟨rfl, hqwa⟩
     have hGwa := hGc.below hqwa hGc.lt
     replace hbc := hbc.trans (hqwa.mono hbc.size)
     replace hgc := hgc.below hqwa hgc.lt
     clear hGc hqwa
     have hGc := hGwa
     clear hGwa
     refine hK.out _ _ hGc ?_
     clear hK K
     try simp only [Act.put, List.setIfInBounds_toArray, List.set_cons_zero, List.set_cons_succ]
     refine step_N (i := 7) #[true, true, true, true, true, true, true, true, false, true, true, true, false, false, false] rfl (by kernel_rfl) (by kernel_rfl) (fun K hK => ?_)
     rw [if_pos (by rfl)]
     go_simp
     refine (ht2 _).mono ?_
     rintro e wb ⟨rfl, hqwb⟩
     have hGwb := hGc.below hqwb hGc.lt
     replace hbc := hbc.trans (hqwb.mono hbc.size)
     replace hgc := hgc.below hqwb hgc.lt
     clear hGc hqwb
     have hGc := hGwb
     clear hGwb
     refine hK.out _ _ hGc ?_
     clear hK K
     try simp only [Act.put, List.setIfInBounds_toArray, List.set_cons_zero, List.set_cons_succ]
     refine take_N (i := 8) (v := ?_) (some 60) #[true, true, true, true, true, true, true, true, true, true, true, true, false, false, false] rfl rfl (by kernel_rfl) (by kernel_rfl) (by kernel_rfl) (by kernel_rfl) (fun _ _ _ h => h) hGc (Or.inl ⟨by rfl, ?_⟩) ?_
     rotate_left
     ·intro w_ hSw_; go_simp; try with_reducible rfl
     try simp only [Act.put, List.setIfInBounds_toArray, List.set_cons_zero, List.set_cons_succ]
     refine take_N (i := 12) (v := ?_) (some 64) #[true, true, true, true, true, true, true, true, true, true, true, true, true, false, false] rfl rfl (by kernel_rfl) (by kernel_rfl) (by kernel_rfl) (by kernel_rfl) (fun _ _ _ h => h) hGc (Or.inl ⟨by rfl, ?_⟩) ?_
     rotate_left
     ·intro w_ hSw_; go_simp; try with_reducible rfl
     try simp only [Act.put, List.setIfInBounds_toArray, List.set_cons_zero, List.set_cons_succ]
     refine take_N (i := 13) (v := ?_) (some 65) #[true, true, true, true, true, true, true, true, true, true, true, true, true, true, false] rfl rfl (by kernel_rfl) (by kernel_rfl) (by kernel_rfl) (by kernel_rfl) (fun _ _ _ h => h) hGc (Or.inl ⟨by rfl, ?_⟩) ?_
     rotate_left
     ·intro w_ hSw_; go_simp; try with_reducible rfl
     try simp only [Act.put, List.setIfInBounds_toArray, List.set_cons_zero, List.set_cons_succ]
     refine take_N (i := 14) (v := ?_) (some 3) #[true, true, true, true, true, true, true, true, true, true, true, true, true, true, true] rfl rfl (by kernel_rfl) (by kernel_rfl) (by kernel_rfl) (by kernel_rfl) (fun _ _ _ h => h) hGc (Or.inl ⟨by rfl, ?_⟩) ?_
     rotate_left
     ·intro w_ hSw_; go_simp; try with_reducible rfl
     try simp only [Act.put, List.setIfInBounds_toArray, List.set_cons_zero, List.set_cons_succ]
     refine wpAnyH_done (by kernel_rfl) ?_ _
     clear hHeld
     clear hGc
     have HBG := Lib.hid (And.intro hbc hgc)
     clear hbc hgc
     go_wp2_with fail
     go_roundw
     case rel => exact ⟨t + 1, by omega, by go_num, by rw [HEQ.out], HBG.out.1, HBG.out.2⟩
     case measure => simp [intOf]; omega
    ·have htl : t = kids.length := by omega
     subst htl
     have hnlt : ¬ (kids.length : Int) < (kids.length : Int) := by omega
     have hfin : strOf (Q1 ++ (kids.take kids.length).flatMap kidB) = strOf (Q1 ++ kids.flatMap kidB) := by rw [List.take_length]
     rw [hfin]
     have hGc := hgr
     have hbc := hbr
     clear hgr hbr hfin
     rw [← HQ2.out]
     have c3 : wr.cell? ⟨w.heap.size, 3, none⟩ = some (.slice av vols.length cv) := by rw [hGc.cell]; rfl
     have hst : strOf Q2 = strOf (Q2 ++ (vols.take 0).flatMap volB) := by simp
     have HST := Lib.hid hst
     have HGB := Lib.hid (And.intro hGc hbc)
     clear hGc hbc hst
     go_wp2_with fail
     clear c3
     go_loopw [3, 70] (fun v3 v wr => ∃ t : Nat, t ≤ vols.length ∧ v = .int .i64 t ∧ v3 = .string (strOf (Q2 ++ (vols.take t).flatMap volB)) ∧ Below w.heap.size w wr ∧ RowIs wr w.heap.size 28 #[.int .u8 (kind : Int), .slice ai items.length ci, .slice ak kids.length ck, .slice av vols.length cv]) (fun _ v _ => vols.length - (intOf v).toNat)
     case atStart => exact ⟨0, by omega, rfl, by rw [← HST.out], HGB.out.2, HGB.out.1⟩
     case round =>
      clear HGB HST
      obtain ⟨t, ht, rfl, rfl, hbr, hgr⟩ := hrel
      by_cases hlt : t < vols.length
      ·obtain ⟨b, o, hab, hbB, hc⟩ := HR.out.2.2 (by omega)
       subst hab
       have hci : wr.rangeAt b (o + t * 37) (volV vols[t]) := by
        have := rangeAt_below (hc t hlt) hbr (by omega)
        rwa [List.getElem?_eq_getElem hlt] at this
       have hlti : (t : Int) < (vols.length : Int) := by omega
       have hkl : (volV vols[t]).length = 37 := volV_length (HWF.out.2 vols[t] (List.getElem_mem hlt)).2.2.2
       have hone := volV_one vols[t]
       have hksz : (Tryz.prog.info? 89).map (·.size) = some (volV vols[t]).length := by rw [hkl]; kernel_rfl
       have hksz2 : (Tryz.prog.info? 89).map (·.size) = some (volV vols[t]).toArray.size := by rw [List.size_toArray, hkl]; kernel_rfl
       obtain ⟨W1, W2, hW1, hW2, hG, hb2, hthere⟩ := alloc_fill wr volZ (volV vols[t]).toArray 89 (by rw [List.size_toArray, hkl]; rfl)
       have hbc := hbr.trans (hb2.mono hbr.size)
       have hgc := hgr.below hb2 hgr.lt
       have HW1 := Lib.hid hW1
       have HW2 := Lib.hid hW2
       obtain ⟨C, hC⟩ : ∃ C, C = (volV vols[t]).toArray := ⟨_, rfl⟩
       have hsn := rflat_take_snoc volB vols t hlt
       have hfl := rflat_take_le volB vols (t + 1)
       rw [← hC] at hthere hksz2 hone hG hW2
       have HC := Lib.hid hC
       have HXX := Lib.hid (And.intro hbc hgc)
       clear hW1 hW2 hb2 hkl hc hbr hgr hC hbc hgc
       have HW2 := Lib.hid (show W2 = W1.setCells wr.heap.size 0 C.toList from by rw [HW2.out, HC.out])
       clear hsn hfl
       go_wp2_with (first | (refine wpList_world HW1.out ?_) | (refine wpList_load_mid rfl 89 _ rfl b (o + t * 37) rfl (volV vols[t]) _ hci Tryz.underlying89 rfl hksz ?_; rw [← HC.out]) | (refine wpList_store_mid rfl 89 _ _ rfl wr.heap.size 0 C rfl rfl hthere hksz2 hone ?_; refine wpList_world HW2.out ?_))
       obtain ⟨hbc, hgc⟩ := HXX.out
       clear hci hksz hksz2 hone hthere HXX HW1 HW2
       generalize wr.heap.size = XB at *
       have hkw := HWF.out.2 vols[t] (List.getElem_mem hlt)
       have k0 : C[0]? = some (.string vols[t].name) := by rw [HC.out]; rfl
       have k1 : C[1]? = some (.int .u8 (vols[t].kind : Int)) := by rw [HC.out]; rfl
       have k2 : C[2]? = some (.string vols[t].frm) := by rw [HC.out]; rfl
       have k3 : C[3]? = some (.int .u64 (vols[t].born : Int)) := by rw [HC.out]; rfl
       have k4 : C[4]? = some (.int .u32 (vols[t].root : Int)) := by rw [HC.out]; rfl
       have hsz : (strOf (Q2 ++ (vols.take t).flatMap volB)).size + ((beN vols[t].name.size 1 ++ vols[t].name).size + (beN vols[t].frm.size 1 ++ vols[t].frm).size + 1 + 8 + 4 + 32) ≤ 1048576 := by
        have h1 := rflat_take_le volB vols (t + 1)
        have h2 := rflat_take_snoc volB vols t hlt
        have h3 := HL2.out
        rw [h2, List.length_append, volB] at h1
        simp only [List.length_append, beL_length, hkw.2.2.2] at h1
        rw [strOf_size, ← strOf_tx1, strOf_size, ← strOf_tx1, strOf_size]
        simp only [List.length_append]
        omega
       have heq : strOf (Q2 ++ (vols.take t).flatMap volB) ++ ((beN vols[t].name.size 1 ++ vols[t].name) ++ (beN vols[t].frm.size 1 ++ vols[t].frm) ++ beN vols[t].kind 1 ++ beN vols[t].born 8 ++ beN vols[t].root 4 ++ strOf vols[t].hash) = strOf (Q2 ++ (vols.take (t + 1)).flatMap volB) := by
        rw [rflat_take_snoc volB vols t hlt, ← List.append_assoc, strOf_app _ (volB _), volB, strOf_app (tx1 _), strOf_app (tx1 _), strOf_app (beL _ _), strOf_app (beL _ _), strOf_app (beL _ _), strOf_tx1, strOf_tx1]
        simp only [bapp_assoc]
        rfl
       have hz1 : vols[t].name.size ≤ 1048576 := by have := hsz; simp only [ByteArray.size_append] at this; omega
       have hz2 : vols[t].frm.size ≤ 1048576 := by have := hsz; simp only [ByteArray.size_append] at this; omega
       have ht1 := fun w => rtext_calls vols[t].name w (by omega)
       have ht2 := fun w => rtext_calls vols[t].frm w (by omega)
       have ht3 := fun w => refbytes_calls vols[t].kind 1 w (by have := hkw.1; omega) (by decide)
       have ht4 := fun w => refbytes_calls vols[t].born 8 w (by have := hkw.2.1; omega) (by decide)
       have ht5 := fun w => refbytes_calls vols[t].root 4 w (by have := hkw.2.2.1; omega) (by decide)
       rw [show ((1 : Nat) : Int) = 1 from rfl] at ht3
       rw [show ((8 : Nat) : Int) = 8 from rfl] at ht4
       rw [show ((4 : Nat) : Int) = 4 from rfl] at ht5
       have HEQ := Lib.hid heq
       have q1 : (beN vols[t].kind 1).size = 1 := beN_size _ _
       have q2 : (beN vols[t].born 8).size = 8 := beN_size _ _
       have q3 : (beN vols[t].root 4).size = 4 := beN_size _ _
       have q4 : (strOf vols[t].hash).size = 32 := by rw [strOf_size]; exact hkw.2.2.2
       clear heq hz1 hz2
       generalize strOf (Q2 ++ (vols.take t).flatMap volB) = O at *
       generalize beN vols[t].name.size 1 ++ vols[t].name = T1 at *
       generalize beN vols[t].frm.size 1 ++ vols[t].frm = T2 at *
       generalize beN vols[t].kind 1 = K1 at *
       generalize beN vols[t].born 8 = K8 at *
       generalize beN vols[t].root 4 = K4 at *
       have n1 : ¬ 9223372036854775807 < T1.size + T2.size := by omega
       have n2 : ¬ 9223372036854775807 < T1.size + T2.size + 1 := by omega
       have n3 : ¬ 9223372036854775807 < T1.size + T2.size + 1 + 8 := by omega
       have n4 : ¬ 9223372036854775807 < T1.size + T2.size + 1 + 8 + 4 := by omega
       have n5 : ¬ 9223372036854775807 < T1.size + T2.size + 1 + 8 + 4 + 32 := by omega
       have n6 : ¬ 9223372036854775807 < O.size + (T1.size + T2.size + 1 + 8 + 4 + 32) := by omega
       clear hsz
       have hGc := hG.drew
       replace hbc : Below w.heap.size w W2.drew := Below.drew hbc
       replace hgc := hgc.drew
       clear hG
       refine wp_region_held_drew (S := fun w' => RowIs w' XB 89 C) (by kernel_rfl) hGc (fun hHeld => ?_)
       generalize W2.drew = wv at *
       refine take_N (i := 0) (v := ?_) (some 74) #[true, false, false, false, false, false, false, false, false, false, false, false, false, false, false, false, false, false, false, false, false, false, false, false, false, false, false, false] rfl rfl (by kernel_rfl) (by kernel_rfl) (by kernel_rfl) (by kernel_rfl) (fun _ _ _ h => h) hGc (Or.inl ⟨by rfl, ?_⟩) ?_
       rotate_left
       ·intro w_ hSw_; go_simp; try with_reducible rfl
       try simp only [Act.put, List.setIfInBounds_toArray, List.set_cons_zero, List.set_cons_succ]
       refine take_N (i := 1) (v := ?_) (some 75) #[true, true, false, false, false, false, false, false, false, false, false, false, false, false, false, false, false, false, false, false, false, false, false, false, false, false, false, false] rfl rfl (by kernel_rfl) (by kernel_rfl) (by kernel_rfl) (by kernel_rfl) (fun _ _ _ h => h) hGc (Or.inl ⟨by rfl, ?_⟩) ?_
       rotate_left
       ·intro w_ hSw_; go_simp; try with_reducible rfl
       try simp only [Act.put, List.setIfInBounds_toArray, List.set_cons_zero, List.set_cons_succ]
       refine take_N (i := 2) (v := .string vols[t].name) (some 76) #[true, true, true, false, false, false, false, false, false, false, false, false, false, false, false, false, false, false, false, false, false, false, false, false, false, false, false, false] rfl rfl (by kernel_rfl) (by kernel_rfl) (by kernel_rfl) (by kernel_rfl) (fun _ _ _ h => h) hGc (Or.inl ⟨by rfl, ?_⟩) ?_
       ·intro w_ hSw_; exact (by have hcc : w_.cell? ⟨XB, 0, none⟩ = some (.string vols[t].name) := (by rw [RowIs.cell hSw_]; exact k0); go_simp)
       try simp only [Act.put, List.setIfInBounds_toArray, List.set_cons_zero, List.set_cons_succ]
       refine take_N (i := 4) (v := ?_) (some 78) #[true, true, true, false, true, false, false, false, false, false, false, false, false, false, false, false, false, false, false, false, false, false, false, false, false, false, false, false] rfl rfl (by kernel_rfl) (by kernel_rfl) (by kernel_rfl) (by kernel_rfl) (fun _ _ _ h => h) hGc (Or.inl ⟨by rfl, ?_⟩) ?_
       rotate_left
       ·intro w_ hSw_; go_simp; try with_reducible rfl
       try simp only [Act.put, List.setIfInBounds_toArray, List.set_cons_zero, List.set_cons_succ]
       refine take_N (i := 5) (v := .string vols[t].frm) (some 79) #[true, true, true, false, true, true, false, false, false, false, false, false, false, false, false, false, false, false, false, false, false, false, false, false, false, false, false, false] rfl rfl (by kernel_rfl) (by kernel_rfl) (by kernel_rfl) (by kernel_rfl) (fun _ _ _ h => h) hGc (Or.inl ⟨by rfl, ?_⟩) ?_
       ·intro w_ hSw_; exact (by have hcc : w_.cell? ⟨XB, 2, none⟩ = some (.string vols[t].frm) := (by rw [RowIs.cell hSw_]; exact k2); go_simp)
       try simp only [Act.put, List.setIfInBounds_toArray, List.set_cons_zero, List.set_cons_succ]
       refine take_N (i := 8) (v := ?_) (some 82) #[true, true, true, false, true, true, false, false, true, false, false, false, false, false, false, false, false, false, false, false, false, false, false, false, false, false, false, false] rfl rfl (by kernel_rfl) (by kernel_rfl) (by kernel_rfl) (by kernel_rfl) (fun _ _ _ h => h) hGc (Or.inl ⟨by rfl, ?_⟩) ?_
       rotate_left
       ·intro w_ hSw_; go_simp; try with_reducible rfl
       try simp only [Act.put, List.setIfInBounds_toArray, List.set_cons_zero, List.set_cons_succ]
       refine take_N (i := 9) (v := .int .u8 (vols[t].kind : Int)) (some 83) #[true, true, true, false, true, true, false, false, true, true, false, false, false, false, false, false, false, false, false, false, false, false, false, false, false, false, false, false] rfl rfl (by kernel_rfl) (by kernel_rfl) (by kernel_rfl) (by kernel_rfl) (fun _ _ _ h => h) hGc (Or.inl ⟨by rfl, ?_⟩) ?_
       ·intro w_ hSw_; exact (by have hcc : w_.cell? ⟨XB, 1, none⟩ = some (.int .u8 (vols[t].kind : Int)) := (by rw [RowIs.cell hSw_]; exact k1); go_simp)
       try simp only [Act.put, List.setIfInBounds_toArray, List.set_cons_zero, List.set_cons_succ]
       refine take_N (i := 10) (v := .int .u64 (vols[t].kind : Int)) (some 84) #[true, true, true, false, true, true, false, false, true, true, true, false, false, false, false, false, false, false, false, false, false, false, false, false, false, false, false, false] rfl rfl (by kernel_rfl) (by kernel_rfl) (by kernel_rfl) (by kernel_rfl) (fun _ _ _ h => h) hGc (Or.inl ⟨by rfl, ?_⟩) ?_
       ·intro w_ hSw_; exact exec_conv rfl rfl (rcast_vk _ _ hkw.1)
       try simp only [Act.put, List.setIfInBounds_toArray, List.set_cons_zero, List.set_cons_succ]
       refine take_N (i := 13) (v := ?_) (some 87) #[true, true, true, false, true, true, false, false, true, true, true, false, false, true, false, false, false, false, false, false, false, false, false, false, false, false, false, false] rfl rfl (by kernel_rfl) (by kernel_rfl) (by kernel_rfl) (by kernel_rfl) (fun _ _ _ h => h) hGc (Or.inl ⟨by rfl, ?_⟩) ?_
       rotate_left
       ·intro w_ hSw_; go_simp; try with_reducible rfl
       try simp only [Act.put, List.setIfInBounds_toArray, List.set_cons_zero, List.set_cons_succ]
       refine take_N (i := 14) (v := .int .u64 (vols[t].born : Int)) (some 88) #[true, true, true, false, true, true, false, false, true, true, true, false, false, true, true, false, false, false, false, false, false, false, false, false, false, false, false, false] rfl rfl (by kernel_rfl) (by kernel_rfl) (by kernel_rfl) (by kernel_rfl) (fun _ _ _ h => h) hGc (Or.inl ⟨by rfl, ?_⟩) ?_
       ·intro w_ hSw_; exact (by have hcc : w_.cell? ⟨XB, 3, none⟩ = some (.int .u64 (vols[t].born : Int)) := (by rw [RowIs.cell hSw_]; exact k3); go_simp)
       try simp only [Act.put, List.setIfInBounds_toArray, List.set_cons_zero, List.set_cons_succ]
       refine take_N (i := 17) (v := ?_) (some 91) #[true, true, true, false, true, true, false, false, true, true, true, false, false, true, true, false, false, true, false, false, false, false, false, false, false, false, false, false] rfl rfl (by kernel_rfl) (by kernel_rfl) (by kernel_rfl) (by kernel_rfl) (fun _ _ _ h => h) hGc (Or.inl ⟨by rfl, ?_⟩) ?_
       rotate_left
       ·intro w_ hSw_; go_simp; try with_reducible rfl
       try simp only [Act.put, List.setIfInBounds_toArray, List.set_cons_zero, List.set_cons_succ]
       refine take_N (i := 18) (v := .int .u32 (vols[t].root : Int)) (some 92) #[true, true, true, false, true, true, false, false, true, true, true, false, false, true, true, false, false, true, true, false, false, false, false, false, false, false, false, false] rfl rfl (by kernel_rfl) (by kernel_rfl) (by kernel_rfl) (by kernel_rfl) (fun _ _ _ h => h) hGc (Or.inl ⟨by rfl, ?_⟩) ?_
       ·intro w_ hSw_; exact (by have hcc : w_.cell? ⟨XB, 4, none⟩ = some (.int .u32 (vols[t].root : Int)) := (by rw [RowIs.cell hSw_]; exact k4); go_simp)
       try simp only [Act.put, List.setIfInBounds_toArray, List.set_cons_zero, List.set_cons_succ]
       refine take_N (i := 19) (v := .int .u64 (vols[t].root : Int)) (some 93) #[true, true, true, false, true, true, false, false, true, true, true, false, false, true, true, false, false, true, true, true, false, false, false, false, false, false, false, false] rfl rfl (by kernel_rfl) (by kernel_rfl) (by kernel_rfl) (by kernel_rfl) (fun _ _ _ h => h) hGc (Or.inl ⟨by rfl, ?_⟩) ?_
       ·intro w_ hSw_; exact exec_conv rfl rfl (rcast_u32 _ _ hkw.2.2.1)
       try simp only [Act.put, List.setIfInBounds_toArray, List.set_cons_zero, List.set_cons_succ]
       refine take_N (i := 22) (v := ?_) (some 96) #[true, true, true, false, true, true, false, false, true, true, true, false, false, true, true, false, false, true, true, true, false, false, true, false, false, false, false, false] rfl rfl (by kernel_rfl) (by kernel_rfl) (by kernel_rfl) (by kernel_rfl) (fun _ _ _ h => h) hGc (Or.inl ⟨by rfl, ?_⟩) ?_
       rotate_left
       ·intro w_ hSw_; go_simp; try with_reducible rfl
       try simp only [Act.put, List.setIfInBounds_toArray, List.set_cons_zero, List.set_cons_succ]
       refine take_N (i := 23) (v := ?_) (some 97) #[true, true, true, false, true, true, false, false, true, true, true, false, false, true, true, false, false, true, true, true, false, false, true, true, false, false, false, false] rfl rfl (by kernel_rfl) (by kernel_rfl) (by kernel_rfl) (by kernel_rfl) (fun _ _ _ h => h) hGc (Or.inl ⟨by rfl, ?_⟩) ?_
       rotate_left
       ·intro w_ hSw_; go_simp; try with_reducible rfl
       try simp only [Act.put, List.setIfInBounds_toArray, List.set_cons_zero, List.set_cons_succ]
       refine take_N (i := 24) (v := .string (strOf vols[t].hash)) (some 98) #[true, true, true, false, true, true, false, false, true, true, true, false, false, true, true, false, false, true, true, true, false, false, true, true, true, false, false, false] rfl rfl (by kernel_rfl) (by kernel_rfl) (by kernel_rfl) (by kernel_rfl) (fun _ _ _ h => h) hGc (Or.inl ⟨by rfl, ?_⟩) ?_
       ·intro w_ hSw_; exact exec_conv rfl rfl (rconv_hash (pre := [.string vols[t].name, .int .u8 (vols[t].kind : Int), .string vols[t].frm, .int .u64 (vols[t].born : Int), .int .u32 (vols[t].root : Int)]) (o := 5) _ vols[t].hash hkw.2.2.2 rfl (by have h9 := hSw_; rw [HC.out] at h9; exact h9))
       try simp only [Act.put, List.setIfInBounds_toArray, List.set_cons_zero, List.set_cons_succ]
       refine step_N (i := 3) #[true, true, true, true, true, true, false, false, true, true, true, false, false, true, true, false, false, true, true, true, false, false, true, true, true, false, false, false] rfl (by kernel_rfl) (by kernel_rfl) (fun K hK => ?_)
       rw [if_pos (by rfl)]
       go_simp
       refine (ht1 _).mono ?_
       rintro e wa ⟨rfl, hqwa⟩
       have hGwa := hGc.below hqwa hGc.lt
       replace hbc := hbc.trans (hqwa.mono hbc.size)
       replace hgc := hgc.below hqwa hgc.lt
       clear hGc hqwa
       have hGc := hGwa
       clear hGwa
       refine hK.out _ _ hGc ?_
       clear hK K
       try simp only [Act.put, List.setIfInBounds_toArray, List.set_cons_zero, List.set_cons_succ]
       refine step_N (i := 6) #[true, true, true, true, true, true, true, false, true, true, true, false, false, true, true, false, false, true, true, true, false, false, true, true, true, false, false, false] rfl (by kernel_rfl) (by kernel_rfl) (fun K hK => ?_)
       rw [if_pos (by rfl)]
       go_simp
       refine (ht2 _).mono ?_
       rintro e wb ⟨rfl, hqwb⟩
       have hGwb := hGc.below hqwb hGc.lt
       replace hbc := hbc.trans (hqwb.mono hbc.size)
       replace hgc := hgc.below hqwb hgc.lt
       clear hGc hqwb
       have hGc := hGwb
       clear hGwb
       refine hK.out _ _ hGc ?_
       clear hK K
       try simp only [Act.put, List.setIfInBounds_toArray, List.set_cons_zero, List.set_cons_succ]
       refine take_N (i := 7) (v := ?_) (some 81) #[true, true, true, true, true, true, true, true, true, true, true, false, false, true, true, false, false, true, true, true, false, false, true, true, true, false, false, false] rfl rfl (by kernel_rfl) (by kernel_rfl) (by kernel_rfl) (by kernel_rfl) (fun _ _ _ h => h) hGc (Or.inl ⟨by rfl, ?_⟩) ?_
       rotate_left
       ·intro w_ hSw_; go_simp; try with_reducible rfl
       try simp only [Act.put, List.setIfInBounds_toArray, List.set_cons_zero, List.set_cons_succ]
       refine step_N (i := 11) #[true, true, true, true, true, true, true, true, true, true, true, true, false, true, true, false, false, true, true, true, false, false, true, true, true, false, false, false] rfl (by kernel_rfl) (by kernel_rfl) (fun K hK => ?_)
       rw [if_pos (by rfl)]
       go_simp
       refine (ht3 _).mono ?_
       rintro e wc ⟨rfl, hqwc⟩
       have hGwc := hGc.below hqwc hGc.lt
       replace hbc := hbc.trans (hqwc.mono hbc.size)
       replace hgc := hgc.below hqwc hgc.lt
       clear hGc hqwc
       have hGc := hGwc
       clear hGwc
       refine hK.out _ _ hGc ?_
       clear hK K
       try simp only [Act.put, List.setIfInBounds_toArray, List.set_cons_zero, List.set_cons_succ]
       refine take_N (i := 12) (v := ?_) (some 86) #[true, true, true, true, true, true, true, true, true, true, true, true, true, true, true, false, false, true, true, true, false, false, true, true, true, false, false, false] rfl rfl (by kernel_rfl) (by kernel_rfl) (by kernel_rfl) (by kernel_rfl) (fun _ _ _ h => h) hGc (Or.inl ⟨by rfl, ?_⟩) ?_
       rotate_left
       ·intro w_ hSw_; go_simp; try with_reducible rfl
       try simp only [Act.put, List.setIfInBounds_toArray, List.set_cons_zero, List.set_cons_succ]
       refine step_N (i := 15) #[true, true, true, true, true, true, true, true, true, true, true, true, true, true, true, true, false, true, true, true, false, false, true, true, true, false, false, false] rfl (by kernel_rfl) (by kernel_rfl) (fun K hK => ?_)
       rw [if_pos (by rfl)]
       go_simp
       refine (ht4 _).mono ?_
       rintro e wd ⟨rfl, hqwd⟩
       have hGwd := hGc.below hqwd hGc.lt
       replace hbc := hbc.trans (hqwd.mono hbc.size)
       replace hgc := hgc.below hqwd hgc.lt
       clear hGc hqwd
       have hGc := hGwd
       clear hGwd
       refine hK.out _ _ hGc ?_
       clear hK K
       try simp only [Act.put, List.setIfInBounds_toArray, List.set_cons_zero, List.set_cons_succ]
       refine take_N (i := 16) (v := ?_) (some 90) #[true, true, true, true, true, true, true, true, true, true, true, true, true, true, true, true, true, true, true, true, false, false, true, true, true, false, false, false] rfl rfl (by kernel_rfl) (by kernel_rfl) (by kernel_rfl) (by kernel_rfl) (fun _ _ _ h => h) hGc (Or.inl ⟨by rfl, ?_⟩) ?_
       rotate_left
       ·intro w_ hSw_; go_simp; try with_reducible rfl
       try simp only [Act.put, List.setIfInBounds_toArray, List.set_cons_zero, List.set_cons_succ]
       refine step_N (i := 20) #[true, true, true, true, true, true, true, true, true, true, true, true, true, true, true, true, true, true, true, true, true, false, true, true, true, false, false, false] rfl (by kernel_rfl) (by kernel_rfl) (fun K hK => ?_)
       rw [if_pos (by rfl)]
       go_simp
       refine (ht5 _).mono ?_
       rintro e we ⟨rfl, hqwe⟩
       have hGwe := hGc.below hqwe hGc.lt
       replace hbc := hbc.trans (hqwe.mono hbc.size)
       replace hgc := hgc.below hqwe hgc.lt
       clear hGc hqwe
       have hGc := hGwe
       clear hGwe
       refine hK.out _ _ hGc ?_
       clear hK K
       try simp only [Act.put, List.setIfInBounds_toArray, List.set_cons_zero, List.set_cons_succ]
       refine take_N (i := 21) (v := ?_) (some 95) #[true, true, true, true, true, true, true, true, true, true, true, true, true, true, true, true, true, true, true, true, true, true, true, true, true, false, false, false] rfl rfl (by kernel_rfl) (by kernel_rfl) (by kernel_rfl) (by kernel_rfl) (fun _ _ _ h => h) hGc (Or.inl ⟨by rfl, ?_⟩) ?_
       rotate_left
       ·intro w_ hSw_; go_simp; try with_reducible rfl
       try simp only [Act.put, List.setIfInBounds_toArray, List.set_cons_zero, List.set_cons_succ]
       refine take_N (i := 25) (v := ?_) (some 99) #[true, true, true, true, true, true, true, true, true, true, true, true, true, true, true, true, true, true, true, true, true, true, true, true, true, true, false, false] rfl rfl (by kernel_rfl) (by kernel_rfl) (by kernel_rfl) (by kernel_rfl) (fun _ _ _ h => h) hGc (Or.inl ⟨by rfl, ?_⟩) ?_
       rotate_left
       ·intro w_ hSw_; go_simp; try with_reducible rfl
       try simp only [Act.put, List.setIfInBounds_toArray, List.set_cons_zero, List.set_cons_succ]
       refine take_N (i := 26) (v := ?_) (some 100) #[true, true, true, true, true, true, true, true, true, true, true, true, true, true, true, true, true, true, true, true, true, true, true, true, true, true, true, false] rfl rfl (by kernel_rfl) (by kernel_rfl) (by kernel_rfl) (by kernel_rfl) (fun _ _ _ h => h) hGc (Or.inl ⟨by rfl, ?_⟩) ?_
       rotate_left
       ·intro w_ hSw_; go_simp; try with_reducible rfl
       try simp only [Act.put, List.setIfInBounds_toArray, List.set_cons_zero, List.set_cons_succ]
       refine take_N (i := 27) (v := ?_) (some 3) #[true, true, true, true, true, true, true, true, true, true, true, true, true, true, true, true, true, true, true, true, true, true, true, true, true, true, true, true] rfl rfl (by kernel_rfl) (by kernel_rfl) (by kernel_rfl) (by kernel_rfl) (fun _ _ _ h => h) hGc (Or.inl ⟨by rfl, ?_⟩) ?_
       rotate_left
       ·intro w_ hSw_; go_simp; try with_reducible rfl
       try simp only [Act.put, List.setIfInBounds_toArray, List.set_cons_zero, List.set_cons_succ]
       refine wpAnyH_done (by kernel_rfl) ?_ _
       clear hHeld
       clear hGc
       have HBG := Lib.hid (And.intro hbc hgc)
       clear hbc hgc
       go_wp2_with fail
       go_roundw
       case rel => exact ⟨t + 1, by omega, by go_num, by rw [HEQ.out], HBG.out.1, HBG.out.2⟩
       case measure => simp [intOf]; omega
      ·have htl : t = vols.length := by omega
       subst htl
       have hnlt : ¬ (vols.length : Int) < (vols.length : Int) := by omega
       have hfin : strOf (Q2 ++ (vols.take vols.length).flatMap volB) = strOf (Q2 ++ vols.flatMap volB) := by rw [List.take_length]
       rw [hfin]
       have hGc := hgr
       have hbc := hbr
       clear hgr hbr hfin
       rw [← HX.out]
       go_wp2_with fail
       go_ret
       exact ⟨rfl, hbc⟩
set_option maxRecDepth 100000 in
set_option maxHeartbeats 1600000 in
theorem rencode_calls (B : Nat) (v : Value) (n : NodeD) (w : World) (h : NodeAt B w v n) (hB : B ≤ w.heap.size) (hz : fitN n) :
  Calls Tryz.prog 87 #[v] w fun e w' => e = .returned (.tuple #[.string (strOf (encN n)), .int .i64 (checkN n)]) ∧ Below w.heap.size w w' := by
 have hw := h.wf
 have hchk := fun w' (hb : Below w.heap.size w w') => rcheck_calls B v n w' (h.below hb hB) (Nat.le_trans hB hb.size) hz
 have hby := fun (hc : checkN n = 0) w' (hb : Below w.heap.size w w') => rbytesN_calls B v n w' (h.below hb hB) (Nat.le_trans hB hb.size) hz (by have h1 := (check_ok n).1 hc; rw [bytesN_length n hw h1.1]; omega)
 have hwh := fun (hc : checkN n = 0) w' => rwhole_calls (strOf (bytesN n)) w' (by have h1 := (check_ok n).1 hc; rw [strOf_size, bytesN_length n hw h1.1]; omega)
 have hE : checkN n = 0 → encN n = wholeL (strOf (bytesN n)).data.toList := fun hc => by rw [encN, if_pos hc]; rfl
 have hN : checkN n ≠ 0 → encN n = [] := fun hc => by rw [encN, if_neg hc]
 obtain ⟨_, vi, vk, vv, rfl, s1, s2, s3⟩ := h
 obtain ⟨ai, ci, rfl, _, _⟩ := s1
 obtain ⟨ak, ck, rfl, _, _⟩ := s2
 obtain ⟨av, cv, rfl, _, _⟩ := s3
 obtain ⟨kind, items, kids, vols⟩ := n
 simp only [] at hchk hby
 show Calls Tryz.prog 87 #[.agg #[.int .u8 (kind : Int), .slice ai items.length ci, .slice ak kids.length ck, .slice av vols.length cv]] w _
 generalize checkN ⟨kind, items, kids, vols⟩ = X at *
 generalize encN ⟨kind, items, kids, vols⟩ = E at *
 generalize strOf (bytesN ⟨kind, items, kids, vols⟩) = BS at *
 generalize wholeL BS.data.toList = WL at *
 have HE := Lib.hid hE
 have HN := Lib.hid hN
 have HBY := Lib.hid hby
 have HWH := Lib.hid hwh
 clear hE hN hw hz hby hwh
 obtain ⟨W, hW⟩ : ∃ W, W = w.alloc (.cells #[.int .u8 (kind : Int), .slice ai items.length ci, .slice ak kids.length ck, .slice av vols.length cv] 28) := ⟨_, rfl⟩
 have hg : RowIs W w.heap.size 28 #[.int .u8 (kind : Int), .slice ai items.length ci, .slice ak kids.length ck, .slice av vols.length cv] := by rw [hW]; exact RowIs.new w _ _
 have hb : Below w.heap.size w W := by rw [hW]; exact (Below.refl _ _).alloc (Nat.le_refl _) _
 have hsz : (Tryz.prog.info? 28).map (·.size) = some (#[.int .u8 (kind : Int), .slice ai items.length ci, .slice ak kids.length ck, .slice av vols.length cv] : Array Value).size := by kernel_rfl
 have hcall := hchk W hb
 have HW := Lib.hid hW
 have HB := Lib.hid (And.intro hb hg)
 clear hW hb hchk
 go_enter Tryz.func87, Tryz.ntmps87
 go_wp2_with (first | (refine wpList_world HW.out ?_) | (refine wpList_load_row rfl 28 _ rfl w.heap.size rfl 28 #[.int .u8 (kind : Int), .slice ai items.length ci, .slice ak kids.length ck, .slice av vols.length cv] (0, 0) _ hg Tryz.underlying28 rfl hsz ?_))
 refine hcall.mono ?_
 rintro e w2 ⟨rfl, hq⟩
 have hb2 := HB.out.1.trans (hq.mono HB.out.1.size)
 have hg2 := HB.out.2.below hq HB.out.2.lt
 clear hcall hq hg HB
 by_cases hX : X = 0
 ·subst hX
  have hcall := HBY.out rfl w2 hb2
  have hwh := HWH.out rfl
  have hE := HE.out rfl
  subst hE
  have HB2 := Lib.hid hb2
  clear hb2 HBY HWH HE HN
  go_wp2_with (refine wpList_load_row rfl 28 _ rfl w.heap.size rfl 28 #[.int .u8 (kind : Int), .slice ai items.length ci, .slice ak kids.length ck, .slice av vols.length cv] (0, 0) _ hg2 Tryz.underlying28 rfl hsz ?_)
  refine hcall.mono ?_
  rintro e w3 ⟨rfl, hq⟩
  have hb3 := HB2.out.trans (hq.mono HB2.out.size)
  clear hcall hq hg2
  go_wp2_with fail
  refine (hwh w3).mono ?_
  rintro e w4 ⟨rfl, hq⟩
  have hb4 := hb3.trans (hq.mono hb3.size)
  clear hwh hq hb3
  go_wp2_with fail
  go_ret2
  exact ⟨rfl, hb4⟩
 ·have hE := HN.out hX
  subst hE
  have x1 : (X == 0) = false := by simpa using hX
  have x2 : (X != 0) = true := by simpa using hX
  clear HBY HWH HE HN hg2
  go_wp2_with fail
  go_ret2
  exact ⟨rfl, hb2⟩
end Go.Proofs.YtimkklaidodkdaaGreatDoor
