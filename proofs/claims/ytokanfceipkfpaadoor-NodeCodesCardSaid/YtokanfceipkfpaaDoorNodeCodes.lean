/- The law NodeCodes: walked. -/
import Derived.Test.YtokanfceipkfpaaDoorNodeLives
import Derived.Test.YtokanfceipkfpaaDoorRefDecode
import Derived.Test.YtokanfceipkfpaaDoorRefKids
namespace Go.Proofs.YtokanfceipkfpaaDoor
open Go.RowKit

theorem own_oneD {w : World} {B : Nat} {e : TypeId} {v : Value} {n : Nat} {xs : List Value} (h : w.ownsRow B e 1 v n xs) : ∃ p cap, v = .slice p n cap ∧ ∀ i, i < n → ∃ R, p = some ⟨R, 0, none⟩ ∧ w.cell? ⟨R, i, none⟩ = xs[i]? := by
  obtain ⟨_, ⟨hv, hn⟩ | ⟨g, cap, cur, hv, hg, hh, hnc, hcm, hcs, hxs⟩⟩ := h
  · exact ⟨none, 0, by rw [hv, hn], fun i hi => absurd hi (by omega)⟩
  · refine ⟨_, cap, hv, fun i hi => ⟨g, rfl, ?_⟩⟩
    rw [← hxs, List.getElem?_take, if_pos (by omega), Array.getElem?_toList]
    simp only [World.cell?, hh]
    simp
theorem sl_up {B C : Nat} {w : World} {v : Value} {n z : Nat} {cs : Nat → List Value} (h : SlAt B w v n cs z) (hC : B ≤ C) : SlAt C w v n cs z := by
  obtain ⟨a, cap, hv, hn, hr⟩ := h
  refine ⟨a, cap, hv, hn, fun h0 => ?_⟩
  obtain ⟨b, o, ha, hb, hc⟩ := hr h0
  exact ⟨b, o, ha, Nat.lt_of_lt_of_le hb hC, hc⟩
theorem node_up {B C : Nat} {w : World} {v : Value} {n : NodeD} (h : NodeAt B w v n) (hC : B ≤ C) : NodeAt C w v n := by
  obtain ⟨hw, vi, vk, vv, hv, h1, h2, h3⟩ := h
  exact ⟨hw, vi, vk, vv, hv, sl_up h1 hC, sl_up h2 hC, sl_up h3 hC⟩
theorem sameN_self (n : NodeD) : sameN n n = true := (sameN_iff n n).2 rfl

set_option maxRecDepth 100000 in
set_option maxHeartbeats 6400000 in
theorem nodeCodes_calls (nv : Value) (n : NodeD) (s : ByteArray) (w : World) (hn : NodeAt w.heap.size w nv n) (fn : fitN n) (hs : s.size ≤ 140737488351232) :
    Calls Tryd.prog 3 #[nv, .string s] w fun e w' => e = .returned (.bool true) ∧ Below w.heap.size w w' := by
  have k1 := fun W (hb : Below w.heap.size w W) => encode_calls w.heap.size nv n W (hn.below hb (Nat.le_refl _)) hb.size fn
  have k2 := fun W (hb : Below w.heap.size w W) => rencode_calls w.heap.size nv n W (hn.below hb (Nat.le_refl _)) hb.size fn
  have k3 := fun W => decode_calls s W hs
  have k4 := fun W => rdecode_calls s W hs
  unfold DecPost at k3 k4
  generalize nodeL s.data.toList = ND at k3 k4
  generalize decE s.data.toList = DE at k3 k4
  have k5 := fun W (hb : Below w.heap.size w W) => kidNums_calls w.heap.size nv n W (hn.below hb (Nat.le_refl _)) hb.size fn
  have k6 := fun W (hb : Below w.heap.size w W) => rkidNums_calls w.heap.size nv n W (hn.below hb (Nat.le_refl _)) hb.size fn
  have k7 := fun W (hb : Below w.heap.size w W) => check_calls w.heap.size nv n W (hn.below hb (Nat.le_refl _)) hb.size fn
  have k8 := fun W (hb : Below w.heap.size w W) => rcheck_calls w.heap.size nv n W (hn.below hb (Nat.le_refl _)) hb.size fn
  have k9 := fun W (hb : Below w.heap.size w W) => sizew_calls w.heap.size nv n W (hn.below hb (Nat.le_refl _)) hb.size fn
  have kA := fun W (hb : Below w.heap.size w W) => rsizew_calls w.heap.size nv n W (hn.below hb (Nat.le_refl _)) hb.size fn
  have kB := fun (d : NodeD) va vb W (ha : NodeAt W.heap.size W va d) (hb : NodeAt W.heap.size W vb d) => same_calls W.heap.size va vb d d W ha hb (Nat.le_refl _)
  simp only [sameN_self] at kB
  obtain ⟨n1, nc1, n2, nc2, n3, nc3, rfl⟩ : ∃ p1 c1 p2 c2 p3 c3, nv = .agg #[.int .u8 (n.kind : Int), .slice p1 n.items.length c1, .slice p2 n.kids.length c2, .slice p3 n.vols.length c3] := by
    obtain ⟨_, vi, vk, vv, rfl, a, b, c⟩ := hn
    obtain ⟨p1, c1, rfl, _⟩ := a
    obtain ⟨p2, c2, rfl, _⟩ := b
    obtain ⟨p3, c3, rfl, _⟩ := c
    exact ⟨p1, c1, p2, c2, p3, c3, rfl⟩
  obtain ⟨RN, hRN⟩ : ∃ R : Array Value, R = #[.int .u8 (n.kind : Int), .slice n1 n.items.length nc1, .slice n2 n.kids.length nc2, .slice n3 n.vols.length nc3] := ⟨_, rfl⟩
  have hszN : (Tryd.prog.info? 27).map (·.size) = some RN.size := by rw [hRN]; kernel_rfl
  rw [← hRN] at k1 k2 k5 k6 k7 k8 k9 kA
  rw [← hRN]
  have hkn : (kidNums n).length ≤ 4398046511104 := by
    have hl := fn.1
    unfold kidNums
    split
    · rw [List.length_map]; omega
    · split
      · rw [List.length_map]; have := List.length_filter_le (fun v : VolD => decide (v.root ≠ 0)) n.vols; omega
      · simp
  obtain ⟨W1, hW1⟩ : ∃ W, W = w.alloc (.cells RN 27) := ⟨_, rfl⟩
  have hN1 : RowIs W1 w.heap.size 27 RN := by rw [hW1]; exact RowIs.new w _ _
  have hb1 : Below w.heap.size w W1 := by rw [hW1]; exact (Below.refl _ _).alloc (Nat.le_refl _) _
  generalize encN n = EN at *
  generalize checkN n = CK at *
  generalize sw (sizeN n) = SZ at *
  generalize kidNums n = KN at *
  have hcall := k1 W1 hb1
  have HW1 := Lib.hid hW1
  have HKK := Lib.hid (And.intro k2 (And.intro k5 (And.intro k6 (And.intro k7 (And.intro k8 (And.intro k9 kA))))))
  have HKB := Lib.hid kB
  have HK34 := Lib.hid (And.intro k3 k4)
  clear hW1 hRN hn fn k1 k2 k3 k4 k5 k6 k7 k8 k9 kA kB hs
  go_enter Tryd.func3, Tryd.ntmps3
  go_wp2_with (first | (refine wpList_world HW1.out ?_) | (refine wpList_load_row rfl 27 _ rfl w.heap.size rfl 27 RN (0, 0) _ hN1 Tryd.underlying27 rfl hszN ?_))
  refine hcall.mono ?_
  rintro e w2 ⟨rfl, hq⟩
  have hN2 := hN1.below hq hN1.lt
  have hb2 := hb1.trans (hq.mono hb1.size)
  have hcall := HKK.out.1 w2 hb2
  clear hN1 hb1 hq
  go_wp2_with (refine wpList_load_row rfl 27 _ rfl w.heap.size rfl 27 RN (0, 0) _ hN2 Tryd.underlying27 rfl hszN ?_)
  refine hcall.mono ?_
  rintro e w3 ⟨rfl, hq⟩
  have hN3 := hN2.below hq hN2.lt
  have hb3 := hb2.trans (hq.mono hb2.size)
  have hcall := HK34.out.1 w3
  clear hN2 hb2 hq
  go_wp2_with fail
  refine hcall.mono ?_
  rintro e w4 ⟨v, rfl, hoC, hq⟩
  have hN4 := hN3.below hq hN3.lt
  have hb4 := hb3.trans (hq.mono hb3.size)
  clear hN3 hq hcall
  have hoX := hoC
  clear hoC
  obtain ⟨hwfC, vi, vk, vv, rfl, oi, ok, ov⟩ := id hoX
  obtain ⟨p1, q1, rfl⟩ := own_shape oi
  obtain ⟨p2, q2, rfl⟩ := own_shape ok
  obtain ⟨p3, q3, rfl⟩ := own_shape ov
  obtain ⟨RC, hRC⟩ : ∃ R : Array Value, R = #[.int .u8 (ND.kind : Int), .slice p1 ND.items.length q1, .slice p2 ND.kids.length q2, .slice p3 ND.vols.length q3] := ⟨_, rfl⟩
  rw [← hRC] at hoX
  rw [← hRC]
  have hs4 : RC.size = 4 := by rw [hRC]; rfl
  have honC : RC.all (·.oneCell') = true := by rw [hRC]; simp [Value.oneCell']
  have hszC : (Tryd.prog.info? 27).map (·.size) = some RC.size := by rw [hs4]; kernel_rfl
  obtain ⟨A4, B4, hA, hB, hrC, hbq, hthC⟩ := alloc_fill w4 #[.int .u8 0, .slice none 0 0, .slice none 0 0, .slice none 0 0] RC 27 (by rw [hs4]; rfl)
  have hnC := (hoX.node).below hbq (Nat.le_refl _)
  have HA4 := Lib.hid hA
  have HB4 := Lib.hid hB
  clear hA hB hRC hs4 oi ok ov hwfC hoX
  have hN5 := hN4.below hbq hN4.lt
  have hb5 := hb4.trans (hbq.mono hb4.size)
  have hcall := HK34.out.2 B4
  have HF := Lib.hid (And.intro hN5 (And.intro hb5 (And.intro hrC hnC)))
  clear hN4 hb4 hN5 hb5 hrC hnC hbq
  go_wp2_with (first | (refine wpList_world HA4.out ?_) | (refine wpList_store_mid rfl 27 _ _ rfl w4.heap.size 0 RC rfl rfl hthC hszC honC ?_; refine wpList_world HB4.out ?_))
  refine hcall.mono ?_
  rintro e w5 ⟨v, rfl, hoX, hq⟩
  obtain ⟨hN5, hb5, hrC, hnC⟩ := HF.out
  have hN6 := hN5.below hq hN5.lt
  have hb6 := hb5.trans (hq.mono hb5.size)
  have hrC6 := hrC.below hq hrC.lt
  have hnC6 := (node_up hnC (Nat.le_of_lt hrC.lt)).below hq (Nat.le_refl _)
  have HS45 := Lib.hid hq.size
  clear hN5 hb5 hrC hnC hq hcall HF hthC honC HA4 HB4
  obtain ⟨hwfD, vi, vk, vv, rfl, oi, ok, ov⟩ := id hoX
  obtain ⟨p1, q1, rfl⟩ := own_shape oi
  obtain ⟨p2, q2, rfl⟩ := own_shape ok
  obtain ⟨p3, q3, rfl⟩ := own_shape ov
  obtain ⟨RD, hRD⟩ : ∃ R : Array Value, R = #[.int .u8 (ND.kind : Int), .slice p1 ND.items.length q1, .slice p2 ND.kids.length q2, .slice p3 ND.vols.length q3] := ⟨_, rfl⟩
  rw [← hRD] at hoX
  rw [← hRD]
  have hs4 : RD.size = 4 := by rw [hRD]; rfl
  have honD : RD.all (·.oneCell') = true := by rw [hRD]; simp [Value.oneCell']
  have hszD : (Tryd.prog.info? 27).map (·.size) = some RD.size := by rw [hs4]; kernel_rfl
  obtain ⟨A5, B5, hA, hB, hrD, hbq, hthD⟩ := alloc_fill w5 #[.int .u8 0, .slice none 0 0, .slice none 0 0, .slice none 0 0] RD 27 (by rw [hs4]; rfl)
  have hnD := (hoX.node).below hbq (Nat.le_refl _)
  have HA5 := Lib.hid hA
  have HB5 := Lib.hid hB
  clear hA hB hRD hs4 oi ok ov hwfD hoX
  have hN7 := hN6.below hbq hN6.lt
  have hb7 := hb6.trans (hbq.mono hb6.size)
  have hrC7 := hrC6.below hbq hrC6.lt
  have hnC7 := hnC6.below hbq HS45.out
  clear hN6 hb6 hrC6 hnC6 hbq
  have HF := Lib.hid (And.intro hN7 (And.intro hb7 (And.intro hrC7 (And.intro hrD (And.intro (node_up hnC7 (Nat.le_trans HS45.out (Nat.le_of_lt hrD.lt))) (node_up hnD (Nat.le_of_lt hrD.lt)))))))
  clear hN7 hb7 hrC7 hnC7 hrD hnD
  go_wp2_with (first | (refine wpList_world HA5.out ?_) | (refine wpList_store_mid rfl 27 _ _ rfl w5.heap.size 0 RD rfl rfl hthD hszD honD ?_; refine wpList_world HB5.out ?_))
  try rw [← HB5.out]
  clear hthD honD HA5 HB5
  generalize w4.heap.size = CX at *
  generalize w5.heap.size = DX at *
  obtain ⟨hN, hb, hrC, hrD, hnC, hnD⟩ := HF.out
  clear HF HS45
  have hGc : RowIs B5.drew w.heap.size 27 RN ∧ RowIs B5.drew CX 27 RC ∧ RowIs B5.drew DX 27 RD := ⟨hN.drew, hrC.drew, hrD.drew⟩
  have hbc : Below w.heap.size w B5.drew := Below.drew hb
  have hnc : NodeAt B5.drew.heap.size B5.drew (.agg RC) ND ∧ NodeAt B5.drew.heap.size B5.drew (.agg RD) ND := ⟨hnC.below (Below.drew (Below.refl _ _)) (Nat.le_refl _), hnD.below (Below.drew (Below.refl _ _)) (Nat.le_refl _)⟩
  clear hN hb hrC hrD hnC hnD
  refine wp_region_held_drew (S := fun w' => RowIs w' w.heap.size 27 RN ∧ RowIs w' CX 27 RC ∧ RowIs w' DX 27 RD) (by kernel_rfl) hGc (fun hHeld => ?_)
  generalize B5.drew = wv at *
  refine take_N (i := 0) (v := .agg RN) (some 36) #[true, false, false, false, false, false] rfl rfl (by kernel_rfl) (by kernel_rfl) (by kernel_rfl) (by kernel_rfl) (fun _ _ _ h => h) hGc (Or.inl ⟨by rfl, ?_⟩) ?_
  · intro w_ hSw_; exact exec_load_row 27 _ (by rfl) w.heap.size (by rfl) 27 RN (0, 0) _ hSw_.1 Tryd.underlying27 (by rfl) hszN
  try simp only [Act.put, List.setIfInBounds_toArray, List.set_cons_zero, List.set_cons_succ]
  refine take_N (i := 2) (v := .agg RN) (some 38) #[true, false, true, false, false, false] rfl rfl (by kernel_rfl) (by kernel_rfl) (by kernel_rfl) (by kernel_rfl) (fun _ _ _ h => h) hGc (Or.inl ⟨by rfl, ?_⟩) ?_
  · intro w_ hSw_; exact exec_load_row 27 _ (by rfl) w.heap.size (by rfl) 27 RN (0, 0) _ hSw_.1 Tryd.underlying27 (by rfl) hszN
  try simp only [Act.put, List.setIfInBounds_toArray, List.set_cons_zero, List.set_cons_succ]
  refine step_N (i := 1) #[true, true, true, false, false, false] rfl (by kernel_rfl) (by kernel_rfl) (fun K hK => ?_)
  rw [if_pos (by rfl)]
  go_simp
  have hbx := hbc.size
  refine (HKK.out.2.1 _ hbc).mono ?_
  rintro e wa ⟨rx, rfl, hox, hq⟩
  have hG2 : RowIs wa w.heap.size 27 RN ∧ RowIs wa CX 27 RC ∧ RowIs wa DX 27 RD := ⟨hGc.1.below hq hGc.1.lt, hGc.2.1.below hq hGc.2.1.lt, hGc.2.2.below hq hGc.2.2.lt⟩
  have hn2 : NodeAt wa.heap.size wa (.agg RC) ND ∧ NodeAt wa.heap.size wa (.agg RD) ND := ⟨node_up (hnc.1.below hq (Nat.le_refl _)) hq.size, node_up (hnc.2.below hq (Nat.le_refl _)) hq.size⟩
  replace hbc := hbc.trans (hq.mono hbc.size)
  have hox' := ownsRow_base hox hbx
  clear hGc hnc hq
  have hGc := hG2
  have hnc := hn2
  clear hG2 hn2
  refine hK.out _ _ hGc ?_
  clear hK K
  refine step_N (i := 3) #[true, true, true, true, false, false] rfl (by kernel_rfl) (by kernel_rfl) (fun K hK => ?_)
  rw [if_pos (by rfl)]
  go_simp
  have hby := hbc.size
  refine (HKK.out.2.2.1 _ hbc).mono ?_
  rintro e wb ⟨ry, rfl, hoy, hq⟩
  have hG2 : RowIs wb w.heap.size 27 RN ∧ RowIs wb CX 27 RC ∧ RowIs wb DX 27 RD := ⟨hGc.1.below hq hGc.1.lt, hGc.2.1.below hq hGc.2.1.lt, hGc.2.2.below hq hGc.2.2.lt⟩
  have hn2 : NodeAt wb.heap.size wb (.agg RC) ND ∧ NodeAt wb.heap.size wb (.agg RD) ND := ⟨node_up (hnc.1.below hq (Nat.le_refl _)) hq.size, node_up (hnc.2.below hq (Nat.le_refl _)) hq.size⟩
  replace hbc := hbc.trans (hq.mono hbc.size)
  have hoy' := ownsRow_base hoy hby
  have hox2 := ownsRow_below hox' hq
  clear hox'
  have hox' := hox2
  clear hox2
  clear hGc hnc hq
  have hGc := hG2
  have hnc := hn2
  clear hG2 hn2
  refine hK.out _ _ hGc ?_
  clear hK K
  refine take_N (i := 4) (v := ?_) (some 13) #[true, true, true, true, true, false] rfl rfl (by kernel_rfl) (by kernel_rfl) (by kernel_rfl) (by kernel_rfl) (fun _ _ _ h => h) hGc (Or.inl ⟨by rfl, ?_⟩) ?_
  rotate_left
  · intro w_ hSw_; go_simp; try with_reducible rfl
  try simp only [Act.put, List.setIfInBounds_toArray, List.set_cons_zero, List.set_cons_succ]
  refine take_N (i := 5) (v := ?_) (some 14) #[true, true, true, true, true, true] rfl rfl (by kernel_rfl) (by kernel_rfl) (by kernel_rfl) (by kernel_rfl) (fun _ _ _ h => h) hGc (Or.inl ⟨by rfl, ?_⟩) ?_
  rotate_left
  · intro w_ hSw_; go_simp; try with_reducible rfl
  try simp only [Act.put, List.setIfInBounds_toArray, List.set_cons_zero, List.set_cons_succ]
  refine wpAnyH_done (by kernel_rfl) ?_ _
  clear hHeld
  obtain ⟨px, cx, rfl⟩ := own_shape hox'
  obtain ⟨py, cy, rfl⟩ := own_shape hoy'
  clear hox hoy hbx hby
  have hxy : wb.ownsRow w.heap.size 39 1 (.slice px KN.length cx) KN.length (numsV KN) ∧ wb.ownsRow w.heap.size 39 1 (.slice py KN.length cy) KN.length (numsV KN) := ⟨hox', hoy'⟩
  clear hox' hoy'
  have HXY := Lib.hid (And.intro hGc (And.intro hbc (And.intro hnc hxy)))
  clear hGc hbc hnc hxy
  go_wp2_with fail
  obtain ⟨hGc0, hbc0, hnc0, hxy0⟩ := HXY.out
  have hGc : RowIs wb.drew w.heap.size 27 RN ∧ RowIs wb.drew CX 27 RC ∧ RowIs wb.drew DX 27 RD := ⟨hGc0.1.drew, hGc0.2.1.drew, hGc0.2.2.drew⟩
  have hbc : Below w.heap.size w wb.drew := Below.drew hbc0
  have hnc : NodeAt wb.drew.heap.size wb.drew (.agg RC) ND ∧ NodeAt wb.drew.heap.size wb.drew (.agg RD) ND := ⟨hnc0.1.below (Below.drew (Below.refl _ _)) (Nat.le_refl _), hnc0.2.below (Below.drew (Below.refl _ _)) (Nat.le_refl _)⟩
  have hxy : wb.drew.ownsRow w.heap.size 39 1 (.slice px KN.length cx) KN.length (numsV KN) ∧ wb.drew.ownsRow w.heap.size 39 1 (.slice py KN.length cy) KN.length (numsV KN) := ⟨ownsRow_below hxy0.1 (Below.drew (Below.refl _ _)), ownsRow_below hxy0.2 (Below.drew (Below.refl _ _))⟩
  clear hGc0 hbc0 hnc0 hxy0 HXY
  refine wp_region_held_drew (S := fun w' => RowIs w' w.heap.size 27 RN ∧ RowIs w' CX 27 RC ∧ RowIs w' DX 27 RD) (by kernel_rfl) hGc (fun hHeld => ?_)
  generalize wb.drew = wv2 at *
  refine step_N (i := 0) #[true, false, false, false, false, false, false, false, false, false, false, false, false, false, false, false, false, false, false, false, false, false, false, false, false, false, false, false, false, false, false, false, false, false, false, false, false, false, false, false, false, false, false, false] rfl (by kernel_rfl) (by kernel_rfl) (fun K hK => ?_)
  rw [if_pos (by rfl)]
  go_simp
  refine (lives_calls _).mono ?_
  rintro e wc ⟨rfl, hq⟩
  have hG2 : RowIs wc w.heap.size 27 RN ∧ RowIs wc CX 27 RC ∧ RowIs wc DX 27 RD := ⟨hGc.1.below hq hGc.1.lt, hGc.2.1.below hq hGc.2.1.lt, hGc.2.2.below hq hGc.2.2.lt⟩
  have hn2 : NodeAt wc.heap.size wc (.agg RC) ND ∧ NodeAt wc.heap.size wc (.agg RD) ND := ⟨node_up (hnc.1.below hq (Nat.le_refl _)) hq.size, node_up (hnc.2.below hq (Nat.le_refl _)) hq.size⟩
  replace hbc := hbc.trans (hq.mono hbc.size)
  have hxy2 := And.intro (ownsRow_below hxy.1 hq) (ownsRow_below hxy.2 hq)
  clear hxy
  have hxy := hxy2
  clear hxy2
  clear hGc hnc hq
  have hGc := hG2
  have hnc := hn2
  clear hG2 hn2
  refine hK.out _ _ hGc ?_
  clear hK K
  refine take_N (i := 1) (v := ?_) (some 41) #[true, true, false, false, false, false, false, false, false, false, false, false, false, false, false, false, false, false, false, false, false, false, false, false, false, false, false, false, false, false, false, false, false, false, false, false, false, false, false, false, false, false, false, false] rfl rfl (by kernel_rfl) (by kernel_rfl) (by kernel_rfl) (by kernel_rfl) (fun _ _ _ h => h) hGc (Or.inl ⟨by rfl, ?_⟩) ?_
  rotate_left
  · intro w_ hSw_; go_simp; try with_reducible rfl
  try simp only [Act.put, List.setIfInBounds_toArray, List.set_cons_zero, List.set_cons_succ]
  refine take_N (i := 2) (v := ?_) (some 42) #[true, true, true, false, false, false, false, false, false, false, false, false, false, false, false, false, false, false, false, false, false, false, false, false, false, false, false, false, false, false, false, false, false, false, false, false, false, false, false, false, false, false, false, false] rfl rfl (by kernel_rfl) (by kernel_rfl) (by kernel_rfl) (by kernel_rfl) (fun _ _ _ h => h) hGc (Or.inl ⟨by rfl, ?_⟩) ?_
  rotate_left
  · intro w_ hSw_; go_simp; try with_reducible rfl
  try simp only [Act.put, List.setIfInBounds_toArray, List.set_cons_zero, List.set_cons_succ]
  refine take_N (i := 3) (v := ?_) (some 43) #[true, true, true, true, false, false, false, false, false, false, false, false, false, false, false, false, false, false, false, false, false, false, false, false, false, false, false, false, false, false, false, false, false, false, false, false, false, false, false, false, false, false, false, false] rfl rfl (by kernel_rfl) (by kernel_rfl) (by kernel_rfl) (by kernel_rfl) (fun _ _ _ h => h) hGc (Or.inl ⟨by rfl, ?_⟩) ?_
  rotate_left
  · intro w_ hSw_; go_simp; try with_reducible rfl
  try simp only [Act.put, List.setIfInBounds_toArray, List.set_cons_zero, List.set_cons_succ]
  refine take_N (i := 4) (v := ?_) (some 44) #[true, true, true, true, true, false, false, false, false, false, false, false, false, false, false, false, false, false, false, false, false, false, false, false, false, false, false, false, false, false, false, false, false, false, false, false, false, false, false, false, false, false, false, false] rfl rfl (by kernel_rfl) (by kernel_rfl) (by kernel_rfl) (by kernel_rfl) (fun _ _ _ h => h) hGc (Or.inl ⟨by rfl, ?_⟩) ?_
  rotate_left
  · intro w_ hSw_; go_simp; try with_reducible rfl
  try simp only [Act.put, List.setIfInBounds_toArray, List.set_cons_zero, List.set_cons_succ]
  refine take_N (i := 5) (v := ?_) (some 45) #[true, true, true, true, true, true, false, false, false, false, false, false, false, false, false, false, false, false, false, false, false, false, false, false, false, false, false, false, false, false, false, false, false, false, false, false, false, false, false, false, false, false, false, false] rfl rfl (by kernel_rfl) (by kernel_rfl) (by kernel_rfl) (by kernel_rfl) (fun _ _ _ h => h) hGc (Or.inl ⟨by rfl, ?_⟩) ?_
  rotate_left
  · intro w_ hSw_; go_simp; try with_reducible rfl
  try simp only [Act.put, List.setIfInBounds_toArray, List.set_cons_zero, List.set_cons_succ]
  refine take_N (i := 6) (v := ?_) (some 46) #[true, true, true, true, true, true, true, false, false, false, false, false, false, false, false, false, false, false, false, false, false, false, false, false, false, false, false, false, false, false, false, false, false, false, false, false, false, false, false, false, false, false, false, false] rfl rfl (by kernel_rfl) (by kernel_rfl) (by kernel_rfl) (by kernel_rfl) (fun _ _ _ h => h) hGc (Or.inl ⟨by rfl, ?_⟩) ?_
  rotate_left
  · intro w_ hSw_; go_simp; try with_reducible rfl
  try simp only [Act.put, List.setIfInBounds_toArray, List.set_cons_zero, List.set_cons_succ]
  refine take_N (i := 7) (v := ?_) (some 47) #[true, true, true, true, true, true, true, true, false, false, false, false, false, false, false, false, false, false, false, false, false, false, false, false, false, false, false, false, false, false, false, false, false, false, false, false, false, false, false, false, false, false, false, false] rfl rfl (by kernel_rfl) (by kernel_rfl) (by kernel_rfl) (by kernel_rfl) (fun _ _ _ h => h) hGc (Or.inl ⟨by rfl, ?_⟩) ?_
  rotate_left
  · intro w_ hSw_; go_simp; try with_reducible rfl
  try simp only [Act.put, List.setIfInBounds_toArray, List.set_cons_zero, List.set_cons_succ]
  refine take_N (i := 8) (v := ?_) (some 48) #[true, true, true, true, true, true, true, true, true, false, false, false, false, false, false, false, false, false, false, false, false, false, false, false, false, false, false, false, false, false, false, false, false, false, false, false, false, false, false, false, false, false, false, false] rfl rfl (by kernel_rfl) (by kernel_rfl) (by kernel_rfl) (by kernel_rfl) (fun _ _ _ h => h) hGc (Or.inl ⟨by rfl, ?_⟩) ?_
  rotate_left
  · intro w_ hSw_; go_simp; try with_reducible rfl
  try simp only [Act.put, List.setIfInBounds_toArray, List.set_cons_zero, List.set_cons_succ]
  refine take_N (i := 9) (v := ?_) (some 49) #[true, true, true, true, true, true, true, true, true, true, false, false, false, false, false, false, false, false, false, false, false, false, false, false, false, false, false, false, false, false, false, false, false, false, false, false, false, false, false, false, false, false, false, false] rfl rfl (by kernel_rfl) (by kernel_rfl) (by kernel_rfl) (by kernel_rfl) (fun _ _ _ h => h) hGc (Or.inl ⟨by rfl, ?_⟩) ?_
  rotate_left
  · intro w_ hSw_; go_simp; try with_reducible rfl
  try simp only [Act.put, List.setIfInBounds_toArray, List.set_cons_zero, List.set_cons_succ]
  refine take_N (i := 10) (v := ?_) (some 50) #[true, true, true, true, true, true, true, true, true, true, true, false, false, false, false, false, false, false, false, false, false, false, false, false, false, false, false, false, false, false, false, false, false, false, false, false, false, false, false, false, false, false, false, false] rfl rfl (by kernel_rfl) (by kernel_rfl) (by kernel_rfl) (by kernel_rfl) (fun _ _ _ h => h) hGc (Or.inl ⟨by rfl, ?_⟩) ?_
  rotate_left
  · intro w_ hSw_; go_simp; try with_reducible rfl
  try simp only [Act.put, List.setIfInBounds_toArray, List.set_cons_zero, List.set_cons_succ]
  refine take_N (i := 11) (v := ?_) (some 51) #[true, true, true, true, true, true, true, true, true, true, true, true, false, false, false, false, false, false, false, false, false, false, false, false, false, false, false, false, false, false, false, false, false, false, false, false, false, false, false, false, false, false, false, false] rfl rfl (by kernel_rfl) (by kernel_rfl) (by kernel_rfl) (by kernel_rfl) (fun _ _ _ h => h) hGc (Or.inl ⟨by rfl, ?_⟩) ?_
  rotate_left
  · intro w_ hSw_; go_simp; try with_reducible rfl
  try simp only [Act.put, List.setIfInBounds_toArray, List.set_cons_zero, List.set_cons_succ]
  refine take_N (i := 12) (v := ?_) (some 52) #[true, true, true, true, true, true, true, true, true, true, true, true, true, false, false, false, false, false, false, false, false, false, false, false, false, false, false, false, false, false, false, false, false, false, false, false, false, false, false, false, false, false, false, false] rfl rfl (by kernel_rfl) (by kernel_rfl) (by kernel_rfl) (by kernel_rfl) (fun _ _ _ h => h) hGc (Or.inl ⟨by rfl, ?_⟩) ?_
  rotate_left
  · intro w_ hSw_; go_simp; try with_reducible rfl
  try simp only [Act.put, List.setIfInBounds_toArray, List.set_cons_zero, List.set_cons_succ]
  refine take_N (i := 13) (v := .agg RC) (some 53) #[true, true, true, true, true, true, true, true, true, true, true, true, true, true, false, false, false, false, false, false, false, false, false, false, false, false, false, false, false, false, false, false, false, false, false, false, false, false, false, false, false, false, false, false] rfl rfl (by kernel_rfl) (by kernel_rfl) (by kernel_rfl) (by kernel_rfl) (fun _ _ _ h => h) hGc (Or.inl ⟨by rfl, ?_⟩) ?_
  · intro w_ hSw_; exact exec_load_row 27 _ (by rfl) CX (by rfl) 27 RC (0, 0) _ hSw_.2.1 Tryd.underlying27 (by rfl) hszC
  try simp only [Act.put, List.setIfInBounds_toArray, List.set_cons_zero, List.set_cons_succ]
  refine take_N (i := 14) (v := .agg RD) (some 54) #[true, true, true, true, true, true, true, true, true, true, true, true, true, true, true, false, false, false, false, false, false, false, false, false, false, false, false, false, false, false, false, false, false, false, false, false, false, false, false, false, false, false, false, false] rfl rfl (by kernel_rfl) (by kernel_rfl) (by kernel_rfl) (by kernel_rfl) (fun _ _ _ h => h) hGc (Or.inl ⟨by rfl, ?_⟩) ?_
  · intro w_ hSw_; exact exec_load_row 27 _ (by rfl) DX (by rfl) 27 RD (0, 0) _ hSw_.2.2 Tryd.underlying27 (by rfl) hszD
  try simp only [Act.put, List.setIfInBounds_toArray, List.set_cons_zero, List.set_cons_succ]
  refine step_N (i := 15) #[true, true, true, true, true, true, true, true, true, true, true, true, true, true, true, true, false, false, false, false, false, false, false, false, false, false, false, false, false, false, false, false, false, false, false, false, false, false, false, false, false, false, false, false] rfl (by kernel_rfl) (by kernel_rfl) (fun K hK => ?_)
  rw [if_pos (by rfl)]
  go_simp
  refine (HKB.out ND _ _ _ hnc.1 hnc.2).mono ?_
  rintro e wd ⟨rfl, hq⟩
  have hG2 : RowIs wd w.heap.size 27 RN ∧ RowIs wd CX 27 RC ∧ RowIs wd DX 27 RD := ⟨hGc.1.below hq hGc.1.lt, hGc.2.1.below hq hGc.2.1.lt, hGc.2.2.below hq hGc.2.2.lt⟩
  have hn2 : NodeAt wd.heap.size wd (.agg RC) ND ∧ NodeAt wd.heap.size wd (.agg RD) ND := ⟨node_up (hnc.1.below hq (Nat.le_refl _)) hq.size, node_up (hnc.2.below hq (Nat.le_refl _)) hq.size⟩
  replace hbc := hbc.trans (hq.mono hbc.size)
  have hxy2 := And.intro (ownsRow_below hxy.1 hq) (ownsRow_below hxy.2 hq)
  clear hxy
  have hxy := hxy2
  clear hxy2
  clear hGc hnc hq
  have hGc := hG2
  have hnc := hn2
  clear hG2 hn2
  refine hK.out _ _ hGc ?_
  clear hK K
  refine take_N (i := 16) (v := ?_) (some 56) #[true, true, true, true, true, true, true, true, true, true, true, true, true, true, true, true, true, false, false, false, false, false, false, false, false, false, false, false, false, false, false, false, false, false, false, false, false, false, false, false, false, false, false, false] rfl rfl (by kernel_rfl) (by kernel_rfl) (by kernel_rfl) (by kernel_rfl) (fun _ _ _ h => h) hGc (Or.inl ⟨by rfl, ?_⟩) ?_
  rotate_left
  · intro w_ hSw_; go_simp; try with_reducible rfl
  try simp only [Act.put, List.setIfInBounds_toArray, List.set_cons_zero, List.set_cons_succ]
  refine take_N (i := 17) (v := ?_) (some 57) #[true, true, true, true, true, true, true, true, true, true, true, true, true, true, true, true, true, true, false, false, false, false, false, false, false, false, false, false, false, false, false, false, false, false, false, false, false, false, false, false, false, false, false, false] rfl rfl (by kernel_rfl) (by kernel_rfl) (by kernel_rfl) (by kernel_rfl) (fun _ _ _ h => h) hGc (Or.inl ⟨by rfl, ?_⟩) ?_
  rotate_left
  · intro w_ hSw_; go_simp; try with_reducible rfl
  try simp only [Act.put, List.setIfInBounds_toArray, List.set_cons_zero, List.set_cons_succ]
  refine take_N (i := 18) (v := ?_) (some 58) #[true, true, true, true, true, true, true, true, true, true, true, true, true, true, true, true, true, true, true, false, false, false, false, false, false, false, false, false, false, false, false, false, false, false, false, false, false, false, false, false, false, false, false, false] rfl rfl (by kernel_rfl) (by kernel_rfl) (by kernel_rfl) (by kernel_rfl) (fun _ _ _ h => h) hGc (Or.inl ⟨by rfl, ?_⟩) ?_
  rotate_left
  · intro w_ hSw_; go_simp; try with_reducible rfl
  try simp only [Act.put, List.setIfInBounds_toArray, List.set_cons_zero, List.set_cons_succ]
  refine take_N (i := 19) (v := ?_) (some 59) #[true, true, true, true, true, true, true, true, true, true, true, true, true, true, true, true, true, true, true, true, false, false, false, false, false, false, false, false, false, false, false, false, false, false, false, false, false, false, false, false, false, false, false, false] rfl rfl (by kernel_rfl) (by kernel_rfl) (by kernel_rfl) (by kernel_rfl) (fun _ _ _ h => h) hGc (Or.inl ⟨by rfl, ?_⟩) ?_
  rotate_left
  · intro w_ hSw_; go_simp; try with_reducible rfl
  try simp only [Act.put, List.setIfInBounds_toArray, List.set_cons_zero, List.set_cons_succ]
  refine take_N (i := 20) (v := ?_) (some 60) #[true, true, true, true, true, true, true, true, true, true, true, true, true, true, true, true, true, true, true, true, true, false, false, false, false, false, false, false, false, false, false, false, false, false, false, false, false, false, false, false, false, false, false, false] rfl rfl (by kernel_rfl) (by kernel_rfl) (by kernel_rfl) (by kernel_rfl) (fun _ _ _ h => h) hGc (Or.inl ⟨by rfl, ?_⟩) ?_
  rotate_left
  · intro w_ hSw_; go_simp; try with_reducible rfl
  try simp only [Act.put, List.setIfInBounds_toArray, List.set_cons_zero, List.set_cons_succ]
  refine take_N (i := 21) (v := ?_) (some 61) #[true, true, true, true, true, true, true, true, true, true, true, true, true, true, true, true, true, true, true, true, true, true, false, false, false, false, false, false, false, false, false, false, false, false, false, false, false, false, false, false, false, false, false, false] rfl rfl (by kernel_rfl) (by kernel_rfl) (by kernel_rfl) (by kernel_rfl) (fun _ _ _ h => h) hGc (Or.inl ⟨by rfl, ?_⟩) ?_
  rotate_left
  · intro w_ hSw_; go_simp; try with_reducible rfl
  try simp only [Act.put, List.setIfInBounds_toArray, List.set_cons_zero, List.set_cons_succ]
  refine take_N (i := 22) (v := ?_) (some 62) #[true, true, true, true, true, true, true, true, true, true, true, true, true, true, true, true, true, true, true, true, true, true, true, false, false, false, false, false, false, false, false, false, false, false, false, false, false, false, false, false, false, false, false, false] rfl rfl (by kernel_rfl) (by kernel_rfl) (by kernel_rfl) (by kernel_rfl) (fun _ _ _ h => h) hGc (Or.inl ⟨by rfl, ?_⟩) ?_
  rotate_left
  · intro w_ hSw_; go_simp; try with_reducible rfl
  try simp only [Act.put, List.setIfInBounds_toArray, List.set_cons_zero, List.set_cons_succ]
  refine take_N (i := 23) (v := ?_) (some 63) #[true, true, true, true, true, true, true, true, true, true, true, true, true, true, true, true, true, true, true, true, true, true, true, true, false, false, false, false, false, false, false, false, false, false, false, false, false, false, false, false, false, false, false, false] rfl rfl (by kernel_rfl) (by kernel_rfl) (by kernel_rfl) (by kernel_rfl) (fun _ _ _ h => h) hGc (Or.inl ⟨by rfl, ?_⟩) ?_
  rotate_left
  · intro w_ hSw_; go_simp; try with_reducible rfl
  try simp only [Act.put, List.setIfInBounds_toArray, List.set_cons_zero, List.set_cons_succ]
  refine take_N (i := 24) (v := .agg RN) (some 64) #[true, true, true, true, true, true, true, true, true, true, true, true, true, true, true, true, true, true, true, true, true, true, true, true, true, false, false, false, false, false, false, false, false, false, false, false, false, false, false, false, false, false, false, false] rfl rfl (by kernel_rfl) (by kernel_rfl) (by kernel_rfl) (by kernel_rfl) (fun _ _ _ h => h) hGc (Or.inl ⟨by rfl, ?_⟩) ?_
  · intro w_ hSw_; exact exec_load_row 27 _ (by rfl) w.heap.size (by rfl) 27 RN (0, 0) _ hSw_.1 Tryd.underlying27 (by rfl) hszN
  try simp only [Act.put, List.setIfInBounds_toArray, List.set_cons_zero, List.set_cons_succ]
  refine take_N (i := 26) (v := .agg RN) (some 66) #[true, true, true, true, true, true, true, true, true, true, true, true, true, true, true, true, true, true, true, true, true, true, true, true, true, false, true, false, false, false, false, false, false, false, false, false, false, false, false, false, false, false, false, false] rfl rfl (by kernel_rfl) (by kernel_rfl) (by kernel_rfl) (by kernel_rfl) (fun _ _ _ h => h) hGc (Or.inl ⟨by rfl, ?_⟩) ?_
  · intro w_ hSw_; exact exec_load_row 27 _ (by rfl) w.heap.size (by rfl) 27 RN (0, 0) _ hSw_.1 Tryd.underlying27 (by rfl) hszN
  try simp only [Act.put, List.setIfInBounds_toArray, List.set_cons_zero, List.set_cons_succ]
  refine step_N (i := 25) #[true, true, true, true, true, true, true, true, true, true, true, true, true, true, true, true, true, true, true, true, true, true, true, true, true, true, true, false, false, false, false, false, false, false, false, false, false, false, false, false, false, false, false, false] rfl (by kernel_rfl) (by kernel_rfl) (fun K hK => ?_)
  rw [if_pos (by rfl)]
  go_simp
  refine (HKK.out.2.2.2.1 _ hbc).mono ?_
  rintro e we ⟨rfl, hq⟩
  have hG2 : RowIs we w.heap.size 27 RN ∧ RowIs we CX 27 RC ∧ RowIs we DX 27 RD := ⟨hGc.1.below hq hGc.1.lt, hGc.2.1.below hq hGc.2.1.lt, hGc.2.2.below hq hGc.2.2.lt⟩
  have hn2 : NodeAt we.heap.size we (.agg RC) ND ∧ NodeAt we.heap.size we (.agg RD) ND := ⟨node_up (hnc.1.below hq (Nat.le_refl _)) hq.size, node_up (hnc.2.below hq (Nat.le_refl _)) hq.size⟩
  replace hbc := hbc.trans (hq.mono hbc.size)
  have hxy2 := And.intro (ownsRow_below hxy.1 hq) (ownsRow_below hxy.2 hq)
  clear hxy
  have hxy := hxy2
  clear hxy2
  clear hGc hnc hq
  have hGc := hG2
  have hnc := hn2
  clear hG2 hn2
  refine hK.out _ _ hGc ?_
  clear hK K
  refine step_N (i := 27) #[true, true, true, true, true, true, true, true, true, true, true, true, true, true, true, true, true, true, true, true, true, true, true, true, true, true, true, true, false, false, false, false, false, false, false, false, false, false, false, false, false, false, false, false] rfl (by kernel_rfl) (by kernel_rfl) (fun K hK => ?_)
  rw [if_pos (by rfl)]
  go_simp
  refine (HKK.out.2.2.2.2.1 _ hbc).mono ?_
  rintro e wf ⟨rfl, hq⟩
  have hG2 : RowIs wf w.heap.size 27 RN ∧ RowIs wf CX 27 RC ∧ RowIs wf DX 27 RD := ⟨hGc.1.below hq hGc.1.lt, hGc.2.1.below hq hGc.2.1.lt, hGc.2.2.below hq hGc.2.2.lt⟩
  have hn2 : NodeAt wf.heap.size wf (.agg RC) ND ∧ NodeAt wf.heap.size wf (.agg RD) ND := ⟨node_up (hnc.1.below hq (Nat.le_refl _)) hq.size, node_up (hnc.2.below hq (Nat.le_refl _)) hq.size⟩
  replace hbc := hbc.trans (hq.mono hbc.size)
  have hxy2 := And.intro (ownsRow_below hxy.1 hq) (ownsRow_below hxy.2 hq)
  clear hxy
  have hxy := hxy2
  clear hxy2
  clear hGc hnc hq
  have hGc := hG2
  have hnc := hn2
  clear hG2 hn2
  refine hK.out _ _ hGc ?_
  clear hK K
  refine take_N (i := 28) (v := ?_) (some 68) #[true, true, true, true, true, true, true, true, true, true, true, true, true, true, true, true, true, true, true, true, true, true, true, true, true, true, true, true, true, false, false, false, false, false, false, false, false, false, false, false, false, false, false, false] rfl rfl (by kernel_rfl) (by kernel_rfl) (by kernel_rfl) (by kernel_rfl) (fun _ _ _ h => h) hGc (Or.inl ⟨by rfl, ?_⟩) ?_
  rotate_left
  · intro w_ hSw_; go_simp; try with_reducible rfl
  try simp only [Act.put, List.setIfInBounds_toArray, List.set_cons_zero, List.set_cons_succ]
  refine take_N (i := 29) (v := ?_) (some 69) #[true, true, true, true, true, true, true, true, true, true, true, true, true, true, true, true, true, true, true, true, true, true, true, true, true, true, true, true, true, true, false, false, false, false, false, false, false, false, false, false, false, false, false, false] rfl rfl (by kernel_rfl) (by kernel_rfl) (by kernel_rfl) (by kernel_rfl) (fun _ _ _ h => h) hGc (Or.inl ⟨by rfl, ?_⟩) ?_
  rotate_left
  · intro w_ hSw_; go_simp; try with_reducible rfl
  try simp only [Act.put, List.setIfInBounds_toArray, List.set_cons_zero, List.set_cons_succ]
  refine take_N (i := 30) (v := ?_) (some 70) #[true, true, true, true, true, true, true, true, true, true, true, true, true, true, true, true, true, true, true, true, true, true, true, true, true, true, true, true, true, true, true, false, false, false, false, false, false, false, false, false, false, false, false, false] rfl rfl (by kernel_rfl) (by kernel_rfl) (by kernel_rfl) (by kernel_rfl) (fun _ _ _ h => h) hGc (Or.inl ⟨by rfl, ?_⟩) ?_
  rotate_left
  · intro w_ hSw_; go_simp; try with_reducible rfl
  try simp only [Act.put, List.setIfInBounds_toArray, List.set_cons_zero, List.set_cons_succ]
  refine take_N (i := 31) (v := .agg RN) (some 71) #[true, true, true, true, true, true, true, true, true, true, true, true, true, true, true, true, true, true, true, true, true, true, true, true, true, true, true, true, true, true, true, true, false, false, false, false, false, false, false, false, false, false, false, false] rfl rfl (by kernel_rfl) (by kernel_rfl) (by kernel_rfl) (by kernel_rfl) (fun _ _ _ h => h) hGc (Or.inl ⟨by rfl, ?_⟩) ?_
  · intro w_ hSw_; exact exec_load_row 27 _ (by rfl) w.heap.size (by rfl) 27 RN (0, 0) _ hSw_.1 Tryd.underlying27 (by rfl) hszN
  try simp only [Act.put, List.setIfInBounds_toArray, List.set_cons_zero, List.set_cons_succ]
  refine take_N (i := 33) (v := .agg RN) (some 73) #[true, true, true, true, true, true, true, true, true, true, true, true, true, true, true, true, true, true, true, true, true, true, true, true, true, true, true, true, true, true, true, true, false, true, false, false, false, false, false, false, false, false, false, false] rfl rfl (by kernel_rfl) (by kernel_rfl) (by kernel_rfl) (by kernel_rfl) (fun _ _ _ h => h) hGc (Or.inl ⟨by rfl, ?_⟩) ?_
  · intro w_ hSw_; exact exec_load_row 27 _ (by rfl) w.heap.size (by rfl) 27 RN (0, 0) _ hSw_.1 Tryd.underlying27 (by rfl) hszN
  try simp only [Act.put, List.setIfInBounds_toArray, List.set_cons_zero, List.set_cons_succ]
  refine step_N (i := 32) #[true, true, true, true, true, true, true, true, true, true, true, true, true, true, true, true, true, true, true, true, true, true, true, true, true, true, true, true, true, true, true, true, true, true, false, false, false, false, false, false, false, false, false, false] rfl (by kernel_rfl) (by kernel_rfl) (fun K hK => ?_)
  rw [if_pos (by rfl)]
  go_simp
  refine (HKK.out.2.2.2.2.2.1 _ hbc).mono ?_
  rintro e wg ⟨rfl, hq⟩
  have hG2 : RowIs wg w.heap.size 27 RN ∧ RowIs wg CX 27 RC ∧ RowIs wg DX 27 RD := ⟨hGc.1.below hq hGc.1.lt, hGc.2.1.below hq hGc.2.1.lt, hGc.2.2.below hq hGc.2.2.lt⟩
  have hn2 : NodeAt wg.heap.size wg (.agg RC) ND ∧ NodeAt wg.heap.size wg (.agg RD) ND := ⟨node_up (hnc.1.below hq (Nat.le_refl _)) hq.size, node_up (hnc.2.below hq (Nat.le_refl _)) hq.size⟩
  replace hbc := hbc.trans (hq.mono hbc.size)
  have hxy2 := And.intro (ownsRow_below hxy.1 hq) (ownsRow_below hxy.2 hq)
  clear hxy
  have hxy := hxy2
  clear hxy2
  clear hGc hnc hq
  have hGc := hG2
  have hnc := hn2
  clear hG2 hn2
  refine hK.out _ _ hGc ?_
  clear hK K
  refine step_N (i := 34) #[true, true, true, true, true, true, true, true, true, true, true, true, true, true, true, true, true, true, true, true, true, true, true, true, true, true, true, true, true, true, true, true, true, true, true, false, false, false, false, false, false, false, false, false] rfl (by kernel_rfl) (by kernel_rfl) (fun K hK => ?_)
  rw [if_pos (by rfl)]
  go_simp
  refine (HKK.out.2.2.2.2.2.2 _ hbc).mono ?_
  rintro e wh ⟨rfl, hq⟩
  have hG2 : RowIs wh w.heap.size 27 RN ∧ RowIs wh CX 27 RC ∧ RowIs wh DX 27 RD := ⟨hGc.1.below hq hGc.1.lt, hGc.2.1.below hq hGc.2.1.lt, hGc.2.2.below hq hGc.2.2.lt⟩
  have hn2 : NodeAt wh.heap.size wh (.agg RC) ND ∧ NodeAt wh.heap.size wh (.agg RD) ND := ⟨node_up (hnc.1.below hq (Nat.le_refl _)) hq.size, node_up (hnc.2.below hq (Nat.le_refl _)) hq.size⟩
  replace hbc := hbc.trans (hq.mono hbc.size)
  have hxy2 := And.intro (ownsRow_below hxy.1 hq) (ownsRow_below hxy.2 hq)
  clear hxy
  have hxy := hxy2
  clear hxy2
  clear hGc hnc hq
  have hGc := hG2
  have hnc := hn2
  clear hG2 hn2
  refine hK.out _ _ hGc ?_
  clear hK K
  refine take_N (i := 35) (v := ?_) (some 75) #[true, true, true, true, true, true, true, true, true, true, true, true, true, true, true, true, true, true, true, true, true, true, true, true, true, true, true, true, true, true, true, true, true, true, true, true, false, false, false, false, false, false, false, false] rfl rfl (by kernel_rfl) (by kernel_rfl) (by kernel_rfl) (by kernel_rfl) (fun _ _ _ h => h) hGc (Or.inl ⟨by rfl, ?_⟩) ?_
  rotate_left
  · intro w_ hSw_; go_simp; try with_reducible rfl
  try simp only [Act.put, List.setIfInBounds_toArray, List.set_cons_zero, List.set_cons_succ]
  refine take_N (i := 36) (v := ?_) (some 76) #[true, true, true, true, true, true, true, true, true, true, true, true, true, true, true, true, true, true, true, true, true, true, true, true, true, true, true, true, true, true, true, true, true, true, true, true, true, false, false, false, false, false, false, false] rfl rfl (by kernel_rfl) (by kernel_rfl) (by kernel_rfl) (by kernel_rfl) (fun _ _ _ h => h) hGc (Or.inl ⟨by rfl, ?_⟩) ?_
  rotate_left
  · intro w_ hSw_; go_simp; try with_reducible rfl
  try simp only [Act.put, List.setIfInBounds_toArray, List.set_cons_zero, List.set_cons_succ]
  refine take_N (i := 37) (v := ?_) (some 77) #[true, true, true, true, true, true, true, true, true, true, true, true, true, true, true, true, true, true, true, true, true, true, true, true, true, true, true, true, true, true, true, true, true, true, true, true, true, true, false, false, false, false, false, false] rfl rfl (by kernel_rfl) (by kernel_rfl) (by kernel_rfl) (by kernel_rfl) (fun _ _ _ h => h) hGc (Or.inl ⟨by rfl, ?_⟩) ?_
  rotate_left
  · intro w_ hSw_; go_simp; try with_reducible rfl
  try simp only [Act.put, List.setIfInBounds_toArray, List.set_cons_zero, List.set_cons_succ]
  refine take_N (i := 38) (v := ?_) (some 78) #[true, true, true, true, true, true, true, true, true, true, true, true, true, true, true, true, true, true, true, true, true, true, true, true, true, true, true, true, true, true, true, true, true, true, true, true, true, true, true, false, false, false, false, false] rfl rfl (by kernel_rfl) (by kernel_rfl) (by kernel_rfl) (by kernel_rfl) (fun _ _ _ h => h) hGc (Or.inl ⟨by rfl, ?_⟩) ?_
  rotate_left
  · intro w_ hSw_; go_simp; try with_reducible rfl
  try simp only [Act.put, List.setIfInBounds_toArray, List.set_cons_zero, List.set_cons_succ]
  refine take_N (i := 39) (v := ?_) (some 79) #[true, true, true, true, true, true, true, true, true, true, true, true, true, true, true, true, true, true, true, true, true, true, true, true, true, true, true, true, true, true, true, true, true, true, true, true, true, true, true, true, false, false, false, false] rfl rfl (by kernel_rfl) (by kernel_rfl) (by kernel_rfl) (by kernel_rfl) (fun _ _ _ h => h) hGc (Or.inl ⟨by rfl, ?_⟩) ?_
  rotate_left
  · intro w_ hSw_; go_simp; try with_reducible rfl
  try simp only [Act.put, List.setIfInBounds_toArray, List.set_cons_zero, List.set_cons_succ]
  refine take_N (i := 40) (v := ?_) (some 80) #[true, true, true, true, true, true, true, true, true, true, true, true, true, true, true, true, true, true, true, true, true, true, true, true, true, true, true, true, true, true, true, true, true, true, true, true, true, true, true, true, true, false, false, false] rfl rfl (by kernel_rfl) (by kernel_rfl) (by kernel_rfl) (by kernel_rfl) (fun _ _ _ h => h) hGc (Or.inl ⟨by rfl, ?_⟩) ?_
  rotate_left
  · intro w_ hSw_; go_simp; try with_reducible rfl
  try simp only [Act.put, List.setIfInBounds_toArray, List.set_cons_zero, List.set_cons_succ]
  refine take_N (i := 41) (v := ?_) (some 81) #[true, true, true, true, true, true, true, true, true, true, true, true, true, true, true, true, true, true, true, true, true, true, true, true, true, true, true, true, true, true, true, true, true, true, true, true, true, true, true, true, true, true, false, false] rfl rfl (by kernel_rfl) (by kernel_rfl) (by kernel_rfl) (by kernel_rfl) (fun _ _ _ h => h) hGc (Or.inl ⟨by rfl, ?_⟩) ?_
  rotate_left
  · intro w_ hSw_; go_simp; try with_reducible rfl
  try simp only [Act.put, List.setIfInBounds_toArray, List.set_cons_zero, List.set_cons_succ]
  refine take_N (i := 42) (v := ?_) (some 82) #[true, true, true, true, true, true, true, true, true, true, true, true, true, true, true, true, true, true, true, true, true, true, true, true, true, true, true, true, true, true, true, true, true, true, true, true, true, true, true, true, true, true, true, false] rfl rfl (by kernel_rfl) (by kernel_rfl) (by kernel_rfl) (by kernel_rfl) (fun _ _ _ h => h) hGc (Or.inl ⟨by rfl, ?_⟩) ?_
  rotate_left
  · intro w_ hSw_; go_simp; try with_reducible rfl
  try simp only [Act.put, List.setIfInBounds_toArray, List.set_cons_zero, List.set_cons_succ]
  refine take_N (i := 43) (v := ?_) (some 83) #[true, true, true, true, true, true, true, true, true, true, true, true, true, true, true, true, true, true, true, true, true, true, true, true, true, true, true, true, true, true, true, true, true, true, true, true, true, true, true, true, true, true, true, true] rfl rfl (by kernel_rfl) (by kernel_rfl) (by kernel_rfl) (by kernel_rfl) (fun _ _ _ h => h) hGc (Or.inl ⟨by rfl, ?_⟩) ?_
  rotate_left
  · intro w_ hSw_; go_simp; try with_reducible rfl
  try simp only [Act.put, List.setIfInBounds_toArray, List.set_cons_zero, List.set_cons_succ]
  refine wpAnyH_done (by kernel_rfl) ?_ _
  clear hHeld
  clear hGc hnc HKK HKB HK34 hszN hszC hszD
  have HXY := Lib.hid (And.intro hbc hxy)
  clear hbc hxy
  go_wp2_with fail
  go_loopw [86] (fun v wr => ∃ t : Nat, t ≤ KN.length ∧ v = .int .i64 t ∧ Below w.heap.size w wr ∧ (wr.ownsRow w.heap.size 39 1 (.slice px KN.length cx) KN.length (numsV KN) ∧ wr.ownsRow w.heap.size 39 1 (.slice py KN.length cy) KN.length (numsV KN))) (fun v _ => KN.length - (intOf v).toNat)
  case atStart => exact ⟨0, by omega, rfl, HXY.out.1, HXY.out.2⟩
  case round =>
    clear HXY
    obtain ⟨t, ht, rfl, hb, hox, hoy⟩ := hrel
    by_cases hlt : t < KN.length
    · have i1 : (t : Int) < (KN.length : Int) := by omega
      have i2 : (0 : Int) ≤ (t : Int) := by omega
      have HB := Lib.hid (And.intro hb (And.intro hox hoy))
      obtain ⟨p, cap, hpx, hcx⟩ := own_oneD hox
      obtain ⟨p', cap', hpy, hcy⟩ := own_oneD hoy
      obtain ⟨X, hX, hxc⟩ := hcx t hlt
      obtain ⟨Y, hY, hyc⟩ := hcy t hlt
      injection hpx with hpx hz1 hz2
      injection hpy with hpy hz3 hz4
      clear hz1 hz2 hz3 hz4
      subst hX hY
      subst hpx hpy
      have hcj : wr.cell? ⟨X, t, none⟩ = some (.int .u32 (KN[t] : Int)) := by rw [hxc]; simp [numsV, List.getElem?_eq_getElem hlt]
      have hcj2 : wr.cell? ⟨Y, t, none⟩ = some (.int .u32 (KN[t] : Int)) := by rw [hyc]; simp [numsV, List.getElem?_eq_getElem hlt]
      clear hb hox hoy hcx hcy hxc hyc
      generalize KN[t] = kt at *
      go_wp2_with fail
      go_quiet (fail)
      clear hcj hcj2
      go_wp2_with fail
      go_roundw
      case rel => exact ⟨t + 1, by omega, by go_num, below_drewN HB.out.1 _, ownsRow_below HB.out.2.1 (below_drewN (Below.refl _ _) _), ownsRow_below HB.out.2.2 (below_drewN (Below.refl _ _) _)⟩
      case measure => simp [intOf]; omega
    · have htl : t = KN.length := by omega
      subst htl
      have i1 : ¬ (KN.length : Int) < (KN.length : Int) := by omega
      clear hox hoy
      go_wp2_with fail
      go_ret
      exact ⟨rfl, hb⟩

end Go.Proofs.YtokanfceipkfpaaDoor
