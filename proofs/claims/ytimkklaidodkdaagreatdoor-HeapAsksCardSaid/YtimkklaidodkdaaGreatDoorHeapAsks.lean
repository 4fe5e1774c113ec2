/- The law HeapAsks: walked. -/
import Derived.Test.YtimkklaidodkdaaGreatDoorHeapLives
import Derived.Test.YtimkklaidodkdaaGreatDoorRef6d
namespace Go.Proofs.YtimkklaidodkdaaGreatDoor
open Go.RowKit

/-- What is told of a heap and a block. -/
def AskV (h : HeapD) (k : Nat) (gN : NodeD) (gE hV hE fV fE cE : Int) : Prop :=
 (RightH h ∧ (∃ c, findC h.cells k = some c ∧ gN = c.node ∧ gE = 0 ∧ hV = heldC h c ∧ hE = 0) ∧ fV = (h.size : Int) - 2 - (h.cells.length : Int) ∧ fE = 0 ∧ cE = 0) ∨
 (RightH h ∧ findC h.cells k = none ∧ gN = ⟨0, [], [], []⟩ ∧ gE = 5 ∧ hV = 0 ∧ hE = 5 ∧ fV = (h.size : Int) - 2 - (h.cells.length : Int) ∧ fE = 0 ∧ cE = 0) ∨
 (¬ RightH h ∧ gN = ⟨0, [], [], []⟩ ∧ gE = 7 ∧ hV = 0 ∧ hE = 7 ∧ fV = 0 ∧ fE = 7 ∧ cE = 7)
theorem ask_ex (h : HeapD) (k : Nat) : ∃ gN gE hV hE fV fE cE, AskV h k gN gE hV hE fV fE cE := by
 by_cases hR : RightH h
 ·cases hf : findC h.cells k with
  | some c => exact ⟨_, _, _, _, _, _, _, .inl ⟨hR, ⟨c, hf, rfl, rfl, rfl, rfl⟩, rfl, rfl, rfl⟩⟩
  | none => exact ⟨_, _, _, _, _, _, _, .inr (.inl ⟨hR, hf, rfl, rfl, rfl, rfl, rfl, rfl, rfl⟩)⟩
 ·exact ⟨_, _, _, _, _, _, _, .inr (.inr ⟨hR, rfl, rfl, rfl, rfl, rfl, rfl, rfl⟩)⟩
section
variable {h : HeapD} {k : Nat} {gN : NodeD} {gE hV hE fV fE cE : Int} {w w' : World} {e : Ending}
theorem get_post (A : AskV h k gN gE hV hE fV fE cE) (p : (∃ r, (RightH h ∧ ((∃ c, findC h.cells k = some c ∧ e = .returned (.tuple #[r, .int .i64 0]) ∧ NodeAt w'.heap.size w' r c.node) ∨ (findC h.cells k = none ∧ r = .agg zeroNd ∧ e = .returned (.tuple #[r, .int .i64 5])))) ∨ (¬ RightH h ∧ r = .agg zeroNd ∧ e = .returned (.tuple #[r, .int .i64 7]))) ∧ Below w.heap.size w w') :
  ∃ r, e = .returned (.tuple #[r, .int .i64 gE]) ∧ NodeAt w'.heap.size w' r gN ∧ Below w.heap.size w w' := by
 have hz0 : NodeAt w'.heap.size w' (.agg zeroNd) ⟨0, [], [], []⟩ := (own_nil w' 0).node
 obtain ⟨⟨r, ⟨hR, ⟨c', hc', he, hn⟩ | ⟨hf, hz, he⟩⟩ | ⟨hno, hz, he⟩⟩, hb⟩ := p
 ·rcases A with ⟨_, ⟨c, hc, h1, h2, _⟩, _⟩ | ⟨_, hf, _⟩ | ⟨hn', _⟩
  ·rw [hc] at hc'; injection hc' with hc'; subst hc'; exact ⟨r, by rw [h2]; exact he, by rw [h1]; exact hn, hb⟩
  ·rw [hf] at hc'; cases hc'
  ·exact absurd hR hn'
 ·rcases A with ⟨_, ⟨c, hc, _⟩, _⟩ | ⟨_, _, h1, h2, _⟩ | ⟨hn', _⟩
  ·rw [hc] at hf; cases hf
  ·exact ⟨r, by rw [h2]; exact he, by rw [h1, hz]; exact hz0, hb⟩
  ·exact absurd hR hn'
 ·rcases A with ⟨hR, _⟩ | ⟨hR, _⟩ | ⟨_, h1, h2, _⟩
  ·exact absurd hR hno
  ·exact absurd hR hno
  ·exact ⟨r, by rw [h2]; exact he, by rw [h1, hz]; exact hz0, hb⟩
theorem held_post (A : AskV h k gN gE hV hE fV fE cE) (p : ((RightH h ∧ ((∃ c, findC h.cells k = some c ∧ e = .returned (.tuple #[.int .i64 (heldC h c), .int .i64 0])) ∨ (findC h.cells k = none ∧ e = .returned (.tuple #[.int .i64 0, .int .i64 5])))) ∨
   (¬ RightH h ∧ e = .returned (.tuple #[.int .i64 0, .int .i64 7]))) ∧ Below w.heap.size w w') : e = .returned (.tuple #[.int .i64 hV, .int .i64 hE]) ∧ Below w.heap.size w w' := by
 obtain ⟨⟨hR, ⟨c', hc', he⟩ | ⟨hf, he⟩⟩ | ⟨hno, he⟩, hb⟩ := p
 ·rcases A with ⟨_, ⟨c, hc, _, _, h1, h2⟩, _⟩ | ⟨_, hf, _⟩ | ⟨hn', _⟩
  ·rw [hc] at hc'; injection hc' with hc'; subst hc'; exact ⟨by rw [h1, h2]; exact he, hb⟩
  ·rw [hf] at hc'; cases hc'
  ·exact absurd hR hn'
 ·rcases A with ⟨_, ⟨c, hc, _⟩, _⟩ | ⟨_, _, _, _, h1, h2, _⟩ | ⟨hn', _⟩
  ·rw [hc] at hf; cases hf
  ·exact ⟨by rw [h1, h2]; exact he, hb⟩
  ·exact absurd hR hn'
 ·rcases A with ⟨hR, _⟩ | ⟨hR, _⟩ | ⟨_, _, _, h1, h2, _⟩
  ·exact absurd hR hno
  ·exact absurd hR hno
  ·exact ⟨by rw [h1, h2]; exact he, hb⟩
theorem free_post (A : AskV h k gN gE hV hE fV fE cE) (p : ((RightH h ∧ e = .returned (.tuple #[.int .i64 ((h.size : Int) - 2 - (h.cells.length : Int)), .int .i64 0])) ∨ (¬ RightH h ∧ e = .returned (.tuple #[.int .i64 0, .int .i64 7]))) ∧ Below w.heap.size w w') :
  e = .returned (.tuple #[.int .i64 fV, .int .i64 fE]) ∧ Below w.heap.size w w' := by
 obtain ⟨⟨hR, he⟩ | ⟨hno, he⟩, hb⟩ := p
 ·rcases A with ⟨_, _, h1, h2, _⟩ | ⟨_, _, _, _, _, _, h1, h2, _⟩ | ⟨hn', _⟩
  ·exact ⟨by rw [h1, h2]; exact he, hb⟩
  ·exact ⟨by rw [h1, h2]; exact he, hb⟩
  ·exact absurd hR hn'
 ·rcases A with ⟨hR, _⟩ | ⟨hR, _⟩ | ⟨_, _, _, _, _, h1, h2, _⟩
  ·exact absurd hR hno
  ·exact absurd hR hno
  ·exact ⟨by rw [h1, h2]; exact he, hb⟩
theorem chk_post (A : AskV h k gN gE hV hE fV fE cE) (p : ((RightH h ∧ e = .returned (.int .i64 0)) ∨ (¬ RightH h ∧ e = .returned (.int .i64 7))) ∧ Below w.heap.size w w') : e = .returned (.int .i64 cE) ∧ Below w.heap.size w w' := by
 obtain ⟨⟨hR, he⟩ | ⟨hno, he⟩, hb⟩ := p
 ·rcases A with ⟨_, _, _, _, h1⟩ | ⟨_, _, _, _, _, _, _, _, h1⟩ | ⟨hn', _⟩
  ·exact ⟨by rw [h1]; exact he, hb⟩
  ·exact ⟨by rw [h1]; exact he, hb⟩
  ·exact absurd hR hn'
 ·rcases A with ⟨hR, _⟩ | ⟨hR, _⟩ | ⟨_, _, _, _, _, _, _, h1⟩
  ·exact absurd hR hno
  ·exact absurd hR hno
  ·exact ⟨by rw [h1]; exact he, hb⟩
end
theorem sameN_selfH (n : NodeD) : sameN n n = true := (sameN_iff n n).2 rfl
theorem sl_upA {B C : Nat} {w : World} {v : Value} {n : NodeD} (h : NodeAt B w v n) (hC : B ≤ C) : NodeAt C w v n := by
 obtain ⟨hw, vi, vk, vv, hv, h1, h2, h3⟩ := h
 exact ⟨hw, vi, vk, vv, hv, sl_upH h1 hC, sl_upH h2 hC, sl_upH h3 hC⟩

set_option maxRecDepth 100000 in
set_option maxHeartbeats 6400000 in
theorem asks_calls (hv : Value) (h : HeapD) (k : Nat) (w : World) (a : HeapAt w.heap.size w hv h) :
  Calls Tryz.prog 7 #[hv, .int .u32 (k : Int)] w fun e w' => e = .returned (.bool true) ∧ Below w.heap.size w w' := by
 obtain ⟨gN, gE, hV, hE, fV, fE, cE, A⟩ := ask_ex h k
 have hat := fun W (hb : Below w.heap.size w W) => (a.below hb (Nat.le_refl _)).mono hb.size
 have k1 := fun W (hb : Below w.heap.size w W) => (get_calls hv h k W (hat W hb)).mono fun _ _ => get_post A
 have k2 := fun W (hb : Below w.heap.size w W) => (get06_calls hv h k W (hat W hb)).mono fun _ _ => get_post A
 have k3 := fun W (hb : Below w.heap.size w W) => (held_calls hv h k W (hat W hb)).mono fun _ _ => held_post A
 have k4 := fun W (hb : Below w.heap.size w W) => (held06_calls hv h k W (hat W hb)).mono fun _ _ => held_post A
 have k5 := fun W (hb : Below w.heap.size w W) => (free2_calls hv h W (hat W hb)).mono fun _ _ => free_post A
 have k6 := fun W (hb : Below w.heap.size w W) => (free06_calls hv h W (hat W hb)).mono fun _ _ => free_post A
 have k7 := fun W (hb : Below w.heap.size w W) => (check2_calls hv h W (hat W hb)).mono fun _ _ => chk_post A
 have k8 := fun W (hb : Below w.heap.size w W) => (check06_calls hv h W (hat W hb)).mono fun _ _ => chk_post A
 have kB := fun (d : NodeD) va vb W (ha : NodeAt W.heap.size W va d) (hb : NodeAt W.heap.size W vb d) => same_calls W.heap.size va vb d d W ha hb (Nat.le_refl _)
 simp only [sameN_selfH] at kB
 obtain ⟨p, cap, rfl⟩ := a.shape
 obtain ⟨RN, hRN⟩ : ∃ R : Array Value, R = #[.int .u32 (h.size : Int), .slice p h.cells.length cap] := ⟨_, rfl⟩
 have hszN : (Tryz.prog.info? 35).map (·.size) = some RN.size := by rw [hRN]; kernel_rfl
 rw [← hRN] at k1 k2 k3 k4 k5 k6 k7 k8
 rw [← hRN]
 obtain ⟨W1, hW1⟩ : ∃ W, W = w.alloc (.cells RN 35) := ⟨_, rfl⟩
 have hN1 : RowIs W1 w.heap.size 35 RN := by rw [hW1]; exact RowIs.new w _ _
 have hb1 : Below w.heap.size w W1 := by rw [hW1]; exact (Below.refl _ _).alloc (Nat.le_refl _) _
 have hcall := k1 W1 hb1
 have HW1 := Lib.hid hW1
 have HKK := Lib.hid (And.intro k2 (And.intro k3 (And.intro k4 (And.intro k5 (And.intro k6 (And.intro k7 k8))))))
 have HKB := Lib.hid kB
 clear hW1 hRN a k1 k2 k3 k4 k5 k6 k7 k8 kB hat A
 go_enter Tryz.func7, Tryz.ntmps7
 go_wp2_with (first | (refine wpList_world HW1.out ?_) | (refine wpList_load_row rfl 35 _ rfl w.heap.size rfl 35 RN (0, 0) _ hN1 Tryz.underlying35 rfl hszN ?_))
 refine hcall.mono ?_
 rintro e w4 ⟨v, rfl, hoX, hq⟩
 have hN4 := hN1.below hq hN1.lt
 have hb4 := hb1.trans (hq.mono hb1.size)
 clear hN1 hq hcall hb1
 obtain ⟨p1, q1, p2, q2, p3, q3, rfl⟩ := hoX.shapeN
 obtain ⟨RC, hRC⟩ : ∃ R : Array Value, R = #[.int .u8 (gN.kind : Int), .slice p1 gN.items.length q1, .slice p2 gN.kids.length q2, .slice p3 gN.vols.length q3] := ⟨_, rfl⟩
 rw [← hRC] at hoX
 rw [← hRC]
 have hs4 : RC.size = 4 := by rw [hRC]; rfl
 have honC : RC.all (·.oneCell') = true := by rw [hRC]; simp [Value.oneCell']
 have hszC : (Tryz.prog.info? 28).map (·.size) = some RC.size := by rw [hs4]; kernel_rfl
 obtain ⟨A4, B4, hA, hB, hrC, hbq, hthC⟩ := alloc_fill w4 #[.int .u8 0, .slice none 0 0, .slice none 0 0, .slice none 0 0] RC 28 (by rw [hs4]; rfl)
 have hnC := sl_upA (hoX.below hbq (Nat.le_refl _)) (Nat.le_of_lt hrC.lt)
 have HA4 := Lib.hid hA
 have HB4 := Lib.hid hB
 clear hA hB hRC hs4 hoX
 have hN5 := hN4.below hbq hN4.lt
 have hb5 := hb4.trans (hbq.mono hb4.size)
 have hcall := HKK.out.1 B4 hb5
 have HF := Lib.hid (And.intro hb5 (And.intro hrC hnC))
 clear hN4 hb4 hb5 hrC hnC hbq
 go_wp2_with (first | (refine wpList_world HA4.out ?_) | (refine wpList_store_mid rfl 28 _ _ rfl w4.heap.size 0 RC rfl rfl hthC hszC honC ?_; refine wpList_world HB4.out ?_) | (refine wpList_load_row rfl 35 _ rfl w.heap.size rfl 35 RN (0, 0) _ hN5 Tryz.underlying35 rfl hszN ?_))
 refine hcall.mono ?_
 rintro e w5 ⟨v, rfl, hoX, hq⟩
 obtain ⟨hb5, hrC, hnC⟩ := HF.out
 have hN6 := hN5.below hq hN5.lt
 have hb6 := hb5.trans (hq.mono hb5.size)
 have hrC6 := hrC.below hq hrC.lt
 have hnC6 := sl_upA (hnC.below hq (Nat.le_refl _)) hq.size
 clear hN5 hb5 hrC hnC hq hcall HF hthC honC HA4 HB4
 obtain ⟨p1, q1, p2, q2, p3, q3, rfl⟩ := hoX.shapeN
 obtain ⟨RD, hRD⟩ : ∃ R : Array Value, R = #[.int .u8 (gN.kind : Int), .slice p1 gN.items.length q1, .slice p2 gN.kids.length q2, .slice p3 gN.vols.length q3] := ⟨_, rfl⟩
 rw [← hRD] at hoX
 rw [← hRD]
 have hs4 : RD.size = 4 := by rw [hRD]; rfl
 have honD : RD.all (·.oneCell') = true := by rw [hRD]; simp [Value.oneCell']
 have hszD : (Tryz.prog.info? 28).map (·.size) = some RD.size := by rw [hs4]; kernel_rfl
 obtain ⟨A5, B5, hA, hB, hrD, hbq, hthD⟩ := alloc_fill w5 #[.int .u8 0, .slice none 0 0, .slice none 0 0, .slice none 0 0] RD 28 (by rw [hs4]; rfl)
 have hnD := sl_upA (hoX.below hbq (Nat.le_refl _)) (Nat.le_of_lt hrD.lt)
 have HA5 := Lib.hid hA
 have HB5 := Lib.hid hB
 clear hA hB hRD hs4 hoX
 have hN7 := hN6.below hbq hN6.lt
 have hb7 := hb6.trans (hbq.mono hb6.size)
 have hrC7 := hrC6.below hbq hrC6.lt
 have hnC7 := sl_upA (hnC6.below hbq (Nat.le_refl _)) (Nat.le_of_lt hrD.lt)
 have hcall := HKK.out.2.1 B5 hb7
 have HF := Lib.hid (And.intro hb7 (And.intro hrC7 (And.intro hrD (And.intro hnC7 hnD))))
 clear hN6 hb6 hrC6 hnC6 hbq hb7 hrC7 hrD hnC7 hnD
 go_wp2_with (first | (refine wpList_world HA5.out ?_) | (refine wpList_store_mid rfl 28 _ _ rfl w5.heap.size 0 RD rfl rfl hthD hszD honD ?_; refine wpList_world HB5.out ?_) | (refine wpList_load_row rfl 35 _ rfl w.heap.size rfl 35 RN (0, 0) _ hN7 Tryz.underlying35 rfl hszN ?_))
 generalize w4.heap.size = CX at *
 generalize w5.heap.size = DX at *
 clear hthD honD HA5 HB5
 refine hcall.mono ?_
 rintro e w8 ⟨rfl, hq⟩
 obtain ⟨hb, hrC, hrD, hnC, hnD⟩ := HF.out
 have hN_w8 := hN7.below hq hN7.lt
 have hb' := hb.trans (hq.mono hb.size)
 have hcall2 := HKK.out.2.2.1 w8 hb'
 have HF2 := Lib.hid (And.intro hb' (And.intro (hrC.below hq hrC.lt) (And.intro (hrD.below hq hrD.lt) (And.intro (sl_upA (hnC.below hq (Nat.le_refl _)) hq.size) (sl_upA (hnD.below hq (Nat.le_refl _)) hq.size)))))
 clear HF hcall hb hrC hrD hnC hnD hb' hN7 hq
 have HF := HF2
 clear HF2
 have hcall := hcall2
 clear hcall2
 go_wp2_with (refine wpList_load_row rfl 35 _ rfl w.heap.size rfl 35 RN (0, 0) _ hN_w8 Tryz.underlying35 rfl hszN ?_)
 refine hcall.mono ?_
 rintro e w9 ⟨rfl, hq⟩
 obtain ⟨hb, hrC, hrD, hnC, hnD⟩ := HF.out
 have hN_w9 := hN_w8.below hq hN_w8.lt
 have hb' := hb.trans (hq.mono hb.size)
 have hcall2 := HKK.out.2.2.2.1 w9 hb'
 have HF2 := Lib.hid (And.intro hb' (And.intro (hrC.below hq hrC.lt) (And.intro (hrD.below hq hrD.lt) (And.intro (sl_upA (hnC.below hq (Nat.le_refl _)) hq.size) (sl_upA (hnD.below hq (Nat.le_refl _)) hq.size)))))
 clear HF hcall hb hrC hrD hnC hnD hb' hN_w8 hq
 have HF := HF2
 clear HF2
 have hcall := hcall2
 clear hcall2
 go_wp2_with (refine wpList_load_row rfl 35 _ rfl w.heap.size rfl 35 RN (0, 0) _ hN_w9 Tryz.underlying35 rfl hszN ?_)
 refine hcall.mono ?_
 rintro e wA ⟨rfl, hq⟩
 obtain ⟨hb, hrC, hrD, hnC, hnD⟩ := HF.out
 have hN_wA := hN_w9.below hq hN_w9.lt
 have hb' := hb.trans (hq.mono hb.size)
 have hcall2 := HKK.out.2.2.2.2.1 wA hb'
 have HF2 := Lib.hid (And.intro hb' (And.intro (hrC.below hq hrC.lt) (And.intro (hrD.below hq hrD.lt) (And.intro (sl_upA (hnC.below hq (Nat.le_refl _)) hq.size) (sl_upA (hnD.below hq (Nat.le_refl _)) hq.size)))))
 clear HF hcall hb hrC hrD hnC hnD hb' hN_w9 hq
 have HF := HF2
 clear HF2
 have hcall := hcall2
 clear hcall2
 go_wp2_with (refine wpList_load_row rfl 35 _ rfl w.heap.size rfl 35 RN (0, 0) _ hN_wA Tryz.underlying35 rfl hszN ?_)
 refine hcall.mono ?_
 rintro e wB ⟨rfl, hq⟩
 obtain ⟨hb, hrC, hrD, hnC, hnD⟩ := HF.out
 have hN_wB := hN_wA.below hq hN_wA.lt
 have hb' := hb.trans (hq.mono hb.size)
 have HF2 := Lib.hid (And.intro hb' (And.intro (hrC.below hq hrC.lt) (And.intro (hrD.below hq hrD.lt) (And.intro (sl_upA (hnC.below hq (Nat.le_refl _)) hq.size) (sl_upA (hnD.below hq (Nat.le_refl _)) hq.size)))))
 clear HF hcall hb hrC hrD hnC hnD hb' hN_wA hq
 have HF := HF2
 clear HF2
 go_wp2_with fail
 obtain ⟨hb, hrC, hrD, hnC, hnD⟩ := HF.out
 have hGc : RowIs wB.drew w.heap.size 35 RN ∧ RowIs wB.drew CX 28 RC ∧ RowIs wB.drew DX 28 RD := ⟨hN_wB.drew, hrC.drew, hrD.drew⟩
 have hbc : Below w.heap.size w wB.drew := Below.drew hb
 have hnc : NodeAt wB.drew.heap.size wB.drew (.agg RC) gN ∧ NodeAt wB.drew.heap.size wB.drew (.agg RD) gN := ⟨hnC.below (Below.drew (Below.refl _ _)) (Nat.le_refl _), hnD.below (Below.drew (Below.refl _ _)) (Nat.le_refl _)⟩
 clear hb hrC hrD hnC hnD HF hN_wB
 refine wp_region_held_drew (S := fun w' => RowIs w' w.heap.size 35 RN ∧ RowIs w' CX 28 RC ∧ RowIs w' DX 28 RD) (by kernel_rfl) hGc (fun hHeld => ?_)
 generalize wB.drew = wv2 at *
 refine step_N (i := 0) #[true, false, false, false, false, false, false, false, false, false, false, false, false, false, false, false, false, false, false, false, false, false, false, false, false, false, false, false, false, false, false, false, false, false, false, false, false, false, false] rfl (by kernel_rfl) (by kernel_rfl) (fun K hK => ?_)
 rw [if_pos (by rfl)]
 go_simp
 refine (hlives_calls _).mono ?_
 rintro e wc ⟨rfl, hq⟩
 have hG2 : RowIs wc w.heap.size 35 RN ∧ RowIs wc CX 28 RC ∧ RowIs wc DX 28 RD := ⟨hGc.1.below hq hGc.1.lt, hGc.2.1.below hq hGc.2.1.lt, hGc.2.2.below hq hGc.2.2.lt⟩
 have hn2 : NodeAt wc.heap.size wc (.agg RC) gN ∧ NodeAt wc.heap.size wc (.agg RD) gN := ⟨sl_upA (hnc.1.below hq (Nat.le_refl _)) hq.size, sl_upA (hnc.2.below hq (Nat.le_refl _)) hq.size⟩
 replace hbc := hbc.trans (hq.mono hbc.size)
 clear hGc hnc hq
 have hGc := hG2
 have hnc := hn2
 clear hG2 hn2
 refine hK.out _ _ hGc ?_
 clear hK K
 refine take_N (i := 1) (v := ?_) (some 52) #[true, true, false, false, false, false, false, false, false, false, false, false, false, false, false, false, false, false, false, false, false, false, false, false, false, false, false, false, false, false, false, false, false, false, false, false, false, false, false] rfl rfl (by kernel_rfl) (by kernel_rfl) (by kernel_rfl) (by kernel_rfl) (fun _ _ _ h => h) hGc (Or.inl ⟨by rfl, ?_⟩) ?_
 rotate_left
 ·intro w_ hSw_; go_simp; try with_reducible rfl
 try simp only [Act.put, List.setIfInBounds_toArray, List.set_cons_zero, List.set_cons_succ]
 refine take_N (i := 2) (v := .agg RC) (some 53) #[true, true, true, false, false, false, false, false, false, false, false, false, false, false, false, false, false, false, false, false, false, false, false, false, false, false, false, false, false, false, false, false, false, false, false, false, false, false, false] rfl rfl (by kernel_rfl) (by kernel_rfl) (by kernel_rfl) (by kernel_rfl) (fun _ _ _ h => h) hGc (Or.inl ⟨by rfl, ?_⟩) ?_
 ·intro w_ hSw_; exact exec_load_row 28 _ (by rfl) CX (by rfl) 28 RC (0, 0) _ hSw_.2.1 Tryz.underlying28 (by rfl) hszC
 try simp only [Act.put, List.setIfInBounds_toArray, List.set_cons_zero, List.set_cons_succ]
 refine take_N (i := 3) (v := .agg RD) (some 54) #[true, true, true, true, false, false, false, false, false, false, false, false, false, false, false, false, false, false, false, false, false, false, false, false, false, false, false, false, false, false, false, false, false, false, false, false, false, false, false] rfl rfl (by kernel_rfl) (by kernel_rfl) (by kernel_rfl) (by kernel_rfl) (fun _ _ _ h => h) hGc (Or.inl ⟨by rfl, ?_⟩) ?_
 ·intro w_ hSw_; exact exec_load_row 28 _ (by rfl) DX (by rfl) 28 RD (0, 0) _ hSw_.2.2 Tryz.underlying28 (by rfl) hszD
 try simp only [Act.put, List.setIfInBounds_toArray, List.set_cons_zero, List.set_cons_succ]
 refine step_N (i := 4) #[true, true, true, true, true, false, false, false, false, false, false, false, false, false, false, false, false, false, false, false, false, false, false, false, false, false, false, false, false, false, false, false, false, false, false, false, false, false, false] rfl (by kernel_rfl) (by kernel_rfl) (fun K hK => ?_)
 rw [if_pos (by rfl)]
 go_simp
 refine (HKB.out gN _ _ _ hnc.1 hnc.2).mono ?_
 rintro e wd ⟨rfl, hq⟩
 have hG2 : RowIs wd w.heap.size 35 RN ∧ RowIs wd CX 28 RC ∧ RowIs wd DX 28 RD := ⟨hGc.1.below hq hGc.1.lt, hGc.2.1.below hq hGc.2.1.lt, hGc.2.2.below hq hGc.2.2.lt⟩
 have hn2 : NodeAt wd.heap.size wd (.agg RC) gN ∧ NodeAt wd.heap.size wd (.agg RD) gN := ⟨sl_upA (hnc.1.below hq (Nat.le_refl _)) hq.size, sl_upA (hnc.2.below hq (Nat.le_refl _)) hq.size⟩
 replace hbc := hbc.trans (hq.mono hbc.size)
 clear hGc hnc hq
 have hGc := hG2
 have hnc := hn2
 clear hG2 hn2
 refine hK.out _ _ hGc ?_
 clear hK K
 refine take_N (i := 5) (v := ?_) (some 56) #[true, true, true, true, true, true, false, false, false, false, false, false, false, false, false, false, false, false, false, false, false, false, false, false, false, false, false, false, false, false, false, false, false, false, false, false, false, false, false] rfl rfl (by kernel_rfl) (by kernel_rfl) (by kernel_rfl) (by kernel_rfl) (fun _ _ _ h => h) hGc (Or.inl ⟨by rfl, ?_⟩) ?_
 rotate_left
 ·intro w_ hSw_; go_simp; try with_reducible rfl
 try simp only [Act.put, List.setIfInBounds_toArray, List.set_cons_zero, List.set_cons_succ]
 refine take_N (i := 6) (v := ?_) (some 57) #[true, true, true, true, true, true, true, false, false, false, false, false, false, false, false, false, false, false, false, false, false, false, false, false, false, false, false, false, false, false, false, false, false, false, false, false, false, false, false] rfl rfl (by kernel_rfl) (by kernel_rfl) (by kernel_rfl) (by kernel_rfl) (fun _ _ _ h => h) hGc (Or.inl ⟨by rfl, ?_⟩) ?_
 rotate_left
 ·intro w_ hSw_; go_simp; try with_reducible rfl
 try simp only [Act.put, List.setIfInBounds_toArray, List.set_cons_zero, List.set_cons_succ]
 refine take_N (i := 7) (v := ?_) (some 58) #[true, true, true, true, true, true, true, true, false, false, false, false, false, false, false, false, false, false, false, false, false, false, false, false, false, false, false, false, false, false, false, false, false, false, false, false, false, false, false] rfl rfl (by kernel_rfl) (by kernel_rfl) (by kernel_rfl) (by kernel_rfl) (fun _ _ _ h => h) hGc (Or.inl ⟨by rfl, ?_⟩) ?_
 rotate_left
 ·intro w_ hSw_; go_simp; try with_reducible rfl
 try simp only [Act.put, List.setIfInBounds_toArray, List.set_cons_zero, List.set_cons_succ]
 refine take_N (i := 8) (v := ?_) (some 59) #[true, true, true, true, true, true, true, true, true, false, false, false, false, false, false, false, false, false, false, false, false, false, false, false, false, false, false, false, false, false, false, false, false, false, false, false, false, false, false] rfl rfl (by kernel_rfl) (by kernel_rfl) (by kernel_rfl) (by kernel_rfl) (fun _ _ _ h => h) hGc (Or.inl ⟨by rfl, ?_⟩) ?_
 rotate_left
 ·intro w_ hSw_; go_simp; try with_reducible rfl
 try simp only [Act.put, List.setIfInBounds_toArray, List.set_cons_zero, List.set_cons_succ]
 refine take_N (i := 9) (v := ?_) (some 60) #[true, true, true, true, true, true, true, true, true, true, false, false, false, false, false, false, false, false, false, false, false, false, false, false, false, false, false, false, false, false, false, false, false, false, false, false, false, false, false] rfl rfl (by kernel_rfl) (by kernel_rfl) (by kernel_rfl) (by kernel_rfl) (fun _ _ _ h => h) hGc (Or.inl ⟨by rfl, ?_⟩) ?_
 rotate_left
 ·intro w_ hSw_; go_simp; try with_reducible rfl
 try simp only [Act.put, List.setIfInBounds_toArray, List.set_cons_zero, List.set_cons_succ]
 refine take_N (i := 10) (v := ?_) (some 61) #[true, true, true, true, true, true, true, true, true, true, true, false, false, false, false, false, false, false, false, false, false, false, false, false, false, false, false, false, false, false, false, false, false, false, false, false, false, false, false] rfl rfl (by kernel_rfl) (by kernel_rfl) (by kernel_rfl) (by kernel_rfl) (fun _ _ _ h => h) hGc (Or.inl ⟨by rfl, ?_⟩) ?_
 rotate_left
 ·intro w_ hSw_; go_simp; try with_reducible rfl
 try simp only [Act.put, List.setIfInBounds_toArray, List.set_cons_zero, List.set_cons_succ]
 refine take_N (i := 11) (v := ?_) (some 62) #[true, true, true, true, true, true, true, true, true, true, true, true, false, false, false, false, false, false, false, false, false, false, false, false, false, false, false, false, false, false, false, false, false, false, false, false, false, false, false] rfl rfl (by kernel_rfl) (by kernel_rfl) (by kernel_rfl) (by kernel_rfl) (fun _ _ _ h => h) hGc (Or.inl ⟨by rfl, ?_⟩) ?_
 rotate_left
 ·intro w_ hSw_; go_simp; try with_reducible rfl
 try simp only [Act.put, List.setIfInBounds_toArray, List.set_cons_zero, List.set_cons_succ]
 refine take_N (i := 12) (v := ?_) (some 63) #[true, true, true, true, true, true, true, true, true, true, true, true, true, false, false, false, false, false, false, false, false, false, false, false, false, false, false, false, false, false, false, false, false, false, false, false, false, false, false] rfl rfl (by kernel_rfl) (by kernel_rfl) (by kernel_rfl) (by kernel_rfl) (fun _ _ _ h => h) hGc (Or.inl ⟨by rfl, ?_⟩) ?_
 rotate_left
 ·intro w_ hSw_; go_simp; try with_reducible rfl
 try simp only [Act.put, List.setIfInBounds_toArray, List.set_cons_zero, List.set_cons_succ]
 refine take_N (i := 13) (v := ?_) (some 64) #[true, true, true, true, true, true, true, true, true, true, true, true, true, true, false, false, false, false, false, false, false, false, false, false, false, false, false, false, false, false, false, false, false, false, false, false, false, false, false] rfl rfl (by kernel_rfl) (by kernel_rfl) (by kernel_rfl) (by kernel_rfl) (fun _ _ _ h => h) hGc (Or.inl ⟨by rfl, ?_⟩) ?_
 rotate_left
 ·intro w_ hSw_; go_simp; try with_reducible rfl
 try simp only [Act.put, List.setIfInBounds_toArray, List.set_cons_zero, List.set_cons_succ]
 refine take_N (i := 14) (v := ?_) (some 65) #[true, true, true, true, true, true, true, true, true, true, true, true, true, true, true, false, false, false, false, false, false, false, false, false, false, false, false, false, false, false, false, false, false, false, false, false, false, false, false] rfl rfl (by kernel_rfl) (by kernel_rfl) (by kernel_rfl) (by kernel_rfl) (fun _ _ _ h => h) hGc (Or.inl ⟨by rfl, ?_⟩) ?_
 rotate_left
 ·intro w_ hSw_; go_simp; try with_reducible rfl
 try simp only [Act.put, List.setIfInBounds_toArray, List.set_cons_zero, List.set_cons_succ]
 refine take_N (i := 15) (v := ?_) (some 66) #[true, true, true, true, true, true, true, true, true, true, true, true, true, true, true, true, false, false, false, false, false, false, false, false, false, false, false, false, false, false, false, false, false, false, false, false, false, false, false] rfl rfl (by kernel_rfl) (by kernel_rfl) (by kernel_rfl) (by kernel_rfl) (fun _ _ _ h => h) hGc (Or.inl ⟨by rfl, ?_⟩) ?_
 rotate_left
 ·intro w_ hSw_; go_simp; try with_reducible rfl
 try simp only [Act.put, List.setIfInBounds_toArray, List.set_cons_zero, List.set_cons_succ]
 refine take_N (i := 16) (v := ?_) (some 67) #[true, true, true, true, true, true, true, true, true, true, true, true, true, true, true, true, true, false, false, false, false, false, false, false, false, false, false, false, false, false, false, false, false, false, false, false, false, false, false] rfl rfl (by kernel_rfl) (by kernel_rfl) (by kernel_rfl) (by kernel_rfl) (fun _ _ _ h => h) hGc (Or.inl ⟨by rfl, ?_⟩) ?_
 rotate_left
 ·intro w_ hSw_; go_simp; try with_reducible rfl
 try simp only [Act.put, List.setIfInBounds_toArray, List.set_cons_zero, List.set_cons_succ]
 refine take_N (i := 17) (v := ?_) (some 68) #[true, true, true, true, true, true, true, true, true, true, true, true, true, true, true, true, true, true, false, false, false, false, false, false, false, false, false, false, false, false, false, false, false, false, false, false, false, false, false] rfl rfl (by kernel_rfl) (by kernel_rfl) (by kernel_rfl) (by kernel_rfl) (fun _ _ _ h => h) hGc (Or.inl ⟨by rfl, ?_⟩) ?_
 rotate_left
 ·intro w_ hSw_; go_simp; try with_reducible rfl
 try simp only [Act.put, List.setIfInBounds_toArray, List.set_cons_zero, List.set_cons_succ]
 refine take_N (i := 18) (v := ?_) (some 69) #[true, true, true, true, true, true, true, true, true, true, true, true, true, true, true, true, true, true, true, false, false, false, false, false, false, false, false, false, false, false, false, false, false, false, false, false, false, false, false] rfl rfl (by kernel_rfl) (by kernel_rfl) (by kernel_rfl) (by kernel_rfl) (fun _ _ _ h => h) hGc (Or.inl ⟨by rfl, ?_⟩) ?_
 rotate_left
 ·intro w_ hSw_; go_simp; try with_reducible rfl
 try simp only [Act.put, List.setIfInBounds_toArray, List.set_cons_zero, List.set_cons_succ]
 refine take_N (i := 19) (v := ?_) (some 70) #[true, true, true, true, true, true, true, true, true, true, true, true, true, true, true, true, true, true, true, true, false, false, false, false, false, false, false, false, false, false, false, false, false, false, false, false, false, false, false] rfl rfl (by kernel_rfl) (by kernel_rfl) (by kernel_rfl) (by kernel_rfl) (fun _ _ _ h => h) hGc (Or.inl ⟨by rfl, ?_⟩) ?_
 rotate_left
 ·intro w_ hSw_; go_simp; try with_reducible rfl
 try simp only [Act.put, List.setIfInBounds_toArray, List.set_cons_zero, List.set_cons_succ]
 refine take_N (i := 20) (v := ?_) (some 71) #[true, true, true, true, true, true, true, true, true, true, true, true, true, true, true, true, true, true, true, true, true, false, false, false, false, false, false, false, false, false, false, false, false, false, false, false, false, false, false] rfl rfl (by kernel_rfl) (by kernel_rfl) (by kernel_rfl) (by kernel_rfl) (fun _ _ _ h => h) hGc (Or.inl ⟨by rfl, ?_⟩) ?_
 rotate_left
 ·intro w_ hSw_; go_simp; try with_reducible rfl
 try simp only [Act.put, List.setIfInBounds_toArray, List.set_cons_zero, List.set_cons_succ]
 refine take_N (i := 21) (v := ?_) (some 72) #[true, true, true, true, true, true, true, true, true, true, true, true, true, true, true, true, true, true, true, true, true, true, false, false, false, false, false, false, false, false, false, false, false, false, false, false, false, false, false] rfl rfl (by kernel_rfl) (by kernel_rfl) (by kernel_rfl) (by kernel_rfl) (fun _ _ _ h => h) hGc (Or.inl ⟨by rfl, ?_⟩) ?_
 rotate_left
 ·intro w_ hSw_; go_simp; try with_reducible rfl
 try simp only [Act.put, List.setIfInBounds_toArray, List.set_cons_zero, List.set_cons_succ]
 refine take_N (i := 22) (v := ?_) (some 73) #[true, true, true, true, true, true, true, true, true, true, true, true, true, true, true, true, true, true, true, true, true, true, true, false, false, false, false, false, false, false, false, false, false, false, false, false, false, false, false] rfl rfl (by kernel_rfl) (by kernel_rfl) (by kernel_rfl) (by kernel_rfl) (fun _ _ _ h => h) hGc (Or.inl ⟨by rfl, ?_⟩) ?_
 rotate_left
 ·intro w_ hSw_; go_simp; try with_reducible rfl
 try simp only [Act.put, List.setIfInBounds_toArray, List.set_cons_zero, List.set_cons_succ]
 refine take_N (i := 23) (v := ?_) (some 74) #[true, true, true, true, true, true, true, true, true, true, true, true, true, true, true, true, true, true, true, true, true, true, true, true, false, false, false, false, false, false, false, false, false, false, false, false, false, false, false] rfl rfl (by kernel_rfl) (by kernel_rfl) (by kernel_rfl) (by kernel_rfl) (fun _ _ _ h => h) hGc (Or.inl ⟨by rfl, ?_⟩) ?_
 rotate_left
 ·intro w_ hSw_; go_simp; try with_reducible rfl
 try simp only [Act.put, List.setIfInBounds_toArray, List.set_cons_zero, List.set_cons_succ]
 refine take_N (i := 24) (v := ?_) (some 75) #[true, true, true, true, true, true, true, true, true, true, true, true, true, true, true, true, true, true, true, true, true, true, true, true, true, false, false, false, false, false, false, false, false, false, false, false, false, false, false] rfl rfl (by kernel_rfl) (by kernel_rfl) (by kernel_rfl) (by kernel_rfl) (fun _ _ _ h => h) hGc (Or.inl ⟨by rfl, ?_⟩) ?_
 rotate_left
 ·intro w_ hSw_; go_simp; try with_reducible rfl
 try simp only [Act.put, List.setIfInBounds_toArray, List.set_cons_zero, List.set_cons_succ]
 refine take_N (i := 25) (v := ?_) (some 76) #[true, true, true, true, true, true, true, true, true, true, true, true, true, true, true, true, true, true, true, true, true, true, true, true, true, true, false, false, false, false, false, false, false, false, false, false, false, false, false] rfl rfl (by kernel_rfl) (by kernel_rfl) (by kernel_rfl) (by kernel_rfl) (fun _ _ _ h => h) hGc (Or.inl ⟨by rfl, ?_⟩) ?_
 rotate_left
 ·intro w_ hSw_; go_simp; try with_reducible rfl
 try simp only [Act.put, List.setIfInBounds_toArray, List.set_cons_zero, List.set_cons_succ]
 refine take_N (i := 26) (v := ?_) (some 77) #[true, true, true, true, true, true, true, true, true, true, true, true, true, true, true, true, true, true, true, true, true, true, true, true, true, true, true, false, false, false, false, false, false, false, false, false, false, false, false] rfl rfl (by kernel_rfl) (by kernel_rfl) (by kernel_rfl) (by kernel_rfl) (fun _ _ _ h => h) hGc (Or.inl ⟨by rfl, ?_⟩) ?_
 rotate_left
 ·intro w_ hSw_; go_simp; try with_reducible rfl
 try simp only [Act.put, List.setIfInBounds_toArray, List.set_cons_zero, List.set_cons_succ]
 refine take_N (i := 27) (v := ?_) (some 78) #[true, true, true, true, true, true, true, true, true, true, true, true, true, true, true, true, true, true, true, true, true, true, true, true, true, true, true, true, false, false, false, false, false, false, false, false, false, false, false] rfl rfl (by kernel_rfl) (by kernel_rfl) (by kernel_rfl) (by kernel_rfl) (fun _ _ _ h => h) hGc (Or.inl ⟨by rfl, ?_⟩) ?_
 rotate_left
 ·intro w_ hSw_; go_simp; try with_reducible rfl
 try simp only [Act.put, List.setIfInBounds_toArray, List.set_cons_zero, List.set_cons_succ]
 refine take_N (i := 28) (v := ?_) (some 79) #[true, true, true, true, true, true, true, true, true, true, true, true, true, true, true, true, true, true, true, true, true, true, true, true, true, true, true, true, true, false, false, false, false, false, false, false, false, false, false] rfl rfl (by kernel_rfl) (by kernel_rfl) (by kernel_rfl) (by kernel_rfl) (fun _ _ _ h => h) hGc (Or.inl ⟨by rfl, ?_⟩) ?_
 rotate_left
 ·intro w_ hSw_; go_simp; try with_reducible rfl
 try simp only [Act.put, List.setIfInBounds_toArray, List.set_cons_zero, List.set_cons_succ]
 refine take_N (i := 29) (v := ?_) (some 80) #[true, true, true, true, true, true, true, true, true, true, true, true, true, true, true, true, true, true, true, true, true, true, true, true, true, true, true, true, true, true, false, false, false, false, false, false, false, false, false] rfl rfl (by kernel_rfl) (by kernel_rfl) (by kernel_rfl) (by kernel_rfl) (fun _ _ _ h => h) hGc (Or.inl ⟨by rfl, ?_⟩) ?_
 rotate_left
 ·intro w_ hSw_; go_simp; try with_reducible rfl
 try simp only [Act.put, List.setIfInBounds_toArray, List.set_cons_zero, List.set_cons_succ]
 refine take_N (i := 30) (v := ?_) (some 81) #[true, true, true, true, true, true, true, true, true, true, true, true, true, true, true, true, true, true, true, true, true, true, true, true, true, true, true, true, true, true, true, false, false, false, false, false, false, false, false] rfl rfl (by kernel_rfl) (by kernel_rfl) (by kernel_rfl) (by kernel_rfl) (fun _ _ _ h => h) hGc (Or.inl ⟨by rfl, ?_⟩) ?_
 rotate_left
 ·intro w_ hSw_; go_simp; try with_reducible rfl
 try simp only [Act.put, List.setIfInBounds_toArray, List.set_cons_zero, List.set_cons_succ]
 refine take_N (i := 31) (v := ?_) (some 82) #[true, true, true, true, true, true, true, true, true, true, true, true, true, true, true, true, true, true, true, true, true, true, true, true, true, true, true, true, true, true, true, true, false, false, false, false, false, false, false] rfl rfl (by kernel_rfl) (by kernel_rfl) (by kernel_rfl) (by kernel_rfl) (fun _ _ _ h => h) hGc (Or.inl ⟨by rfl, ?_⟩) ?_
 rotate_left
 ·intro w_ hSw_; go_simp; try with_reducible rfl
 try simp only [Act.put, List.setIfInBounds_toArray, List.set_cons_zero, List.set_cons_succ]
 refine take_N (i := 32) (v := .agg RN) (some 83) #[true, true, true, true, true, true, true, true, true, true, true, true, true, true, true, true, true, true, true, true, true, true, true, true, true, true, true, true, true, true, true, true, true, false, false, false, false, false, false] rfl rfl (by kernel_rfl) (by kernel_rfl) (by kernel_rfl) (by kernel_rfl) (fun _ _ _ h => h) hGc (Or.inl ⟨by rfl, ?_⟩) ?_
 ·intro w_ hSw_; exact exec_load_row 35 _ (by rfl) w.heap.size (by rfl) 35 RN (0, 0) _ hSw_.1 Tryz.underlying35 (by rfl) hszN
 try simp only [Act.put, List.setIfInBounds_toArray, List.set_cons_zero, List.set_cons_succ]
 refine take_N (i := 34) (v := .agg RN) (some 85) #[true, true, true, true, true, true, true, true, true, true, true, true, true, true, true, true, true, true, true, true, true, true, true, true, true, true, true, true, true, true, true, true, true, false, true, false, false, false, false] rfl rfl (by kernel_rfl) (by kernel_rfl) (by kernel_rfl) (by kernel_rfl) (fun _ _ _ h => h) hGc (Or.inl ⟨by rfl, ?_⟩) ?_
 ·intro w_ hSw_; exact exec_load_row 35 _ (by rfl) w.heap.size (by rfl) 35 RN (0, 0) _ hSw_.1 Tryz.underlying35 (by rfl) hszN
 try simp only [Act.put, List.setIfInBounds_toArray, List.set_cons_zero, List.set_cons_succ]
 refine step_N (i := 33) #[true, true, true, true, true, true, true, true, true, true, true, true, true, true, true, true, true, true, true, true, true, true, true, true, true, true, true, true, true, true, true, true, true, true, true, false, false, false, false] rfl (by kernel_rfl) (by kernel_rfl) (fun K hK => ?_)
 rw [if_pos (by rfl)]
 go_simp
 refine (HKK.out.2.2.2.2.2.1 _ hbc).mono ?_
 rintro e we ⟨rfl, hq⟩
 have hG2 : RowIs we w.heap.size 35 RN ∧ RowIs we CX 28 RC ∧ RowIs we DX 28 RD := ⟨hGc.1.below hq hGc.1.lt, hGc.2.1.below hq hGc.2.1.lt, hGc.2.2.below hq hGc.2.2.lt⟩
 have hn2 : NodeAt we.heap.size we (.agg RC) gN ∧ NodeAt we.heap.size we (.agg RD) gN := ⟨sl_upA (hnc.1.below hq (Nat.le_refl _)) hq.size, sl_upA (hnc.2.below hq (Nat.le_refl _)) hq.size⟩
 replace hbc := hbc.trans (hq.mono hbc.size)
 clear hGc hnc hq
 have hGc := hG2
 have hnc := hn2
 clear hG2 hn2
 refine hK.out _ _ hGc ?_
 clear hK K
 refine step_N (i := 35) #[true, true, true, true, true, true, true, true, true, true, true, true, true, true, true, true, true, true, true, true, true, true, true, true, true, true, true, true, true, true, true, true, true, true, true, true, false, false, false] rfl (by kernel_rfl) (by kernel_rfl) (fun K hK => ?_)
 rw [if_pos (by rfl)]
 go_simp
 refine (HKK.out.2.2.2.2.2.2 _ hbc).mono ?_
 rintro e wf ⟨rfl, hq⟩
 have hG2 : RowIs wf w.heap.size 35 RN ∧ RowIs wf CX 28 RC ∧ RowIs wf DX 28 RD := ⟨hGc.1.below hq hGc.1.lt, hGc.2.1.below hq hGc.2.1.lt, hGc.2.2.below hq hGc.2.2.lt⟩
 have hn2 : NodeAt wf.heap.size wf (.agg RC) gN ∧ NodeAt wf.heap.size wf (.agg RD) gN := ⟨sl_upA (hnc.1.below hq (Nat.le_refl _)) hq.size, sl_upA (hnc.2.below hq (Nat.le_refl _)) hq.size⟩
 replace hbc := hbc.trans (hq.mono hbc.size)
 clear hGc hnc hq
 have hGc := hG2
 have hnc := hn2
 clear hG2 hn2
 refine hK.out _ _ hGc ?_
 clear hK K
 refine take_N (i := 36) (v := ?_) (some 87) #[true, true, true, true, true, true, true, true, true, true, true, true, true, true, true, true, true, true, true, true, true, true, true, true, true, true, true, true, true, true, true, true, true, true, true, true, true, false, false] rfl rfl (by kernel_rfl) (by kernel_rfl) (by kernel_rfl) (by kernel_rfl) (fun _ _ _ h => h) hGc (Or.inl ⟨by rfl, ?_⟩) ?_
 rotate_left
 ·intro w_ hSw_; go_simp; try with_reducible rfl
 try simp only [Act.put, List.setIfInBounds_toArray, List.set_cons_zero, List.set_cons_succ]
 refine take_N (i := 37) (v := ?_) (some 88) #[true, true, true, true, true, true, true, true, true, true, true, true, true, true, true, true, true, true, true, true, true, true, true, true, true, true, true, true, true, true, true, true, true, true, true, true, true, true, false] rfl rfl (by kernel_rfl) (by kernel_rfl) (by kernel_rfl) (by kernel_rfl) (fun _ _ _ h => h) hGc (Or.inl ⟨by rfl, ?_⟩) ?_
 rotate_left
 ·intro w_ hSw_; go_simp; try with_reducible rfl
 try simp only [Act.put, List.setIfInBounds_toArray, List.set_cons_zero, List.set_cons_succ]
 refine take_N (i := 38) (v := ?_) (some 4) #[true, true, true, true, true, true, true, true, true, true, true, true, true, true, true, true, true, true, true, true, true, true, true, true, true, true, true, true, true, true, true, true, true, true, true, true, true, true, true] rfl rfl (by kernel_rfl) (by kernel_rfl) (by kernel_rfl) (by kernel_rfl) (fun _ _ _ h => h) hGc (Or.inl ⟨by rfl, ?_⟩) ?_
 rotate_left
 ·intro w_ hSw_; go_simp; try with_reducible rfl
 try simp only [Act.put, List.setIfInBounds_toArray, List.set_cons_zero, List.set_cons_succ]
 refine wpAnyH_done (by kernel_rfl) ?_ _
 clear hHeld
 clear hGc hnc HKK HKB hszN hszC hszD
 go_wp2_with fail
 go_ret
 exact ⟨rfl, hbc⟩

end Go.Proofs.YtimkklaidodkdaaGreatDoor
