/- cambiumlaw09.lives: walked. -/
import Derived.Test.YtgjaoofgmdijdaaGreatDoorSuperLives
namespace Go.Proofs.YtgjaoofgmdijdaaGreatDoor
open Go.RowKit Go.Sort

set_option maxRecDepth 100000 in
set_option maxHeartbeats 6400000 in
theorem livesS_calls (w : World) : Calls Tryz.prog 12 #[] w fun e w' => e = .returned (.bool true) ∧ Below w.heap.size w w' := by
  have hea := fun W => encodeS_calls sA sA_wf W
  have heb := fun W => encodeS_calls sB sB_wf W
  have hec := fun W => encodeS_calls sC sC_wf W
  have hE1 : (strOf (encS sA)).size ≤ 140737488351232 := by rw [sA_len]; decide
  have hE2 : (strOf (encS sB)).size ≤ 140737488351232 := by rw [strOf_size]; exact Nat.le_trans (encS_length sB sB_wf) (by decide)
  have hde := fun W => decodeS_calls (strOf (encS sA)) W hE1
  have ho1 := fun W => orderS_calls (strOf (encS sA)) (strOf (encS sB)) W hE1 hE2
  have ho2 := fun W => orderS_calls (strOf (encS sB)) (strOf (encS sA)) W hE2 hE1
  have hsl := fun W => slot_calls sA W
  rw [show (strOf (encS sA)).data.toList = encS sA from rfl, show (strOf (encS sB)).data.toList = encS sB from rfl, order_ab] at ho1
  rw [show (strOf (encS sA)).data.toList = encS sA from rfl, show (strOf (encS sB)).data.toList = encS sB from rfl, order_ba] at ho2
  rw [show (strOf (encS sA)).data.toList = encS sA from rfl, sA_dec.1, sA_dec.2] at hde
  rw [checkS, if_pos sA_ok] at hea
  rw [checkS, if_pos sB_ok] at heb
  rw [checkS, sC_no] at hec
  simp only [Bool.false_eq_true, if_false] at hec
  have hlen := sA_len
  have hmark := sA_mark
  have i6 : (6 : Int) < ((strOf (encS sA)).size : Int) := by rw [hlen]; decide
  have hcs : (supV sA).toArray.size = 35 := by rw [List.size_toArray, supV_length sA_wf.2.2.2]
  have g1 : ∀ (W : World) (b : Nat), RowIs W b 26 (supV sA).toArray → W.cell? ⟨b, 1, none⟩ = some (.int .u64 4) ∧ W.cell? ⟨b, 2, none⟩ = some (.int .u32 2) := fun _ _ h => ⟨by rw [h.cell]; rfl, by rw [h.cell]; rfl⟩
  have hsz : (Tryz.prog.info? 26).map (·.size) = some (supV sA).toArray.size := by rw [hcs]; kernel_rfl
  have hoa := supV_one sA
  have hba := built_sA
  have hbb := built_sB
  have hbc := built_sC
  have H1 := Lib.hid hba
  have H2 := Lib.hid hbb
  have H3 := Lib.hid hbc
  have HG := Lib.hid g1
  have hslot : ((sA.gen % 2 : Nat) : Int) = 0 := rfl
  rw [hslot] at hsl
  clear hba hbb hbc hE1 hE2 g1 hslot
  generalize encS sC = EC at *
  generalize (supV sC).toArray = CC at *
  generalize (supV sB).toArray = CB at *
  generalize (supV sA).toArray = CA at *
  generalize strOf EC = SC at *
  generalize strOf (encS sB) = SB at *
  generalize strOf (encS sA) = SA at *
  generalize hB : w.heap.size = B at *
  go_enter Tryz.func12, Tryz.ntmps12
  go_wp2_with (refine wpList_build_eqS rfl 26 [(0, .const (.int .u32 16)), (1, .const (.int .u64 4)), (2, .const (.int .u32 2))] rfl CA (by exact H1.out) ?_)
  refine (hea w).mono ?_
  rintro e w1 ⟨rfl, hb1⟩
  rw [hB] at hb1
  go_wp2_with (refine wpList_build_eqS rfl 26 [(0, .const (.int .u32 16)), (1, .const (.int .u64 5)), (2, .const (.int .u32 3))] rfl CB (by exact H2.out) ?_)
  refine (heb w1).mono ?_
  rintro e w2 ⟨rfl, hq⟩
  have hb2 := hb1.trans (hq.mono (by rw [← hB]; exact (hB ▸ hb1.size)))
  clear hb1 hq
  go_wp2_with fail
  refine (hde w2).mono ?_
  rintro e w3 ⟨rfl, hq⟩
  have hs2 : B ≤ w2.heap.size := by rw [← hB]; exact hb2.size
  have hb3 := hb2.trans (hq.mono hs2)
  have hs3 : B ≤ w3.heap.size := by rw [← hB]; exact hb3.size
  clear hb2 hq hs2
  obtain ⟨W3, W4, hW3, hW4, hX4, hq, hthere⟩ := alloc_fill w3 supZ CA 26 (by rw [hcs]; rfl)
  have hb4 := hb3.trans (hq.mono hs3)
  have hs4 : B ≤ W4.heap.size := by rw [← hB]; exact hb4.size
  have HW3 := Lib.hid hW3
  have HW4 := Lib.hid hW4
  clear hq hW3 hW4 hb3 hs3
  go_wp2_with (first | (refine wpList_world HW3.out ?_) | (refine wpList_store_mid rfl 26 _ _ rfl w3.heap.size 0 CA rfl rfl hthere hsz hoa ?_; refine wpList_world HW4.out ?_) | (refine wpList_build_eqS rfl 26 [(0, .const (.int .u32 16)), (1, .const (.int .u64 4)), (2, .const (.int .u32 16))] rfl CC (by exact H3.out) ?_))
  try rw [← HW4.out]
  refine (hec W4).mono ?_
  generalize w3.heap.size = X at *
  rintro e w5 ⟨rfl, hq⟩
  have hX5 := hX4.below hq hX4.lt
  have hb5 := hb4.trans (hq.mono hs4)
  have hs5 : B ≤ w5.heap.size := by rw [← hB]; exact hb5.size
  clear hq hb4 hs4 hX4
  go_wp2_with fail
  refine (ho1 w5).mono ?_
  rintro e w6 ⟨v, l, rfl, hl, ho, hq⟩
  have hX6 := hX5.below hq hX5.lt
  have hb6 := hb5.trans (hq.mono hs5)
  have hs6 : B ≤ w6.heap.size := by rw [← hB]; exact hb6.size
  have hl2 : l.length = 2 := by rw [← List.length_map, hl]; rfl
  obtain ⟨g, cap, rfl, hg, hc⟩ := own_cell (s := sB) ho (by rw [hl]; rfl) rfl
  rw [hl2]
  have hc5 : w6.cell? ⟨g, 1, none⟩ = some (.int .u64 5) := hc
  have hX6c := HG.out _ _ hX6
  have c1 := hX6c.1
  have c2 := hX6c.2
  clear hX6c hq hb5 hs5 hX5 ho hl hl2 hc
  go_wp2_with fail
  refine (ho2 w6).mono ?_
  rintro e w7 ⟨v2, l2, rfl, hl, ho, hq⟩
  have hX7 := hX6.below hq hX6.lt
  have hb7 := hb6.trans (hq.mono hs6)
  have hs7 : B ≤ w7.heap.size := by rw [← hB]; exact hb7.size
  have hl2 : l2 = [] := by cases l2 with | nil => rfl | cons _ _ => cases hl
  subst hl2
  obtain ⟨p2, cap2, rfl⟩ := own_shape ho
  clear hq hb6 hs6 hX6 ho hl c1 c2 hc5 hg
  go_wp2_with (refine wpList_load_rowG 26 _ rfl X rfl (by rfl) 26 CA (0, 0) _ hX7 Tryz.underlying26 rfl hsz ?_)
  refine (hsl w7).mono ?_
  rintro e w8 ⟨rfl, hq⟩
  have HB := Lib.hid (hb7.trans (hq.mono hs7))
  clear hq hb7 hs7 hX7
  go_wp2_with fail
  go_ret
  exact ⟨rfl, by first | exact HB.out | (rw [hB]; exact HB.out)⟩

end Go.Proofs.YtgjaoofgmdijdaaGreatDoor
