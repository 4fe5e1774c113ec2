/- NodeBack: walked. -/
import Derived.Test.YtgjaoofgmdijdaaDoorNodeSizes
namespace Go.Proofs.YtgjaoofgmdijdaaDoor
open Go.RowKit

set_option maxRecDepth 20000 in
set_option maxHeartbeats 6400000 in
theorem back_calls (va : Value) (s : ByteArray) (a : NodeD) (w : World) (ha : NodeAt w.heap.size w va a) (fa : fitN a) (hs : s.size ≤ 140737488351232) :
    Calls Tryd.prog 4 #[va, .string s] w fun e w' => e = .returned (.bool true) ∧ Below w.heap.size w w' := by
  have hea := fun w' (h : Below w.heap.size w w') => encode_calls _ va a w' (ha.below h (Nat.le_refl _)) h.size fa
  have hdn : checkN a = 0 → ∀ w', Calls Tryd.prog 11 #[.string (strOf (encN a))] w' fun e w'' => ∃ v, e = .returned (.tuple #[v, .int .i64 0]) ∧ OwnAt w'.heap.size w'' v a ∧ Below w'.heap.size w' w'' := fun h w' => by
    have hd := dec_enc a ha.wf h
    exact live_dec (encN a) a hd.1 (by rw [nodeL, if_pos hd.1, hd.2]) (Nat.le_trans (enc_length a ha.wf) (by decide)) w'
  have hlen := enc_length a ha.wf
  have hss := strOf_size (encN a)
  have hsm := fun w' vb (h : Below w.heap.size w w') (hb : NodeAt w'.heap.size w' vb a) => same_calls w'.heap.size va vb a a w' ((ha.below h (Nat.le_refl _)).mono h.size) hb (Nat.le_refl _)
  rw [(sameN_iff a a).2 rfl] at hsm
  have hwfa := ha.wf
  obtain ⟨p1, c1, p2, c2, p3, c3, rfl⟩ := boxed ha
  have i1 : ((strOf (encN a)).size : Int) ≤ 512 := by rw [hss]; omega
  generalize strOf (encN a) = S at *
  generalize checkN a = C1 at *
  clear ha fa hlen hss
  have Hdn := Lib.hid hdn
  clear hdn
  have hka : ((a.kind : Int)) = ((a.kind : Int)) := rfl
  obtain ⟨W1, hW1⟩ : ∃ W1, W1 = w.alloc (.cells #[.int .u8 (a.kind : Int), .slice p1 a.items.length c1, .slice p2 a.kids.length c2, .slice p3 a.vols.length c3] 27) := ⟨_, rfl⟩
  have hA1 : RowIs W1 w.heap.size 27 #[.int .u8 (a.kind : Int), .slice p1 a.items.length c1, .slice p2 a.kids.length c2, .slice p3 a.vols.length c3] := by rw [hW1]; exact RowIs.new w _ _
  have hb1 : Below w.heap.size w W1 := by rw [hW1]; exact (Below.refl _ _).alloc (Nat.le_refl _) _
  have HW1 := Lib.hid hW1
  have hsA := node_size4 (.int .u8 (a.kind : Int)) (.slice p1 a.items.length c1) (.slice p2 a.kids.length c2) (.slice p3 a.vols.length c3)
  have hnot : ∀ (x : Bool) (w : World), (Op.unary .not (.bool x)).run Tryd.prog w = .ok (.bool (!x)) w := fun _ _ => rfl
  clear hW1 hka
  go_enter Tryd.func4, Tryd.ntmps4
  go_wp2_with (refine wpList_world HW1.out ?_)
  refine (lives_calls W1).mono ?_
  rintro e w3 ⟨rfl, hq⟩
  have hA3 := hA1.below hq hA1.lt
  have hb3 := hb1.trans (hq.mono hb1.size)
  clear hq hA1 hb1
  go_wp2_with (refine wpList_load_row rfl 27 _ rfl w.heap.size rfl 27 #[.int .u8 (a.kind : Int), .slice p1 a.items.length c1, .slice p2 a.kids.length c2, .slice p3 a.vols.length c3] (0, 0) _ hA3 Tryd.underlying27 rfl hsA ?_)
  refine (hea w3 hb3).mono ?_
  rintro e w4 ⟨rfl, hq⟩
  have hA4 := hA3.below hq hA3.lt
  have hb4 := hb3.trans (hq.mono hb3.size)
  clear hq hA3 hb3 hea
  by_cases h1 : C1 = 0
  · subst h1
    have hdn := Hdn.out rfl
    go_wp2_with fail
    refine (hdn w4).mono ?_
    rintro e w5 ⟨v, rfl, ho, hq⟩
    obtain ⟨q1, k1, q2, k2, q3, k3, rfl⟩ := ho.shape
    have hnd := ho.node
    have hA5 := hA4.below hq hA4.lt
    have hb5 := hb4.trans (hq.mono hb4.size)
    clear hq hA4 hb4 ho hdn
    obtain ⟨W6, hW6⟩ : ∃ W6, W6 = w5.alloc (.cells #[.int .u8 (a.kind : Int), .slice q1 a.items.length k1, .slice q2 a.kids.length k2, .slice q3 a.vols.length k3] 27) := ⟨_, rfl⟩
    have hal := (Below.refl _ w5).alloc (Nat.le_refl _) (.cells #[.int .u8 (a.kind : Int), .slice q1 a.items.length k1, .slice q2 a.kids.length k2, .slice q3 a.vols.length k3] 27)
    have hM6 := RowIs.new w5 27 #[.int .u8 (a.kind : Int), .slice q1 a.items.length k1, .slice q2 a.kids.length k2, .slice q3 a.vols.length k3]
    rw [← hW6] at hal hM6
    have hA6 := hA5.below hal hA5.lt
    have hnd6 := (hnd.below hal (Nat.le_refl _)).mono hal.size
    have hb6 := hb5.trans (hal.mono hb5.size)
    have hsm6 := hsm W6 _ hb6 hnd6
    have HW6 := Lib.hid hW6
    have hsB := node_size4 (.int .u8 (a.kind : Int)) (.slice q1 a.items.length k1) (.slice q2 a.kids.length k2) (.slice q3 a.vols.length k3)
    clear hW6 hal hA5 hb5 hsm hnd hnd6
    go_wp2_with (first | (refine wpList_world HW6.out ?_) | (refine wpList_load_rowG 27 _ rfl w.heap.size rfl (by rfl) 27 #[.int .u8 (a.kind : Int), .slice p1 a.items.length c1, .slice p2 a.kids.length c2, .slice p3 a.vols.length c3] (0, 0) _ hA6 Tryd.underlying27 rfl hsA ?_) | (refine wpList_load_rowG 27 _ rfl w5.heap.size rfl (by rfl) 27 #[.int .u8 (a.kind : Int), .slice q1 a.items.length k1, .slice q2 a.kids.length k2, .slice q3 a.vols.length k3] (0, 0) _ hM6 Tryd.underlying27 rfl hsB ?_))
    refine hsm6.mono ?_
    rintro e w7 ⟨rfl, hq⟩
    have hb7 := hb6.trans (hq.mono hb6.size)
    clear hq hA6 hM6 hb6
    go_wp2_with fail
    refine (decode_calls s w7 hs).mono ?_
    rintro e y1 ⟨u, rfl, ho, hq⟩
    have hu := nodeL_fit s.data.toList
    obtain ⟨r1, k1, r2, k2, r3, k3, rfl⟩ := ho.shape
    have hnd := ho.node
    have hwf := ho.wf
    have hby1 := hb7.trans (hq.mono hb7.size)
    clear hq
    obtain ⟨Y2, hY2⟩ : ∃ Y2, Y2 = y1.alloc (.cells #[.int .u8 ((nodeL s.data.toList).kind : Int), .slice r1 (nodeL s.data.toList).items.length k1, .slice r2 (nodeL s.data.toList).kids.length k2, .slice r3 (nodeL s.data.toList).vols.length k3] 27) := ⟨_, rfl⟩
    have hal := (Below.refl _ y1).alloc (Nat.le_refl _) (.cells #[.int .u8 ((nodeL s.data.toList).kind : Int), .slice r1 (nodeL s.data.toList).items.length k1, .slice r2 (nodeL s.data.toList).kids.length k2, .slice r3 (nodeL s.data.toList).vols.length k3] 27)
    have hM := RowIs.new y1 27 #[.int .u8 ((nodeL s.data.toList).kind : Int), .slice r1 (nodeL s.data.toList).items.length k1, .slice r2 (nodeL s.data.toList).kids.length k2, .slice r3 (nodeL s.data.toList).vols.length k3]
    rw [← hY2] at hal hM
    have hnd2 := hnd.below hal (Nat.le_refl _)
    have hby2 := hby1.trans (hal.mono hby1.size)
    have hley := hal.size
    have hcz : ¬ decOk s.data.toList → nodeL s.data.toList = ⟨0, [], [], []⟩ := fun h => by rw [nodeL, if_neg h]
    have hco : decOk s.data.toList → checkN (nodeL s.data.toList) = 0 ∧ strOf (encN (nodeL s.data.toList)) = s := fun h => by
      rw [nodeL, if_pos h]
      exact ⟨h.2.2.1, by rw [decN, h.2.2.2, strOf_data]⟩
    have hde1 : decOk s.data.toList → decE s.data.toList = 0 := fun h => by rw [decE, if_pos h]
    have hde2 : ¬ decOk s.data.toList → decE s.data.toList = 9 := fun h => by rw [decE, if_neg h]
    have hsM := node_size4 (.int .u8 ((nodeL s.data.toList).kind : Int)) (.slice r1 (nodeL s.data.toList).items.length k1) (.slice r2 (nodeL s.data.toList).kids.length k2) (.slice r3 (nodeL s.data.toList).vols.length k3)
    have hen := encode_calls _ _ _ Y2 hnd2 hley hu
    have hch := fun w' (h : Below Y2.heap.size Y2 w') => check_calls _ _ _ w' (hnd2.below h hley) (Nat.le_trans hley h.size) hu
    have hsame := same_calls _ _ _ _ _ Y2 hnd2 ((zero_node Y2).mono (Nat.zero_le _)) hley
    by_cases hd : decOk s.data.toList
    · obtain ⟨hc0, hes⟩ := hco hd
      rw [hde1 hd]
      rw [hc0, hes] at hen
      rw [hc0] at hch
      have hself : (s.toList == s.toList) = true := by simp
      clear hco hcz hde1 hde2 hd hsame hc0 hes hnd hnd2 ho hwf hu hal
      generalize ((nodeL s.data.toList).kind : Int) = kb at *
      generalize (nodeL s.data.toList).items.length = b1 at *
      generalize (nodeL s.data.toList).kids.length = b2 at *
      generalize (nodeL s.data.toList).vols.length = b3 at *
      have HY2 := Lib.hid hY2
      clear hY2
      go_wp2_with (first | (refine wpList_world HY2.out ?_) | (refine wpList_load_rowG 27 _ rfl y1.heap.size rfl (by rfl) 27 #[.int .u8 kb, .slice r1 b1 k1, .slice r2 b2 k2, .slice r3 b3 k3] (0, 0) _ hM Tryd.underlying27 rfl hsM ?_))
      refine hen.mono ?_
      rintro e y3 ⟨rfl, hq⟩
      have hM3 := hM.below hq hM.lt
      have hby3 := hby2.trans (hq.mono hby2.size)
      have hch3 := hch y3 hq
      clear hq hch hM
      go_wp2_with (refine wpList_load_rowG 27 _ rfl y1.heap.size rfl (by rfl) 27 #[.int .u8 kb, .slice r1 b1 k1, .slice r2 b2 k2, .slice r3 b3 k3] (0, 0) _ hM3 Tryd.underlying27 rfl hsM ?_)
      refine hch3.mono ?_
      rintro e y4 ⟨rfl, hq⟩
      have hby4 := hby3.trans (hq.mono hby3.size)
      clear hq
      go_wp2_with fail
      go_ret
      exact ⟨rfl, hby4⟩
    · rw [hde2 hd]
      rw [(sameN_iff _ _).2 (hcz hd)] at hsame
      clear hco hcz hde1 hde2 hd hen hch hnd hnd2 ho hwf hu hal
      generalize ((nodeL s.data.toList).kind : Int) = kb at *
      generalize (nodeL s.data.toList).items.length = b1 at *
      generalize (nodeL s.data.toList).kids.length = b2 at *
      generalize (nodeL s.data.toList).vols.length = b3 at *
      have HY2 := Lib.hid hY2
      clear hY2
      go_wp2_with (first | (refine wpList_world HY2.out ?_) | (refine wpList_load_rowG 27 _ rfl y1.heap.size rfl (by rfl) 27 #[.int .u8 kb, .slice r1 b1 k1, .slice r2 b2 k2, .slice r3 b3 k3] (0, 0) _ hM Tryd.underlying27 rfl hsM ?_))
      refine hsame.mono ?_
      rintro e y3 ⟨rfl, hq⟩
      have hby3 := hby2.trans (hq.mono hby2.size)
      clear hq
      go_wp2_with fail
      go_ret
      exact ⟨rfl, hby3⟩
  · have hC1 : (C1 == 0) = false := by simpa using h1
    have hC2 : (C1 != 0) = true := by simpa using h1
    clear hA4
    go_wp2_with fail
    clear hC1 hC2
    refine (decode_calls s w4 hs).mono ?_
    rintro e y1 ⟨u, rfl, ho, hq⟩
    have hu := nodeL_fit s.data.toList
    obtain ⟨r1, k1, r2, k2, r3, k3, rfl⟩ := ho.shape
    have hnd := ho.node
    have hwf := ho.wf
    have hby1 := hb4.trans (hq.mono hb4.size)
    clear hq
    obtain ⟨Y2, hY2⟩ : ∃ Y2, Y2 = y1.alloc (.cells #[.int .u8 ((nodeL s.data.toList).kind : Int), .slice r1 (nodeL s.data.toList).items.length k1, .slice r2 (nodeL s.data.toList).kids.length k2, .slice r3 (nodeL s.data.toList).vols.length k3] 27) := ⟨_, rfl⟩
    have hal := (Below.refl _ y1).alloc (Nat.le_refl _) (.cells #[.int .u8 ((nodeL s.data.toList).kind : Int), .slice r1 (nodeL s.data.toList).items.length k1, .slice r2 (nodeL s.data.toList).kids.length k2, .slice r3 (nodeL s.data.toList).vols.length k3] 27)
    have hM := RowIs.new y1 27 #[.int .u8 ((nodeL s.data.toList).kind : Int), .slice r1 (nodeL s.data.toList).items.length k1, .slice r2 (nodeL s.data.toList).kids.length k2, .slice r3 (nodeL s.data.toList).vols.length k3]
    rw [← hY2] at hal hM
    have hnd2 := hnd.below hal (Nat.le_refl _)
    have hby2 := hby1.trans (hal.mono hby1.size)
    have hley := hal.size
    have hcz : ¬ decOk s.data.toList → nodeL s.data.toList = ⟨0, [], [], []⟩ := fun h => by rw [nodeL, if_neg h]
    have hco : decOk s.data.toList → checkN (nodeL s.data.toList) = 0 ∧ strOf (encN (nodeL s.data.toList)) = s := fun h => by
      rw [nodeL, if_pos h]
      exact ⟨h.2.2.1, by rw [decN, h.2.2.2, strOf_data]⟩
    have hde1 : decOk s.data.toList → decE s.data.toList = 0 := fun h => by rw [decE, if_pos h]
    have hde2 : ¬ decOk s.data.toList → decE s.data.toList = 9 := fun h => by rw [decE, if_neg h]
    have hsM := node_size4 (.int .u8 ((nodeL s.data.toList).kind : Int)) (.slice r1 (nodeL s.data.toList).items.length k1) (.slice r2 (nodeL s.data.toList).kids.length k2) (.slice r3 (nodeL s.data.toList).vols.length k3)
    have hen := encode_calls _ _ _ Y2 hnd2 hley hu
    have hch := fun w' (h : Below Y2.heap.size Y2 w') => check_calls _ _ _ w' (hnd2.below h hley) (Nat.le_trans hley h.size) hu
    have hsame := same_calls _ _ _ _ _ Y2 hnd2 ((zero_node Y2).mono (Nat.zero_le _)) hley
    by_cases hd : decOk s.data.toList
    · obtain ⟨hc0, hes⟩ := hco hd
      rw [hde1 hd]
      rw [hc0, hes] at hen
      rw [hc0] at hch
      have hself : (s.toList == s.toList) = true := by simp
      clear hco hcz hde1 hde2 hd hsame hc0 hes hnd hnd2 ho hwf hu hal
      generalize ((nodeL s.data.toList).kind : Int) = kb at *
      generalize (nodeL s.data.toList).items.length = b1 at *
      generalize (nodeL s.data.toList).kids.length = b2 at *
      generalize (nodeL s.data.toList).vols.length = b3 at *
      have HY2 := Lib.hid hY2
      clear hY2
      go_wp2_with (first | (refine wpList_world HY2.out ?_) | (refine wpList_load_rowG 27 _ rfl y1.heap.size rfl (by rfl) 27 #[.int .u8 kb, .slice r1 b1 k1, .slice r2 b2 k2, .slice r3 b3 k3] (0, 0) _ hM Tryd.underlying27 rfl hsM ?_))
      refine hen.mono ?_
      rintro e y3 ⟨rfl, hq⟩
      have hM3 := hM.below hq hM.lt
      have hby3 := hby2.trans (hq.mono hby2.size)
      have hch3 := hch y3 hq
      clear hq hch hM
      go_wp2_with (refine wpList_load_rowG 27 _ rfl y1.heap.size rfl (by rfl) 27 #[.int .u8 kb, .slice r1 b1 k1, .slice r2 b2 k2, .slice r3 b3 k3] (0, 0) _ hM3 Tryd.underlying27 rfl hsM ?_)
      refine hch3.mono ?_
      rintro e y4 ⟨rfl, hq⟩
      have hby4 := hby3.trans (hq.mono hby3.size)
      clear hq
      go_wp2_with fail
      go_ret
      exact ⟨rfl, hby4⟩
    · rw [hde2 hd]
      rw [(sameN_iff _ _).2 (hcz hd)] at hsame
      clear hco hcz hde1 hde2 hd hen hch hnd hnd2 ho hwf hu hal
      generalize ((nodeL s.data.toList).kind : Int) = kb at *
      generalize (nodeL s.data.toList).items.length = b1 at *
      generalize (nodeL s.data.toList).kids.length = b2 at *
      generalize (nodeL s.data.toList).vols.length = b3 at *
      have HY2 := Lib.hid hY2
      clear hY2
      go_wp2_with (first | (refine wpList_world HY2.out ?_) | (refine wpList_load_rowG 27 _ rfl y1.heap.size rfl (by rfl) 27 #[.int .u8 kb, .slice r1 b1 k1, .slice r2 b2 k2, .slice r3 b3 k3] (0, 0) _ hM Tryd.underlying27 rfl hsM ?_))
      refine hsame.mono ?_
      rintro e y3 ⟨rfl, hq⟩
      have hby3 := hby2.trans (hq.mono hby2.size)
      clear hq
      go_wp2_with fail
      go_ret
      exact ⟨rfl, hby3⟩

end Go.Proofs.YtgjaoofgmdijdaaDoor
