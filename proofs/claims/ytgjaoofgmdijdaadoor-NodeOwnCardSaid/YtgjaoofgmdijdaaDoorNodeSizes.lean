/- NodeSizes, NodeBack: walked. -/
import Derived.Test.YtgjaoofgmdijdaaDoorNodeApart
namespace Go.Proofs.YtgjaoofgmdijdaaDoor
open Go.RowKit

theorem checkN_three (n : NodeD) : checkN n = 0 ∨ checkN n = 2 ∨ checkN n = 4 := by
  unfold checkN
  split
  · split
    · exact .inl rfl
    · exact .inr (.inl rfl)
  · exact .inr (.inr rfl)
theorem wholeL_len (l : List UInt8) : (wholeL l).length ≤ 4 + l.length := by
  rw [wholeL, headed]
  generalize (crc (padTo 508 l)).toNat = c
  rw [padTo, ← List.append_assoc, trimR_zeros_end]
  have := trimR_length (beL c 4 ++ l)
  rw [List.length_append, beL_length] at this
  exact this
theorem sizes_ok (n : NodeD) (hw : n.wf) (h : checkN n = 0) : (encN n).length ≤ sizeN n + 4 ∧ sizeN n ≤ 508 ∧ sw (sizeN n) = (sizeN n : Int) := by
  obtain ⟨hs, hz⟩ := (check_ok n).1 h
  have hl := bytesN_length n hw hs
  have := wholeL_len (bytesN n)
  exact ⟨by rw [encN, if_pos h]; omega, hz, sw_small (by omega)⟩
theorem sizes_long (n : NodeD) (h : checkN n = 2) : encN n = [] ∧ 508 < sizeN n ∧ sizeN n ≤ 65536 ∧ sw (sizeN n) = (sizeN n : Int) := by
  have h2 : shapedN n = true ∧ ¬ sizeN n ≤ 508 := by
    unfold checkN at h
    split at h
    · split at h
      · cases h
      · rename_i a b; exact ⟨a, b⟩
    · cases h
  have hs := shaped_small n h2.1
  exact ⟨by rw [encN, if_neg (by rw [h]; decide)], by omega, hs, sw_small (by omega)⟩
theorem enc_none (n : NodeD) (h : checkN n ≠ 0) : encN n = [] := by rw [encN, if_neg h]

set_option maxRecDepth 20000 in
set_option maxHeartbeats 3200000 in
theorem sizes_calls (va : Value) (a : NodeD) (w : World) (ha : NodeAt w.heap.size w va a) (fa : fitN a) :
    Calls Tryd.prog 6 #[va] w fun e w' => e = .returned (.bool true) ∧ Below w.heap.size w w' := by
  have hea := fun w' (h : Below w.heap.size w w') => encode_calls _ va a w' (ha.below h (Nat.le_refl _)) h.size fa
  have hsz := fun w' (h : Below w.heap.size w w') => sizew_calls _ va a w' (ha.below h (Nat.le_refl _)) h.size fa
  have hch := fun w' (h : Below w.heap.size w w') => check_calls _ va a w' (ha.below h (Nat.le_refl _)) h.size fa
  have h3 := checkN_three a
  have hok := sizes_ok a ha.wf
  have hlong := sizes_long a
  have hnone := enc_none a
  have hss := strOf_size (encN a)
  obtain ⟨p1, c1, p2, c2, p3, c3, rfl⟩ := boxed ha
  generalize encN a = Ea at *
  generalize checkN a = C1 at *
  generalize sizeN a = sz at *
  generalize sw sz = sx at *
  clear ha fa
  generalize (a.kind : Int) = ka at *
  generalize a.items.length = a1 at *
  generalize a.kids.length = a2 at *
  generalize a.vols.length = a3 at *
  obtain ⟨W1, hW1⟩ : ∃ W1, W1 = w.alloc (.cells #[.int .u8 ka, .slice p1 a1 c1, .slice p2 a2 c2, .slice p3 a3 c3] 27) := ⟨_, rfl⟩
  have hA1 : RowIs W1 w.heap.size 27 #[.int .u8 ka, .slice p1 a1 c1, .slice p2 a2 c2, .slice p3 a3 c3] := by rw [hW1]; exact RowIs.new w _ _
  have hb1 : Below w.heap.size w W1 := by rw [hW1]; exact (Below.refl _ _).alloc (Nat.le_refl _) _
  have HW1 := Lib.hid hW1
  have hsA := node_size4 (.int .u8 ka) (.slice p1 a1 c1) (.slice p2 a2 c2) (.slice p3 a3 c3)
  have hnot : ∀ (x : Bool) (w : World), (Op.unary .not (.bool x)).run Tryd.prog w = .ok (.bool (!x)) w := fun _ _ => rfl
  have Hok := Lib.hid hok
  have Hlong := Lib.hid hlong
  have Hnone := Lib.hid hnone
  have Hss := Lib.hid hss
  clear hW1 hok hlong hnone hss
  go_enter Tryd.func6, Tryd.ntmps6
  go_wp2_with (refine wpList_world HW1.out ?_)
  refine (lives_calls W1).mono ?_
  rintro e w3 ⟨rfl, hq⟩
  have hA3 := hA1.below hq hA1.lt
  have hb3 := hb1.trans (hq.mono hb1.size)
  clear hq hA1 hb1
  go_wp2_with (refine wpList_load_row rfl 27 _ rfl w.heap.size rfl 27 #[.int .u8 ka, .slice p1 a1 c1, .slice p2 a2 c2, .slice p3 a3 c3] (0, 0) _ hA3 Tryd.underlying27 rfl hsA ?_)
  refine (hea w3 hb3).mono ?_
  rintro e w4 ⟨rfl, hq⟩
  have hA4 := hA3.below hq hA3.lt
  have hb4 := hb3.trans (hq.mono hb3.size)
  clear hq hA3 hb3 hea
  rcases h3 with rfl | rfl | rfl
  · obtain ⟨o1, o2, rfl⟩ := Hok.out rfl
    have i1 : (strOf Ea).size ≤ sz + 4 := by rw [Hss.out]; exact o1
    have i2 : ((strOf Ea).size : Int) ≤ (sz : Int) + 4 := by omega
    have i3 : (sz : Int) + 4 ≤ 512 := by omega
    generalize strOf Ea = S at *
    clear o1
    go_wp2_with (refine wpList_load_rowG 27 _ rfl w.heap.size rfl (by rfl) 27 #[.int .u8 ka, .slice p1 a1 c1, .slice p2 a2 c2, .slice p3 a3 c3] (0, 0) _ hA4 Tryd.underlying27 rfl hsA ?_)
    refine (hsz w4 hb4).mono ?_
    rintro e w5 ⟨rfl, hq⟩
    have hA5 := hA4.below hq hA4.lt
    have hb5 := hb4.trans (hq.mono hb4.size)
    clear hq hA4 hb4
    go_wp2_with (refine wpList_load_rowG 27 _ rfl w.heap.size rfl (by rfl) 27 #[.int .u8 ka, .slice p1 a1 c1, .slice p2 a2 c2, .slice p3 a3 c3] (0, 0) _ hA5 Tryd.underlying27 rfl hsA ?_)
    refine (hsz w5 hb5).mono ?_
    rintro e w6 ⟨rfl, hq⟩
    have hA6 := hA5.below hq hA5.lt
    have hb6 := hb5.trans (hq.mono hb5.size)
    clear hq hA5 hb5
    go_wp2_with (refine wpList_load_rowG 27 _ rfl w.heap.size rfl (by rfl) 27 #[.int .u8 ka, .slice p1 a1 c1, .slice p2 a2 c2, .slice p3 a3 c3] (0, 0) _ hA6 Tryd.underlying27 rfl hsA ?_)
    refine (hch w6 hb6).mono ?_
    rintro e w7 ⟨rfl, hq⟩
    have hb7 := hb6.trans (hq.mono hb6.size)
    clear hq
    go_wp2_with fail
    go_ret
    exact ⟨rfl, hb7⟩
  · obtain ⟨rfl, o2, o3, rfl⟩ := Hlong.out rfl
    have i3 : (512 : Int) < (sz : Int) + 4 := by omega
    rw [strOf_nil]
    go_wp2_with (refine wpList_load_rowG 27 _ rfl w.heap.size rfl (by rfl) 27 #[.int .u8 ka, .slice p1 a1 c1, .slice p2 a2 c2, .slice p3 a3 c3] (0, 0) _ hA4 Tryd.underlying27 rfl hsA ?_)
    refine (hsz w4 hb4).mono ?_
    rintro e w5 ⟨rfl, hq⟩
    have hb5 := hb4.trans (hq.mono hb4.size)
    clear hq
    go_wp2_with fail
    go_ret
    exact ⟨rfl, hb5⟩
  · obtain rfl := Hnone.out (by decide)
    rw [strOf_nil]
    go_wp2_with fail
    go_ret
    exact ⟨rfl, hb4⟩

theorem zero_node (w : World) : NodeAt 0 w (.agg #[.int .u8 0, .slice none 0 0, .slice none 0 0, .slice none 0 0]) ⟨0, [], [], []⟩ :=
  ⟨⟨by decide, by simp, by simp⟩, _, _, _, rfl, sl_nil, sl_nil, sl_nil⟩
theorem nodeL_fit (d : List UInt8) : fitN (nodeL d) := by
  unfold nodeL
  split
  · exact takeN_fit _
  · exact ⟨⟨by simp, by simp, by simp⟩, by simp, by simp, by simp⟩

end Go.Proofs.YtgjaoofgmdijdaaDoor
