/- NodeApart, NodeSizes, NodeBack: walked. -/
import Derived.Test.YtgjaoofgmdijdaaDoorNodeLives
namespace Go.Proofs.YtgjaoofgmdijdaaDoor
open Go.RowKit

/-- A node that is boxed: its cells, in a world that holds them. -/
theorem boxed {B : Nat} {w : World} {v : Value} {n : NodeD} (h : NodeAt B w v n) : ∃ p1 c1 p2 c2 p3 c3, v = .agg #[.int .u8 (n.kind : Int), .slice p1 n.items.length c1, .slice p2 n.kids.length c2, .slice p3 n.vols.length c3] := by
  obtain ⟨_, vi, vk, vv, rfl, a, b, c⟩ := h
  obtain ⟨p1, c1, rfl, _⟩ := a
  obtain ⟨p2, c2, rfl, _⟩ := b
  obtain ⟨p3, c3, rfl, _⟩ := c
  exact ⟨p1, c1, p2, c2, p3, c3, rfl⟩
theorem node_size4 (a b c d : Value) : (Tryd.prog.info? 27).map (·.size) = some (#[a, b, c, d] : Array Value).size := by kernel_rfl
theorem str_beq (a b : List UInt8) : ((strOf a).toList == (strOf b).toList) = decide (a = b) := by
  rw [ByteArray.toList_eq, ByteArray.toList_eq, Bool.eq_iff_iff]; simp [strOf]

set_option maxRecDepth 20000 in
set_option maxHeartbeats 3200000 in
theorem apart_calls (va vb : Value) (a b : NodeD) (w : World) (ha : NodeAt w.heap.size w va a) (hb : NodeAt w.heap.size w vb b) (fa : fitN a) (fb : fitN b) :
    Calls Tryd.prog 7 #[va, vb] w fun e w' => e = .returned (.bool true) ∧ Below w.heap.size w w' := by
  have hea := fun w' (h : Below w.heap.size w w') => encode_calls _ va a w' (ha.below h (Nat.le_refl _)) h.size fa
  have heb := fun w' (h : Below w.heap.size w w') => encode_calls _ vb b w' (hb.below h (Nat.le_refl _)) h.size fb
  have hsm := fun w' (h : Below w.heap.size w w') => same_calls _ va vb a b w' (ha.below h (Nat.le_refl _)) (hb.below h (Nat.le_refl _)) h.size
  have hlaw : checkN a = 0 → checkN b = 0 → sameN a b = decide (encN a = encN b) := fun h1 h2 => by
    rw [Bool.eq_iff_iff, sameN_iff, decide_eq_true_eq]
    exact ⟨fun h => by rw [h], fun h => enc_inj a b ha.wf hb.wf h1 h2 h⟩
  have hse := str_beq (encN a) (encN b)
  obtain ⟨p1, c1, p2, c2, p3, c3, rfl⟩ := boxed ha
  obtain ⟨q1, k1, q2, k2, q3, k3, rfl⟩ := boxed hb
  generalize encN a = Ea at *
  generalize encN b = Eb at *
  generalize checkN a = C1 at *
  generalize checkN b = C2 at *
  generalize sameN a b = sm at *
  have Hlaw := Lib.hid hlaw
  clear hlaw ha hb fa fb
  generalize (a.kind : Int) = ka at *
  generalize a.items.length = a1 at *
  generalize a.kids.length = a2 at *
  generalize a.vols.length = a3 at *
  generalize (b.kind : Int) = kb at *
  generalize b.items.length = b1 at *
  generalize b.kids.length = b2 at *
  generalize b.vols.length = b3 at *
  obtain ⟨W1, hW1⟩ : ∃ W1, W1 = w.alloc (.cells #[.int .u8 ka, .slice p1 a1 c1, .slice p2 a2 c2, .slice p3 a3 c3] 27) := ⟨_, rfl⟩
  obtain ⟨W2, hW2⟩ : ∃ W2, W2 = W1.alloc (.cells #[.int .u8 kb, .slice q1 b1 k1, .slice q2 b2 k2, .slice q3 b3 k3] 27) := ⟨_, rfl⟩
  have hA2 : RowIs W2 w.heap.size 27 #[.int .u8 ka, .slice p1 a1 c1, .slice p2 a2 c2, .slice p3 a3 c3] := by rw [hW2, hW1]; exact (RowIs.new w _ _).alloc _
  have hB2 : RowIs W2 W1.heap.size 27 #[.int .u8 kb, .slice q1 b1 k1, .slice q2 b2 k2, .slice q3 b3 k3] := by rw [hW2]; exact RowIs.new W1 _ _
  have hbe2 : Below w.heap.size w W2 := by rw [hW2, hW1]; exact ((Below.refl _ _).alloc (Nat.le_refl _) _).alloc (by simp) _
  have HW1 := Lib.hid hW1
  have HW2 := Lib.hid hW2
  have hsA := node_size4 (.int .u8 ka) (.slice p1 a1 c1) (.slice p2 a2 c2) (.slice p3 a3 c3)
  have hsB := node_size4 (.int .u8 kb) (.slice q1 b1 k1) (.slice q2 b2 k2) (.slice q3 b3 k3)
  have hnot : ∀ (x : Bool) (w : World), (Op.unary .not (.bool x)).run Tryd.prog w = .ok (.bool (!x)) w := fun _ _ => rfl
  clear hW1 hW2
  go_enter Tryd.func7, Tryd.ntmps7
  go_wp2_with (first | (refine wpList_world HW1.out ?_) | (refine wpList_world HW2.out ?_))
  refine (lives_calls W2).mono ?_
  rintro e w3 ⟨rfl, hq⟩
  have hA3 := hA2.below hq hA2.lt
  have hB3 := hB2.below hq hB2.lt
  have hb3 := hbe2.trans (hq.mono hbe2.size)
  clear hq hA2 hB2 hbe2
  go_wp2_with (refine wpList_load_row rfl 27 _ rfl w.heap.size rfl 27 #[.int .u8 ka, .slice p1 a1 c1, .slice p2 a2 c2, .slice p3 a3 c3] (0, 0) _ hA3 Tryd.underlying27 rfl hsA ?_)
  refine (hea w3 hb3).mono ?_
  rintro e w4 ⟨rfl, hq⟩
  have hA4 := hA3.below hq hA3.lt
  have hB4 := hB3.below hq hB3.lt
  have hb4 := hb3.trans (hq.mono hb3.size)
  clear hq hA3 hB3 hb3 hea
  go_wp2_with (refine wpList_load_row rfl 27 _ rfl W1.heap.size rfl 27 #[.int .u8 kb, .slice q1 b1 k1, .slice q2 b2 k2, .slice q3 b3 k3] (0, 0) _ hB4 Tryd.underlying27 rfl hsB ?_)
  refine (heb w4 hb4).mono ?_
  rintro e w5 ⟨rfl, hq⟩
  have hA5 := hA4.below hq hA4.lt
  have hB5 := hB4.below hq hB4.lt
  have hb5 := hb4.trans (hq.mono hb4.size)
  have hsm5 := hsm w5 hb5
  clear hq hA4 hB4 hb4 heb hsm
  by_cases h1 : C1 = 0
  · subst h1
    by_cases h2 : C2 = 0
    · subst h2
      have hl := Hlaw.out rfl rfl
      rw [← hl] at hse
      clear hl
      go_wp2_with (first | (refine wpList_load_rowG 27 _ rfl w.heap.size rfl (by rfl) 27 #[.int .u8 ka, .slice p1 a1 c1, .slice p2 a2 c2, .slice p3 a3 c3] (0, 0) _ hA5 Tryd.underlying27 rfl hsA ?_) | (refine wpList_load_rowG 27 _ rfl W1.heap.size rfl (by rfl) 27 #[.int .u8 kb, .slice q1 b1 k1, .slice q2 b2 k2, .slice q3 b3 k3] (0, 0) _ hB5 Tryd.underlying27 rfl hsB ?_))
      refine hsm5.mono ?_
      rintro e w6 ⟨rfl, hq⟩
      have hb6 := hb5.trans (hq.mono hb5.size)
      clear hq
      cases sm <;>
      · go_wp2_with fail
        go_ret
        exact ⟨rfl, hb6⟩
    · have hC1 : (C2 == 0) = false := by simpa using h2
      have hC2 : (C2 != 0) = true := by simpa using h2
      go_wp2_with fail
      go_ret
      exact ⟨rfl, hb5⟩
  · have hC1 : (C1 == 0) = false := by simpa using h1
    have hC2 : (C1 != 0) = true := by simpa using h1
    go_wp2_with fail
    go_ret
    exact ⟨rfl, hb5⟩

end Go.Proofs.YtgjaoofgmdijdaaDoor
