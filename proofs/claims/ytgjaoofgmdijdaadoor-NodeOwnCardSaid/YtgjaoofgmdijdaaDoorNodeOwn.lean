/- NodeOwn: walked. -/
import Derived.Test.YtgjaoofgmdijdaaDoorNodeSizes
import Derived.Test.YtgjaoofgmdijdaaDoorCopy
namespace Go.Proofs.YtgjaoofgmdijdaaDoor
open Go.RowKit

theorem nil_bad : ¬ decOk [] := by decide +kernel
/-- A row of one's own that may be spoilt: its block, its cells. -/
def Mine (w : World) (B G : Nat) (T : TypeId) (m : Nat) (p : Option Addr) (isn : Nat → Prop) : Prop :=
  ∀ g, p = some ⟨g, 0, none⟩ → g ≠ G ∧ B ≤ g ∧ ∃ cur, RowIs w g T cur ∧ m ≤ cur.size ∧ ∀ j, isn j → ∃ x : Int, cur[j]? = some (.int .u32 x)
theorem Mine.set {w : World} {B G g : Nat} {T : TypeId} {m : Nat} {isn : Nat → Prop} (h : Mine w B G T m (some ⟨g, 0, none⟩) isn) (j : Nat) (v : Value) (hv : isn j → ∃ y, v = .int .u32 y) : Mine (w.setCell ⟨g, j, none⟩ v) B G T m (some ⟨g, 0, none⟩) isn := by
  intro g' hg
  have : g = g' := by simpa using hg
  subst this
  obtain ⟨h1, h2, cur, h3, h4, h5⟩ := h g rfl
  refine ⟨h1, h2, _, h3.set j v, by simpa using h4, fun i hi => ?_⟩
  obtain ⟨x, hx⟩ := h5 i hi
  by_cases hij : j = i
  · subst hij
    obtain ⟨y, rfl⟩ := hv hi
    have hlt := (Array.getElem?_eq_some_iff.1 hx).1
    exact ⟨y, by simp [hlt]⟩
  · exact ⟨x, by rw [Array.getElem?_setIfInBounds_ne hij]; exact hx⟩
theorem Mine.other {w : World} {B G g : Nat} {T T' : TypeId} {m m' : Nat} {p : Option Addr} {isn isn' : Nat → Prop} (h : Mine w B G T m p isn) (h' : Mine w B G T' m' (some ⟨g, 0, none⟩) isn') (hT : T ≠ T') (j : Nat) (v : Value) : Mine (w.setCell ⟨g, j, none⟩ v) B G T m p isn := by
  intro g' hg
  obtain ⟨h1, h2, cur, h3, h4, h5⟩ := h g' hg
  obtain ⟨_, _, cur', h3', _⟩ := h' g rfl
  refine ⟨h1, h2, cur, h3.other _ _ (fun q => ?_), h4, h5⟩
  have q' : g' = g := q
  subst q'
  unfold RowIs at h3 h3'
  rw [h3] at h3'
  injection h3' with h3'
  injection h3' with _ q2 _
  exact hT q2
theorem Mine.below {w w' : World} {B G : Nat} {T : TypeId} {m : Nat} {p : Option Addr} {isn : Nat → Prop} (h : Mine w B G T m p isn) (hb : Below w.heap.size w w') : Mine w' B G T m p isn := by
  intro g hg
  obtain ⟨h1, h2, cur, h3, h4, h5⟩ := h g hg
  exact ⟨h1, h2, cur, h3.below hb h3.lt, h4, h5⟩
theorem mine_of {w : World} {base G : Nat} {e : TypeId} {z : Nat} {p : Option Addr} {n c : Nat} {xs : List Value} {isn : Nat → Prop} (h : w.ownsRow base e z (.slice p n c) n xs) (hG : w.heap.size ≤ G) (hi : ∀ j, isn j → ∃ x : Int, xs[j]? = some (.int .u32 x)) : Mine w base G e (n * z) p isn := by
  intro g hg
  rcases h.2 with ⟨hv, _⟩ | ⟨g', cap, cur, hv, hbg, hh, hnc, hcm, hcs, hxs⟩
  · injection hv with hv; rw [hv] at hg; cases hg
  · injection hv with hv
    rw [hv] at hg
    have : g' = g := by simpa using hg
    subst this
    have hlt := lt_of_block hh
    refine ⟨by omega, hbg, cur, hh, ?_, fun j hj => ?_⟩
    · rw [hcs]; exact Nat.mul_le_mul_right _ hnc
    · obtain ⟨x, hx⟩ := hi j hj
      rw [← hxs, List.getElem?_take] at hx
      split at hx
      · exact ⟨x, by simpa using hx⟩
      · cases hx
theorem own_some {w : World} {base : Nat} {e : TypeId} {z : Nat} {p : Option Addr} {n c : Nat} {xs : List Value} (h : w.ownsRow base e z (.slice p n c) n xs) (hn : 0 < n) : ∃ g, p = some ⟨g, 0, none⟩ := by
  rcases h.2 with ⟨_, h0⟩ | ⟨g, cap, cur, hv, _⟩
  · omega
  · injection hv with hv; exact ⟨g, hv⟩

set_option maxRecDepth 20000 in
set_option maxHeartbeats 6400000 in
theorem own_calls (va : Value) (a : NodeD) (w : World) (ha : NodeAt w.heap.size w va a) (fa : fitN a) :
    Calls Tryd.prog 8 #[va] w fun e w' => e = .returned (.bool true) ∧ Below w.heap.size w w' := by
  have hea := fun w' (h : Below w.heap.size w w') => encode_calls _ va a w' (ha.below h (Nat.le_refl _)) h.size fa
  have hcp := fun w' (h : Below w.heap.size w w') => copy_calls _ va a w' (ha.below h (Nat.le_refl _)) h.size fa
  have hkn := fun w' (h : Below w.heap.size w w') => kidNums_calls _ va a w' (ha.below h (Nat.le_refl _)) h.size fa
  have hsm := fun w' B vb (h : Below w.heap.size w w') (hB : w.heap.size ≤ B) (hb : NodeAt B w' vb a) (hs : B ≤ w'.heap.size) => same_calls B va vb a a w' ((ha.below h (Nat.le_refl _)).mono hB) hb hs
  rw [(sameN_iff a a).2 rfl] at hsm
  have hS : (strOf (encN a)).size ≤ 140737488351232 := by rw [strOf_size]; exact Nat.le_trans (enc_length a ha.wf) (by decide)
  have hdc : ∀ w', Calls Tryd.prog 11 #[.string (strOf (encN a))] w' fun e w'' => ∃ v, e = .returned (.tuple #[v, .int .i64 (decE (encN a))]) ∧ OwnAt w'.heap.size w'' v (nodeL (encN a)) ∧ Below w'.heap.size w' w'' := fun w' =>
    (decode_calls (strOf (encN a)) w' hS).mono fun e w'' ⟨v, h1, h2, h3⟩ => ⟨v, h1, h2, h3⟩
  have hmf := nodeL_fit (encN a)
  have hknl : (kidNums a).length ≤ 4398046511104 := by
    have h1 := fa.1
    unfold kidNums
    split
    · rw [List.length_map]; omega
    · split
      · rw [List.length_map]
        have := List.length_filter_le (fun v : VolD => decide (v.root ≠ 0)) a.vols
        omega
      · simp
  have hlaw : decE (encN a) = 9 ∨ (decE (encN a) = 0 ∧ nodeL (encN a) = a) := by
    by_cases h : checkN a = 0
    · have hd := dec_enc a ha.wf h
      exact .inr ⟨by rw [decE, if_pos hd.1], by rw [nodeL, if_pos hd.1, hd.2]⟩
    · exact .inl (by rw [enc_none a h, decE, if_neg nil_bad])
  obtain ⟨p1, c1, p2, c2, p3, c3, rfl⟩ := boxed ha
  generalize strOf (encN a) = S at *
  generalize nodeL (encN a) = m at *
  generalize decE (encN a) = dE at *
  generalize encN a = Ea at *
  generalize checkN a = C1 at *
  clear ha fa hS
  have Hlaw := Lib.hid hlaw
  clear hlaw
  obtain ⟨W1, hW1⟩ : ∃ W1, W1 = w.alloc (.cells #[.int .u8 (a.kind : Int), .slice p1 a.items.length c1, .slice p2 a.kids.length c2, .slice p3 a.vols.length c3] 27) := ⟨_, rfl⟩
  have hA1 : RowIs W1 w.heap.size 27 #[.int .u8 (a.kind : Int), .slice p1 a.items.length c1, .slice p2 a.kids.length c2, .slice p3 a.vols.length c3] := by rw [hW1]; exact RowIs.new w _ _
  have hb1 : Below w.heap.size w W1 := by rw [hW1]; exact (Below.refl _ _).alloc (Nat.le_refl _) _
  have HW1 := Lib.hid hW1
  have hsA := node_size4 (.int .u8 (a.kind : Int)) (.slice p1 a.items.length c1) (.slice p2 a.kids.length c2) (.slice p3 a.vols.length c3)
  have hnot : ∀ (x : Bool) (w : World), (Op.unary .not (.bool x)).run Tryd.prog w = .ok (.bool (!x)) w := fun _ _ => rfl
  clear hW1
  go_enter Tryd.func8, Tryd.ntmps8
  go_wp2_with (refine wpList_world HW1.out ?_)
  refine (lives_calls W1).mono ?_
  rintro e w2 ⟨rfl, hq⟩
  have hA2 := hA1.below hq hA1.lt
  have hb2 := hb1.trans (hq.mono hb1.size)
  clear hq hA1 hb1
  go_wp2_with (refine wpList_load_row rfl 27 _ rfl w.heap.size rfl 27 #[.int .u8 (a.kind : Int), .slice p1 a.items.length c1, .slice p2 a.kids.length c2, .slice p3 a.vols.length c3] (0, 0) _ hA2 Tryd.underlying27 rfl hsA ?_)
  refine (hcp w2 hb2).mono ?_
  rintro e w3 ⟨r, rfl, ho3, hq⟩
  obtain ⟨q1, k1, q2, k2, q3, k3, rfl⟩ := ho3.shape
  have hK3 := ho3.node
  have hA3 := hA2.below hq hA2.lt
  have hb3 := hb2.trans (hq.mono hb2.size)
  clear hq hA2 hb2 ho3 hcp
  obtain ⟨W4, hW4⟩ : ∃ W4, W4 = w3.alloc (.cells #[.int .u8 (a.kind : Int), .slice q1 a.items.length k1, .slice q2 a.kids.length k2, .slice q3 a.vols.length k3] 27) := ⟨_, rfl⟩
  have hal := (Below.refl _ w3).alloc (Nat.le_refl _) (.cells #[.int .u8 (a.kind : Int), .slice q1 a.items.length k1, .slice q2 a.kids.length k2, .slice q3 a.vols.length k3] 27)
  have hM4 := RowIs.new w3 27 #[.int .u8 (a.kind : Int), .slice q1 a.items.length k1, .slice q2 a.kids.length k2, .slice q3 a.vols.length k3]
  rw [← hW4] at hal hM4
  have hA4 := hA3.below hal hA3.lt
  have hK4 := hK3.below hal (Nat.le_refl _)
  have hb4 := hb3.trans (hal.mono hb3.size)
  have hle34 := hal.size
  have hle3 := hb3.size
  have HW4 := Lib.hid hW4
  have hsK := node_size4 (.int .u8 (a.kind : Int)) (.slice q1 a.items.length k1) (.slice q2 a.kids.length k2) (.slice q3 a.vols.length k3)
  clear hW4 hal hA3 hK3 hb3
  go_wp2_with (first | (refine wpList_world HW4.out ?_) | (refine wpList_load_row rfl 27 _ rfl w.heap.size rfl 27 #[.int .u8 (a.kind : Int), .slice p1 a.items.length c1, .slice p2 a.kids.length c2, .slice p3 a.vols.length c3] (0, 0) _ hA4 Tryd.underlying27 rfl hsA ?_))
  refine (hea W4 hb4).mono ?_
  rintro e w5 ⟨rfl, hq⟩
  have hA5 := hA4.below hq hA4.lt
  have hM5 := hM4.below hq hM4.lt
  have hK5 := hK4.below hq hle34
  have hb5 := hb4.trans (hq.mono hb4.size)
  have hle5 := Nat.le_trans hle34 hq.size
  clear hq hA4 hM4 hK4 hb4 hea
  go_wp2_with fail
  refine (hdc w5).mono ?_
  rintro e w6 ⟨u, rfl, ho6, hq⟩
  obtain ⟨t1, l1, t2, l2, t3, l3, rfl⟩ := ho6.shape
  obtain ⟨_, oi6, ok6⟩ : True ∧ w6.ownsRow w5.heap.size 46 2 (.slice t1 m.items.length l1) m.items.length (m.items.flatMap itemV) ∧ w6.ownsRow w5.heap.size 49 34 (.slice t2 m.kids.length l2) m.kids.length (m.kids.flatMap kidV) := by
    obtain ⟨_, x1, x2, x3, hx, y1, y2, y3⟩ := ho6
    injection hx with hx
    have hx2 := congrArg Array.toList hx
    simp only [List.cons.injEq, and_true, true_and] at hx2
    obtain ⟨rfl, rfl, rfl⟩ := hx2
    exact ⟨trivial, y1, y2⟩
  have hG1 : w.heap.size < w5.heap.size := hA5.lt
  have hG3 : w3.heap.size < w5.heap.size := hM5.lt
  have hA6 := hA5.below hq hA5.lt
  have hM6 := hM5.below hq hM5.lt
  have hK6 := hK5.below hq hle5
  have hb6 := hb5.trans (hq.mono hb5.size)
  have hle6 := hq.size
  have hwf6 := ho6.wf
  have hint : ∀ j, (∃ i, i < m.kids.length ∧ j = i * 34 + 1) → ∃ x : Int, (m.kids.flatMap kidV)[j]? = some (.int .u32 x) := by
    rintro j ⟨i, hi, rfl⟩
    refine ⟨((m.kids[i]).num : Int), ?_⟩
    rw [flat_get m.kids (fun k hk => kidV_length (hwf6.2.1 k hk).2) i 1 (by decide), List.getElem?_eq_getElem hi]
    rfl
  have hI6 := mine_of (isn := fun _ => False) oi6 (Nat.le_refl _) (fun j h => h.elim)
  have hR6 := mine_of (isn := fun j => ∃ i, i < m.kids.length ∧ j = i * 34 + 1) ok6 (Nat.le_refl _) hint
  have hIs := fun h => own_some oi6 h
  have hRs := fun h => own_some ok6 h
  clear hq hA5 hM5 hK5 hb5 ho6 oi6 ok6 hint hwf6
  obtain ⟨W7, hW7⟩ : ∃ W7, W7 = w6.alloc (.cells #[.int .u8 (m.kind : Int), .slice t1 m.items.length l1, .slice t2 m.kids.length l2, .slice t3 m.vols.length l3] 27) := ⟨_, rfl⟩
  have hal := (Below.refl _ w6).alloc (Nat.le_refl _) (.cells #[.int .u8 (m.kind : Int), .slice t1 m.items.length l1, .slice t2 m.kids.length l2, .slice t3 m.vols.length l3] 27)
  have hU7 := RowIs.new w6 27 #[.int .u8 (m.kind : Int), .slice t1 m.items.length l1, .slice t2 m.kids.length l2, .slice t3 m.vols.length l3]
  rw [← hW7] at hal hU7
  have hA7 := hA6.below hal hA6.lt
  have hM7 := hM6.below hal hM6.lt
  have hK7 := hK6.below hal (Nat.le_trans hle5 hle6)
  have hb7 := hb6.trans (hal.mono hb6.size)
  have hI7 := hI6.below hal
  have hR7 := hR6.below hal
  have hs5 : w5.heap.size ≤ W7.heap.size := Nat.le_trans hle6 hal.size
  have hG6 : w5.heap.size ≤ w6.heap.size := hle6
  have HW7 := Lib.hid hW7
  clear hW7 hal hA6 hM6 hK6 hb6 hI6 hR6
  have HI := Lib.hid hIs
  have HR := Lib.hid hRs
  clear hIs hRs
  have hu1 : W7.cell? ⟨w6.heap.size, 1, none⟩ = some (.slice t1 m.items.length l1) := by rw [hU7.cell]; rfl
  go_wp2_with (refine wpList_world HW7.out ?_)
  clear hu1
  obtain ⟨hil, hrl, _⟩ := hmf.1
  clear hmf
  go_loopw [31] (fun v wr => ∃ t : Nat, t ≤ m.items.length ∧ v = .int .i64 t ∧ Below w5.heap.size W7 wr ∧ RowIs wr w6.heap.size 27 #[.int .u8 (m.kind : Int), .slice t1 m.items.length l1, .slice t2 m.kids.length l2, .slice t3 m.vols.length l3] ∧ Mine wr w5.heap.size w6.heap.size 46 (m.items.length * 2) t1 (fun _ => False) ∧
    Mine wr w5.heap.size w6.heap.size 49 (m.kids.length * 34) t2 (fun j => ∃ i, i < m.kids.length ∧ j = i * 34 + 1)) (fun v _ => m.items.length - (intOf v).toNat)
  case atStart => exact ⟨0, Nat.zero_le _, rfl, Below.refl _ _, hU7, hI7, hR7⟩
  case round =>
    obtain ⟨t, ht, rfl, hb8, hU8, hI8, hR8⟩ := hrel
    clear hU7 hI7 hR7
    by_cases hlt : t < m.items.length
    · obtain ⟨g, rfl⟩ := HI.out (by omega)
      obtain ⟨hgG, hBg, cur, hrow, hsz, _⟩ := hI8 g rfl
      have hv0 : wr.cell? ⟨g, t * 2 + 1, none⟩ = some (cur[t * 2 + 1]'(by omega)) := by rw [hrow.cell]; exact Array.getElem?_eq_getElem _
      have hf0 := hrow.free (t * 2 + 1)
      have hlti : (t : Int) < (m.items.length : Int) := by omega
      have hu1 : wr.cell? ⟨w6.heap.size, 1, none⟩ = some (.slice (some ⟨g, 0, none⟩) m.items.length l1) := by rw [hU8.cell]; rfl
      generalize cur[t * 2 + 1]'(by omega) = v0 at *
      go_wp2_with fail
      go_roundw
      case rel => exact ⟨t + 1, by omega, by go_num, hb8.setCell (p := ⟨g, _, none⟩) hBg _, hU8.other _ _ (fun q => hgG q.symm), hI8.set _ _ (fun h => h.elim), hR8.other hI8 (by decide) _ _⟩
      case measure => simp [intOf]; omega
    · have hu2 : wr.cell? ⟨w6.heap.size, 2, none⟩ = some (.slice t2 m.kids.length l2) := by rw [hU8.cell]; rfl
      clear hI8
      go_wp2_with fail
      clear hu2 hlt
      go_loopw [43] (fun v wr => ∃ t : Nat, t ≤ m.kids.length ∧ v = .int .i64 t ∧ Below w5.heap.size W7 wr ∧ RowIs wr w6.heap.size 27 #[.int .u8 (m.kind : Int), .slice t1 m.items.length l1, .slice t2 m.kids.length l2, .slice t3 m.vols.length l3] ∧
        Mine wr w5.heap.size w6.heap.size 49 (m.kids.length * 34) t2 (fun j => ∃ i, i < m.kids.length ∧ j = i * 34 + 1)) (fun v _ => m.kids.length - (intOf v).toNat)
      case atStart => exact ⟨0, Nat.zero_le _, rfl, hb8, hU8, hR8⟩
      case round =>
        clear hb8 hU8 hR8
        rename_i wr0
        obtain ⟨t, ht, rfl, hb8, hU8, hR8⟩ := hrel
        by_cases hlt : t < m.kids.length
        · obtain ⟨g, rfl⟩ := HR.out (by omega)
          obtain ⟨hgG, hBg, cur, hrow, hsz, hint⟩ := hR8 g rfl
          obtain ⟨x, hx⟩ := hint (t * 34 + 1) ⟨t, hlt, rfl⟩
          have hv0 : wr.cell? ⟨g, t * 34 + 1, none⟩ = some (.int .u32 x) := by rw [hrow.cell]; exact hx
          have hf0 := hrow.free (t * 34 + 1)
          have hlti : (t : Int) < (m.kids.length : Int) := by omega
          have hu1 : wr.cell? ⟨w6.heap.size, 2, none⟩ = some (.slice (some ⟨g, 0, none⟩) m.kids.length l2) := by rw [hU8.cell]; rfl
          clear hx hint
          go_wp2_with fail
          go_roundw
          case rel => exact ⟨t + 1, by omega, by go_num, hb8.setCell (p := ⟨g, _, none⟩) hBg _, hU8.other _ _ (fun q => hgG q.symm), hR8.set _ _ (fun _ => ⟨_, rfl⟩)⟩
          case measure => simp [intOf]; omega
        · have hA8 := hA7.below hb8 hG1
          have hM8 := hM7.below hb8 hG3
          have hK8 := hK7.below hb8 (Nat.le_of_lt hG3)
          have hb9 := hb7.trans (hb8.mono (Nat.le_of_lt hG1))
          have hs8 := Nat.le_trans hs5 hb8.size
          clear hU8 hR8 hA7 hM7 hK7 hb7 hb8
          go_wp2_with (refine wpList_load_row rfl 27 _ rfl w.heap.size rfl 27 #[.int .u8 (a.kind : Int), .slice p1 a.items.length c1, .slice p2 a.kids.length c2, .slice p3 a.vols.length c3] (0, 0) _ hA8 Tryd.underlying27 rfl hsA ?_)
          refine (hkn wr hb9).mono ?_
          rintro e w8 ⟨r8, rfl, hr8, hq⟩
          obtain ⟨p8, c8, rfl⟩ := own_shape hr8
          have hN8 := mine_of (isn := fun j => j < (kidNums a).length) (G := w8.heap.size) hr8 (Nat.le_refl _) (fun j hj => ⟨((kidNums a)[j] : Int), by simp [numsV, List.getElem?_eq_getElem hj]⟩)
          have hNs := fun h => own_some hr8 h
          have hA9 := hA8.below hq hA8.lt
          have hM9 := hM8.below hq hM8.lt
          have hK9 := hK8.below hq (Nat.le_of_lt hM8.lt)
          have hb10 := hb9.trans (hq.mono hb9.size)
          have hs9 := hq.size
          have hsA8 : w.heap.size < wr.heap.size := hA8.lt
          have hsM8 : w3.heap.size < wr.heap.size := hM8.lt
          have HN := Lib.hid hNs
          generalize (kidNums a).length = nk at *
          clear hq hr8 hA8 hM8 hK8 hb9 hNs hkn hs8
          go_wp2_with fail
          generalize wr.heap.size = BR at *
          go_loopw [60] (fun v wr => ∃ t : Nat, t ≤ nk ∧ v = .int .i64 t ∧ Below BR w8 wr ∧ Mine wr BR w8.heap.size 39 (nk * 1) p8 (fun j => j < nk)) (fun v _ => nk - (intOf v).toNat)
          case atStart => exact ⟨0, Nat.zero_le _, rfl, Below.refl _ _, hN8⟩
          case round =>
            clear hN8
            obtain ⟨t, ht, rfl, hb11, hN8⟩ := hrel
            by_cases hlt : t < nk
            · obtain ⟨g, rfl⟩ := HN.out (by omega)
              obtain ⟨hgG, hBg, cur, hrow, hsz, hint⟩ := hN8 g rfl
              obtain ⟨x, hx⟩ := hint t hlt
              have hv0 : wr.cell? ⟨g, t, none⟩ = some (.int .u32 x) := by rw [hrow.cell]; exact hx
              have hf0 := hrow.free t
              have hlti : (t : Int) < (nk : Int) := by omega
              clear hx hint
              go_wp2_with fail
              go_roundw
              case rel => exact ⟨t + 1, by omega, by go_num, hb11.setCell (p := ⟨g, _, none⟩) hBg _, hN8.set _ _ (fun _ => ⟨_, rfl⟩)⟩
              case measure => simp [intOf]; omega
            · have hA12 := hA9.below hb11 hsA8
              have hM12 := hM9.below hb11 hsM8
              have hK12 := hK9.below hb11 (Nat.le_of_lt hsM8)
              have hb12 := hb10.trans (hb11.mono (Nat.le_of_lt hsA8))
              clear hN8 hA9 hM9 hK9 hb10 hb11
              go_wp2_with fail
              refine (hdc wr).mono ?_
              rintro e w13 ⟨u, rfl, ho, hq⟩
              obtain ⟨x1, y1, x2, y2, x3, y3, rfl⟩ := ho.shape
              have hnd := ho.node
              have hA13 := hA12.below hq hA12.lt
              have hM13 := hM12.below hq hM12.lt
              have hK13 := hK12.below hq (Nat.le_of_lt hM12.lt)
              have hb13 := hb12.trans (hq.mono hb12.size)
              clear ho hq hA12 hM12 hK12 hb12 hlt
              obtain ⟨W14, hW14⟩ : ∃ W14, W14 = w13.alloc (.cells #[.int .u8 (m.kind : Int), .slice x1 m.items.length y1, .slice x2 m.kids.length y2, .slice x3 m.vols.length y3] 27) := ⟨_, rfl⟩
              have hal := (Below.refl _ w13).alloc (Nat.le_refl _) (.cells #[.int .u8 (m.kind : Int), .slice x1 m.items.length y1, .slice x2 m.kids.length y2, .slice x3 m.vols.length y3] 27)
              have hB14 := RowIs.new w13 27 #[.int .u8 (m.kind : Int), .slice x1 m.items.length y1, .slice x2 m.kids.length y2, .slice x3 m.vols.length y3]
              rw [← hW14] at hal hB14
              have hA14 := hA13.below hal hA13.lt
              have hM14 := hM13.below hal hM13.lt
              have hK14 := hK13.below hal (Nat.le_of_lt hM13.lt)
              have hnd14 := hnd.below hal (Nat.le_refl _)
              have hb14 := hb13.trans (hal.mono hb13.size)
              have hs3a : w.heap.size ≤ w3.heap.size := hle3
              have hs14 : w3.heap.size ≤ W14.heap.size := Nat.le_of_lt hM14.lt
              have hsm14 := hsm W14 w3.heap.size _ hb14 hs3a hK14 hs14
              have hsB := node_size4 (.int .u8 (m.kind : Int)) (.slice x1 m.items.length y1) (.slice x2 m.kids.length y2) (.slice x3 m.vols.length y3)
              have HW14 := Lib.hid hW14
              clear hW14 hA13 hM13 hK13 hb13 hsm hnd
              go_wp2_with (first | (refine wpList_world HW14.out ?_) | (refine wpList_load_rowG 27 _ rfl w.heap.size rfl (by rfl) 27 #[.int .u8 (a.kind : Int), .slice p1 a.items.length c1, .slice p2 a.kids.length c2, .slice p3 a.vols.length c3] (0, 0) _ hA14 Tryd.underlying27 rfl hsA ?_) | (refine wpList_load_rowG 27 _ rfl w3.heap.size rfl (by rfl) 27 #[.int .u8 (a.kind : Int), .slice q1 a.items.length k1, .slice q2 a.kids.length k2, .slice q3 a.vols.length k3] (0, 0) _ hM14 Tryd.underlying27 rfl hsK ?_))
              refine hsm14.mono ?_
              rintro e w15 ⟨rfl, hq⟩
              have hM15 := hM14.below hq hM14.lt
              have hB15 := hB14.below hq hB14.lt
              have hK15 := (hK14.mono hs14).below hq (Nat.le_refl _)
              have hnd15 := (hnd14.mono hal.size).below hq (Nat.le_refl _)
              have hb15 := hb14.trans (hq.mono hb14.size)
              have hs15 := hq.size
              clear hq hA14 hM14 hB14 hK14 hnd14 hb14 hsm14 hal
              rcases Hlaw.out with rfl | ⟨rfl, hma⟩
              · go_wp2_with fail
                go_ret
                exact ⟨rfl, hb15⟩
              · have hsm16 := same_calls _ _ _ _ _ w15 hnd15 hK15 hs15
                rw [(sameN_iff _ _).2 hma] at hsm16
                clear hma Hlaw
                go_wp2_with (first | (refine wpList_load_rowG 27 _ rfl w13.heap.size rfl (by rfl) 27 #[.int .u8 (m.kind : Int), .slice x1 m.items.length y1, .slice x2 m.kids.length y2, .slice x3 m.vols.length y3] (0, 0) _ hB15 Tryd.underlying27 rfl hsB ?_) | (refine wpList_load_rowG 27 _ rfl w3.heap.size rfl (by rfl) 27 #[.int .u8 (a.kind : Int), .slice q1 a.items.length k1, .slice q2 a.kids.length k2, .slice q3 a.vols.length k3] (0, 0) _ hM15 Tryd.underlying27 rfl hsK ?_))
                refine hsm16.mono ?_
                rintro e w16 ⟨rfl, hq⟩
                have hb16 := hb15.trans (hq.mono hb15.size)
                clear hq
                go_wp2_with fail
                go_ret
                exact ⟨rfl, hb16⟩

end Go.Proofs.YtgjaoofgmdijdaaDoor
