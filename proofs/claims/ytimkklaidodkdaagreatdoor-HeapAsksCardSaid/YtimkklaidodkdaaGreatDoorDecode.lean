/- node.Decode: walked. -/
import Derived.Test.YtimkklaidodkdaaGreatDoorTake5
namespace Go.Proofs.YtimkklaidodkdaaGreatDoor
open Go.RowKit

theorem txT_small (t : TkD) : (strOf (txT t)).size ≤ 255 := by
 rw [strOf_size, txT]
 have h1 := numT_lt t 1
 rcases some_length (tkNext t 1) (numT t 1) with h | h
 ·rw [h]; omega
 ·rw [h]; exact Nat.zero_le _
theorem manyT_length {α : Type} {f : TkD → α} {g : TkD → TkD} : ∀ (c : Nat) (t : TkD), (manyT f g c t).length ≤ c
 | 0, _ => Nat.le_refl _
 | c + 1, t => by
  rw [manyT, List.length_cons]
  split
  ·simp
  ·have := manyT_length (f := f) (g := g) c (g t); omega
/-- What is taken is no great node. -/
theorem takeN_fit (t : TkD) : fitN (takeN t) := by
 have hc : countT t ≤ 255 := by have := numT_lt (tkNext t 1) 1; unfold countT; omega
 unfold takeN
 split
 ·have hl := manyT_length (f := itemT) (g := itemN) (countT t) (bodyT t)
  have hm := manyT_mem (f := itemT) (g := itemN) (p := fun x => x.key.size ≤ 255 ∧ x.val.size ≤ 255) (fun t => ⟨txT_small _, txT_small _⟩) (countT t) (bodyT t)
  refine ⟨⟨by simp only []; omega, by simp, by simp⟩, fun x hx => ?_, by simp, by simp⟩
  have := hm x hx
  omega
 ·split
  ·have hl := manyT_length (f := kidT) (g := kidN) (countT t) (bodyT t)
   have hm := manyT_mem (f := kidT) (g := kidN) (p := fun x => x.key.size ≤ 255) (fun t => txT_small _) (countT t) (bodyT t)
   refine ⟨⟨by simp, by simp only []; omega, by simp⟩, by simp, fun x hx => ?_, by simp⟩
   have := hm x hx
   omega
  ·split
   ·have hl := manyT_length (f := volT) (g := volN) (countT t) (bodyT t)
    have hm := manyT_mem (f := volT) (g := volN) (p := fun x => x.name.size ≤ 255 ∧ x.frm.size ≤ 255) (fun t => ⟨txT_small _, txT_small _⟩) (countT t) (bodyT t)
    refine ⟨⟨by simp, by simp, by simp only []; omega⟩, by simp, by simp, fun x hx => ?_⟩
    have := hm x hx
    omega
   ·exact ⟨⟨by simp, by simp, by simp⟩, by simp, by simp, by simp⟩

theorem own_nil (w : World) (B : Nat) : OwnAt B w (.agg #[.int .u8 0, .slice none 0 0, .slice none 0 0, .slice none 0 0]) ⟨0, [], [], []⟩ :=
 ⟨⟨by decide, by simp, by simp⟩, _, _, _, rfl, ⟨by simp, .inl ⟨rfl, rfl⟩⟩, ⟨by simp, .inl ⟨rfl, rfl⟩⟩, ⟨by simp, .inl ⟨rfl, rfl⟩⟩⟩
theorem ownsRow_base {w : World} {base b2 : Nat} {e : TypeId} {size : Nat} {v : Value} {n : Nat} {xs : List Value} (h : w.ownsRow base e size v n xs) (hb : b2 ≤ base) : w.ownsRow b2 e size v n xs := by
 refine ⟨h.1, ?_⟩
 rcases h.2 with h2 | ⟨g, cap, cur, hv, hg, r⟩
 ·exact .inl h2
 ·exact .inr ⟨g, cap, cur, hv, Nat.le_trans hb hg, r⟩
theorem OwnAt.base {B C : Nat} {w : World} {v : Value} {n : NodeD} (h : OwnAt B w v n) (hC : C ≤ B) : OwnAt C w v n := by
 obtain ⟨hw, vi, vk, vv, hv, h1, h2, h3⟩ := h
 exact ⟨hw, vi, vk, vv, hv, ownsRow_base h1 hC, ownsRow_base h2 hC, ownsRow_base h3 hC⟩

def DecPost (d : List UInt8) (w : World) (e : Ending) (w' : World) : Prop := ∃ v, e = .returned (.tuple #[v, .int .i64 (decE d)]) ∧ OwnAt w.heap.size w' v (nodeL d) ∧ Below w.heap.size w w'

set_option maxRecDepth 100000 in
set_option maxHeartbeats 1600000 in
theorem decode_calls (s : ByteArray) (w : World) (hs : s.size ≤ 140737488351232) :
  Calls Tryz.prog 73 #[.string s] w (DecPost s.data.toList w) := by
 have hlen : s.data.toList.length = s.size := Array.length_toList
 have hno : ¬ decOk s.data.toList → ∀ e w', e = .returned (.tuple #[.agg #[.int .u8 0, .slice none 0 0, .slice none 0 0, .slice none 0 0], .int .i64 9]) → Below w.heap.size w w' → DecPost s.data.toList w e w' := by
  intro h e w' he hb
  refine ⟨_, by rw [he, decE, if_neg h], ?_, hb⟩
  rw [nodeL, if_neg h]
  exact own_nil _ _
 have hsz0 : (Tryz.prog.info? 28).map (·.size) = some (#[.int .u8 0, .slice none 0 0, .slice none 0 0, .slice none 0 0] : Array Value).size := by kernel_rfl
 have hone0 : (#[.int .u8 0, .slice none 0 0, .slice none 0 0, .slice none 0 0] : Array Value).all (·.oneCell') = true := by simp [Value.oneCell']
 obtain ⟨W1, hW1⟩ : ∃ W1, W1 = w.alloc (.cells #[.int .u8 0, .slice none 0 0, .slice none 0 0, .slice none 0 0] 28) := ⟨_, rfl⟩
 have hP : RowIs W1 w.heap.size 28 #[.int .u8 0, .slice none 0 0, .slice none 0 0, .slice none 0 0] := by rw [hW1]; exact RowIs.new w _ _
 have hb1 : Below w.heap.size w W1 := by rw [hW1]; exact (Below.refl _ _).alloc (Nat.le_refl _) _
 have hthere1 := hP.there 0 4 (Nat.le_refl 4)
 have hst1 := store_row hP (D := #[.int .u8 0, .slice none 0 0, .slice none 0 0, .slice none 0 0]) rfl
 have hsb1 := setCells_below w.heap.size w.heap.size (Nat.le_refl _) [.int .u8 0, .slice none 0 0, .slice none 0 0, .slice none 0 0] 0 _ _ hb1
 have HW1 := Lib.hid hW1
 have Hno := Lib.hid hno
 clear hW1 hno
 generalize hPP : w.heap.size = PB at *
 by_cases hl : 512 < s.size
 ·have i1 : (512 : Int) < (s.size : Int) := by omega
  have hbad : ¬ decOk s.data.toList := fun h => by have := h.1; omega
  have HN := Lib.hid hbad
  have HH := Lib.hid (And.intro hst1 hsb1)
  clear hlen hbad hst1 hsb1
  go_enter Tryz.func73, Tryz.ntmps73
  go_wp2_with (first | (refine wpList_world HW1.out ?_) | (refine wpList_store_mid rfl 28 _ _ rfl PB 0 #[.int .u8 0, .slice none 0 0, .slice none 0 0, .slice none 0 0] rfl rfl hthere1 hsz0 hone0 ?_))
  refine bodyPost_ret (v := .tuple #[.agg #[.int .u8 0, .slice none 0 0, .slice none 0 0, .slice none 0 0], .int .i64 9]) (results_cell_tmp (p := 2) (q := 3) (ty := 28) (by rfl) _ _ PB 28 #[.int .u8 0, .slice none 0 0, .slice none 0 0, .slice none 0 0] (0, 0) _ (by rfl) HH.out.1 Tryz.underlying28 (by rfl) hsz0) (by rfl) ?_
  exact Hno.out HN.out _ _ rfl HH.out.2
 ·have i1 : ¬ (512 : Int) < (s.size : Int) := by omega
  have hfil := fun w' => filled_calls s w' (by omega)
  have hst0 : startT s.data.toList = ⟨(padTo 512 s.data.toList).drop 4, false⟩ := rfl
  have hpl := padTo_length 512 s.data.toList (by omega)
  have hdl : (startT s.data.toList).left.length ≤ 1048576 := by rw [hst0]; simp only [List.length_drop]; omega
  have hfs := strOf_size (padTo 512 s.data.toList)
  rw [hpl] at hfs
  have hext : strOf (startT s.data.toList).left = (strOf (padTo 512 s.data.toList)).extract 4 512 := by
   have := strOf_drop (padTo 512 s.data.toList) 4
   rw [hfs] at this
   rw [hst0, this]
  have hdec : decOk s.data.toList ↔ (takeX (startT s.data.toList)).bad = false ∧ checkN (takeN (startT s.data.toList)) = 0 ∧ encN (takeN (startT s.data.toList)) = s.data.toList :=
   ⟨fun h => h.2, fun h => ⟨by omega, h⟩⟩
  have hyes : decOk s.data.toList → ∀ v e w', e = .returned (.tuple #[v, .int .i64 0]) → OwnAt PB w' v (takeN (startT s.data.toList)) → Below PB w w' → DecPost s.data.toList w e w' := by
   intro h v e w' he ho hb
   refine ⟨v, by rw [he, decE, if_pos h], ?_, by rw [hPP]; exact hb⟩
   rw [nodeL, if_pos h, hPP]
   exact ho
  have hfit := takeN_fit (startT s.data.toList)
  have htk := fun b w' h => take_node_calls b (startT s.data.toList) w' h hdl
  have henc := fun B v w' h hB => encode_calls B v (takeN (startT s.data.toList)) w' h hB hfit
  have hS : (startT s.data.toList).bad = false := rfl
  have hTk : ∀ w b, TkAt w b (startT s.data.toList) ↔ RowIs w b 184 #[.string (strOf (startT s.data.toList).left), .bool false] := fun w b => Iff.rfl
  generalize hTT : startT s.data.toList = T0 at *
  generalize hXX : takeX T0 = X at *
  generalize takeN T0 = N at *
  generalize hC : checkN N = C at *
  generalize strOf (padTo 512 s.data.toList) = F at *
  have Hext := Lib.hid hext
  have Hyes := Lib.hid hyes
  have Hdec := Lib.hid hdec
  clear hyes hdec hst0 hpl hlen hst1 hsb1 hTT hXX hC hS hdl hext
  have e2 : (strOf (encN N)).data.toList = encN N := rfl
  go_enter Tryz.func73, Tryz.ntmps73
  go_wp2_with (refine wpList_world HW1.out ?_)
  refine (hfil W1).mono ?_
  rintro e w2 ⟨rfl, hb2⟩
  have hP2 := hP.below hb2 hP.lt
  have hbw2 := hb1.trans (hb2.mono (Nat.le_of_lt hP.lt))
  clear hb2 hfil
  obtain ⟨W3, hW3⟩ : ∃ W3, W3 = w2.alloc (.cells #[.string (F.extract 4 512), .bool false] 184) := ⟨_, rfl⟩
  have hT3 : TkAt W3 w2.heap.size T0 := by rw [hTk, hW3, Hext.out]; exact RowIs.new w2 _ _
  have hP3 := hP2.alloc (.cells #[.string (F.extract 4 512), .bool false] 184)
  have hb3 : Below PB w W3 := by rw [hW3]; exact hbw2.alloc (Nat.le_of_lt hP2.lt) _
  rw [← hW3] at hP3
  have hPB : PB < w2.heap.size := hP2.lt
  have HW3 := Lib.hid hW3
  clear hW3 hbw2 hP2
  go_wp2_with fail
  rw [← HW3.out]
  generalize w2.heap.size = TB at *
  refine (htk TB W3 hT3).mono ?_
  rintro e w4 ⟨v, rfl, ho4, hT4, hbt⟩
  have hPT : PB ≠ TB := Nat.ne_of_lt hPB
  have hP4 := hP3.but hbt hPT
  have hb4 : Below PB w w4 := by
   refine hb3.trans ?_
   exact ⟨hbt.os, hbt.tape, hbt.output, hbt.size, fun k hk => hbt.block k (Nat.lt_of_lt_of_le hk (Nat.le_of_lt hP3.lt)) (by omega)⟩
  have ho4' := ho4.base (Nat.le_of_lt hP3.lt)
  have hhs : PB ≤ w4.heap.size := Nat.le_of_lt hP4.lt
  obtain ⟨hwf, vi, vk, vv, rfl, oi, ok, ov⟩ := id ho4'
  obtain ⟨W5, hW5⟩ : ∃ W5, W5 = w4.alloc (.cells #[.int .u8 0, .slice none 0 0, .slice none 0 0, .slice none 0 0] 28) := ⟨_, rfl⟩
  have hal := (Below.refl _ w4).alloc (Nat.le_refl _) (.cells #[.int .u8 0, .slice none 0 0, .slice none 0 0, .slice none 0 0] 28)
  rw [← hW5] at hal
  have hN5 : RowIs W5 w4.heap.size 28 #[.int .u8 0, .slice none 0 0, .slice none 0 0, .slice none 0 0] := by rw [hW5]; exact RowIs.new w4 _ _
  have hP5 := hP4.below hal hP4.lt
  have hT5 : TkAt W5 TB X := RowIs.below hT4 hal (RowIs.lt hT4)
  have ho5 := ho4'.below hal (Nat.le_refl _)
  have hb5 := hb4.trans (hal.mono hhs)
  have hPN : PB ≠ w4.heap.size := Nat.ne_of_lt hP4.lt
  have hTN : TB ≠ w4.heap.size := Nat.ne_of_lt (RowIs.lt hT4)
  have hsz5 : PB ≤ W5.heap.size := Nat.le_of_lt hP5.lt
  have HW5 := Lib.hid hW5
  clear hW5 hal ho4 ho4' hT4 hP4 hb4 hbt hT3 hP3 hb3 htk oi ok ov
  obtain ⟨W6, hW6⟩ : ∃ W6, W6 = W5.setCells w4.heap.size 0 (#[.int .u8 (N.kind : Int), vi, vk, vv] : Array Value).toList := ⟨_, rfl⟩
  have hthere5 := hN5.there 0 4 (Nat.le_refl 4)
  have hN6 := store_row hN5 (D := #[.int .u8 (N.kind : Int), vi, vk, vv]) rfl
  rw [← hW6] at hN6
  have ho6 := ho5.store hN5 (#[.int .u8 (N.kind : Int), vi, vk, vv] : Array Value).toList 0
  rw [← hW6] at ho6
  have hT6 : TkAt W6 TB X := by rw [hW6]; exact (setCells_other w4.heap.size TB hTN _ 0 W5).trans hT5
  have hP6 : RowIs W6 PB 28 #[.int .u8 0, .slice none 0 0, .slice none 0 0, .slice none 0 0] := by rw [hW6]; exact (setCells_other w4.heap.size PB hPN _ 0 W5).trans hP5
  have hb6 : Below PB w W6 := by rw [hW6]; exact setCells_below w4.heap.size PB (Nat.le_of_lt (Nat.lt_of_le_of_ne (by omega) hPN)) _ 0 _ _ hb5
  have hnode := ho6.node
  have HW6 := Lib.hid hW6
  clear hW6 ho5 hT5 hP5 hb5 hN5
  have hszN : (Tryz.prog.info? 28).map (·.size) = some (#[.int .u8 (N.kind : Int), vi, vk, vv] : Array Value).size := by kernel_rfl
  have honeN : (#[.int .u8 (N.kind : Int), vi, vk, vv] : Array Value).all (·.oneCell') = true := by
   obtain ⟨hwf', vi', vk', vv', hv', oi', ok', ov'⟩ := ho6
   injection hv' with hv'
   have hv2 : [.int .u8 (N.kind : Int), vi, vk, vv] = [.int .u8 (N.kind : Int), vi', vk', vv'] := congrArg Array.toList hv'
   simp only [List.cons.injEq, and_true, true_and] at hv2
   obtain ⟨rfl, rfl, rfl⟩ := hv2
   obtain ⟨_, _, rfl⟩ := own_shape oi'
   obtain ⟨_, _, rfl⟩ := own_shape ok'
   obtain ⟨_, _, rfl⟩ := own_shape ov'
   simp [Value.oneCell']
  have hpost := fun h e w' => Hyes.out h (.agg #[.int .u8 (N.kind : Int), vi, vk, vv]) e w'
  go_wp2_with (first | (refine wpList_world HW5.out ?_) | (refine wpList_store_mid rfl 28 _ _ rfl w4.heap.size 0 #[.int .u8 (N.kind : Int), vi, vk, vv] rfl rfl hthere5 hszN honeN ?_; refine wpList_world HW6.out ?_) | (refine wpList_load_row rfl 28 _ rfl w4.heap.size rfl 28 #[.int .u8 (N.kind : Int), vi, vk, vv] (0, 0) _ hN6 Tryz.underlying28 rfl hszN ?_))
  refine (henc _ _ W6 hnode (Nat.le_refl _)).mono ?_
  rintro e w7 ⟨rfl, hbe⟩
  have hP7 := hP6.below hbe hP6.lt
  have hT7 : TkAt w7 TB X := RowIs.below hT6 hbe (RowIs.lt hT6)
  have hN7 := hN6.below hbe hN6.lt
  have ho7 := ho6.below hbe (Nat.le_refl _)
  have hb7 := hb6.trans (hbe.mono (Nat.le_of_lt hP6.lt))
  have hbad : w7.cell? ⟨TB, 1, none⟩ = some (.bool X.bad) := by rw [RowIs.cell hT7 1]; rfl
  have hthere7 := hP7.there 0 4 (Nat.le_refl 4)
  have hst9 := store_row hP7 (D := #[.int .u8 0, .slice none 0 0, .slice none 0 0, .slice none 0 0]) rfl
  have hsb9 := setCells_below PB PB (Nat.le_refl _) [.int .u8 0, .slice none 0 0, .slice none 0 0, .slice none 0 0] 0 _ _ hb7
  have hstN := store_row hP7 (D := #[.int .u8 (N.kind : Int), vi, vk, vv]) rfl
  have hsbN := setCells_below PB PB (Nat.le_refl _) (#[.int .u8 (N.kind : Int), vi, vk, vv] : Array Value).toList 0 _ _ hb7
  have hoN := ho7.store hP7 (#[.int .u8 (N.kind : Int), vi, vk, vv] : Array Value).toList 0
  have HD := Hdec
  clear hbe hN6 hT6 hP6 hb6 ho6 hnode henc hP7 hT7 ho7 Hyes Hdec
  have hE : ((strOf (encN N)).toList == s.toList) = decide (encN N = s.data.toList) := by
   rw [ByteArray.toList_eq, ByteArray.toList_eq]
   rw [Bool.eq_iff_iff]; simp [e2]
  generalize hEN : encN N = EN at *
  generalize strOf EN = ES at *
  cases hX : X.bad with
  | true =>
   rw [hX] at hbad
   have HN := Lib.hid (show ¬ decOk s.data.toList from fun h => by have := (HD.out.1 h).1; rw [hX] at this; cases this)
   clear hX HD hpost hE hstN hsbN hoN
   have HH := Lib.hid (And.intro hst9 hsb9)
   clear hst9 hsb9
   go_wp2_with (refine wpList_store_mid rfl 28 _ _ rfl PB 0 #[.int .u8 0, .slice none 0 0, .slice none 0 0, .slice none 0 0] rfl rfl hthere7 hsz0 hone0 ?_)
   refine bodyPost_ret (v := .tuple #[.agg #[.int .u8 0, .slice none 0 0, .slice none 0 0, .slice none 0 0], .int .i64 9]) (results_cell_tmp (p := 2) (q := 3) (ty := 28) (by rfl) _ _ PB 28 #[.int .u8 0, .slice none 0 0, .slice none 0 0, .slice none 0 0] (0, 0) _ (by rfl) HH.out.1 Tryz.underlying28 (by rfl) hsz0) (by rfl) ?_
   exact Hno.out HN.out _ _ rfl HH.out.2
  | false =>
   rw [hX] at hbad
   by_cases hC : C = 0
   ·subst hC
    by_cases hq : EN = s.data.toList
    ·rw [decide_eq_true hq] at hE
     have hne : (ES.toList != s.toList) = false := by rw [bne, hE]; rfl
     have HN := Lib.hid (HD.out.2 ⟨hX, rfl, hq⟩)
     have HH := Lib.hid (And.intro hstN (And.intro hsbN hoN))
     have HP := Lib.hid hpost
     clear hX HD hpost hq hst9 hsb9 hstN hsbN hoN
     go_wp2_with (first | (refine wpList_store_mid rfl 28 _ _ rfl PB 0 #[.int .u8 (N.kind : Int), vi, vk, vv] rfl rfl hthere7 hszN honeN ?_) | (refine wpList_load_row rfl 28 _ rfl w4.heap.size rfl 28 #[.int .u8 (N.kind : Int), vi, vk, vv] (0, 0) _ hN7 Tryz.underlying28 rfl hszN ?_))
     refine bodyPost_ret (v := .tuple #[.agg #[.int .u8 (N.kind : Int), vi, vk, vv], .int .i64 0]) (results_cell_tmp (p := 2) (q := 3) (ty := 28) (by rfl) _ _ PB 28 #[.int .u8 (N.kind : Int), vi, vk, vv] (0, 0) _ (by rfl) HH.out.1 Tryz.underlying28 (by rfl) hszN) (by rfl) ?_
     exact HP.out HN.out _ _ rfl HH.out.2.2 HH.out.2.1
    ·rw [decide_eq_false hq] at hE
     have hne : (ES.toList != s.toList) = true := by rw [bne, hE]; rfl
     have HN := Lib.hid (show ¬ decOk s.data.toList from fun h => hq (HD.out.1 h).2.2)
     clear hX HD hpost hq hstN hsbN hoN
     have HH := Lib.hid (And.intro hst9 hsb9)
     clear hst9 hsb9
     go_wp2_with (refine wpList_store_mid rfl 28 _ _ rfl PB 0 #[.int .u8 0, .slice none 0 0, .slice none 0 0, .slice none 0 0] rfl rfl hthere7 hsz0 hone0 ?_)
     refine bodyPost_ret (v := .tuple #[.agg #[.int .u8 0, .slice none 0 0, .slice none 0 0, .slice none 0 0], .int .i64 9]) (results_cell_tmp (p := 2) (q := 3) (ty := 28) (by rfl) _ _ PB 28 #[.int .u8 0, .slice none 0 0, .slice none 0 0, .slice none 0 0] (0, 0) _ (by rfl) HH.out.1 Tryz.underlying28 (by rfl) hsz0) (by rfl) ?_
     exact Hno.out HN.out _ _ rfl HH.out.2
   ·have hC1 : (C == 0) = false := by simpa using hC
    have hC2 : (C != 0) = true := by simpa using hC
    have HN := Lib.hid (show ¬ decOk s.data.toList from fun h => hC (HD.out.1 h).2.1)
    clear hX HD hpost hE hstN hsbN hoN
    have HH := Lib.hid (And.intro hst9 hsb9)
    clear hst9 hsb9
    go_wp2_with (refine wpList_store_mid rfl 28 _ _ rfl PB 0 #[.int .u8 0, .slice none 0 0, .slice none 0 0, .slice none 0 0] rfl rfl hthere7 hsz0 hone0 ?_)
    refine bodyPost_ret (v := .tuple #[.agg #[.int .u8 0, .slice none 0 0, .slice none 0 0, .slice none 0 0], .int .i64 9]) (results_cell_tmp (p := 2) (q := 3) (ty := 28) (by rfl) _ _ PB 28 #[.int .u8 0, .slice none 0 0, .slice none 0 0, .slice none 0 0] (0, 0) _ (by rfl) HH.out.1 Tryz.underlying28 (by rfl) hsz0) (by rfl) ?_
    exact Hno.out HN.out _ _ rfl HH.out.2

end Go.Proofs.YtimkklaidodkdaaGreatDoor
