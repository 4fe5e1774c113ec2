/- cambiumlaw05.lives: walked. -/
import Derived.Test.YtokanfceipkfpaaDoorKids2
import Derived.Test.YtokanfceipkfpaaDoorSame
namespace Go.Proofs.YtokanfceipkfpaaDoor
open Go.RowKit

/-! ### The answers, plainly -/
theorem trimR_zeros_end (l : List UInt8) (k : Nat) : trimR (l ++ List.replicate k 0) = trimR l := by
  unfold trimR Lib.trimRightB
  rw [List.reverse_append, List.reverse_replicate]
  congr 1
  induction k with
  | zero => rfl
  | succ k ih => rw [List.replicate_succ, List.cons_append, List.dropWhile_cons]; simp
theorem trimR_last (l : List UInt8) (c : UInt8) (h : c ≠ 0) : trimR (l ++ [c]) = l ++ [c] := by
  unfold trimR Lib.trimRightB
  rw [List.reverse_append, List.reverse_singleton, List.singleton_append, List.dropWhile_cons, if_neg (by simpa using h)]
  simp
/-- The block's data, where the bytes do not end in a zero. -/
theorem wholeL_last (l : List UInt8) (c : UInt8) (h : c ≠ 0) : wholeL (l ++ [c]) = beL (crc (padTo 508 (l ++ [c]))).toNat 4 ++ (l ++ [c]) := by
  rw [wholeL, headed]
  generalize (crc (padTo 508 (l ++ [c]))).toNat = n
  rw [padTo, ← List.append_assoc, trimR_zeros_end, ← List.append_assoc, trimR_last _ _ h]

def leafA : NodeD := ⟨1, [⟨⟨#[97]⟩, ⟨#[49]⟩⟩], [], []⟩
def branchA : NodeD := ⟨2, [], [⟨⟨#[97]⟩, 7, List.replicate 32 0⟩], []⟩
theorem leafA_wf : leafA.wf := ⟨by decide, by simp [leafA], by simp [leafA]⟩
theorem branchA_wf : branchA.wf := ⟨by decide, fun k hk => by simp only [branchA, List.mem_singleton] at hk; subst hk; exact ⟨by decide, rfl⟩, by simp [branchA]⟩
theorem leafA_ok : checkN leafA = 0 := by decide +kernel
theorem leafA_bytes : bytesN leafA = [1, 1, 1, 97, 1] ++ [49] := by decide +kernel
theorem leafA_enc : encN leafA = beL (crc (padTo 508 [1, 1, 1, 97, 1, 49])).toNat 4 ++ [1, 1, 1, 97, 1, 49] := by
  rw [encN, if_pos leafA_ok, leafA_bytes, wholeL_last _ _ (by decide)]; rfl
theorem leafA_len : (encN leafA).length = 10 := by rw [leafA_enc, List.length_append, beL_length]; rfl
theorem leafA_drop : (encN leafA).drop 4 = [1, 1, 1, 97, 1, 49] := by rw [leafA_enc, List.drop_left' (beL_length _ 4)]
theorem leafA_dec : decOk (encN leafA) ∧ nodeL (encN leafA) = leafA := by
  have h := dec_enc leafA leafA_wf leafA_ok
  exact ⟨h.1, by rw [nodeL, if_pos h.1, h.2]⟩
theorem empty_bad : checkN ⟨1, [], [], []⟩ = 4 := by decide +kernel
theorem leafA_x : ¬ decOk (encN leafA ++ [120]) := by
  rintro ⟨_, _, _, h⟩
  have e : startT (encN leafA ++ [120]) = ⟨bytesN leafA ++ ([120] ++ List.replicate 501 0), false⟩ := by
    rw [startT, padTo, leafA_enc, leafA_bytes]
    generalize (crc (padTo 508 [1, 1, 1, 97, 1, 49])).toNat = n
    have hl := beL_length n 4
    rw [List.append_assoc, List.append_assoc, List.drop_left' hl]
    simp only [List.length_append, hl]
    rfl
  rw [e, (take_back leafA leafA_wf ((check_ok _).1 leafA_ok).1 _).1] at h
  have := congrArg List.length h
  rw [List.length_append] at this
  simp at this
theorem branchA_kids : kidNums branchA = [7] := rfl
theorem branchA_size : sizeN branchA = 40 := by decide +kernel

theorem sl_one {α : Type} {f : α → List Value} {W : World} {b : Nat} {T : TypeId} {x : α} {z : Nat} (h : RowIs W b T (f x).toArray) : SlAt W.heap.size W (.slice (some ⟨b, 0, none⟩) 1 1) [x].length (fun i => ([x][i]?.map f).getD []) z := by
  refine ⟨_, _, rfl, by simp [maxLen], fun _ => ⟨b, 0, rfl, RowIs.lt h, fun i hi j v hv => ?_⟩⟩
  have h0 : i = 0 := by simpa using hi
  subst h0
  rw [Nat.zero_mul, Nat.add_zero, Nat.zero_add, h.cell]
  simpa using hv
theorem sl_nil {W : World} {B z : Nat} {f : Nat → List Value} : SlAt B W (.slice none 0 0) 0 f z := ⟨none, 0, rfl, Nat.zero_le _, fun h => absurd h (by omega)⟩
theorem leafA_fit : fitN leafA := ⟨⟨by decide, by decide, by decide⟩, fun x hx => by
  have : x = ⟨⟨#[97]⟩, ⟨#[49]⟩⟩ := by simpa [leafA] using hx
  subst this
  exact ⟨by decide, by decide⟩, by simp [leafA], by simp [leafA]⟩
theorem branchA_fit : fitN branchA := ⟨⟨by decide, by decide, by decide⟩, by simp [branchA], fun x hx => by
  have : x = ⟨⟨#[97]⟩, 7, List.replicate 32 0⟩ := by simpa [branchA] using hx
  subst this
  show ByteArray.size ⟨#[97]⟩ ≤ _
  decide, by simp [branchA]⟩
theorem empty_fit : fitN ⟨1, [], [], []⟩ := ⟨⟨by decide, by decide, by decide⟩, by simp, by simp, by simp⟩
theorem wpList_build_eq {P : Program} {ops : Array Oper} {rest : List Oper} {o : Oper} {a : Act} {w : World} {Q : Exit → Act → World → Prop} (hgd : o.guard = none) (t : TypeId) (parts : List (Nat × Operand)) (ho : o.op = .build t parts.toArray) (cells : Array Value)
    (hf : P.built t (parts.map fun (i, x) => (i, a.eval x)) = some cells) (k : wpList P ops Q rest (a.put o.dst (.agg cells)) w) : wpList P ops Q (o :: rest) a w :=
  wpList_plain hgd fun _ hK => wp_build_eq t parts ho cells hf (hK _ _ k)
theorem wpList_buildSlice_one {P : Program} {ops : Array Oper} {rest : List Oper} {o : Oper} {a : Act} {w : World} {Q : Exit → Act → World → Prop} (hgd : o.guard = none) (t e : TypeId) (x : Operand) (ho : o.op = .buildSlice t 1 #[(0, x)]) (hu : P.underlying t = some (.slice e)) (i : TypeInfo) (hi : P.info? e = some i) (z : Value) (hz : i.zero = some z)
    (size : Nat) (his : i.size = size) (C : Array Value) (hx : a.eval x = .agg C) (hC : C.size = size) (hp : 0 < size) (hm : size ≤ 65536)
    (k : wpList P ops Q rest (a.put o.dst (.slice (some ⟨w.heap.size, 0, none⟩) 1 1)) (w.alloc (.cells C e))) : wpList P ops Q (o :: rest) a w :=
  wpList_plain hgd fun _ hK => wp_buildSlice_one t e x ho hu i hi z hz size his C hx hC hp hm (hK _ _ k)
def kidA : KidD := ⟨⟨#[97]⟩, 7, List.replicate 32 0⟩
theorem built_kidA : Tryd.prog.built 55 [(0, .string ⟨#[97]⟩), (1, .int .u32 7)] = some (kidV kidA).toArray := by kernel_rfl
theorem OwnAt.shape {B : Nat} {w : World} {v : Value} {n : NodeD} (h : OwnAt B w v n) : ∃ p1 c1 p2 c2 p3 c3, v = .agg #[.int .u8 (n.kind : Int), .slice p1 n.items.length c1, .slice p2 n.kids.length c2, .slice p3 n.vols.length c3] := by
  obtain ⟨_, vi, vk, vv, rfl, a, b, c⟩ := h
  obtain ⟨p1, c1, rfl⟩ := own_shape a
  obtain ⟨p2, c2, rfl⟩ := own_shape b
  obtain ⟨p3, c3, rfl⟩ := own_shape c
  exact ⟨p1, c1, p2, c2, p3, c3, rfl⟩

theorem leafA_size : (strOf (encN leafA)).size = 10 := by rw [strOf_size, leafA_len]
theorem ext_of (E : List UInt8) (n k : Nat) (h : E.length = n) : (strOf E).extract k n = strOf (E.drop k) := by
  have := strOf_drop E k
  rwa [strOf_size, h] at this
theorem leafA_ext : (strOf (encN leafA)).extract 4 10 = ⟨#[1, 1, 1, 97, 1, 49]⟩ := by rw [ext_of _ 10 4 leafA_len, leafA_drop]; rfl
theorem live_dec (E : List UInt8) (n : NodeD) (h1 : decOk E) (h2 : nodeL E = n) (h3 : E.length ≤ 1000) (w' : World) : Calls Tryd.prog 6 #[.string (strOf E)] w' fun e w'' => ∃ v, e = .returned (.tuple #[v, .int .i64 0]) ∧ OwnAt w'.heap.size w'' v n ∧ Below w'.heap.size w' w'' := by
  refine (decode_calls (strOf E) w' (by rw [strOf_size]; omega)).mono ?_
  rintro e w'' ⟨v, he, ho, hb⟩
  have hd : (strOf E).data.toList = E := rfl
  rw [hd] at he ho
  rw [decE, if_pos h1] at he
  rw [h2] at ho
  exact ⟨v, he, ho, hb⟩
theorem live_bad (E : List UInt8) (h1 : ¬ decOk (E ++ [120])) (h3 : E.length ≤ 1000) (w' : World) : Calls Tryd.prog 6 #[.string (strOf E ++ ⟨#[120]⟩)] w' fun e w'' => ∃ v, e = .returned (.tuple #[v, .int .i64 9]) ∧ OwnAt w'.heap.size w'' v ⟨0, [], [], []⟩ ∧ Below w'.heap.size w' w'' := by
  have hd : (strOf E ++ ⟨#[120]⟩).data.toList = E ++ [120] := by simp [strOf]
  have hsz : (strOf E ++ ⟨#[120]⟩).size ≤ 140737488351232 := by
    have : (strOf E ++ ⟨#[120]⟩).data.toList.length = (strOf E ++ ⟨#[120]⟩).size := Array.length_toList
    rw [← this, hd, List.length_append]; simp; omega
  generalize strOf E ++ ⟨#[120]⟩ = X at *
  refine (decode_calls X w' hsz).mono ?_
  rintro e w'' ⟨v, he, ho, hb⟩
  rw [hd] at he ho
  rw [decE, if_neg h1] at he
  rw [nodeL, if_neg h1] at ho
  exact ⟨v, he, ho, hb⟩

theorem SlAt.mono {B C : Nat} {w : World} {v : Value} {n z : Nat} {cs : Nat → List Value} (h : SlAt B w v n cs z) (hC : B ≤ C) : SlAt C w v n cs z := by
  obtain ⟨a, cap, hv, hn, hr⟩ := h
  refine ⟨a, cap, hv, hn, fun h0 => ?_⟩
  obtain ⟨b, o, ha, hB, hc⟩ := hr h0
  exact ⟨b, o, ha, by omega, hc⟩
theorem NodeAt.mono {B C : Nat} {w : World} {v : Value} {n : NodeD} (h : NodeAt B w v n) (hC : B ≤ C) : NodeAt C w v n := by
  obtain ⟨hw, vi, vk, vv, hv, h1, h2, h3⟩ := h
  exact ⟨hw, vi, vk, vv, hv, SlAt.mono h1 hC, SlAt.mono h2 hC, SlAt.mono h3 hC⟩

set_option maxRecDepth 20000 in
set_option maxHeartbeats 3200000 in
theorem lives_calls (w : World) : Calls Tryd.prog 10 #[] w fun e w' => e = .returned (.bool true) ∧ Below w.heap.size w w' := by
  obtain ⟨iR0, hR, hRz0, hRz1, hRz2⟩ := info_parts info_kid
  have hs1 := leafA_size
  have hs2 := leafA_ext
  have hd1 := live_dec (encN leafA) leafA leafA_dec.1 leafA_dec.2 (by rw [leafA_len]; decide)
  have hd2 := live_bad (encN leafA) leafA_x (by rw [leafA_len]; decide)
  have he1 := fun B v w h hB => encode_calls B v leafA w h hB leafA_fit
  have he3 := fun B v w h hB => encode_calls B v ⟨1, [], [], []⟩ w h hB empty_fit
  have hk7 := fun B v w h hB => kidNums_calls B v branchA w h hB branchA_fit
  have hz7 := fun B v w h hB => sizew_calls B v branchA w h hB branchA_fit
  rw [leafA_ok] at he1
  rw [branchA_size, sw_small (by decide)] at hz7
  have hen3 : encN ⟨1, [], [], []⟩ = [] := by rw [encN, if_neg (by rw [empty_bad]; decide)]
  rw [empty_bad, hen3] at he3
  have hkn : (kidNums branchA).length = 1 ∧ numsV (kidNums branchA) = [.int .u32 7] := ⟨rfl, rfl⟩
  rw [hkn.1, hkn.2] at hk7
  obtain ⟨W1, hW1⟩ : ∃ W1, W1 = (w.alloc (.cells #[.string ⟨#[97]⟩, .string ⟨#[49]⟩] 51)).alloc (.cells #[.int .u8 1, .slice (some ⟨w.heap.size, 0, none⟩) 1 1, .slice none 0 0, .slice none 0 0] 27) := ⟨_, rfl⟩
  have hI1 : RowIs W1 w.heap.size 51 #[.string ⟨#[97]⟩, .string ⟨#[49]⟩] := by rw [hW1]; exact (RowIs.new w _ _).alloc _
  have hN1 : RowIs W1 (w.heap.size + 1) 27 #[.int .u8 1, .slice (some ⟨w.heap.size, 0, none⟩) 1 1, .slice none 0 0, .slice none 0 0] := by
    have := RowIs.new (w.alloc (.cells #[.string ⟨#[97]⟩, .string ⟨#[49]⟩] 51)) 27 #[.int .u8 1, .slice (some ⟨w.heap.size, 0, none⟩) 1 1, .slice none 0 0, .slice none 0 0]
    rw [hW1]; simpa using this
  have hb1 : Below w.heap.size w W1 := by rw [hW1]; exact ((Below.refl _ _).alloc (Nat.le_refl _) _).alloc (by simp) _
  have hA1 : NodeAt W1.heap.size W1 (.agg #[.int .u8 1, .slice (some ⟨w.heap.size, 0, none⟩) 1 1, .slice none 0 0, .slice none 0 0]) leafA := ⟨leafA_wf, _, _, _, rfl, sl_one (f := itemV) (x := ⟨⟨#[97]⟩, ⟨#[49]⟩⟩) hI1, sl_nil, sl_nil⟩
  have HW1 := Lib.hid hW1
  have Hs1 := Lib.hid hs1
  have Hs2 := Lib.hid hs2
  clear hW1 hkn hen3 hs1 hs2
  generalize encN leafA = E at *
  generalize strOf E = S at *
  go_enter Tryd.func10, Tryd.ntmps10
  go_wp2_with fail
  rw [← HW1.out]
  refine (he1 _ _ W1 hA1 (Nat.le_refl _)).mono ?_
  rintro e w2 ⟨rfl, hq⟩
  have hN2 := hN1.below hq hN1.lt
  have hA2 := hA1.below hq (Nat.le_refl _)
  have hle1 := hq.size
  have hb2 := hb1.trans (hq.mono hb1.size)
  clear hq hN1 hb1 hA1
  go_wp2_with fail
  refine (hd1 w2).mono ?_
  rintro e w3 ⟨v, rfl, ho3, hq⟩
  obtain ⟨p1, c1, p2, c2, p3, c3, hv⟩ := ho3.shape
  replace hv : v = .agg #[.int .u8 1, .slice p1 1 c1, .slice p2 0 c2, .slice p3 0 c3] := hv
  subst hv
  have hB3 : NodeAt w3.heap.size w3 (.agg #[.int .u8 1, .slice p1 1 c1, .slice p2 0 c2, .slice p3 0 c3]) leafA := ho3.node
  have hN3 := hN2.below hq hN2.lt
  have hsz2 := hb2.size
  have hA3 : NodeAt w2.heap.size w3 (.agg #[.int .u8 1, .slice (some ⟨w.heap.size, 0, none⟩) 1 1, .slice none 0 0, .slice none 0 0]) leafA := (hA2.mono hle1).below hq (Nat.le_refl _)
  have hb3 := hb2.trans (hq.mono hsz2)
  have hsz3 := hb3.size
  have hle3 := hq.size
  clear hq hN2 hb2 hA2 ho3 hd1 he1
  obtain ⟨W3, hW3⟩ : ∃ W3, W3 = w3.alloc (.cells #[.int .u8 1, .slice p1 1 c1, .slice p2 0 c2, .slice p3 0 c3] 27) := ⟨_, rfl⟩
  have hal := (Below.refl _ w3).alloc (Nat.le_refl _) (.cells #[.int .u8 1, .slice p1 1 c1, .slice p2 0 c2, .slice p3 0 c3] 27)
  have hM3 := RowIs.new w3 27 #[.int .u8 1, .slice p1 1 c1, .slice p2 0 c2, .slice p3 0 c3]
  rw [← hW3] at hal hM3
  have hN4 := hN3.below hal hN3.lt
  have hA4 := hA3.below hal hle3
  have hB4 := hB3.below hal (Nat.le_refl _)
  have hb4 := hb3.trans (hal.mono hsz3)
  have hlew : w2.heap.size ≤ W3.heap.size := Nat.le_trans hle3 hal.size
  have hlew2 : w3.heap.size ≤ W3.heap.size := hal.size
  have HW3 := Lib.hid hW3
  clear hW3 hal hN3 hA3 hB3 hb3
  go_wp2_with (refine wpList_world HW3.out ?_)
  refine (he3 0 _ W3 ⟨⟨by decide, by simp, by simp⟩, _, _, _, rfl, sl_nil, sl_nil, sl_nil⟩ (Nat.zero_le _)).mono ?_
  rintro e w5 ⟨rfl, hq⟩
  have hle5 := hq.size
  have hN5 := hN4.below hq hN4.lt
  have hM5 := hM3.below hq hM3.lt
  have hA5 := hA4.below hq hlew
  have hB5 := hB4.below hq hlew2
  have hsz4 := hb4.size
  have hb5 := hb4.trans (hq.mono hsz4)
  have hsz5 := hb5.size
  clear hq hN4 hM3 hA4 hB4 hb4 he3
  have hss : S.size ≤ 100 := by rw [Hs1.out]; decide
  have hsx : (⟨#[120]⟩ : ByteArray).size = 1 := rfl
  go_wp2_with fail
  clear hss hsx
  refine (hd2 w5).mono ?_
  rintro e w6 ⟨v, rfl, ho6, hq⟩
  obtain ⟨p4, c4, p5, c5, p6, c6, hv⟩ := ho6.shape
  replace hv : v = .agg #[.int .u8 0, .slice p4 0 c4, .slice p5 0 c5, .slice p6 0 c6] := hv
  subst hv
  have hN6 := hN5.below hq hN5.lt
  have hM6 := hM5.below hq hM5.lt
  have hA6 := (hA5.mono (Nat.le_trans hlew hle5)).below hq (Nat.le_refl _)
  have hB6 := (hB5.mono (Nat.le_trans hlew2 hle5)).below hq (Nat.le_refl _)
  have hb6 := hb5.trans (hq.mono hsz5)
  have hsz6 := hb6.size
  have hle6 := hq.size
  clear hq hN5 hM5 hA5 hB5 hb5 ho6 hd2
  obtain ⟨W6, hW6⟩ : ∃ W6, W6 = w6.alloc (.cells #[.int .u8 0, .slice p4 0 c4, .slice p5 0 c5, .slice p6 0 c6] 27) := ⟨_, rfl⟩
  obtain ⟨W7, hW7⟩ : ∃ W7, W7 = W6.alloc (.cells (kidV kidA).toArray 55) := ⟨_, rfl⟩
  obtain ⟨W8, hW8⟩ : ∃ W8, W8 = W7.alloc (.cells #[.int .u8 2, .slice none 0 0, .slice (some ⟨W6.heap.size, 0, none⟩) 1 1, .slice none 0 0] 27) := ⟨_, rfl⟩
  have hal : Below w6.heap.size w6 W8 := by rw [hW8, hW7, hW6]; exact (((Below.refl _ _).alloc (Nat.le_refl _) _).alloc (by simp) _).alloc (by simp; omega) _
  have hK8 : RowIs W8 W6.heap.size 55 (kidV kidA).toArray := by rw [hW8, hW7]; exact (RowIs.new W6 _ _).alloc _
  have hL8 : RowIs W8 W7.heap.size 27 #[.int .u8 2, .slice none 0 0, .slice (some ⟨W6.heap.size, 0, none⟩) 1 1, .slice none 0 0] := by rw [hW8]; exact RowIs.new W7 _ _
  have hC8 : NodeAt W8.heap.size W8 (.agg #[.int .u8 2, .slice none 0 0, .slice (some ⟨W6.heap.size, 0, none⟩) 1 1, .slice none 0 0]) branchA := ⟨branchA_wf, _, _, _, rfl, sl_nil, sl_one (f := kidV) (x := kidA) hK8, sl_nil⟩
  have hN8 := hN6.below hal hN6.lt
  have hM8 := hM6.below hal hM6.lt
  have hA8 := hA6.below hal hle6
  have hB8 := hB6.below hal hle6
  have hb8 := hb6.trans (hal.mono hsz6)
  have hsz8 := hb8.size
  have hkA : (kidV kidA).toArray.size = 34 := by rw [List.size_toArray]; rfl
  have hbk := built_kidA
  have hle8 := hal.size
  have HW6 := Lib.hid hW6
  have HW7 := Lib.hid hW7
  have HW8 := Lib.hid hW8
  have HkA := Lib.hid hkA
  have hszL : (Tryd.prog.info? 27).map (·.size) = some (#[.int .u8 2, .slice none 0 0, .slice (some ⟨W6.heap.size, 0, none⟩) 1 1, .slice none 0 0] : Array Value).size := by kernel_rfl
  have Hbk := Lib.hid hbk
  clear hW6 hW7 hW8 hal hN6 hM6 hA6 hB6 hb6 hK8 hkA hbk
  generalize hKA : (kidV kidA).toArray = KA at *
  clear hKA
  go_wp2_with (first | (refine wpList_world HW6.out ?_) | (refine wpList_world HW7.out ?_) | (refine wpList_world HW8.out ?_) | (refine wpList_build_eq rfl 55 [(0, .const (.string ⟨#[97]⟩)), (1, .const (.int .u32 7))] rfl KA (by exact Hbk.out) ?_) | (refine wpList_buildSlice_one rfl 24 55 _ rfl Tryd.underlying24 iR0 hR _ hRz0 34 hRz1 KA rfl HkA.out (by omega) (by omega) ?_) | (refine wpList_load_row rfl 27 _ rfl W7.heap.size rfl 27 #[.int .u8 2, .slice none 0 0, .slice (some ⟨W6.heap.size, 0, none⟩) 1 1, .slice none 0 0] (0, 0) _ hL8 Tryd.underlying27 rfl hszL ?_))
  refine (hk7 _ _ W8 hC8 (Nat.le_refl _)).mono ?_
  rintro e w9 ⟨r, rfl, hr9, hq⟩
  obtain ⟨g, cap, hr, hg7⟩ : ∃ g cap, r = .slice (some ⟨g, 0, none⟩) 1 cap ∧ w9.cell? ⟨g, 0, none⟩ = some (.int .u32 7) := by
    rcases hr9.2 with ⟨_, h⟩ | ⟨g, cap, cur, hv, _⟩
    · cases h
    · subst hv
      have := hr9.cells (g := g) rfl 0 (.int .u32 7) rfl
      rw [Addr.add_mid] at this
      exact ⟨g, cap, rfl, this⟩
  subst hr
  have hN9 := hN8.below hq hN8.lt
  have hM9 := hM8.below hq hM8.lt
  have hL9 := hL8.below hq hL8.lt
  have hA9 := (hA8.mono (Nat.le_trans hle6 hle8)).below hq (Nat.le_refl _)
  have hB9 := (hB8.mono (Nat.le_trans hle6 hle8)).below hq (Nat.le_refl _)
  have hC9 := hC8.below hq (Nat.le_refl _)
  have hb9 := hb8.trans (hq.mono hsz8)
  have hle9 := hq.size
  have hsz9 := hb9.size
  have hszA : (Tryd.prog.info? 27).map (·.size) = some (#[.int .u8 1, .slice (some ⟨w.heap.size, 0, none⟩) 1 1, .slice none 0 0, .slice none 0 0] : Array Value).size := by kernel_rfl
  have hszB : (Tryd.prog.info? 27).map (·.size) = some (#[.int .u8 1, .slice p1 1 c1, .slice p2 0 c2, .slice p3 0 c3] : Array Value).size := by kernel_rfl
  have hsame := same_calls _ _ _ leafA leafA w9 hA9 hB9 hle9
  have hsz10 := fun w' (hb : Below w9.heap.size w9 w') => hz7 W8.heap.size _ w' (hC9.below hb hle9) (Nat.le_trans hle9 hb.size)
  rw [(sameN_iff leafA leafA).2 rfl] at hsame
  clear hq hr9 hN8 hM8 hL8 hA8 hB8 hC8 hb8 hA9 hB9 hC9 hk7 hz7
  have hs1 := Hs1.out
  have hs2 := Hs2.out
  go_wp2_with (first | (refine wpList_load_rowG 27 _ rfl (w.heap.size + 1) rfl (by rfl) 27 #[.int .u8 1, .slice (some ⟨w.heap.size, 0, none⟩) 1 1, .slice none 0 0, .slice none 0 0] (0, 0) _ hN9 Tryd.underlying27 rfl hszA ?_) | (refine wpList_load_rowG 27 _ rfl w3.heap.size rfl (by rfl) 27 #[.int .u8 1, .slice p1 1 c1, .slice p2 0 c2, .slice p3 0 c3] (0, 0) _ hM9 Tryd.underlying27 rfl hszB ?_))
  refine hsame.mono ?_
  rintro e w10 ⟨rfl, hq⟩
  have hL10 := hL9.below hq hL9.lt
  have hg10 : w10.cell? ⟨g, 0, none⟩ = some (.int .u32 7) := by rw [hq.cell (p := ⟨g, 0, none⟩) (by exact World.block_lt_of_cell? w9 _ hg7)]; exact hg7
  have hz10 := hsz10 w10 hq
  have hb10 := hb9.trans (hq.mono hsz9)
  clear hq hL9 hg7 hsz10 hb9 hs1 hs2
  go_wp2_with (refine wpList_load_rowG 27 _ rfl W7.heap.size rfl (by rfl) 27 #[.int .u8 2, .slice none 0 0, .slice (some ⟨W6.heap.size, 0, none⟩) 1 1, .slice none 0 0] (0, 0) _ hL10 Tryd.underlying27 rfl hszL ?_)
  refine hz10.mono ?_
  rintro e w11 ⟨rfl, hq⟩
  have hb11 := hb10.trans (hq.mono hb10.size)
  clear hq hL10 hg10
  go_wp2_with fail
  go_ret
  exact ⟨rfl, hb11⟩

end Go.Proofs.YtokanfceipkfpaaDoor
