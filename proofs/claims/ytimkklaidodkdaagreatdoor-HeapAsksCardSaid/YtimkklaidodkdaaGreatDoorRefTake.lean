/- cambiumref05.Bag.take: walked. -/
import Derived.Test.YtimkklaidodkdaaGreatDoorRefHash
import Derived.Test.YtimkklaidodkdaaGreatDoorLit
import Derived.WalkMore
namespace Go.Proofs.YtimkklaidodkdaaGreatDoor
open Go.RowKit

structure TakingR (B b N : Nat) (w : World) (t : TkD) (kind : Nat) (vi vk vv : Value) (items : List ItemD) (kids : List KidD) (vols : List VolD) : Prop where
 tk : BgAt w b t
 nd : RowIs w N 28 #[.int .u8 (kind : Int), vi, vk, vv]
 oi : w.ownsRow B 44 2 vi items.length (items.flatMap itemV)
 ok : w.ownsRow B 38 34 vk kids.length (kids.flatMap kidV)
 ov : w.ownsRow B 89 37 vv vols.length (vols.flatMap volV)
theorem TakingR.but {B b N : Nat} {w w' : World} {t t' : TkD} {kind : Nat} {vi vk vv : Value} {items : List ItemD} {kids : List KidD} {vols : List VolD} (h : TakingR B b N w t kind vi vk vv items kids vols) (hb : But b w w') (ht : BgAt w' b t') (hN : N ≠ b) :
  TakingR B b N w' t' kind vi vk vv items kids vols := by
 have hq : ∀ (e : TypeId) c, e ≠ 159 → w.heap[b]? ≠ some (.cells c e (0, 0)) := fun e c he hx => by
  have := h.tk
  unfold BgAt RowIs at this
  rw [hx] at this
  injection this with this
  injection this with _ h2 _
  exact he h2
 exact ⟨ht, h.nd.but hb hN, ownsRow_but h.oi hb (fun c => hq _ c (by decide)), ownsRow_but h.ok hb (fun c => hq _ c (by decide)), ownsRow_but h.ov hb (fun c => hq _ c (by decide))⟩
theorem TakingR.below {B b N : Nat} {w w' : World} {t : TkD} {kind : Nat} {vi vk vv : Value} {items : List ItemD} {kids : List KidD} {vols : List VolD} (h : TakingR B b N w t kind vi vk vv items kids vols) (hb : Below w.heap.size w w') : TakingR B b N w' t kind vi vk vv items kids vols :=
 ⟨RowIs.below h.tk hb (RowIs.lt h.tk), h.nd.below hb h.nd.lt, ownsRow_below h.oi hb, ownsRow_below h.ok hb, ownsRow_below h.ov hb⟩

theorem TakingR.own {B b N : Nat} {w : World} {t : TkD} {kind : Nat} {vi vk vv : Value} {items : List ItemD} {kids : List KidD} {vols : List VolD} (h : TakingR B b N w t kind vi vk vv items kids vols) (hw : (⟨kind, items, kids, vols⟩ : NodeD).wf) : OwnAt B w (.agg #[.int .u8 (kind : Int), vi, vk, vv]) ⟨kind, items, kids, vols⟩ := ⟨hw, vi, vk, vv, rfl, h.oi, h.ok, h.ov⟩

theorem rwp_build {P : Program} {ops : Array Oper} {rest : List Oper} {o : Oper} {a : Act} {w : World} {Q : Exit → Act → World → Prop} (hgd : o.guard = none) (t : TypeId) (parts : List (Nat × Operand)) (ho : o.op = .build t parts.toArray) (cells : Array Value)
  (hf : P.built t (parts.map fun (i, x) => (i, a.eval x)) = some cells) (k : wpList P ops Q rest (a.put o.dst (.agg cells)) w) : wpList P ops Q (o :: rest) a w :=
 wpList_plain hgd fun _ hK => wp_build_eq t parts ho cells hf (hK _ _ k)
theorem rwp_slice1 {P : Program} {ops : Array Oper} {rest : List Oper} {o : Oper} {a : Act} {w : World} {Q : Exit → Act → World → Prop} (hgd : o.guard = none) (t e : TypeId) (x : Operand) (ho : o.op = .buildSlice t 1 #[(0, x)]) (hu : P.underlying t = some (.slice e)) (i : TypeInfo) (hi : P.info? e = some i) (z : Value) (hz : i.zero = some z) (size : Nat) (his : i.size = size) (C : Array Value) (hx : a.eval x = .agg C) (hC : C.size = size) (hp : 0 < size) (hm : size ≤ 65536)
  (k : wpList P ops Q rest (a.put o.dst (.slice (some ⟨w.heap.size, 0, none⟩) 1 1)) (w.alloc (.cells C e))) : wpList P ops Q (o :: rest) a w :=
 wpList_plain hgd fun _ hK => wp_buildSlice_one t e x ho hu i hi z hz size his C hx hC hp hm (hK _ _ k)
theorem setIf_list (l : List Value) (i : Nat) (v : Value) : l.toArray.setIfInBounds i v = (l.set i v).toArray := by simp
theorem mid_row {w : World} {b o : Nat} {T : TypeId} (pre : List Value) (z h : List UInt8) (ho : pre.length = o) (hz : z.length = 32) (hh : h.length = 32) (hr : RowIs w b T (pre ++ bytesV z).toArray) : RowIs (w.setCells b o (byteCells h).toList) b T (pre ++ bytesV h).toArray := by
 have := setCells_row b T (byteCells h).toList o w _ hr (by rw [byteCells_toList, List.length_map, hh, List.size_toArray, List.length_append, bytesV, List.length_map, hz, ho]; exact Nat.le_refl _)
 have e : ((pre ++ bytesV z).toArray.toList.take o ++ (byteCells h).toList ++ (pre ++ bytesV z).toArray.toList.drop (o + (byteCells h).toList.length)) = pre ++ bytesV h := by
  show (pre ++ bytesV z).take o ++ bytesV h ++ (pre ++ bytesV z).drop (o + (bytesV h).length) = _
  rw [← ho, List.take_left, List.drop_of_length_le (by simp [bytesV, hz, hh]), List.append_nil]
 rwa [e] at this
theorem built_itemR (s : ByteArray) : Tryz.prog.built 44 [(0, .string s)] = some (itemV ⟨s, ⟨#[]⟩⟩).toArray := by kernel_rfl
theorem built_kidR (s : ByteArray) : Tryz.prog.built 38 [(0, .string s)] = some (kidV ⟨s, 0, List.replicate 32 0⟩).toArray := by kernel_rfl
theorem built_volR (s : ByteArray) : Tryz.prog.built 89 [(0, .string s)] = some (volV ⟨s, 0, ⟨#[]⟩, 0, 0, List.replicate 32 0⟩).toArray := by kernel_rfl
theorem built_nodeR (k : Nat) : Tryz.prog.built 28 [(0, .int .u8 (k : Int))] = some #[.int .u8 (k : Int), .slice none 0 0, .slice none 0 0, .slice none 0 0] := by kernel_rfl
def itemZ : Array Value := #[.string ⟨#[]⟩, .string ⟨#[]⟩]
theorem itemV_oneR (x : ItemD) : (itemV x).toArray.all (·.oneCell') = true := by simp [itemV, Value.oneCell']
set_option maxRecDepth 100000 in
set_option maxHeartbeats 6400000 in
theorem btake_items_calls (b : Nat) (t : TkD) (w : World) (h : BgAt w b t) (hkk : kindT t = 1) :
  Calls Tryz.prog 86 #[.pointer (some ⟨b, 0, none⟩)] w fun e w' => ∃ v, e = .returned v ∧ OwnAt w.heap.size w' v (takeNR t) ∧ BgAt w' b (takeX t) ∧ But b w w' := by
 obtain ⟨iE, hE, hEz0, hEz1, hEz2⟩ := info_parts info_item
 have hkt := numT_lt t 1
 have hn1 := fun w h => bgnumber_calls b t 1 w h (by omega) (by omega)
 have hn2 := fun w h => bgnumber_calls b (tkNext t 1) 1 w h (by omega) (by omega)
 rw [show ((1 : Nat) : Int) = 1 from rfl] at hn1 hn2
 have hct := numT_lt (tkNext t 1) 1
 have hbody : tkNext (tkNext t 1) 1 = bodyT t := rfl
 have hkind : numT t 1 = kindT t := rfl
 have hcount : numT (tkNext t 1) 1 = countT t := rfl
 rw [hbody, hcount] at hn2
 rw [hkind] at hn1 hkt
 rw [hcount] at hct
 have hbw := RowIs.lt h
 clear hbody hkind hcount
 have hms := manyR_start itemTR itemN t
 have hTN : takeNR t = (if kindT t = 1 then ⟨1, manyT itemTR itemN (countT t) (bodyT t), [], []⟩ else if kindT t = 2 then ⟨2, [], manyT kidTR kidN (countT t) (bodyT t), []⟩ else if kindT t = 3 then ⟨3, [], [], manyT volTR volN (countT t) (bodyT t)⟩ else ⟨kindT t, [], [], []⟩) := rfl
 have hTX : takeX t = (if kindT t = 1 then manyN itemN (countT t) (bodyT t) else if kindT t = 2 then manyN kidN (countT t) (bodyT t) else if kindT t = 3 then manyN volN (countT t) (bodyT t) else if countT t = 0 then bodyT t else ⟨(bodyT t).left, true⟩) := rfl
 have hwfT := takeNR_wf t
 generalize takeNR t = NN at *
 generalize takeX t = TX at *
 generalize kindT t = kind at *
 generalize countT t = cnt at *
 generalize bodyT t = body at *
 generalize tkNext t 1 = t1 at *
 have hk8 : IntKind.u8.wrap (kind : Int) = (kind : Int) := by rw [IntKind.wrap_u8]; omega
 have hk64 : IntKind.i64.wrap (cnt : Int) = (cnt : Int) := by rw [IntKind.wrap_i64]; omega
 subst hkk
 rw [if_pos rfl] at hTX hTN
 have HT := Lib.hid (And.intro hTN hTX)
 have HMS := Lib.hid hms
 clear hTN hTX hms
 obtain ⟨PB, hPP⟩ : ∃ PB, PB = w.heap.size := ⟨_, rfl⟩
 obtain ⟨WP, hWP⟩ : ∃ W, W = w.alloc (.cells #[.int .u8 0, .slice none 0 0, .slice none 0 0, .slice none 0 0] 28) := ⟨_, rfl⟩
 have hP0 : RowIs WP PB 28 #[.int .u8 0, .slice none 0 0, .slice none 0 0, .slice none 0 0] := by rw [hWP, hPP]; exact RowIs.new w _ _
 have hT0 : BgAt WP b t := by rw [hWP]; exact RowIs.alloc h _
 have hb0 : But b w WP := by rw [hWP]; exact (But.refl b w).alloc _
 have hPb : PB ≠ b := by omega
 have hcall := hn1 WP hT0
 have HWP := Lib.hid hWP
 have HPP := Lib.hid hPP
 have HF := Lib.hid (And.intro hP0 (And.intro hb0 hn2))
 clear hWP hPP hP0 hT0 hb0 hn1 hn2 h
 go_enter Tryz.func86, Tryz.ntmps86
 go_wp2_with (refine wpList_world HWP.out ?_)
 rw [← HPP.out]
 refine hcall.mono ?_
 rintro e w1 ⟨rfl, hT1, hbt⟩
 obtain ⟨hP0, hb0, hn2⟩ := HF.out
 have hP1 := hP0.but hbt hPb
 have hb1 := hb0.trans hbt
 obtain ⟨WN, WN2, hWN, hWN2, hN2, hbn, hthn⟩ := alloc_fill w1 #[.int .u8 0, .slice none 0 0, .slice none 0 0, .slice none 0 0] #[.int .u8 1, .slice none 0 0, .slice none 0 0, .slice none 0 0] 28 rfl
 have hszn : (Tryz.prog.info? 28).map (·.size) = some (#[.int .u8 1, .slice none 0 0, .slice none 0 0, .slice none 0 0] : Array Value).size := by kernel_rfl
 have honn : (#[.int .u8 1, .slice none 0 0, .slice none 0 0, .slice none 0 0] : Array Value).all (·.oneCell') = true := by simp [Value.oneCell']
 have hP2 := hP1.below hbn hP1.lt
 have hT2 : BgAt WN2 b t1 := RowIs.below hT1 hbn (RowIs.lt hT1)
 have hb2 := hb1.thenBelow (hbn.mono hb1.size)
 have hNb : w1.heap.size ≠ b := by have := RowIs.lt hT1; omega
 have hNP : PB ≠ w1.heap.size := by have := hP1.lt; omega
 have hNge : PB ≤ w1.heap.size := Nat.le_of_lt hP1.lt
 have hcall := hn2 WN2 hT2
 have HBN := Lib.hid (show Tryz.prog.built 28 [(0, .int .u8 1)] = some #[.int .u8 1, .slice none 0 0, .slice none 0 0, .slice none 0 0] from built_nodeR 1)
 have HWN := Lib.hid hWN
 have HWN2 := Lib.hid hWN2
 have HF2 := Lib.hid (And.intro hP2 (And.intro hb2 hN2))
 clear hWN hWN2 hP2 hT2 hb2 hbn hT1 hbt hP1 hb1 hP0 hb0 hn2 HF hN2
 go_wp2_with (first | (refine rwp_build rfl 28 [(0, .tmp 11)] rfl #[.int .u8 1, .slice none 0 0, .slice none 0 0, .slice none 0 0] (by exact HBN.out) ?_) | (refine wpList_world HWN.out ?_) | (refine wpList_store_mid rfl 28 _ _ rfl w1.heap.size 0 #[.int .u8 1, .slice none 0 0, .slice none 0 0, .slice none 0 0] rfl rfl hthn hszn honn ?_; refine wpList_world HWN2.out ?_))
 generalize w1.heap.size = N at *
 refine hcall.mono ?_
 rintro e w3 ⟨rfl, hT4, hbt⟩
 obtain ⟨hP2, hb2, hN2⟩ := HF2.out
 have hN4 := hN2.but hbt hNb
 have hP4 := hP2.but hbt hPb
 have hb5 := hb2.trans hbt
 have ho0 : ∀ (e : TypeId) (z : Nat), w3.ownsRow PB e z (.slice none 0 0) 0 [] := fun e z => ⟨by simp, .inl ⟨rfl, rfl⟩⟩
 have hk0 : TakingR PB b N w3 body 1 (.slice none 0 0) (.slice none 0 0) (.slice none 0 0) [] [] [] := ⟨hT4, hN4, ho0 _ _, ho0 _ _, ho0 _ _⟩
 clear hN2 hP2 hb2 hcall hbt hT4 hN4 ho0 HF2 hthn hszn honn
 go_wp2_with fail
 go_loopw [5] (fun v wr => ∃ c acc tt vi, c ≤ cnt ∧ v = .int .i64 ((cnt - c : Nat) : Int) ∧ TakingR PB b N wr tt 1 vi (.slice none 0 0) (.slice none 0 0) acc [] [] ∧ acc ++ manyTR itemTR itemN c tt = manyT itemTR itemN cnt body ∧ manyNR itemN c tt = manyN itemN cnt body ∧ acc.length + c = cnt ∧
  But b w wr ∧ RowIs wr PB 28 #[.int .u8 0, .slice none 0 0, .slice none 0 0, .slice none 0 0]) (fun v _ => cnt - (intOf v).toNat)
 case atStart => exact ⟨cnt, [], body, _, Nat.le_refl _, by simp, hk0, by rw [List.nil_append]; exact HMS.out.1, HMS.out.2, by simp, hb5, hP4⟩
 case round =>
  clear hk0 hb5 hP4
  obtain ⟨c, acc, tt, vi, hc, rfl, hk0, hacc, hmany, hal, hb0, hPr⟩ := hrel
  have HA := Lib.hid (And.intro hacc hmany)
  have HK := Lib.hid hk0
  have HB := Lib.hid (And.intro hb0 hPr)
  clear hacc hmany
  have hBb : wr.cell? ⟨b, 1, none⟩ = some (.bool tt.bad) := by rw [RowIs.cell hk0.tk 1]; rfl
  have hnil : ∀ (p : c = 0 ∨ tt.bad = true), NN = ⟨1, acc, [], []⟩ ∧ TX = tt := fun p => by
   obtain ⟨e1, e2⟩ := manyR_end (f := itemTR) (g := itemN) p
   have h1 := HA.out.1
   have h2 := HA.out.2
   rw [e1, List.append_nil] at h1
   rw [e2] at h2
   exact ⟨by rw [HT.out.1, ← h1], by rw [HT.out.2, ← h2]⟩
  have HNIL := Lib.hid hnil
  clear hnil
  by_cases hc0 : c = 0
  ·subst hc0
   have hlt : ¬ ((cnt - 0 : Nat) : Int) < (cnt : Int) := by omega
   have hltd : decide (((cnt - 0 : Nat) : Int) < (cnt : Int)) = false := decide_eq_false hlt
   have HN := Lib.hid (HNIL.out (.inl rfl)).1
   have HX := Lib.hid (HNIL.out (.inl rfl)).2
   obtain ⟨p3, c3, rfl⟩ : ∃ p c, vi = .slice p acc.length c := own_shape hk0.oi
   have hwf2 := hwfT
   rw [HN.out] at hwf2
   have hst := store_row hPr (D := #[.int .u8 1, .slice p3 acc.length c3, .slice none 0 0, .slice none 0 0]) rfl
   have hthere := (hPr).there 0 4 (Nat.le_refl 4)
   have hnd := hk0.nd
   have hone : (#[.int .u8 1, .slice p3 acc.length c3, .slice none 0 0, .slice none 0 0] : Array Value).all (·.oneCell') = true := by simp [Value.oneCell']
   have hsz4 : (Tryz.prog.info? 28).map (·.size) = some (#[.int .u8 1, .slice p3 acc.length c3, .slice none 0 0, .slice none 0 0] : Array Value).size := by kernel_rfl
   have hbz := (hb0).thenBelow (v := wr.setCells PB 0 (#[.int .u8 1, .slice p3 acc.length c3, .slice none 0 0, .slice none 0 0] : Array Value).toList) (by rw [HPP.out]; exact setCells_below w.heap.size w.heap.size (Nat.le_refl _) _ 0 _ _ (Below.refl w.heap.size wr))
   have hkz := (hk0.own hwf2).store hPr (#[.int .u8 1, .slice p3 acc.length c3, .slice none 0 0, .slice none 0 0] : Array Value).toList 0
   have hTz : BgAt (wr.setCells PB 0 (#[.int .u8 1, .slice p3 acc.length c3, .slice none 0 0, .slice none 0 0] : Array Value).toList) b TX := by rw [HX.out]; exact (setCells_other PB b (fun q => hPb q.symm) _ 0 wr).trans hk0.tk
   have HZ := Lib.hid (And.intro hst (And.intro hbz (And.intro hkz hTz)))
   clear hst hbz hkz hTz
   go_wp2_with (first | (refine wpList_load_row rfl 28 _ rfl N rfl 28 #[.int .u8 1, .slice p3 acc.length c3, .slice none 0 0, .slice none 0 0] (0, 0) _ hnd Tryz.underlying28 rfl hsz4 ?_) | (refine wpList_store_mid rfl 28 _ _ rfl PB 0 #[.int .u8 1, .slice p3 acc.length c3, .slice none 0 0, .slice none 0 0] rfl rfl hthere hsz4 hone ?_))
   try rw [Exit.noGoto_ret]
   refine bodyPost_ret (v := .agg #[.int .u8 1, .slice p3 acc.length c3, .slice none 0 0, .slice none 0 0]) (results_cell_row (p := 2) (ty := 28) (by rfl) _ _ PB 28 #[.int .u8 1, .slice p3 acc.length c3, .slice none 0 0, .slice none 0 0] (0, 0) _ (by rfl) HZ.out.1 Tryz.underlying28 (by rfl) hsz4) (by rfl) ?_
   exact ⟨_, rfl, by rw [HN.out, ← HPP.out]; exact HZ.out.2.2.1, HZ.out.2.2.2, HZ.out.2.1⟩
  ·have hlt : ((cnt - c : Nat) : Int) < (cnt : Int) := by omega
   cases hbad : tt.bad with
   | true =>
    rw [hbad] at hBb
    have HN := Lib.hid (HNIL.out (.inr hbad)).1
    have HX := Lib.hid (HNIL.out (.inr hbad)).2
    obtain ⟨p3, c3, rfl⟩ : ∃ p c, vi = .slice p acc.length c := own_shape hk0.oi
    have hwf2 := hwfT
    rw [HN.out] at hwf2
    have hst := store_row hPr (D := #[.int .u8 1, .slice p3 acc.length c3, .slice none 0 0, .slice none 0 0]) rfl
    have hthere := (hPr).there 0 4 (Nat.le_refl 4)
    have hnd := hk0.nd
    have hone : (#[.int .u8 1, .slice p3 acc.length c3, .slice none 0 0, .slice none 0 0] : Array Value).all (·.oneCell') = true := by simp [Value.oneCell']
    have hsz4 : (Tryz.prog.info? 28).map (·.size) = some (#[.int .u8 1, .slice p3 acc.length c3, .slice none 0 0, .slice none 0 0] : Array Value).size := by kernel_rfl
    have hbz := (hb0).thenBelow (v := wr.setCells PB 0 (#[.int .u8 1, .slice p3 acc.length c3, .slice none 0 0, .slice none 0 0] : Array Value).toList) (by rw [HPP.out]; exact setCells_below w.heap.size w.heap.size (Nat.le_refl _) _ 0 _ _ (Below.refl w.heap.size wr))
    have hkz := (hk0.own hwf2).store hPr (#[.int .u8 1, .slice p3 acc.length c3, .slice none 0 0, .slice none 0 0] : Array Value).toList 0
    have hTz : BgAt (wr.setCells PB 0 (#[.int .u8 1, .slice p3 acc.length c3, .slice none 0 0, .slice none 0 0] : Array Value).toList) b TX := by rw [HX.out]; exact (setCells_other PB b (fun q => hPb q.symm) _ 0 wr).trans hk0.tk
    have HZ := Lib.hid (And.intro hst (And.intro hbz (And.intro hkz hTz)))
    clear hst hbz hkz hTz
    go_wp2_with (first | (refine wpList_load_row rfl 28 _ rfl N rfl 28 #[.int .u8 1, .slice p3 acc.length c3, .slice none 0 0, .slice none 0 0] (0, 0) _ hnd Tryz.underlying28 rfl hsz4 ?_) | (refine wpList_store_mid rfl 28 _ _ rfl PB 0 #[.int .u8 1, .slice p3 acc.length c3, .slice none 0 0, .slice none 0 0] rfl rfl hthere hsz4 hone ?_))
    try rw [Exit.noGoto_ret]
    refine bodyPost_ret (v := .agg #[.int .u8 1, .slice p3 acc.length c3, .slice none 0 0, .slice none 0 0]) (results_cell_row (p := 2) (ty := 28) (by rfl) _ _ PB 28 #[.int .u8 1, .slice p3 acc.length c3, .slice none 0 0, .slice none 0 0] (0, 0) _ (by rfl) HZ.out.1 Tryz.underlying28 (by rfl) hsz4) (by rfl) ?_
    exact ⟨_, rfl, by rw [HN.out, ← HPP.out]; exact HZ.out.2.2.1, HZ.out.2.2.2, HZ.out.2.1⟩
   | false =>
    rw [hbad] at hBb
    have d0 : wr.cell? ⟨N, 0, none⟩ = some (.int .u8 1) := by rw [hk0.nd.cell]; rfl
    have hmore := manyR_more (f := itemTR) (g := itemN) hc0 hbad
    have HM := Lib.hid hmore
    have hcall := bgtext_calls b tt wr hk0.tk
    have hszE : ∀ x : ItemD, (Tryz.prog.info? 44).map (·.size) = some (itemV x).toArray.size := fun x => by rw [List.size_toArray, show (itemV x).length = 2 from rfl]; kernel_rfl
    have HS1 := Lib.hid (show strOf (bgTx tt) = strOf (bgTx tt) from rfl)
    clear hmore hk0 hb0 hPr
    go_wp2_with fail
    refine hcall.mono ?_
    rintro e wa ⟨rfl, hTq, hbq⟩
    clear hcall d0 hBb
    have hgx : (strOf (bgTx tt)) = strOf (bgTx tt) := rfl
    obtain ⟨x0, hx0⟩ : ∃ x : ItemD, x = ⟨strOf (bgTx tt), ⟨#[]⟩⟩ := ⟨_, rfl⟩
    have hsz0 := hszE x0
    have hon0 := itemV_oneR x0
    obtain ⟨C0, hC0⟩ : ∃ C, C = (itemV x0).toArray := ⟨_, rfl⟩
    rw [← hC0] at hsz0 hon0
    obtain ⟨W0, V0, hW0, hV0, hG, hbn, hth⟩ := alloc_fill wa itemZ C0 44 (by rw [hC0, hx0]; first | rfl | simp [itemV, itemZ])
    have hbt := hbq.thenBelow (hbn.mono hbq.size)
    have hTt : BgAt V0 b (txN tt) := RowIs.below hTq hbn (RowIs.lt hTq)
    have hXb : wa.heap.size ≠ b := by have := RowIs.lt hTq; omega
    have hXr : wr.heap.size ≤ wa.heap.size := hbq.size
    have HBX := Lib.hid (show Tryz.prog.built 44 [(0, .string (strOf (bgTx tt)))] = some C0 by rw [hC0, hx0]; exact built_itemR _)
    have HW0 := Lib.hid hW0
    have HV0 := Lib.hid hV0
    have HX0 := Lib.hid (And.intro hx0 hC0)
    clear hW0 hV0 hbn hTq hbq hgx hx0 hC0
    have hcall := bgtext_calls b (txN tt) V0 hTt
    have HXT := Lib.hid (And.intro hG (And.intro hbt (And.intro hXb hXr)))
    clear hTt hbt
    go_wp2_with (first | (refine rwp_build rfl 44 [(0, .tmp 36)] rfl C0 (by exact HBX.out) ?_) | (refine wpList_world HW0.out ?_) | (refine wpList_store_mid rfl 44 _ _ rfl wa.heap.size 0 C0 rfl rfl hth hsz0 hon0 ?_; refine wpList_world HV0.out ?_))
    refine hcall.mono ?_
    rintro e wn ⟨rfl, hTn, hbn⟩
    obtain ⟨hG, hbt, hXb, hXr⟩ := HXT.out
    clear hth hsz0 hon0 HBX HW0 HV0
    generalize wa.heap.size = X at *
    clear HXT hcall
    replace hG := hG.but hbn hXb
    replace hbt := hbt.trans hbn
    obtain ⟨x1, hx1⟩ : ∃ x : ItemD, x = { x0 with val := strOf (bgTx (txN tt)) } := ⟨_, rfl⟩
    obtain ⟨C1, hC1⟩ : ∃ C, C = (itemV x1).toArray := ⟨_, rfl⟩
    have hf := hG.free 1
    have hc1 : wn.cell? ⟨X, 1, none⟩ = some (.string ⟨#[]⟩) := by rw [hG.cell, HX0.out.2, HX0.out.1]; rfl
    obtain ⟨U1, hU1⟩ : ∃ W, W = wn.setCell ⟨X, 1, none⟩ (.string (strOf (bgTx (txN tt)))) := ⟨_, rfl⟩
    have hG2 : RowIs U1 X 44 C1 := by
     have h2 := hG.set 1 (.string (strOf (bgTx (txN tt))))
     rw [← hU1] at h2
     have e : C0.setIfInBounds 1 (.string (strOf (bgTx (txN tt)))) = C1 := by rw [hC1, hx1, HX0.out.2, HX0.out.1, setIf_list]; rfl
     rwa [e] at h2
    have hTt : BgAt U1 b (txN (txN tt)) := by rw [hU1]; exact RowIs.other hTn _ _ (fun q => hXb q.symm)
    have hbt2 : But b wr U1 := by rw [hU1]; exact hbt.thenBelow ((Below.refl wr.heap.size wn).setCell (p := ⟨X, 1, none⟩) hXr _)
    clear hG hbt hTn hbn
    have hG := hG2
    have hbt := hbt2
    have HU := Lib.hid hU1
    have HX1 := Lib.hid (And.intro hx1 hC1)
    clear hG2 hbt2 hU1 hx1 hC1
    have hxl := hszE x1
    have hone := itemV_oneR x1
    have hxe : x1 = itemTR tt := by rw [HX1.out.1, HX0.out.1]; rfl
    have hnl : (itemV x1).length = 2 := by rw [hxe]; exact rfl
    have hnall : ∀ u ∈ itemV x1, u.oneCell' = true := fun u hu => by rw [Array.all_eq_true'] at hone; exact hone u (by simpa using hu)
    rw [← HX1.out.2] at hxl
    have hk := HK.out.but hbt hTt hNb
    have hb := HB.out.1.trans hbt
    have hPr := HB.out.2.but hbt hPb
    have hcN : U1.cell? ⟨N, 1, none⟩ = some vi := by rw [hk.nd.cell]; rfl
    obtain ⟨WS, hWS⟩ : ∃ W, W = U1.alloc (.cells C1 44) := ⟨_, rfl⟩
    have hal2 := (Below.refl _ U1).alloc (Nat.le_refl _) (.cells C1 44)
    have hNS := RowIs.new U1 44 C1
    rw [← hWS] at hal2 hNS
    have hkS := hk.below hal2
    have hbS := hb.thenBelow (hal2.mono hb.size)
    have hPS := hPr.below hal2 hPr.lt
    have hoS := hkS.oi
    have hsS : PB ≤ WS.heap.size := Nat.le_of_lt hPS.lt
    have hnews : ∀ j u, (itemV x1)[j]? = some u → WS.cell? ((⟨U1.heap.size, 0, none⟩ : Addr).add j) = some u := fun j u hj => by rw [Addr.add_mid, Nat.zero_add, RowIs.cell hNS, HX1.out.2]; simpa using hj
    have HWS := Lib.hid hWS
    have HQ := Lib.hid (And.intro hkS (And.intro hbS hPS))
    have HXE := Lib.hid hxe
    have hCs : C1.size = 2 := by rw [HX1.out.2, List.size_toArray, hnl]
    generalize hKC : itemV x1 = KC at *
    have HKC := Lib.hid hKC
    clear hWS hal2 hkS hbS hPS hk hb hPr hxe hKC hTt hbt hNS
    go_wp2_with (first | (refine wpList_world HU.out ?_) | (refine wpList_load_row rfl 44 _ rfl X rfl 44 C1 (0, 0) _ hG Tryz.underlying44 rfl hxl ?_) | (refine rwp_slice1 rfl 22 44 _ rfl Tryz.underlying22 iE hE _ hEz0 2 hEz1 C1 rfl hCs (by omega) (by omega) ?_; refine wpList_world HWS.out ?_) | (at_builtin; refine wpList_append_own _ rfl _ _ 22 rfl PB 44 iE (.agg #[.string ⟨#[]⟩, .string ⟨#[]⟩]) 2 32 Tryz.underlying22 hE hEz0 hEz1 hEz2 rfl (by decide) vi acc.length (acc.flatMap itemV) rfl hoS ⟨U1.heap.size, 0, none⟩ 1 1 KC rfl (by rw [hnl]) hnews hnall (by unfold maxLen; omega) (by omega) hsS ?_))
    intro v' wd hown' hgrow _
    obtain ⟨hkS, hbS, hPS⟩ := HQ.out
    have hot := fun g hg => own_type hkS.oi (g := g) hg
    have hNd := row_grown hkS.nd hgrow (fun q => by obtain ⟨cc, hcc⟩ := hot N q.symm; have := hkS.nd; unfold RowIs at this; rw [this] at hcc; injection hcc with hcc; injection hcc with _ q2 _; exact absurd q2 (by decide))
    have hTd : BgAt wd b _ := row_grown hkS.tk hgrow (fun q => by obtain ⟨cc, hcc⟩ := hot b q.symm; have := hkS.tk; unfold BgAt RowIs at this; rw [this] at hcc; injection hcc with hcc; injection hcc with _ q2 _; exact absurd q2 (by decide))
    have hPd := row_grown hPS hgrow (fun q => by obtain ⟨cc, hcc⟩ := hot PB q.symm; have := hPS; unfold RowIs at this; rw [this] at hcc; injection hcc with hcc; injection hcc with _ q2 _; exact absurd q2 (by decide))
    have hkok := owns_grown hkS.ok hgrow (fun g hg cc hcc => by obtain ⟨c2, h2⟩ := hot g hg; rw [h2] at hcc; injection hcc with hcc; injection hcc with _ q2 _; exact absurd q2 (by decide))
    have hkov := owns_grown hkS.ov hgrow (fun g hg cc hcc => by obtain ⟨c2, h2⟩ := hot g hg; rw [h2] at hcc; injection hcc with hcc; injection hcc with _ q2 _; exact absurd q2 (by decide))
    have hbd : But b w wd := hbS.thenBelow (by rw [← HPP.out]; exact (Below.refl PB WS).grown hgrow hsS (fun k hq => (hkS.oi.lt k hq).1))
    have hfd := hNd.free 1
    have hcd : wd.cell? ⟨N, 1, none⟩ = some vi := by rw [hNd.cell]; rfl
    have hsnoc : (acc ++ [itemTR tt]).flatMap itemV = acc.flatMap itemV ++ itemV (itemTR tt) := by rw [List.flatMap_append]; simp
    have hlen1 : (acc ++ [itemTR tt]).length = acc.length + 1 := by simp
    rw [← HKC.out, HXE.out, ← hsnoc] at hown'
    obtain ⟨p', c', rfl⟩ := own_shape hown'
    obtain ⟨WE, hWE⟩ : ∃ W, W = wd.setCell ⟨N, 1, none⟩ (.slice p' (acc.length + 1) c') := ⟨_, rfl⟩
    have hbe : But b w WE := by rw [hWE]; exact hbd.thenBelow (by rw [← HPP.out]; exact (Below.refl PB wd).setCell (p := ⟨N, 1, none⟩) hNge _)
    have hbN := (But.refl N wd).setCell 1 (.slice p' (acc.length + 1) c')
    have hqN : ∀ (e : TypeId) cc, e ≠ 28 → wd.heap[N]? ≠ some (.cells cc e (0, 0)) := fun e cc he hx => by have := hNd; unfold RowIs at this; rw [hx] at this; injection this with this; injection this with _ q2 _; exact he q2
    have hke : TakingR PB b N WE (txN (txN tt)) 1 (.slice p' (acc.length + 1) c') (.slice none 0 0) (.slice none 0 0) (acc ++ [itemTR tt]) [] [] := by rw [hWE]; exact ⟨RowIs.other hTd _ _ (fun q => hNb q.symm), hNd.set 1 _, (by rw [hlen1]; exact ownsRow_but hown' hbN (fun cc => hqN _ cc (by decide))), (ownsRow_but hkok hbN (fun cc => hqN _ cc (by decide))), (ownsRow_but hkov hbN (fun cc => hqN _ cc (by decide)))⟩
    have hPe := RowIs.other hPd ⟨N, 1, none⟩ (.slice p' (acc.length + 1) c') hNP
    rw [← hWE] at hPe
    have HWE := Lib.hid hWE
    have HE := Lib.hid (And.intro hke (And.intro hbe hPe))
    clear hWE hke hbe hPe hNd hTd hPd hkok hkov hbd hown' hgrow hot hbN hqN hkS hbS hPS hG hxl hone hnall hnl hnews hoS hcN
    go_wp2_with (refine wpList_world HWE.out ?_)
    go_roundw
    case rel =>
     refine ⟨c - 1, acc ++ [itemTR tt], txN (txN tt), _, by omega, ?_, HE.out.1, ?_, ?_, ?_, HE.out.2.1, HE.out.2.2⟩
     ·rw [show cnt - (c - 1) = (cnt - c) + 1 by omega]; go_num
     ·rw [← HA.out.1, HM.out.1, List.append_assoc]; rfl
     ·rw [← HA.out.2, HM.out.2]; rfl
     ·rw [hlen1]; omega
    case measure => simp only [intOf]; omega
set_option maxRecDepth 100000 in
set_option maxHeartbeats 6400000 in
theorem btake_kids_calls (b : Nat) (t : TkD) (w : World) (h : BgAt w b t) (hkk : kindT t = 2) :
  Calls Tryz.prog 86 #[.pointer (some ⟨b, 0, none⟩)] w fun e w' => ∃ v, e = .returned v ∧ OwnAt w.heap.size w' v (takeNR t) ∧ BgAt w' b (takeX t) ∧ But b w w' := by
 obtain ⟨iE, hE, hEz0, hEz1, hEz2⟩ := info_parts info_kid
 have hkt := numT_lt t 1
 have hn1 := fun w h => bgnumber_calls b t 1 w h (by omega) (by omega)
 have hn2 := fun w h => bgnumber_calls b (tkNext t 1) 1 w h (by omega) (by omega)
 rw [show ((1 : Nat) : Int) = 1 from rfl] at hn1 hn2
 have hct := numT_lt (tkNext t 1) 1
 have hbody : tkNext (tkNext t 1) 1 = bodyT t := rfl
 have hkind : numT t 1 = kindT t := rfl
 have hcount : numT (tkNext t 1) 1 = countT t := rfl
 rw [hbody, hcount] at hn2
 rw [hkind] at hn1 hkt
 rw [hcount] at hct
 have hbw := RowIs.lt h
 clear hbody hkind hcount
 have hms := manyR_start kidTR kidN t
 have hTN : takeNR t = (if kindT t = 1 then ⟨1, manyT itemTR itemN (countT t) (bodyT t), [], []⟩ else if kindT t = 2 then ⟨2, [], manyT kidTR kidN (countT t) (bodyT t), []⟩ else if kindT t = 3 then ⟨3, [], [], manyT volTR volN (countT t) (bodyT t)⟩ else ⟨kindT t, [], [], []⟩) := rfl
 have hTX : takeX t = (if kindT t = 1 then manyN itemN (countT t) (bodyT t) else if kindT t = 2 then manyN kidN (countT t) (bodyT t) else if kindT t = 3 then manyN volN (countT t) (bodyT t) else if countT t = 0 then bodyT t else ⟨(bodyT t).left, true⟩) := rfl
 have hwfT := takeNR_wf t
 generalize takeNR t = NN at *
 generalize takeX t = TX at *
 generalize kindT t = kind at *
 generalize countT t = cnt at *
 generalize bodyT t = body at *
 generalize tkNext t 1 = t1 at *
 have hk8 : IntKind.u8.wrap (kind : Int) = (kind : Int) := by rw [IntKind.wrap_u8]; omega
 have hk64 : IntKind.i64.wrap (cnt : Int) = (cnt : Int) := by rw [IntKind.wrap_i64]; omega
 subst hkk
 rw [if_neg (by decide), if_pos rfl] at hTX hTN
 have HT := Lib.hid (And.intro hTN hTX)
 have HMS := Lib.hid hms
 clear hTN hTX hms
 obtain ⟨PB, hPP⟩ : ∃ PB, PB = w.heap.size := ⟨_, rfl⟩
 obtain ⟨WP, hWP⟩ : ∃ W, W = w.alloc (.cells #[.int .u8 0, .slice none 0 0, .slice none 0 0, .slice none 0 0] 28) := ⟨_, rfl⟩
 have hP0 : RowIs WP PB 28 #[.int .u8 0, .slice none 0 0, .slice none 0 0, .slice none 0 0] := by rw [hWP, hPP]; exact RowIs.new w _ _
 have hT0 : BgAt WP b t := by rw [hWP]; exact RowIs.alloc h _
 have hb0 : But b w WP := by rw [hWP]; exact (But.refl b w).alloc _
 have hPb : PB ≠ b := by omega
 have hcall := hn1 WP hT0
 have HWP := Lib.hid hWP
 have HPP := Lib.hid hPP
 have HF := Lib.hid (And.intro hP0 (And.intro hb0 hn2))
 clear hWP hPP hP0 hT0 hb0 hn1 hn2 h
 go_enter Tryz.func86, Tryz.ntmps86
 go_wp2_with (refine wpList_world HWP.out ?_)
 rw [← HPP.out]
 refine hcall.mono ?_
 rintro e w1 ⟨rfl, hT1, hbt⟩
 obtain ⟨hP0, hb0, hn2⟩ := HF.out
 have hP1 := hP0.but hbt hPb
 have hb1 := hb0.trans hbt
 obtain ⟨WN, WN2, hWN, hWN2, hN2, hbn, hthn⟩ := alloc_fill w1 #[.int .u8 0, .slice none 0 0, .slice none 0 0, .slice none 0 0] #[.int .u8 2, .slice none 0 0, .slice none 0 0, .slice none 0 0] 28 rfl
 have hszn : (Tryz.prog.info? 28).map (·.size) = some (#[.int .u8 2, .slice none 0 0, .slice none 0 0, .slice none 0 0] : Array Value).size := by kernel_rfl
 have honn : (#[.int .u8 2, .slice none 0 0, .slice none 0 0, .slice none 0 0] : Array Value).all (·.oneCell') = true := by simp [Value.oneCell']
 have hP2 := hP1.below hbn hP1.lt
 have hT2 : BgAt WN2 b t1 := RowIs.below hT1 hbn (RowIs.lt hT1)
 have hb2 := hb1.thenBelow (hbn.mono hb1.size)
 have hNb : w1.heap.size ≠ b := by have := RowIs.lt hT1; omega
 have hNP : PB ≠ w1.heap.size := by have := hP1.lt; omega
 have hNge : PB ≤ w1.heap.size := Nat.le_of_lt hP1.lt
 have hcall := hn2 WN2 hT2
 have HBN := Lib.hid (show Tryz.prog.built 28 [(0, .int .u8 2)] = some #[.int .u8 2, .slice none 0 0, .slice none 0 0, .slice none 0 0] from built_nodeR 2)
 have HWN := Lib.hid hWN
 have HWN2 := Lib.hid hWN2
 have HF2 := Lib.hid (And.intro hP2 (And.intro hb2 hN2))
 clear hWN hWN2 hP2 hT2 hb2 hbn hT1 hbt hP1 hb1 hP0 hb0 hn2 HF hN2
 go_wp2_with (first | (refine rwp_build rfl 28 [(0, .tmp 11)] rfl #[.int .u8 2, .slice none 0 0, .slice none 0 0, .slice none 0 0] (by exact HBN.out) ?_) | (refine wpList_world HWN.out ?_) | (refine wpList_store_mid rfl 28 _ _ rfl w1.heap.size 0 #[.int .u8 2, .slice none 0 0, .slice none 0 0, .slice none 0 0] rfl rfl hthn hszn honn ?_; refine wpList_world HWN2.out ?_))
 generalize w1.heap.size = N at *
 refine hcall.mono ?_
 rintro e w3 ⟨rfl, hT4, hbt⟩
 obtain ⟨hP2, hb2, hN2⟩ := HF2.out
 have hN4 := hN2.but hbt hNb
 have hP4 := hP2.but hbt hPb
 have hb5 := hb2.trans hbt
 have ho0 : ∀ (e : TypeId) (z : Nat), w3.ownsRow PB e z (.slice none 0 0) 0 [] := fun e z => ⟨by simp, .inl ⟨rfl, rfl⟩⟩
 have hk0 : TakingR PB b N w3 body 2 (.slice none 0 0) (.slice none 0 0) (.slice none 0 0) [] [] [] := ⟨hT4, hN4, ho0 _ _, ho0 _ _, ho0 _ _⟩
 clear hN2 hP2 hb2 hcall hbt hT4 hN4 ho0 HF2 hthn hszn honn
 go_wp2_with fail
 go_loopw [5] (fun v wr => ∃ c acc tt vi, c ≤ cnt ∧ v = .int .i64 ((cnt - c : Nat) : Int) ∧ TakingR PB b N wr tt 2 (.slice none 0 0) vi (.slice none 0 0) [] acc [] ∧ acc ++ manyTR kidTR kidN c tt = manyT kidTR kidN cnt body ∧ manyNR kidN c tt = manyN kidN cnt body ∧ acc.length + c = cnt ∧
  But b w wr ∧ RowIs wr PB 28 #[.int .u8 0, .slice none 0 0, .slice none 0 0, .slice none 0 0]) (fun v _ => cnt - (intOf v).toNat)
 case atStart => exact ⟨cnt, [], body, _, Nat.le_refl _, by simp, hk0, by rw [List.nil_append]; exact HMS.out.1, HMS.out.2, by simp, hb5, hP4⟩
 case round =>
  clear hk0 hb5 hP4
  obtain ⟨c, acc, tt, vi, hc, rfl, hk0, hacc, hmany, hal, hb0, hPr⟩ := hrel
  have HA := Lib.hid (And.intro hacc hmany)
  have HK := Lib.hid hk0
  have HB := Lib.hid (And.intro hb0 hPr)
  clear hacc hmany
  have hBb : wr.cell? ⟨b, 1, none⟩ = some (.bool tt.bad) := by rw [RowIs.cell hk0.tk 1]; rfl
  have hnil : ∀ (p : c = 0 ∨ tt.bad = true), NN = ⟨2, [], acc, []⟩ ∧ TX = tt := fun p => by
   obtain ⟨e1, e2⟩ := manyR_end (f := kidTR) (g := kidN) p
   have h1 := HA.out.1
   have h2 := HA.out.2
   rw [e1, List.append_nil] at h1
   rw [e2] at h2
   exact ⟨by rw [HT.out.1, ← h1], by rw [HT.out.2, ← h2]⟩
  have HNIL := Lib.hid hnil
  clear hnil
  by_cases hc0 : c = 0
  ·subst hc0
   have hlt : ¬ ((cnt - 0 : Nat) : Int) < (cnt : Int) := by omega
   have hltd : decide (((cnt - 0 : Nat) : Int) < (cnt : Int)) = false := decide_eq_false hlt
   have HN := Lib.hid (HNIL.out (.inl rfl)).1
   have HX := Lib.hid (HNIL.out (.inl rfl)).2
   obtain ⟨p3, c3, rfl⟩ : ∃ p c, vi = .slice p acc.length c := own_shape hk0.ok
   have hwf2 := hwfT
   rw [HN.out] at hwf2
   have hst := store_row hPr (D := #[.int .u8 2, .slice none 0 0, .slice p3 acc.length c3, .slice none 0 0]) rfl
   have hthere := (hPr).there 0 4 (Nat.le_refl 4)
   have hnd := hk0.nd
   have hone : (#[.int .u8 2, .slice none 0 0, .slice p3 acc.length c3, .slice none 0 0] : Array Value).all (·.oneCell') = true := by simp [Value.oneCell']
   have hsz4 : (Tryz.prog.info? 28).map (·.size) = some (#[.int .u8 2, .slice none 0 0, .slice p3 acc.length c3, .slice none 0 0] : Array Value).size := by kernel_rfl
   have hbz := (hb0).thenBelow (v := wr.setCells PB 0 (#[.int .u8 2, .slice none 0 0, .slice p3 acc.length c3, .slice none 0 0] : Array Value).toList) (by rw [HPP.out]; exact setCells_below w.heap.size w.heap.size (Nat.le_refl _) _ 0 _ _ (Below.refl w.heap.size wr))
   have hkz := (hk0.own hwf2).store hPr (#[.int .u8 2, .slice none 0 0, .slice p3 acc.length c3, .slice none 0 0] : Array Value).toList 0
   have hTz : BgAt (wr.setCells PB 0 (#[.int .u8 2, .slice none 0 0, .slice p3 acc.length c3, .slice none 0 0] : Array Value).toList) b TX := by rw [HX.out]; exact (setCells_other PB b (fun q => hPb q.symm) _ 0 wr).trans hk0.tk
   have HZ := Lib.hid (And.intro hst (And.intro hbz (And.intro hkz hTz)))
   clear hst hbz hkz hTz
   go_wp2_with (first | (refine wpList_load_row rfl 28 _ rfl N rfl 28 #[.int .u8 2, .slice none 0 0, .slice p3 acc.length c3, .slice none 0 0] (0, 0) _ hnd Tryz.underlying28 rfl hsz4 ?_) | (refine wpList_store_mid rfl 28 _ _ rfl PB 0 #[.int .u8 2, .slice none 0 0, .slice p3 acc.length c3, .slice none 0 0] rfl rfl hthere hsz4 hone ?_))
   try rw [Exit.noGoto_ret]
   refine bodyPost_ret (v := .agg #[.int .u8 2, .slice none 0 0, .slice p3 acc.length c3, .slice none 0 0]) (results_cell_row (p := 2) (ty := 28) (by rfl) _ _ PB 28 #[.int .u8 2, .slice none 0 0, .slice p3 acc.length c3, .slice none 0 0] (0, 0) _ (by rfl) HZ.out.1 Tryz.underlying28 (by rfl) hsz4) (by rfl) ?_
   exact ⟨_, rfl, by rw [HN.out, ← HPP.out]; exact HZ.out.2.2.1, HZ.out.2.2.2, HZ.out.2.1⟩
  ·have hlt : ((cnt - c : Nat) : Int) < (cnt : Int) := by omega
   cases hbad : tt.bad with
   | true =>
    rw [hbad] at hBb
    have HN := Lib.hid (HNIL.out (.inr hbad)).1
    have HX := Lib.hid (HNIL.out (.inr hbad)).2
    obtain ⟨p3, c3, rfl⟩ : ∃ p c, vi = .slice p acc.length c := own_shape hk0.ok
    have hwf2 := hwfT
    rw [HN.out] at hwf2
    have hst := store_row hPr (D := #[.int .u8 2, .slice none 0 0, .slice p3 acc.length c3, .slice none 0 0]) rfl
    have hthere := (hPr).there 0 4 (Nat.le_refl 4)
    have hnd := hk0.nd
    have hone : (#[.int .u8 2, .slice none 0 0, .slice p3 acc.length c3, .slice none 0 0] : Array Value).all (·.oneCell') = true := by simp [Value.oneCell']
    have hsz4 : (Tryz.prog.info? 28).map (·.size) = some (#[.int .u8 2, .slice none 0 0, .slice p3 acc.length c3, .slice none 0 0] : Array Value).size := by kernel_rfl
    have hbz := (hb0).thenBelow (v := wr.setCells PB 0 (#[.int .u8 2, .slice none 0 0, .slice p3 acc.length c3, .slice none 0 0] : Array Value).toList) (by rw [HPP.out]; exact setCells_below w.heap.size w.heap.size (Nat.le_refl _) _ 0 _ _ (Below.refl w.heap.size wr))
    have hkz := (hk0.own hwf2).store hPr (#[.int .u8 2, .slice none 0 0, .slice p3 acc.length c3, .slice none 0 0] : Array Value).toList 0
    have hTz : BgAt (wr.setCells PB 0 (#[.int .u8 2, .slice none 0 0, .slice p3 acc.length c3, .slice none 0 0] : Array Value).toList) b TX := by rw [HX.out]; exact (setCells_other PB b (fun q => hPb q.symm) _ 0 wr).trans hk0.tk
    have HZ := Lib.hid (And.intro hst (And.intro hbz (And.intro hkz hTz)))
    clear hst hbz hkz hTz
    go_wp2_with (first | (refine wpList_load_row rfl 28 _ rfl N rfl 28 #[.int .u8 2, .slice none 0 0, .slice p3 acc.length c3, .slice none 0 0] (0, 0) _ hnd Tryz.underlying28 rfl hsz4 ?_) | (refine wpList_store_mid rfl 28 _ _ rfl PB 0 #[.int .u8 2, .slice none 0 0, .slice p3 acc.length c3, .slice none 0 0] rfl rfl hthere hsz4 hone ?_))
    try rw [Exit.noGoto_ret]
    refine bodyPost_ret (v := .agg #[.int .u8 2, .slice none 0 0, .slice p3 acc.length c3, .slice none 0 0]) (results_cell_row (p := 2) (ty := 28) (by rfl) _ _ PB 28 #[.int .u8 2, .slice none 0 0, .slice p3 acc.length c3, .slice none 0 0] (0, 0) _ (by rfl) HZ.out.1 Tryz.underlying28 (by rfl) hsz4) (by rfl) ?_
    exact ⟨_, rfl, by rw [HN.out, ← HPP.out]; exact HZ.out.2.2.1, HZ.out.2.2.2, HZ.out.2.1⟩
   | false =>
    rw [hbad] at hBb
    have d0 : wr.cell? ⟨N, 0, none⟩ = some (.int .u8 2) := by rw [hk0.nd.cell]; rfl
    have hmore := manyR_more (f := kidTR) (g := kidN) hc0 hbad
    have HM := Lib.hid hmore
    have hcall := bgtext_calls b tt wr hk0.tk
    have hszE : ∀ x : KidD, x.hash.length = 32 → (Tryz.prog.info? 38).map (·.size) = some (kidV x).toArray.size := fun x hx => by rw [List.size_toArray, kidV_length hx]; kernel_rfl
    have HS1 := Lib.hid (show strOf (bgTx tt) = strOf (bgTx tt) from rfl)
    clear hmore hk0 hb0 hPr
    go_wp2_with fail
    refine hcall.mono ?_
    rintro e wa ⟨rfl, hTq, hbq⟩
    clear hcall d0 hBb
    have hgx : (strOf (bgTx tt)) = strOf (bgTx tt) := rfl
    obtain ⟨x0, hx0⟩ : ∃ x : KidD, x = ⟨strOf (bgTx tt), 0, List.replicate 32 0⟩ := ⟨_, rfl⟩
    have hsz0 := hszE x0 (by rw [hx0]; rfl)
    have hon0 := kidV_one x0
    obtain ⟨C0, hC0⟩ : ∃ C, C = (kidV x0).toArray := ⟨_, rfl⟩
    rw [← hC0] at hsz0 hon0
    obtain ⟨W0, V0, hW0, hV0, hG, hbn, hth⟩ := alloc_fill wa kidZ C0 38 (by rw [hC0, hx0]; first | rfl | simp [kidV, kidZ])
    have hbt := hbq.thenBelow (hbn.mono hbq.size)
    have hTt : BgAt V0 b (txN tt) := RowIs.below hTq hbn (RowIs.lt hTq)
    have hXb : wa.heap.size ≠ b := by have := RowIs.lt hTq; omega
    have hXr : wr.heap.size ≤ wa.heap.size := hbq.size
    have HBX := Lib.hid (show Tryz.prog.built 38 [(0, .string (strOf (bgTx tt)))] = some C0 by rw [hC0, hx0]; exact built_kidR _)
    have HW0 := Lib.hid hW0
    have HV0 := Lib.hid hV0
    have HX0 := Lib.hid (And.intro hx0 hC0)
    clear hW0 hV0 hbn hTq hbq hgx hx0 hC0
    have hcall := bgnumber_calls b (txN tt) 4 V0 hTt (by decide) (by decide)
    rw [show ((4 : Nat) : Int) = 4 from rfl] at hcall
    have hnl0 := numT_lt (txN tt) 4
    have hwr : IntKind.u32.wrap (numT (txN tt) 4 : Int) = (numT (txN tt) 4 : Int) := by rw [IntKind.wrap_u32]; omega
    clear hnl0
    have HXT := Lib.hid (And.intro hG (And.intro hbt (And.intro hXb hXr)))
    clear hTt hbt
    go_wp2_with (first | (refine rwp_build rfl 38 [(0, .tmp 50)] rfl C0 (by exact HBX.out) ?_) | (refine wpList_world HW0.out ?_) | (refine wpList_store_mid rfl 38 _ _ rfl wa.heap.size 0 C0 rfl rfl hth hsz0 hon0 ?_; refine wpList_world HV0.out ?_))
    refine hcall.mono ?_
    rintro e wn ⟨rfl, hTn, hbn⟩
    obtain ⟨hG, hbt, hXb, hXr⟩ := HXT.out
    clear hth hsz0 hon0 HBX HW0 HV0
    generalize wa.heap.size = X at *
    clear HXT hcall
    replace hG := hG.but hbn hXb
    replace hbt := hbt.trans hbn
    obtain ⟨x1, hx1⟩ : ∃ x : KidD, x = { x0 with num := numT (txN tt) 4 } := ⟨_, rfl⟩
    obtain ⟨C1, hC1⟩ : ∃ C, C = (kidV x1).toArray := ⟨_, rfl⟩
    have hf := hG.free 1
    have hc1 : wn.cell? ⟨X, 1, none⟩ = some (.int .u32 0) := by rw [hG.cell, HX0.out.2, HX0.out.1]; rfl
    obtain ⟨U1, hU1⟩ : ∃ W, W = wn.setCell ⟨X, 1, none⟩ (.int .u32 (numT (txN tt) 4 : Int)) := ⟨_, rfl⟩
    have hG2 : RowIs U1 X 38 C1 := by
     have h2 := hG.set 1 (.int .u32 (numT (txN tt) 4 : Int))
     rw [← hU1] at h2
     have e : C0.setIfInBounds 1 (.int .u32 (numT (txN tt) 4 : Int)) = C1 := by rw [hC1, hx1, HX0.out.2, HX0.out.1, setIf_list]; rfl
     rwa [e] at h2
    have hTt : BgAt U1 b (tkNext (txN tt) 4) := by rw [hU1]; exact RowIs.other hTn _ _ (fun q => hXb q.symm)
    have hbt2 : But b wr U1 := by rw [hU1]; exact hbt.thenBelow ((Below.refl wr.heap.size wn).setCell (p := ⟨X, 1, none⟩) hXr _)
    clear hG hbt hTn hbn
    have hG := hG2
    have hbt := hbt2
    have HU := Lib.hid hU1
    have HX1 := Lib.hid (And.intro hx1 hC1)
    clear hG2 hbt2 hU1 hx1 hC1
    have hcall := bghash_calls b (tkNext (txN tt) 4) U1 hTt
    have HXT := Lib.hid (And.intro hG (And.intro hbt (And.intro hXb hXr)))
    clear hTt hbt
    clear hG
    go_wp2_with (refine wpList_world HU.out ?_)
    refine hcall.mono ?_
    rintro e wn ⟨rfl, hTn, hbn⟩
    obtain ⟨hG, hbt, hXb, hXr⟩ := HXT.out
    clear HXT hcall
    replace hG := hG.but hbn hXb
    replace hbt := hbt.trans hbn
    obtain ⟨x2, hx2⟩ : ∃ x : KidD, x = { x1 with hash := hashT (tkNext (txN tt) 4) } := ⟨_, rfl⟩
    obtain ⟨C2, hC2⟩ : ∃ C, C = (kidV x2).toArray := ⟨_, rfl⟩
    have hhl := hashT_length (tkNext (txN tt) 4)
    have hthh := hG.there 2 (byteCells (hashT (tkNext (txN tt) 4))).size (by rw [byteCells_size, hhl, HX1.out.2, HX1.out.1, HX0.out.1]; exact Nat.le_refl _)
    have hszh : (Tryz.prog.info? 36).map (·.size) = some (byteCells (hashT (tkNext (txN tt) 4))).size := by rw [byteCells_size, hhl]; kernel_rfl
    have honh := byteCells_one (hashT (tkNext (txN tt) 4))
    obtain ⟨U2, hU2⟩ : ∃ W, W = wn.setCells X 2 (byteCells (hashT (tkNext (txN tt) 4))).toList := ⟨_, rfl⟩
    have hG2 : RowIs U2 X 38 C2 := by
     have h2 := hG
     rw [HX1.out.2, HX1.out.1, HX0.out.1] at h2
     have h3 := mid_row (o := 2) [.string (strOf (bgTx tt)), .int .u32 (numT (txN tt) 4 : Int)] (List.replicate 32 0) (hashT (tkNext (txN tt) 4)) rfl rfl hhl h2
     rw [← hU2] at h3
     rw [hC2, hx2, HX1.out.1, HX0.out.1]
     exact h3
    have hTt : BgAt U2 b (tkNext (tkNext (txN tt) 4) 32) := by rw [hU2]; exact (setCells_other X b (fun q => hXb q.symm) _ _ wn).trans hTn
    have hbt2 : But b wr U2 := by rw [hU2]; exact hbt.thenBelow (setCells_below X wr.heap.size hXr _ _ _ _ (Below.refl wr.heap.size wn))
    clear hG hbt hTn hbn hhl
    have hG := hG2
    have hbt := hbt2
    have HU := Lib.hid hU2
    have HX2 := Lib.hid (And.intro hx2 hC2)
    clear hG2 hbt2 hU2 hx2 hC2
    generalize byteCells (hashT (tkNext (txN tt) 4)) = HC at *
    have hxl := hszE x2 (by rw [HX2.out.1]; exact hashT_length _)
    have hone := kidV_one x2
    have hxe : x2 = kidTR tt := by rw [HX2.out.1, HX1.out.1, HX0.out.1]; rfl
    have hnl : (kidV x2).length = 34 := by rw [hxe]; exact kidV_length (kidTR_wf tt).2
    have hnall : ∀ u ∈ kidV x2, u.oneCell' = true := fun u hu => by rw [Array.all_eq_true'] at hone; exact hone u (by simpa using hu)
    rw [← HX2.out.2] at hxl
    have hk := HK.out.but hbt hTt hNb
    have hb := HB.out.1.trans hbt
    have hPr := HB.out.2.but hbt hPb
    have hcN : U2.cell? ⟨N, 2, none⟩ = some vi := by rw [hk.nd.cell]; rfl
    obtain ⟨WS, hWS⟩ : ∃ W, W = U2.alloc (.cells C2 38) := ⟨_, rfl⟩
    have hal2 := (Below.refl _ U2).alloc (Nat.le_refl _) (.cells C2 38)
    have hNS := RowIs.new U2 38 C2
    rw [← hWS] at hal2 hNS
    have hkS := hk.below hal2
    have hbS := hb.thenBelow (hal2.mono hb.size)
    have hPS := hPr.below hal2 hPr.lt
    have hoS := hkS.ok
    have hsS : PB ≤ WS.heap.size := Nat.le_of_lt hPS.lt
    have hnews : ∀ j u, (kidV x2)[j]? = some u → WS.cell? ((⟨U2.heap.size, 0, none⟩ : Addr).add j) = some u := fun j u hj => by rw [Addr.add_mid, Nat.zero_add, RowIs.cell hNS, HX2.out.2]; simpa using hj
    have HWS := Lib.hid hWS
    have HQ := Lib.hid (And.intro hkS (And.intro hbS hPS))
    have HXE := Lib.hid hxe
    have hCs : C2.size = 34 := by rw [HX2.out.2, List.size_toArray, hnl]
    generalize hKC : kidV x2 = KC at *
    have HKC := Lib.hid hKC
    clear hWS hal2 hkS hbS hPS hk hb hPr hxe hKC hTt hbt hNS
    go_wp2_with (first | (refine wpList_store_mid rfl 36 _ _ rfl X 2 HC rfl rfl hthh hszh honh ?_; refine wpList_world HU.out ?_) | (refine wpList_load_row rfl 38 _ rfl X rfl 38 C2 (0, 0) _ hG Tryz.underlying38 rfl hxl ?_) | (refine rwp_slice1 rfl 25 38 _ rfl Tryz.underlying25 iE hE _ hEz0 34 hEz1 C2 rfl hCs (by omega) (by omega) ?_; refine wpList_world HWS.out ?_) | (at_builtin; refine wpList_append_own _ rfl _ _ 25 rfl PB 38 iE (.agg kidZ) 34 56 Tryz.underlying25 hE hEz0 hEz1 hEz2 rfl (by decide) vi acc.length (acc.flatMap kidV) rfl hoS ⟨U2.heap.size, 0, none⟩ 1 1 KC rfl (by rw [hnl]) hnews hnall (by unfold maxLen; omega) (by omega) hsS ?_))
    intro v' wd hown' hgrow _
    obtain ⟨hkS, hbS, hPS⟩ := HQ.out
    have hot := fun g hg => own_type hkS.ok (g := g) hg
    have hNd := row_grown hkS.nd hgrow (fun q => by obtain ⟨cc, hcc⟩ := hot N q.symm; have := hkS.nd; unfold RowIs at this; rw [this] at hcc; injection hcc with hcc; injection hcc with _ q2 _; exact absurd q2 (by decide))
    have hTd : BgAt wd b _ := row_grown hkS.tk hgrow (fun q => by obtain ⟨cc, hcc⟩ := hot b q.symm; have := hkS.tk; unfold BgAt RowIs at this; rw [this] at hcc; injection hcc with hcc; injection hcc with _ q2 _; exact absurd q2 (by decide))
    have hPd := row_grown hPS hgrow (fun q => by obtain ⟨cc, hcc⟩ := hot PB q.symm; have := hPS; unfold RowIs at this; rw [this] at hcc; injection hcc with hcc; injection hcc with _ q2 _; exact absurd q2 (by decide))
    have hkoi := owns_grown hkS.oi hgrow (fun g hg cc hcc => by obtain ⟨c2, h2⟩ := hot g hg; rw [h2] at hcc; injection hcc with hcc; injection hcc with _ q2 _; exact absurd q2 (by decide))
    have hkov := owns_grown hkS.ov hgrow (fun g hg cc hcc => by obtain ⟨c2, h2⟩ := hot g hg; rw [h2] at hcc; injection hcc with hcc; injection hcc with _ q2 _; exact absurd q2 (by decide))
    have hbd : But b w wd := hbS.thenBelow (by rw [← HPP.out]; exact (Below.refl PB WS).grown hgrow hsS (fun k hq => (hkS.ok.lt k hq).1))
    have hfd := hNd.free 2
    have hcd : wd.cell? ⟨N, 2, none⟩ = some vi := by rw [hNd.cell]; rfl
    have hsnoc : (acc ++ [kidTR tt]).flatMap kidV = acc.flatMap kidV ++ kidV (kidTR tt) := by rw [List.flatMap_append]; simp
    have hlen1 : (acc ++ [kidTR tt]).length = acc.length + 1 := by simp
    rw [← HKC.out, HXE.out, ← hsnoc] at hown'
    obtain ⟨p', c', rfl⟩ := own_shape hown'
    obtain ⟨WE, hWE⟩ : ∃ W, W = wd.setCell ⟨N, 2, none⟩ (.slice p' (acc.length + 1) c') := ⟨_, rfl⟩
    have hbe : But b w WE := by rw [hWE]; exact hbd.thenBelow (by rw [← HPP.out]; exact (Below.refl PB wd).setCell (p := ⟨N, 2, none⟩) hNge _)
    have hbN := (But.refl N wd).setCell 2 (.slice p' (acc.length + 1) c')
    have hqN : ∀ (e : TypeId) cc, e ≠ 28 → wd.heap[N]? ≠ some (.cells cc e (0, 0)) := fun e cc he hx => by have := hNd; unfold RowIs at this; rw [hx] at this; injection this with this; injection this with _ q2 _; exact he q2
    have hke : TakingR PB b N WE (tkNext (tkNext (txN tt) 4) 32) 2 (.slice none 0 0) (.slice p' (acc.length + 1) c') (.slice none 0 0) [] (acc ++ [kidTR tt]) [] := by rw [hWE]; exact ⟨RowIs.other hTd _ _ (fun q => hNb q.symm), hNd.set 2 _, (ownsRow_but hkoi hbN (fun cc => hqN _ cc (by decide))), (by rw [hlen1]; exact ownsRow_but hown' hbN (fun cc => hqN _ cc (by decide))), (ownsRow_but hkov hbN (fun cc => hqN _ cc (by decide)))⟩
    have hPe := RowIs.other hPd ⟨N, 2, none⟩ (.slice p' (acc.length + 1) c') hNP
    rw [← hWE] at hPe
    have HWE := Lib.hid hWE
    have HE := Lib.hid (And.intro hke (And.intro hbe hPe))
    clear hWE hke hbe hPe hNd hTd hPd hkoi hkov hbd hown' hgrow hot hbN hqN hkS hbS hPS hG hxl hone hnall hnl hnews hoS hcN
    go_wp2_with (refine wpList_world HWE.out ?_)
    go_roundw
    case rel =>
     refine ⟨c - 1, acc ++ [kidTR tt], tkNext (tkNext (txN tt) 4) 32, _, by omega, ?_, HE.out.1, ?_, ?_, ?_, HE.out.2.1, HE.out.2.2⟩
     ·rw [show cnt - (c - 1) = (cnt - c) + 1 by omega]; go_num
     ·rw [← HA.out.1, HM.out.1, List.append_assoc]; rfl
     ·rw [← HA.out.2, HM.out.2]; rfl
     ·rw [hlen1]; omega
    case measure => simp only [intOf]; omega
set_option maxRecDepth 100000 in
set_option maxHeartbeats 6400000 in
theorem btake_vols_calls (b : Nat) (t : TkD) (w : World) (h : BgAt w b t) (hkk : kindT t = 3) :
  Calls Tryz.prog 86 #[.pointer (some ⟨b, 0, none⟩)] w fun e w' => ∃ v, e = .returned v ∧ OwnAt w.heap.size w' v (takeNR t) ∧ BgAt w' b (takeX t) ∧ But b w w' := by
 obtain ⟨iE, hE, hEz0, hEz1, hEz2⟩ := info_parts info_vol
 have hkt := numT_lt t 1
 have hn1 := fun w h => bgnumber_calls b t 1 w h (by omega) (by omega)
 have hn2 := fun w h => bgnumber_calls b (tkNext t 1) 1 w h (by omega) (by omega)
 rw [show ((1 : Nat) : Int) = 1 from rfl] at hn1 hn2
 have hct := numT_lt (tkNext t 1) 1
 have hbody : tkNext (tkNext t 1) 1 = bodyT t := rfl
 have hkind : numT t 1 = kindT t := rfl
 have hcount : numT (tkNext t 1) 1 = countT t := rfl
 rw [hbody, hcount] at hn2
 rw [hkind] at hn1 hkt
 rw [hcount] at hct
 have hbw := RowIs.lt h
 clear hbody hkind hcount
 have hms := manyR_start volTR volN t
 have hTN : takeNR t = (if kindT t = 1 then ⟨1, manyT itemTR itemN (countT t) (bodyT t), [], []⟩ else if kindT t = 2 then ⟨2, [], manyT kidTR kidN (countT t) (bodyT t), []⟩ else if kindT t = 3 then ⟨3, [], [], manyT volTR volN (countT t) (bodyT t)⟩ else ⟨kindT t, [], [], []⟩) := rfl
 have hTX : takeX t = (if kindT t = 1 then manyN itemN (countT t) (bodyT t) else if kindT t = 2 then manyN kidN (countT t) (bodyT t) else if kindT t = 3 then manyN volN (countT t) (bodyT t) else if countT t = 0 then bodyT t else ⟨(bodyT t).left, true⟩) := rfl
 have hwfT := takeNR_wf t
 generalize takeNR t = NN at *
 generalize takeX t = TX at *
 generalize kindT t = kind at *
 generalize countT t = cnt at *
 generalize bodyT t = body at *
 generalize tkNext t 1 = t1 at *
 have hk8 : IntKind.u8.wrap (kind : Int) = (kind : Int) := by rw [IntKind.wrap_u8]; omega
 have hk64 : IntKind.i64.wrap (cnt : Int) = (cnt : Int) := by rw [IntKind.wrap_i64]; omega
 subst hkk
 rw [if_neg (by decide), if_neg (by decide), if_pos rfl] at hTX hTN
 have HT := Lib.hid (And.intro hTN hTX)
 have HMS := Lib.hid hms
 clear hTN hTX hms
 obtain ⟨PB, hPP⟩ : ∃ PB, PB = w.heap.size := ⟨_, rfl⟩
 obtain ⟨WP, hWP⟩ : ∃ W, W = w.alloc (.cells #[.int .u8 0, .slice none 0 0, .slice none 0 0, .slice none 0 0] 28) := ⟨_, rfl⟩
 have hP0 : RowIs WP PB 28 #[.int .u8 0, .slice none 0 0, .slice none 0 0, .slice none 0 0] := by rw [hWP, hPP]; exact RowIs.new w _ _
 have hT0 : BgAt WP b t := by rw [hWP]; exact RowIs.alloc h _
 have hb0 : But b w WP := by rw [hWP]; exact (But.refl b w).alloc _
 have hPb : PB ≠ b := by omega
 have hcall := hn1 WP hT0
 have HWP := Lib.hid hWP
 have HPP := Lib.hid hPP
 have HF := Lib.hid (And.intro hP0 (And.intro hb0 hn2))
 clear hWP hPP hP0 hT0 hb0 hn1 hn2 h
 go_enter Tryz.func86, Tryz.ntmps86
 go_wp2_with (refine wpList_world HWP.out ?_)
 rw [← HPP.out]
 refine hcall.mono ?_
 rintro e w1 ⟨rfl, hT1, hbt⟩
 obtain ⟨hP0, hb0, hn2⟩ := HF.out
 have hP1 := hP0.but hbt hPb
 have hb1 := hb0.trans hbt
 obtain ⟨WN, WN2, hWN, hWN2, hN2, hbn, hthn⟩ := alloc_fill w1 #[.int .u8 0, .slice none 0 0, .slice none 0 0, .slice none 0 0] #[.int .u8 3, .slice none 0 0, .slice none 0 0, .slice none 0 0] 28 rfl
 have hszn : (Tryz.prog.info? 28).map (·.size) = some (#[.int .u8 3, .slice none 0 0, .slice none 0 0, .slice none 0 0] : Array Value).size := by kernel_rfl
 have honn : (#[.int .u8 3, .slice none 0 0, .slice none 0 0, .slice none 0 0] : Array Value).all (·.oneCell') = true := by simp [Value.oneCell']
 have hP2 := hP1.below hbn hP1.lt
 have hT2 : BgAt WN2 b t1 := RowIs.below hT1 hbn (RowIs.lt hT1)
 have hb2 := hb1.thenBelow (hbn.mono hb1.size)
 have hNb : w1.heap.size ≠ b := by have := RowIs.lt hT1; omega
 have hNP : PB ≠ w1.heap.size := by have := hP1.lt; omega
 have hNge : PB ≤ w1.heap.size := Nat.le_of_lt hP1.lt
 have hcall := hn2 WN2 hT2
 have HBN := Lib.hid (show Tryz.prog.built 28 [(0, .int .u8 3)] = some #[.int .u8 3, .slice none 0 0, .slice none 0 0, .slice none 0 0] from built_nodeR 3)
 have HWN := Lib.hid hWN
 have HWN2 := Lib.hid hWN2
 have HF2 := Lib.hid (And.intro hP2 (And.intro hb2 hN2))
 clear hWN hWN2 hP2 hT2 hb2 hbn hT1 hbt hP1 hb1 hP0 hb0 hn2 HF hN2
 go_wp2_with (first | (refine rwp_build rfl 28 [(0, .tmp 11)] rfl #[.int .u8 3, .slice none 0 0, .slice none 0 0, .slice none 0 0] (by exact HBN.out) ?_) | (refine wpList_world HWN.out ?_) | (refine wpList_store_mid rfl 28 _ _ rfl w1.heap.size 0 #[.int .u8 3, .slice none 0 0, .slice none 0 0, .slice none 0 0] rfl rfl hthn hszn honn ?_; refine wpList_world HWN2.out ?_))
 generalize w1.heap.size = N at *
 refine hcall.mono ?_
 rintro e w3 ⟨rfl, hT4, hbt⟩
 obtain ⟨hP2, hb2, hN2⟩ := HF2.out
 have hN4 := hN2.but hbt hNb
 have hP4 := hP2.but hbt hPb
 have hb5 := hb2.trans hbt
 have ho0 : ∀ (e : TypeId) (z : Nat), w3.ownsRow PB e z (.slice none 0 0) 0 [] := fun e z => ⟨by simp, .inl ⟨rfl, rfl⟩⟩
 have hk0 : TakingR PB b N w3 body 3 (.slice none 0 0) (.slice none 0 0) (.slice none 0 0) [] [] [] := ⟨hT4, hN4, ho0 _ _, ho0 _ _, ho0 _ _⟩
 clear hN2 hP2 hb2 hcall hbt hT4 hN4 ho0 HF2 hthn hszn honn
 go_wp2_with fail
 go_loopw [5] (fun v wr => ∃ c acc tt vi, c ≤ cnt ∧ v = .int .i64 ((cnt - c : Nat) : Int) ∧ TakingR PB b N wr tt 3 (.slice none 0 0) (.slice none 0 0) vi [] [] acc ∧ acc ++ manyTR volTR volN c tt = manyT volTR volN cnt body ∧ manyNR volN c tt = manyN volN cnt body ∧ acc.length + c = cnt ∧
  But b w wr ∧ RowIs wr PB 28 #[.int .u8 0, .slice none 0 0, .slice none 0 0, .slice none 0 0]) (fun v _ => cnt - (intOf v).toNat)
 case atStart => exact ⟨cnt, [], body, _, Nat.le_refl _, by simp, hk0, by rw [List.nil_append]; exact HMS.out.1, HMS.out.2, by simp, hb5, hP4⟩
 case round =>
  clear hk0 hb5 hP4
  obtain ⟨c, acc, tt, vi, hc, rfl, hk0, hacc, hmany, hal, hb0, hPr⟩ := hrel
  have HA := Lib.hid (And.intro hacc hmany)
  have HK := Lib.hid hk0
  have HB := Lib.hid (And.intro hb0 hPr)
  clear hacc hmany
  have hBb : wr.cell? ⟨b, 1, none⟩ = some (.bool tt.bad) := by rw [RowIs.cell hk0.tk 1]; rfl
  have hnil : ∀ (p : c = 0 ∨ tt.bad = true), NN = ⟨3, [], [], acc⟩ ∧ TX = tt := fun p => by
   obtain ⟨e1, e2⟩ := manyR_end (f := volTR) (g := volN) p
   have h1 := HA.out.1
   have h2 := HA.out.2
   rw [e1, List.append_nil] at h1
   rw [e2] at h2
   exact ⟨by rw [HT.out.1, ← h1], by rw [HT.out.2, ← h2]⟩
  have HNIL := Lib.hid hnil
  clear hnil
  by_cases hc0 : c = 0
  ·subst hc0
   have hlt : ¬ ((cnt - 0 : Nat) : Int) < (cnt : Int) := by omega
   have hltd : decide (((cnt - 0 : Nat) : Int) < (cnt : Int)) = false := decide_eq_false hlt
   have HN := Lib.hid (HNIL.out (.inl rfl)).1
   have HX := Lib.hid (HNIL.out (.inl rfl)).2
   obtain ⟨p3, c3, rfl⟩ : ∃ p c, vi = .slice p acc.length c := own_shape hk0.ov
   have hwf2 := hwfT
   rw [HN.out] at hwf2
   have hst := store_row hPr (D := #[.int .u8 3, .slice none 0 0, .slice none 0 0, .slice p3 acc.length c3]) rfl
   have hthere := (hPr).there 0 4 (Nat.le_refl 4)
   have hnd := hk0.nd
   have hone : (#[.int .u8 3, .slice none 0 0, .slice none 0 0, .slice p3 acc.length c3] : Array Value).all (·.oneCell') = true := by simp [Value.oneCell']
   have hsz4 : (Tryz.prog.info? 28).map (·.size) = some (#[.int .u8 3, .slice none 0 0, .slice none 0 0, .slice p3 acc.length c3] : Array Value).size := by kernel_rfl
   have hbz := (hb0).thenBelow (v := wr.setCells PB 0 (#[.int .u8 3, .slice none 0 0, .slice none 0 0, .slice p3 acc.length c3] : Array Value).toList) (by rw [HPP.out]; exact setCells_below w.heap.size w.heap.size (Nat.le_refl _) _ 0 _ _ (Below.refl w.heap.size wr))
   have hkz := (hk0.own hwf2).store hPr (#[.int .u8 3, .slice none 0 0, .slice none 0 0, .slice p3 acc.length c3] : Array Value).toList 0
   have hTz : BgAt (wr.setCells PB 0 (#[.int .u8 3, .slice none 0 0, .slice none 0 0, .slice p3 acc.length c3] : Array Value).toList) b TX := by rw [HX.out]; exact (setCells_other PB b (fun q => hPb q.symm) _ 0 wr).trans hk0.tk
   have HZ := Lib.hid (And.intro hst (And.intro hbz (And.intro hkz hTz)))
   clear hst hbz hkz hTz
   go_wp2_with (first | (refine wpList_load_row rfl 28 _ rfl N rfl 28 #[.int .u8 3, .slice none 0 0, .slice none 0 0, .slice p3 acc.length c3] (0, 0) _ hnd Tryz.underlying28 rfl hsz4 ?_) | (refine wpList_store_mid rfl 28 _ _ rfl PB 0 #[.int .u8 3, .slice none 0 0, .slice none 0 0, .slice p3 acc.length c3] rfl rfl hthere hsz4 hone ?_))
   try rw [Exit.noGoto_ret]
   refine bodyPost_ret (v := .agg #[.int .u8 3, .slice none 0 0, .slice none 0 0, .slice p3 acc.length c3]) (results_cell_row (p := 2) (ty := 28) (by rfl) _ _ PB 28 #[.int .u8 3, .slice none 0 0, .slice none 0 0, .slice p3 acc.length c3] (0, 0) _ (by rfl) HZ.out.1 Tryz.underlying28 (by rfl) hsz4) (by rfl) ?_
   exact ⟨_, rfl, by rw [HN.out, ← HPP.out]; exact HZ.out.2.2.1, HZ.out.2.2.2, HZ.out.2.1⟩
  ·have hlt : ((cnt - c : Nat) : Int) < (cnt : Int) := by omega
   cases hbad : tt.bad with
   | true =>
    rw [hbad] at hBb
    have HN := Lib.hid (HNIL.out (.inr hbad)).1
    have HX := Lib.hid (HNIL.out (.inr hbad)).2
    obtain ⟨p3, c3, rfl⟩ : ∃ p c, vi = .slice p acc.length c := own_shape hk0.ov
    have hwf2 := hwfT
    rw [HN.out] at hwf2
    have hst := store_row hPr (D := #[.int .u8 3, .slice none 0 0, .slice none 0 0, .slice p3 acc.length c3]) rfl
    have hthere := (hPr).there 0 4 (Nat.le_refl 4)
    have hnd := hk0.nd
    have hone : (#[.int .u8 3, .slice none 0 0, .slice none 0 0, .slice p3 acc.length c3] : Array Value).all (·.oneCell') = true := by simp [Value.oneCell']
    have hsz4 : (Tryz.prog.info? 28).map (·.size) = some (#[.int .u8 3, .slice none 0 0, .slice none 0 0, .slice p3 acc.length c3] : Array Value).size := by kernel_rfl
    have hbz := (hb0).thenBelow (v := wr.setCells PB 0 (#[.int .u8 3, .slice none 0 0, .slice none 0 0, .slice p3 acc.length c3] : Array Value).toList) (by rw [HPP.out]; exact setCells_below w.heap.size w.heap.size (Nat.le_refl _) _ 0 _ _ (Below.refl w.heap.size wr))
    have hkz := (hk0.own hwf2).store hPr (#[.int .u8 3, .slice none 0 0, .slice none 0 0, .slice p3 acc.length c3] : Array Value).toList 0
    have hTz : BgAt (wr.setCells PB 0 (#[.int .u8 3, .slice none 0 0, .slice none 0 0, .slice p3 acc.length c3] : Array Value).toList) b TX := by rw [HX.out]; exact (setCells_other PB b (fun q => hPb q.symm) _ 0 wr).trans hk0.tk
    have HZ := Lib.hid (And.intro hst (And.intro hbz (And.intro hkz hTz)))
    clear hst hbz hkz hTz
    go_wp2_with (first | (refine wpList_load_row rfl 28 _ rfl N rfl 28 #[.int .u8 3, .slice none 0 0, .slice none 0 0, .slice p3 acc.length c3] (0, 0) _ hnd Tryz.underlying28 rfl hsz4 ?_) | (refine wpList_store_mid rfl 28 _ _ rfl PB 0 #[.int .u8 3, .slice none 0 0, .slice none 0 0, .slice p3 acc.length c3] rfl rfl hthere hsz4 hone ?_))
    try rw [Exit.noGoto_ret]
    refine bodyPost_ret (v := .agg #[.int .u8 3, .slice none 0 0, .slice none 0 0, .slice p3 acc.length c3]) (results_cell_row (p := 2) (ty := 28) (by rfl) _ _ PB 28 #[.int .u8 3, .slice none 0 0, .slice none 0 0, .slice p3 acc.length c3] (0, 0) _ (by rfl) HZ.out.1 Tryz.underlying28 (by rfl) hsz4) (by rfl) ?_
    exact ⟨_, rfl, by rw [HN.out, ← HPP.out]; exact HZ.out.2.2.1, HZ.out.2.2.2, HZ.out.2.1⟩
   | false =>
    rw [hbad] at hBb
    have d0 : wr.cell? ⟨N, 0, none⟩ = some (.int .u8 3) := by rw [hk0.nd.cell]; rfl
    have hmore := manyR_more (f := volTR) (g := volN) hc0 hbad
    have HM := Lib.hid hmore
    have hcall := bgtext_calls b tt wr hk0.tk
    have hszE : ∀ x : VolD, x.hash.length = 32 → (Tryz.prog.info? 89).map (·.size) = some (volV x).toArray.size := fun x hx => by rw [List.size_toArray, volV_length hx]; kernel_rfl
    have HS1 := Lib.hid (show strOf (bgTx tt) = strOf (bgTx tt) from rfl)
    clear hmore hk0 hb0 hPr
    go_wp2_with fail
    refine hcall.mono ?_
    rintro e wa ⟨rfl, hTq, hbq⟩
    clear hcall d0 hBb
    have hgx : (strOf (bgTx tt)) = strOf (bgTx tt) := rfl
    obtain ⟨x0, hx0⟩ : ∃ x : VolD, x = ⟨strOf (bgTx tt), 0, ⟨#[]⟩, 0, 0, List.replicate 32 0⟩ := ⟨_, rfl⟩
    have hsz0 := hszE x0 (by rw [hx0]; rfl)
    have hon0 := volV_one x0
    obtain ⟨C0, hC0⟩ : ∃ C, C = (volV x0).toArray := ⟨_, rfl⟩
    rw [← hC0] at hsz0 hon0
    obtain ⟨W0, V0, hW0, hV0, hG, hbn, hth⟩ := alloc_fill wa volZ C0 89 (by rw [hC0, hx0]; first | rfl | simp [volV, volZ])
    have hbt := hbq.thenBelow (hbn.mono hbq.size)
    have hTt : BgAt V0 b (txN tt) := RowIs.below hTq hbn (RowIs.lt hTq)
    have hXb : wa.heap.size ≠ b := by have := RowIs.lt hTq; omega
    have hXr : wr.heap.size ≤ wa.heap.size := hbq.size
    have HBX := Lib.hid (show Tryz.prog.built 89 [(0, .string (strOf (bgTx tt)))] = some C0 by rw [hC0, hx0]; exact built_volR _)
    have HW0 := Lib.hid hW0
    have HV0 := Lib.hid hV0
    have HX0 := Lib.hid (And.intro hx0 hC0)
    clear hW0 hV0 hbn hTq hbq hgx hx0 hC0
    have hcall := bgtext_calls b (txN tt) V0 hTt
    have HXT := Lib.hid (And.intro hG (And.intro hbt (And.intro hXb hXr)))
    clear hTt hbt
    go_wp2_with (first | (refine rwp_build rfl 89 [(0, .tmp 68)] rfl C0 (by exact HBX.out) ?_) | (refine wpList_world HW0.out ?_) | (refine wpList_store_mid rfl 89 _ _ rfl wa.heap.size 0 C0 rfl rfl hth hsz0 hon0 ?_; refine wpList_world HV0.out ?_))
    refine hcall.mono ?_
    rintro e wn ⟨rfl, hTn, hbn⟩
    obtain ⟨hG, hbt, hXb, hXr⟩ := HXT.out
    clear hth hsz0 hon0 HBX HW0 HV0
    generalize wa.heap.size = X at *
    clear HXT hcall
    replace hG := hG.but hbn hXb
    replace hbt := hbt.trans hbn
    obtain ⟨x1, hx1⟩ : ∃ x : VolD, x = { x0 with frm := strOf (bgTx (txN tt)) } := ⟨_, rfl⟩
    obtain ⟨C1, hC1⟩ : ∃ C, C = (volV x1).toArray := ⟨_, rfl⟩
    have hf := hG.free 2
    have hc1 : wn.cell? ⟨X, 2, none⟩ = some (.string ⟨#[]⟩) := by rw [hG.cell, HX0.out.2, HX0.out.1]; rfl
    obtain ⟨U1, hU1⟩ : ∃ W, W = wn.setCell ⟨X, 2, none⟩ (.string (strOf (bgTx (txN tt)))) := ⟨_, rfl⟩
    have hG2 : RowIs U1 X 89 C1 := by
     have h2 := hG.set 2 (.string (strOf (bgTx (txN tt))))
     rw [← hU1] at h2
     have e : C0.setIfInBounds 2 (.string (strOf (bgTx (txN tt)))) = C1 := by rw [hC1, hx1, HX0.out.2, HX0.out.1, setIf_list]; rfl
     rwa [e] at h2
    have hTt : BgAt U1 b (txN (txN tt)) := by rw [hU1]; exact RowIs.other hTn _ _ (fun q => hXb q.symm)
    have hbt2 : But b wr U1 := by rw [hU1]; exact hbt.thenBelow ((Below.refl wr.heap.size wn).setCell (p := ⟨X, 2, none⟩) hXr _)
    clear hG hbt hTn hbn
    have hG := hG2
    have hbt := hbt2
    have HU := Lib.hid hU1
    have HX1 := Lib.hid (And.intro hx1 hC1)
    clear hG2 hbt2 hU1 hx1 hC1
    have hcall := bgnumber_calls b (txN (txN tt)) 1 U1 hTt (by decide) (by decide)
    rw [show ((1 : Nat) : Int) = 1 from rfl] at hcall
    have hnl1 := numT_lt (txN (txN tt)) 1
    have hwr : IntKind.u8.wrap (numT (txN (txN tt)) 1 : Int) = (numT (txN (txN tt)) 1 : Int) := by rw [IntKind.wrap_u8]; omega
    clear hnl1
    have HXT := Lib.hid (And.intro hG (And.intro hbt (And.intro hXb hXr)))
    clear hTt hbt
    clear hG
    go_wp2_with (refine wpList_world HU.out ?_)
    refine hcall.mono ?_
    rintro e wn ⟨rfl, hTn, hbn⟩
    obtain ⟨hG, hbt, hXb, hXr⟩ := HXT.out
    clear HXT hcall
    replace hG := hG.but hbn hXb
    replace hbt := hbt.trans hbn
    obtain ⟨x2, hx2⟩ : ∃ x : VolD, x = { x1 with kind := numT (txN (txN tt)) 1 } := ⟨_, rfl⟩
    obtain ⟨C2, hC2⟩ : ∃ C, C = (volV x2).toArray := ⟨_, rfl⟩
    have hf := hG.free 1
    have hc1 : wn.cell? ⟨X, 1, none⟩ = some (.int .u8 0) := by rw [hG.cell, HX1.out.2, HX1.out.1, HX0.out.1]; rfl
    obtain ⟨U2, hU2⟩ : ∃ W, W = wn.setCell ⟨X, 1, none⟩ (.int .u8 (numT (txN (txN tt)) 1 : Int)) := ⟨_, rfl⟩
    have hG2 : RowIs U2 X 89 C2 := by
     have h2 := hG.set 1 (.int .u8 (numT (txN (txN tt)) 1 : Int))
     rw [← hU2] at h2
     have e : C1.setIfInBounds 1 (.int .u8 (numT (txN (txN tt)) 1 : Int)) = C2 := by rw [hC2, hx2, HX1.out.2, HX1.out.1, setIf_list]; rfl
     rwa [e] at h2
    have hTt : BgAt U2 b (tkNext (txN (txN tt)) 1) := by rw [hU2]; exact RowIs.other hTn _ _ (fun q => hXb q.symm)
    have hbt2 : But b wr U2 := by rw [hU2]; exact hbt.thenBelow ((Below.refl wr.heap.size wn).setCell (p := ⟨X, 1, none⟩) hXr _)
    clear hG hbt hTn hbn
    have hG := hG2
    have hbt := hbt2
    have HU := Lib.hid hU2
    have HX2 := Lib.hid (And.intro hx2 hC2)
    clear hG2 hbt2 hU2 hx2 hC2
    have hcall := bgnumber_calls b (tkNext (txN (txN tt)) 1) 8 U2 hTt (by decide) (by decide)
    rw [show ((8 : Nat) : Int) = 8 from rfl] at hcall
    have HXT := Lib.hid (And.intro hG (And.intro hbt (And.intro hXb hXr)))
    clear hTt hbt
    clear hG
    go_wp2_with (refine wpList_world HU.out ?_)
    refine hcall.mono ?_
    rintro e wn ⟨rfl, hTn, hbn⟩
    obtain ⟨hG, hbt, hXb, hXr⟩ := HXT.out
    clear HXT hcall
    replace hG := hG.but hbn hXb
    replace hbt := hbt.trans hbn
    obtain ⟨x3, hx3⟩ : ∃ x : VolD, x = { x2 with born := numT (tkNext (txN (txN tt)) 1) 8 } := ⟨_, rfl⟩
    obtain ⟨C3, hC3⟩ : ∃ C, C = (volV x3).toArray := ⟨_, rfl⟩
    have hf := hG.free 3
    have hc1 : wn.cell? ⟨X, 3, none⟩ = some (.int .u64 0) := by rw [hG.cell, HX2.out.2, HX2.out.1, HX1.out.1, HX0.out.1]; rfl
    obtain ⟨U3, hU3⟩ : ∃ W, W = wn.setCell ⟨X, 3, none⟩ (.int .u64 (numT (tkNext (txN (txN tt)) 1) 8 : Int)) := ⟨_, rfl⟩
    have hG2 : RowIs U3 X 89 C3 := by
     have h2 := hG.set 3 (.int .u64 (numT (tkNext (txN (txN tt)) 1) 8 : Int))
     rw [← hU3] at h2
     have e : C2.setIfInBounds 3 (.int .u64 (numT (tkNext (txN (txN tt)) 1) 8 : Int)) = C3 := by rw [hC3, hx3, HX2.out.2, HX2.out.1, setIf_list]; rfl
     rwa [e] at h2
    have hTt : BgAt U3 b (tkNext (tkNext (txN (txN tt)) 1) 8) := by rw [hU3]; exact RowIs.other hTn _ _ (fun q => hXb q.symm)
    have hbt2 : But b wr U3 := by rw [hU3]; exact hbt.thenBelow ((Below.refl wr.heap.size wn).setCell (p := ⟨X, 3, none⟩) hXr _)
    clear hG hbt hTn hbn
    have hG := hG2
    have hbt := hbt2
    have HU := Lib.hid hU3
    have HX3 := Lib.hid (And.intro hx3 hC3)
    clear hG2 hbt2 hU3 hx3 hC3
    have hcall := bgnumber_calls b (tkNext (tkNext (txN (txN tt)) 1) 8) 4 U3 hTt (by decide) (by decide)
    rw [show ((4 : Nat) : Int) = 4 from rfl] at hcall
    have hnl3 := numT_lt (tkNext (tkNext (txN (txN tt)) 1) 8) 4
    have hwr : IntKind.u32.wrap (numT (tkNext (tkNext (txN (txN tt)) 1) 8) 4 : Int) = (numT (tkNext (tkNext (txN (txN tt)) 1) 8) 4 : Int) := by rw [IntKind.wrap_u32]; omega
    clear hnl3
    have HXT := Lib.hid (And.intro hG (And.intro hbt (And.intro hXb hXr)))
    clear hTt hbt
    clear hG
    go_wp2_with (refine wpList_world HU.out ?_)
    refine hcall.mono ?_
    rintro e wn ⟨rfl, hTn, hbn⟩
    obtain ⟨hG, hbt, hXb, hXr⟩ := HXT.out
    clear HXT hcall
    replace hG := hG.but hbn hXb
    replace hbt := hbt.trans hbn
    obtain ⟨x4, hx4⟩ : ∃ x : VolD, x = { x3 with root := numT (tkNext (tkNext (txN (txN tt)) 1) 8) 4 } := ⟨_, rfl⟩
    obtain ⟨C4, hC4⟩ : ∃ C, C = (volV x4).toArray := ⟨_, rfl⟩
    have hf := hG.free 4
    have hc1 : wn.cell? ⟨X, 4, none⟩ = some (.int .u32 0) := by rw [hG.cell, HX3.out.2, HX3.out.1, HX2.out.1, HX1.out.1, HX0.out.1]; rfl
    obtain ⟨U4, hU4⟩ : ∃ W, W = wn.setCell ⟨X, 4, none⟩ (.int .u32 (numT (tkNext (tkNext (txN (txN tt)) 1) 8) 4 : Int)) := ⟨_, rfl⟩
    have hG2 : RowIs U4 X 89 C4 := by
     have h2 := hG.set 4 (.int .u32 (numT (tkNext (tkNext (txN (txN tt)) 1) 8) 4 : Int))
     rw [← hU4] at h2
     have e : C3.setIfInBounds 4 (.int .u32 (numT (tkNext (tkNext (txN (txN tt)) 1) 8) 4 : Int)) = C4 := by rw [hC4, hx4, HX3.out.2, HX3.out.1, setIf_list]; rfl
     rwa [e] at h2
    have hTt : BgAt U4 b (tkNext (tkNext (tkNext (txN (txN tt)) 1) 8) 4) := by rw [hU4]; exact RowIs.other hTn _ _ (fun q => hXb q.symm)
    have hbt2 : But b wr U4 := by rw [hU4]; exact hbt.thenBelow ((Below.refl wr.heap.size wn).setCell (p := ⟨X, 4, none⟩) hXr _)
    clear hG hbt hTn hbn
    have hG := hG2
    have hbt := hbt2
    have HU := Lib.hid hU4
    have HX4 := Lib.hid (And.intro hx4 hC4)
    clear hG2 hbt2 hU4 hx4 hC4
    have hcall := bghash_calls b (tkNext (tkNext (tkNext (txN (txN tt)) 1) 8) 4) U4 hTt
    have HXT := Lib.hid (And.intro hG (And.intro hbt (And.intro hXb hXr)))
    clear hTt hbt
    clear hG
    go_wp2_with (refine wpList_world HU.out ?_)
    refine hcall.mono ?_
    rintro e wn ⟨rfl, hTn, hbn⟩
    obtain ⟨hG, hbt, hXb, hXr⟩ := HXT.out
    clear HXT hcall
    replace hG := hG.but hbn hXb
    replace hbt := hbt.trans hbn
    obtain ⟨x5, hx5⟩ : ∃ x : VolD, x = { x4 with hash := hashT (tkNext (tkNext (tkNext (txN (txN tt)) 1) 8) 4) } := ⟨_, rfl⟩
    obtain ⟨C5, hC5⟩ : ∃ C, C = (volV x5).toArray := ⟨_, rfl⟩
    have hhl := hashT_length (tkNext (tkNext (tkNext (txN (txN tt)) 1) 8) 4)
    have hthh := hG.there 5 (byteCells (hashT (tkNext (tkNext (tkNext (txN (txN tt)) 1) 8) 4))).size (by rw [byteCells_size, hhl, HX4.out.2, HX4.out.1, HX3.out.1, HX2.out.1, HX1.out.1, HX0.out.1]; exact Nat.le_refl _)
    have hszh : (Tryz.prog.info? 36).map (·.size) = some (byteCells (hashT (tkNext (tkNext (tkNext (txN (txN tt)) 1) 8) 4))).size := by rw [byteCells_size, hhl]; kernel_rfl
    have honh := byteCells_one (hashT (tkNext (tkNext (tkNext (txN (txN tt)) 1) 8) 4))
    obtain ⟨U5, hU5⟩ : ∃ W, W = wn.setCells X 5 (byteCells (hashT (tkNext (tkNext (tkNext (txN (txN tt)) 1) 8) 4))).toList := ⟨_, rfl⟩
    have hG2 : RowIs U5 X 89 C5 := by
     have h2 := hG
     rw [HX4.out.2, HX4.out.1, HX3.out.1, HX2.out.1, HX1.out.1, HX0.out.1] at h2
     have h3 := mid_row (o := 5) [.string (strOf (bgTx tt)), .int .u8 (numT (txN (txN tt)) 1 : Int), .string (strOf (bgTx (txN tt))), .int .u64 (numT (tkNext (txN (txN tt)) 1) 8 : Int), .int .u32 (numT (tkNext (tkNext (txN (txN tt)) 1) 8) 4 : Int)] (List.replicate 32 0) (hashT (tkNext (tkNext (tkNext (txN (txN tt)) 1) 8) 4)) rfl rfl hhl h2
     rw [← hU5] at h3
     rw [hC5, hx5, HX4.out.1, HX3.out.1, HX2.out.1, HX1.out.1, HX0.out.1]
     exact h3
    have hTt : BgAt U5 b (tkNext (tkNext (tkNext (tkNext (txN (txN tt)) 1) 8) 4) 32) := by rw [hU5]; exact (setCells_other X b (fun q => hXb q.symm) _ _ wn).trans hTn
    have hbt2 : But b wr U5 := by rw [hU5]; exact hbt.thenBelow (setCells_below X wr.heap.size hXr _ _ _ _ (Below.refl wr.heap.size wn))
    clear hG hbt hTn hbn hhl
    have hG := hG2
    have hbt := hbt2
    have HU := Lib.hid hU5
    have HX5 := Lib.hid (And.intro hx5 hC5)
    clear hG2 hbt2 hU5 hx5 hC5
    generalize byteCells (hashT (tkNext (tkNext (tkNext (txN (txN tt)) 1) 8) 4)) = HC at *
    have hxl := hszE x5 (by rw [HX5.out.1]; exact hashT_length _)
    have hone := volV_one x5
    have hxe : x5 = volTR tt := by rw [HX5.out.1, HX4.out.1, HX3.out.1, HX2.out.1, HX1.out.1, HX0.out.1]; rfl
    have hnl : (volV x5).length = 37 := by rw [hxe]; exact volV_length (volTR_wf tt).2.2.2
    have hnall : ∀ u ∈ volV x5, u.oneCell' = true := fun u hu => by rw [Array.all_eq_true'] at hone; exact hone u (by simpa using hu)
    rw [← HX5.out.2] at hxl
    have hk := HK.out.but hbt hTt hNb
    have hb := HB.out.1.trans hbt
    have hPr := HB.out.2.but hbt hPb
    have hcN : U5.cell? ⟨N, 3, none⟩ = some vi := by rw [hk.nd.cell]; rfl
    obtain ⟨WS, hWS⟩ : ∃ W, W = U5.alloc (.cells C5 89) := ⟨_, rfl⟩
    have hal2 := (Below.refl _ U5).alloc (Nat.le_refl _) (.cells C5 89)
    have hNS := RowIs.new U5 89 C5
    rw [← hWS] at hal2 hNS
    have hkS := hk.below hal2
    have hbS := hb.thenBelow (hal2.mono hb.size)
    have hPS := hPr.below hal2 hPr.lt
    have hoS := hkS.ov
    have hsS : PB ≤ WS.heap.size := Nat.le_of_lt hPS.lt
    have hnews : ∀ j u, (volV x5)[j]? = some u → WS.cell? ((⟨U5.heap.size, 0, none⟩ : Addr).add j) = some u := fun j u hj => by rw [Addr.add_mid, Nat.zero_add, RowIs.cell hNS, HX5.out.2]; simpa using hj
    have HWS := Lib.hid hWS
    have HQ := Lib.hid (And.intro hkS (And.intro hbS hPS))
    have HXE := Lib.hid hxe
    have hCs : C5.size = 37 := by rw [HX5.out.2, List.size_toArray, hnl]
    generalize hKC : volV x5 = KC at *
    have HKC := Lib.hid hKC
    clear hWS hal2 hkS hbS hPS hk hb hPr hxe hKC hTt hbt hNS
    go_wp2_with (first | (refine wpList_store_mid rfl 36 _ _ rfl X 5 HC rfl rfl hthh hszh honh ?_; refine wpList_world HU.out ?_) | (refine wpList_load_row rfl 89 _ rfl X rfl 89 C5 (0, 0) _ hG Tryz.underlying89 rfl hxl ?_) | (refine rwp_slice1 rfl 26 89 _ rfl Tryz.underlying26 iE hE _ hEz0 37 hEz1 C5 rfl hCs (by omega) (by omega) ?_; refine wpList_world HWS.out ?_) | (at_builtin; refine wpList_append_own _ rfl _ _ 26 rfl PB 89 iE (.agg volZ) 37 88 Tryz.underlying26 hE hEz0 hEz1 hEz2 rfl (by decide) vi acc.length (acc.flatMap volV) rfl hoS ⟨U5.heap.size, 0, none⟩ 1 1 KC rfl (by rw [hnl]) hnews hnall (by unfold maxLen; omega) (by omega) hsS ?_))
    intro v' wd hown' hgrow _
    obtain ⟨hkS, hbS, hPS⟩ := HQ.out
    have hot := fun g hg => own_type hkS.ov (g := g) hg
    have hNd := row_grown hkS.nd hgrow (fun q => by obtain ⟨cc, hcc⟩ := hot N q.symm; have := hkS.nd; unfold RowIs at this; rw [this] at hcc; injection hcc with hcc; injection hcc with _ q2 _; exact absurd q2 (by decide))
    have hTd : BgAt wd b _ := row_grown hkS.tk hgrow (fun q => by obtain ⟨cc, hcc⟩ := hot b q.symm; have := hkS.tk; unfold BgAt RowIs at this; rw [this] at hcc; injection hcc with hcc; injection hcc with _ q2 _; exact absurd q2 (by decide))
    have hPd := row_grown hPS hgrow (fun q => by obtain ⟨cc, hcc⟩ := hot PB q.symm; have := hPS; unfold RowIs at this; rw [this] at hcc; injection hcc with hcc; injection hcc with _ q2 _; exact absurd q2 (by decide))
    have hkoi := owns_grown hkS.oi hgrow (fun g hg cc hcc => by obtain ⟨c2, h2⟩ := hot g hg; rw [h2] at hcc; injection hcc with hcc; injection hcc with _ q2 _; exact absurd q2 (by decide))
    have hkok := owns_grown hkS.ok hgrow (fun g hg cc hcc => by obtain ⟨c2, h2⟩ := hot g hg; rw [h2] at hcc; injection hcc with hcc; injection hcc with _ q2 _; exact absurd q2 (by decide))
    have hbd : But b w wd := hbS.thenBelow (by rw [← HPP.out]; exact (Below.refl PB WS).grown hgrow hsS (fun k hq => (hkS.ov.lt k hq).1))
    have hfd := hNd.free 3
    have hcd : wd.cell? ⟨N, 3, none⟩ = some vi := by rw [hNd.cell]; rfl
    have hsnoc : (acc ++ [volTR tt]).flatMap volV = acc.flatMap volV ++ volV (volTR tt) := by rw [List.flatMap_append]; simp
    have hlen1 : (acc ++ [volTR tt]).length = acc.length + 1 := by simp
    rw [← HKC.out, HXE.out, ← hsnoc] at hown'
    obtain ⟨p', c', rfl⟩ := own_shape hown'
    obtain ⟨WE, hWE⟩ : ∃ W, W = wd.setCell ⟨N, 3, none⟩ (.slice p' (acc.length + 1) c') := ⟨_, rfl⟩
    have hbe : But b w WE := by rw [hWE]; exact hbd.thenBelow (by rw [← HPP.out]; exact (Below.refl PB wd).setCell (p := ⟨N, 3, none⟩) hNge _)
    have hbN := (But.refl N wd).setCell 3 (.slice p' (acc.length + 1) c')
    have hqN : ∀ (e : TypeId) cc, e ≠ 28 → wd.heap[N]? ≠ some (.cells cc e (0, 0)) := fun e cc he hx => by have := hNd; unfold RowIs at this; rw [hx] at this; injection this with this; injection this with _ q2 _; exact he q2
    have hke : TakingR PB b N WE (tkNext (tkNext (tkNext (tkNext (txN (txN tt)) 1) 8) 4) 32) 3 (.slice none 0 0) (.slice none 0 0) (.slice p' (acc.length + 1) c') [] [] (acc ++ [volTR tt]) := by rw [hWE]; exact ⟨RowIs.other hTd _ _ (fun q => hNb q.symm), hNd.set 3 _, (ownsRow_but hkoi hbN (fun cc => hqN _ cc (by decide))), (ownsRow_but hkok hbN (fun cc => hqN _ cc (by decide))), (by rw [hlen1]; exact ownsRow_but hown' hbN (fun cc => hqN _ cc (by decide)))⟩
    have hPe := RowIs.other hPd ⟨N, 3, none⟩ (.slice p' (acc.length + 1) c') hNP
    rw [← hWE] at hPe
    have HWE := Lib.hid hWE
    have HE := Lib.hid (And.intro hke (And.intro hbe hPe))
    clear hWE hke hbe hPe hNd hTd hPd hkoi hkok hbd hown' hgrow hot hbN hqN hkS hbS hPS hG hxl hone hnall hnl hnews hoS hcN
    go_wp2_with (refine wpList_world HWE.out ?_)
    go_roundw
    case rel =>
     refine ⟨c - 1, acc ++ [volTR tt], tkNext (tkNext (tkNext (tkNext (txN (txN tt)) 1) 8) 4) 32, _, by omega, ?_, HE.out.1, ?_, ?_, ?_, HE.out.2.1, HE.out.2.2⟩
     ·rw [show cnt - (c - 1) = (cnt - c) + 1 by omega]; go_num
     ·rw [← HA.out.1, HM.out.1, List.append_assoc]; rfl
     ·rw [← HA.out.2, HM.out.2]; rfl
     ·rw [hlen1]; omega
    case measure => simp only [intOf]; omega
set_option maxRecDepth 100000 in
set_option maxHeartbeats 6400000 in
theorem btake_else_calls (b : Nat) (t : TkD) (w : World) (h : BgAt w b t) (hkk : kindT t ≠ 1 ∧ kindT t ≠ 2 ∧ kindT t ≠ 3) :
  Calls Tryz.prog 86 #[.pointer (some ⟨b, 0, none⟩)] w fun e w' => ∃ v, e = .returned v ∧ OwnAt w.heap.size w' v (takeNR t) ∧ BgAt w' b (takeX t) ∧ But b w w' := by
 have hkt := numT_lt t 1
 have hn1 := fun w h => bgnumber_calls b t 1 w h (by omega) (by omega)
 have hn2 := fun w h => bgnumber_calls b (tkNext t 1) 1 w h (by omega) (by omega)
 rw [show ((1 : Nat) : Int) = 1 from rfl] at hn1 hn2
 have hct := numT_lt (tkNext t 1) 1
 have hbody : tkNext (tkNext t 1) 1 = bodyT t := rfl
 have hkind : numT t 1 = kindT t := rfl
 have hcount : numT (tkNext t 1) 1 = countT t := rfl
 rw [hbody, hcount] at hn2
 rw [hkind] at hn1 hkt
 rw [hcount] at hct
 have hbw := RowIs.lt h
 clear hbody hkind hcount
 have hbc := body_count t
 have hTN : takeNR t = (if kindT t = 1 then ⟨1, manyT itemTR itemN (countT t) (bodyT t), [], []⟩ else if kindT t = 2 then ⟨2, [], manyT kidTR kidN (countT t) (bodyT t), []⟩ else if kindT t = 3 then ⟨3, [], [], manyT volTR volN (countT t) (bodyT t)⟩ else ⟨kindT t, [], [], []⟩) := rfl
 have hTX : takeX t = (if kindT t = 1 then manyN itemN (countT t) (bodyT t) else if kindT t = 2 then manyN kidN (countT t) (bodyT t) else if kindT t = 3 then manyN volN (countT t) (bodyT t) else if countT t = 0 then bodyT t else ⟨(bodyT t).left, true⟩) := rfl
 have hwfT := takeNR_wf t
 generalize takeNR t = NN at *
 generalize takeX t = TX at *
 generalize kindT t = kind at *
 generalize countT t = cnt at *
 generalize bodyT t = body at *
 generalize tkNext t 1 = t1 at *
 have hk8 : IntKind.u8.wrap (kind : Int) = (kind : Int) := by rw [IntKind.wrap_u8]; omega
 have hk64 : IntKind.i64.wrap (cnt : Int) = (cnt : Int) := by rw [IntKind.wrap_i64]; omega
 obtain ⟨k1, k2, k3⟩ := hkk
 rw [if_neg k1, if_neg k2, if_neg k3] at hTX hTN
 have HT := Lib.hid (And.intro hTN hTX)
 have HBC := Lib.hid hbc
 clear hTN hTX hbc
 obtain ⟨PB, hPP⟩ : ∃ PB, PB = w.heap.size := ⟨_, rfl⟩
 obtain ⟨WP, hWP⟩ : ∃ W, W = w.alloc (.cells #[.int .u8 0, .slice none 0 0, .slice none 0 0, .slice none 0 0] 28) := ⟨_, rfl⟩
 have hP0 : RowIs WP PB 28 #[.int .u8 0, .slice none 0 0, .slice none 0 0, .slice none 0 0] := by rw [hWP, hPP]; exact RowIs.new w _ _
 have hT0 : BgAt WP b t := by rw [hWP]; exact RowIs.alloc h _
 have hb0 : But b w WP := by rw [hWP]; exact (But.refl b w).alloc _
 have hPb : PB ≠ b := by omega
 have hcall := hn1 WP hT0
 have HWP := Lib.hid hWP
 have HPP := Lib.hid hPP
 have HF := Lib.hid (And.intro hP0 (And.intro hb0 hn2))
 clear hWP hPP hP0 hT0 hb0 hn1 hn2 h
 go_enter Tryz.func86, Tryz.ntmps86
 go_wp2_with (refine wpList_world HWP.out ?_)
 rw [← HPP.out]
 refine hcall.mono ?_
 rintro e w1 ⟨rfl, hT1, hbt⟩
 obtain ⟨hP0, hb0, hn2⟩ := HF.out
 have hP1 := hP0.but hbt hPb
 have hb1 := hb0.trans hbt
 obtain ⟨WN, WN2, hWN, hWN2, hN2, hbn, hthn⟩ := alloc_fill w1 #[.int .u8 0, .slice none 0 0, .slice none 0 0, .slice none 0 0] #[.int .u8 (kind : Int), .slice none 0 0, .slice none 0 0, .slice none 0 0] 28 rfl
 have hszn : (Tryz.prog.info? 28).map (·.size) = some (#[.int .u8 (kind : Int), .slice none 0 0, .slice none 0 0, .slice none 0 0] : Array Value).size := by kernel_rfl
 have honn : (#[.int .u8 (kind : Int), .slice none 0 0, .slice none 0 0, .slice none 0 0] : Array Value).all (·.oneCell') = true := by simp [Value.oneCell']
 have hP2 := hP1.below hbn hP1.lt
 have hT2 : BgAt WN2 b t1 := RowIs.below hT1 hbn (RowIs.lt hT1)
 have hb2 := hb1.thenBelow (hbn.mono hb1.size)
 have hNb : w1.heap.size ≠ b := by have := RowIs.lt hT1; omega
 have hNP : PB ≠ w1.heap.size := by have := hP1.lt; omega
 have hNge : PB ≤ w1.heap.size := Nat.le_of_lt hP1.lt
 have hcall := hn2 WN2 hT2
 have HBN := Lib.hid (show Tryz.prog.built 28 [(0, .int .u8 (kind : Int))] = some #[.int .u8 (kind : Int), .slice none 0 0, .slice none 0 0, .slice none 0 0] from built_nodeR kind)
 have HWN := Lib.hid hWN
 have HWN2 := Lib.hid hWN2
 have HF2 := Lib.hid (And.intro hP2 (And.intro hb2 hN2))
 clear hWN hWN2 hP2 hT2 hb2 hbn hT1 hbt hP1 hb1 hP0 hb0 hn2 HF hN2
 go_wp2_with (first | (refine rwp_build rfl 28 [(0, .tmp 11)] rfl #[.int .u8 (kind : Int), .slice none 0 0, .slice none 0 0, .slice none 0 0] (by exact HBN.out) ?_) | (refine wpList_world HWN.out ?_) | (refine wpList_store_mid rfl 28 _ _ rfl w1.heap.size 0 #[.int .u8 (kind : Int), .slice none 0 0, .slice none 0 0, .slice none 0 0] rfl rfl hthn hszn honn ?_; refine wpList_world HWN2.out ?_))
 generalize w1.heap.size = N at *
 refine hcall.mono ?_
 rintro e w3 ⟨rfl, hT4, hbt⟩
 obtain ⟨hP2, hb2, hN2⟩ := HF2.out
 have hN4 := hN2.but hbt hNb
 have hP4 := hP2.but hbt hPb
 have hb5 := hb2.trans hbt
 have ho0 : ∀ (e : TypeId) (z : Nat), w3.ownsRow PB e z (.slice none 0 0) 0 [] := fun e z => ⟨by simp, .inl ⟨rfl, rfl⟩⟩
 have hk0 : TakingR PB b N w3 body kind (.slice none 0 0) (.slice none 0 0) (.slice none 0 0) [] [] [] := ⟨hT4, hN4, ho0 _ _, ho0 _ _, ho0 _ _⟩
 clear hN2 hP2 hb2 hcall hbt hT4 hN4 ho0 HF2 hthn hszn honn
 have j1 : ((kind : Int) == 1) = false := by simpa using fun e => k1 (by omega)
 have j2 : ((kind : Int) == 2) = false := by simpa using fun e => k2 (by omega)
 have j3 : ((kind : Int) == 3) = false := by simpa using fun e => k3 (by omega)
 go_wp2_with fail
 go_loopw [5] (fun v wr => ∃ c tt, c ≤ 1 ∧ (tt.bad = false → v = .int .i64 0 ∧ tt = body) ∧ (tt.bad = true → TX = tt) ∧ (∃ i : Nat, i ≤ cnt ∧ v = .int .i64 (i : Int)) ∧ TakingR PB b N wr tt kind (.slice none 0 0) (.slice none 0 0) (.slice none 0 0) [] [] [] ∧ c = (if tt.bad then 0 else 1) ∧
  But b w wr ∧ RowIs wr PB 28 #[.int .u8 0, .slice none 0 0, .slice none 0 0, .slice none 0 0]) (fun v _ => cnt - (intOf v).toNat)
 case atStart => exact ⟨_, body, by split <;> omega, fun _ => ⟨rfl, rfl⟩, fun hb => by rw [HT.out.2, if_pos (HBC.out hb)], ⟨0, Nat.zero_le _, rfl⟩, hk0, rfl, hb5, hP4⟩
 case round =>
  clear hk0 hb5 hP4
  obtain ⟨c, tt, _, hgood, hbd, ⟨i, hi, rfl⟩, hk0, _, hb0, hPr⟩ := hrel
  have hBb : wr.cell? ⟨b, 1, none⟩ = some (.bool tt.bad) := by rw [RowIs.cell hk0.tk 1]; rfl
  have HK := Lib.hid hk0
  have HB := Lib.hid (And.intro hb0 hPr)
  have HG := Lib.hid (And.intro hgood hbd)
  clear hgood hbd
  have HN := Lib.hid HT.out.1
  have hwf2 := hwfT
  rw [HN.out] at hwf2
  cases hbad : tt.bad with
  | true =>
   rw [hbad] at hBb
   have HX := Lib.hid (HG.out.2 hbad)
   by_cases hlt : (i : Int) < (cnt : Int)
   ·have hltd : decide ((i : Int) < (cnt : Int)) = true := decide_eq_true hlt
    have hst := store_row hPr (D := #[.int .u8 (kind : Int), .slice none 0 0, .slice none 0 0, .slice none 0 0]) rfl
    have hthere := (hPr).there 0 4 (Nat.le_refl 4)
    have hnd := hk0.nd
    have hone : (#[.int .u8 (kind : Int), .slice none 0 0, .slice none 0 0, .slice none 0 0] : Array Value).all (·.oneCell') = true := by simp [Value.oneCell']
    have hsz4 : (Tryz.prog.info? 28).map (·.size) = some (#[.int .u8 (kind : Int), .slice none 0 0, .slice none 0 0, .slice none 0 0] : Array Value).size := by kernel_rfl
    have hbz := (hb0).thenBelow (v := wr.setCells PB 0 (#[.int .u8 (kind : Int), .slice none 0 0, .slice none 0 0, .slice none 0 0] : Array Value).toList) (by rw [HPP.out]; exact setCells_below w.heap.size w.heap.size (Nat.le_refl _) _ 0 _ _ (Below.refl w.heap.size wr))
    have hkz := (hk0.own hwf2).store hPr (#[.int .u8 (kind : Int), .slice none 0 0, .slice none 0 0, .slice none 0 0] : Array Value).toList 0
    have hTz : BgAt (wr.setCells PB 0 (#[.int .u8 (kind : Int), .slice none 0 0, .slice none 0 0, .slice none 0 0] : Array Value).toList) b TX := by rw [HX.out]; exact (setCells_other PB b (fun q => hPb q.symm) _ 0 wr).trans hk0.tk
    have HZ := Lib.hid (And.intro hst (And.intro hbz (And.intro hkz hTz)))
    clear hst hbz hkz hTz
    go_wp2_with (first | (refine wpList_load_row rfl 28 _ rfl N rfl 28 #[.int .u8 (kind : Int), .slice none 0 0, .slice none 0 0, .slice none 0 0] (0, 0) _ hnd Tryz.underlying28 rfl hsz4 ?_) | (refine wpList_store_mid rfl 28 _ _ rfl PB 0 #[.int .u8 (kind : Int), .slice none 0 0, .slice none 0 0, .slice none 0 0] rfl rfl hthere hsz4 hone ?_))
    try rw [Exit.noGoto_ret]
    refine bodyPost_ret (v := .agg #[.int .u8 (kind : Int), .slice none 0 0, .slice none 0 0, .slice none 0 0]) (results_cell_row (p := 2) (ty := 28) (by rfl) _ _ PB 28 #[.int .u8 (kind : Int), .slice none 0 0, .slice none 0 0, .slice none 0 0] (0, 0) _ (by rfl) HZ.out.1 Tryz.underlying28 (by rfl) hsz4) (by rfl) ?_
    exact ⟨_, rfl, by rw [HN.out, ← HPP.out]; exact HZ.out.2.2.1, HZ.out.2.2.2, HZ.out.2.1⟩
   ·have hltd : decide ((i : Int) < (cnt : Int)) = false := decide_eq_false hlt
    have hst := store_row hPr (D := #[.int .u8 (kind : Int), .slice none 0 0, .slice none 0 0, .slice none 0 0]) rfl
    have hthere := (hPr).there 0 4 (Nat.le_refl 4)
    have hnd := hk0.nd
    have hone : (#[.int .u8 (kind : Int), .slice none 0 0, .slice none 0 0, .slice none 0 0] : Array Value).all (·.oneCell') = true := by simp [Value.oneCell']
    have hsz4 : (Tryz.prog.info? 28).map (·.size) = some (#[.int .u8 (kind : Int), .slice none 0 0, .slice none 0 0, .slice none 0 0] : Array Value).size := by kernel_rfl
    have hbz := (hb0).thenBelow (v := wr.setCells PB 0 (#[.int .u8 (kind : Int), .slice none 0 0, .slice none 0 0, .slice none 0 0] : Array Value).toList) (by rw [HPP.out]; exact setCells_below w.heap.size w.heap.size (Nat.le_refl _) _ 0 _ _ (Below.refl w.heap.size wr))
    have hkz := (hk0.own hwf2).store hPr (#[.int .u8 (kind : Int), .slice none 0 0, .slice none 0 0, .slice none 0 0] : Array Value).toList 0
    have hTz : BgAt (wr.setCells PB 0 (#[.int .u8 (kind : Int), .slice none 0 0, .slice none 0 0, .slice none 0 0] : Array Value).toList) b TX := by rw [HX.out]; exact (setCells_other PB b (fun q => hPb q.symm) _ 0 wr).trans hk0.tk
    have HZ := Lib.hid (And.intro hst (And.intro hbz (And.intro hkz hTz)))
    clear hst hbz hkz hTz
    go_wp2_with (first | (refine wpList_load_row rfl 28 _ rfl N rfl 28 #[.int .u8 (kind : Int), .slice none 0 0, .slice none 0 0, .slice none 0 0] (0, 0) _ hnd Tryz.underlying28 rfl hsz4 ?_) | (refine wpList_store_mid rfl 28 _ _ rfl PB 0 #[.int .u8 (kind : Int), .slice none 0 0, .slice none 0 0, .slice none 0 0] rfl rfl hthere hsz4 hone ?_))
    try rw [Exit.noGoto_ret]
    refine bodyPost_ret (v := .agg #[.int .u8 (kind : Int), .slice none 0 0, .slice none 0 0, .slice none 0 0]) (results_cell_row (p := 2) (ty := 28) (by rfl) _ _ PB 28 #[.int .u8 (kind : Int), .slice none 0 0, .slice none 0 0, .slice none 0 0] (0, 0) _ (by rfl) HZ.out.1 Tryz.underlying28 (by rfl) hsz4) (by rfl) ?_
    exact ⟨_, rfl, by rw [HN.out, ← HPP.out]; exact HZ.out.2.2.1, HZ.out.2.2.2, HZ.out.2.1⟩
  | false =>
   rw [hbad] at hBb
   obtain ⟨hi0, hbody⟩ := HG.out.1 hbad
   obtain rfl : i = 0 := by
    injection hi0 with _ hi0
    omega
   subst hbody
   by_cases hc0 : cnt = 0
   ·have hlt : ¬ ((0 : Nat) : Int) < (cnt : Int) := by omega
    have hltd : decide (((0 : Nat) : Int) < (cnt : Int)) = false := decide_eq_false hlt
    have HX := Lib.hid (show TX = tt by rw [HT.out.2, if_pos hc0])
    have hst := store_row hPr (D := #[.int .u8 (kind : Int), .slice none 0 0, .slice none 0 0, .slice none 0 0]) rfl
    have hthere := (hPr).there 0 4 (Nat.le_refl 4)
    have hnd := hk0.nd
    have hone : (#[.int .u8 (kind : Int), .slice none 0 0, .slice none 0 0, .slice none 0 0] : Array Value).all (·.oneCell') = true := by simp [Value.oneCell']
    have hsz4 : (Tryz.prog.info? 28).map (·.size) = some (#[.int .u8 (kind : Int), .slice none 0 0, .slice none 0 0, .slice none 0 0] : Array Value).size := by kernel_rfl
    have hbz := (hb0).thenBelow (v := wr.setCells PB 0 (#[.int .u8 (kind : Int), .slice none 0 0, .slice none 0 0, .slice none 0 0] : Array Value).toList) (by rw [HPP.out]; exact setCells_below w.heap.size w.heap.size (Nat.le_refl _) _ 0 _ _ (Below.refl w.heap.size wr))
    have hkz := (hk0.own hwf2).store hPr (#[.int .u8 (kind : Int), .slice none 0 0, .slice none 0 0, .slice none 0 0] : Array Value).toList 0
    have hTz : BgAt (wr.setCells PB 0 (#[.int .u8 (kind : Int), .slice none 0 0, .slice none 0 0, .slice none 0 0] : Array Value).toList) b TX := by rw [HX.out]; exact (setCells_other PB b (fun q => hPb q.symm) _ 0 wr).trans hk0.tk
    have HZ := Lib.hid (And.intro hst (And.intro hbz (And.intro hkz hTz)))
    clear hst hbz hkz hTz
    go_wp2_with (first | (refine wpList_load_row rfl 28 _ rfl N rfl 28 #[.int .u8 (kind : Int), .slice none 0 0, .slice none 0 0, .slice none 0 0] (0, 0) _ hnd Tryz.underlying28 rfl hsz4 ?_) | (refine wpList_store_mid rfl 28 _ _ rfl PB 0 #[.int .u8 (kind : Int), .slice none 0 0, .slice none 0 0, .slice none 0 0] rfl rfl hthere hsz4 hone ?_))
    try rw [Exit.noGoto_ret]
    refine bodyPost_ret (v := .agg #[.int .u8 (kind : Int), .slice none 0 0, .slice none 0 0, .slice none 0 0]) (results_cell_row (p := 2) (ty := 28) (by rfl) _ _ PB 28 #[.int .u8 (kind : Int), .slice none 0 0, .slice none 0 0, .slice none 0 0] (0, 0) _ (by rfl) HZ.out.1 Tryz.underlying28 (by rfl) hsz4) (by rfl) ?_
    exact ⟨_, rfl, by rw [HN.out, ← HPP.out]; exact HZ.out.2.2.1, HZ.out.2.2.2, HZ.out.2.1⟩
   ·have hlt : ((0 : Nat) : Int) < (cnt : Int) := by omega
    have hltd : decide (((0 : Nat) : Int) < (cnt : Int)) = true := decide_eq_true hlt
    have hX : TX = ⟨tt.left, true⟩ := by rw [HT.out.2, if_neg hc0]
    have d0 : wr.cell? ⟨N, 0, none⟩ = some (.int .u8 (kind : Int)) := by rw [hk0.nd.cell]; rfl
    have hfb := RowIs.free hk0.tk 1
    obtain ⟨WE, hWE⟩ : ∃ W, W = wr.setCell ⟨b, 1, none⟩ (.bool true) := ⟨_, rfl⟩
    have hbb := (But.refl b wr).setCell 1 (.bool true)
    rw [← hWE] at hbb
    have hTE : BgAt WE b ⟨tt.left, true⟩ := by rw [hWE]; exact RowIs.set hk0.tk 1 _
    have hke := hk0.but hbb hTE hNb
    have hbe := hb0.trans hbb
    have hPe := hPr.but hbb hPb
    have HE := Lib.hid (And.intro hke (And.intro hbe (And.intro hPe hX)))
    have HWE := Lib.hid hWE
    clear hWE hbb hTE hke hbe hPe hk0 hb0 hPr hX
    go_wp2_with (refine wpList_world HWE.out ?_)
    go_roundw
    case rel => exact ⟨_, ⟨tt.left, true⟩, by split <;> omega, fun q => (by cases q), fun _ => HE.out.2.2.2, ⟨1, by omega, by go_num⟩, HE.out.1, rfl, HE.out.2.1, HE.out.2.2.1⟩
    case measure => simp only [intOf]; omega
theorem btake_calls (b : Nat) (t : TkD) (w : World) (h : BgAt w b t) :
  Calls Tryz.prog 86 #[.pointer (some ⟨b, 0, none⟩)] w fun e w' => ∃ v, e = .returned v ∧ OwnAt w.heap.size w' v (takeNR t) ∧ BgAt w' b (takeX t) ∧ But b w w' := by
 by_cases h1 : kindT t = 1
 ·exact btake_items_calls b t w h h1
 by_cases h2 : kindT t = 2
 ·exact btake_kids_calls b t w h h2
 by_cases h3 : kindT t = 3
 ·exact btake_vols_calls b t w h h3
 ·exact btake_else_calls b t w h ⟨h1, h2, h3⟩
end Go.Proofs.YtimkklaidodkdaaGreatDoor
