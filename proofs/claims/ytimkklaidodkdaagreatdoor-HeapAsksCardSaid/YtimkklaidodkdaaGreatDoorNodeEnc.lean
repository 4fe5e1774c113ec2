/- node.maker: number, text; node.Whole: walked. -/
/- node.Encode: walked. -/
import Derived.Test.YtimkklaidodkdaaGreatDoorBuild
import Derived.Test.YtimkklaidodkdaaGreatDoorNumA
import Derived.Test.YtimkklaidodkdaaGreatDoorSum
import Derived.Test.YtimkklaidodkdaaGreatDoorNodeShaped
import Derived.Test.YtimkklaidodkdaaGreatDoorKit
namespace Go.Proofs.YtimkklaidodkdaaGreatDoor
open Go.RowKit

theorem holds_maker : Holds 79 := ⟨by kernel_rfl, by decide⟩
theorem ownsRow_below {w w' : World} {base : Nat} {e : TypeId} {size : Nat} {v : Value} {n : Nat} {xs : List Value} (h : w.ownsRow base e size v n xs) (hb : Below w.heap.size w w') : w'.ownsRow base e size v n xs := by
 refine ⟨h.1, ?_⟩
 rcases h.2 with h2 | ⟨g, cap, cur, hv, hg, hh, r⟩
 ·exact .inl h2
 ·exact .inr ⟨g, cap, cur, hv, hg, (hb.block g (lt_of_block hh)).trans hh, r⟩
theorem builderAt_below {T e : TypeId} {B b : Nat} {p : Value} {bs : List Value} {w w' : World} (h : Lib.BuilderAt T e B b p bs w) (hb : Below w.heap.size w w') : Lib.BuilderAt T e B b p bs w' := by
 obtain ⟨hB, v, hv, ho, hne⟩ := h
 exact ⟨hB, v, (hb.block b (lt_of_block hv)).trans hv, ownsRow_below ho hb, hne⟩
theorem builder_below {T e : TypeId} {B b : Nat} {bs : List Value} {w w' : World} (h : Lib.IsBuilder T e B b bs w) (hb : Below w.heap.size w w') : Lib.IsBuilder T e B b bs w' :=
 h.elim (fun x => .inl (builderAt_below x hb)) (fun x => .inr (builderAt_below x hb))

/-- The maker holds these bytes. -/
def MakerAt (B b : Nat) (l : List UInt8) (w : World) : Prop := Lib.IsBuilder 79 5 B b (Lib.byteCells l) w
theorem byteCells_append (l : List UInt8) (s : ByteArray) : Lib.byteCells l ++ Lib.strCells s = Lib.byteCells (l ++ s.data.toList) := by simp [Lib.byteCells, Lib.strCells]

set_option maxRecDepth 20000 in
theorem mnumber_calls (B b : Nat) (l : List UInt8) (n : Nat) (x : Int) (w : World) (h : MakerAt B b l w) (hn : n < 18446744073709551616) (hl : l.length ≤ 1048576) (hB : B ≤ w.heap.size) :
  Calls Tryz.prog 40 #[.pointer (some ⟨b, 0, none⟩), .int .u64 (n : Int), .int .i64 x] w fun e w' => e = .returned (.tuple #[]) ∧ MakerAt B b (l ++ (numS n x).data.toList) w' ∧ Below B w w' ∧ Lib.OthersKept 5 (some b) w w' := by
 have hns : (numS n x).size ≤ 8 := by
  unfold numS
  split
  ·rename_i hq
   have := hq.2.1
   rw [beN_size]; omega
  ·exact Nat.zero_le 8
 have hnc := fun w => number_calls n x w hn
 generalize numS n x = S at *
 generalize numE n x = E at *
 have H := Lib.hid h
 clear h
 go_enter Tryz.func40, Tryz.ntmps40
 go_wp2_with fail
 refine (hnc w).mono ?_
 rintro e w1 ⟨rfl, hb1⟩
 have h1 := builder_below H.out hb1
 have hws := bWriteString_calls 79 holds_maker B b (Lib.byteCells l) S w1 h1 (by rw [Lib.byteCells_length]; omega) (Nat.le_trans hB hb1.size)
 rw [byteCells_append] at hws
 have hk1 := others_of_below (b := b) hb1
 have hb1' := hb1.mono hB
 clear h1 hb1
 go_wp2_with fail
 refine hws.mono ?_
 rintro e w2 ⟨rfl, h2, hb2, hk2⟩
 have H2 := Lib.hid h2
 have hb3 := hb1'.trans hb2
 have hk3 := hk1.trans hk2
 clear h2 hb1' hb2 hk1 hk2
 go_wp2_with fail
 go_end0
 exact ⟨rfl, .inr H2.out, hb3, hk3⟩

theorem numS_one (k : Nat) (h : k < 256) : (numS k 1).data.toList = beL k 1 := by
 rw [numS, if_pos ⟨by omega, by omega, by show k < 256 ^ 1; omega⟩]; rfl

set_option maxRecDepth 20000 in
theorem mtext_calls (B b : Nat) (l : List UInt8) (s : ByteArray) (w : World) (h : MakerAt B b l w) (hs : s.size < 256) (hl : l.length ≤ 1000000) (hB : B ≤ w.heap.size) :
  Calls Tryz.prog 41 #[.pointer (some ⟨b, 0, none⟩), .string s] w fun e w' => e = .returned (.tuple #[]) ∧ MakerAt B b (l ++ tx1 s) w' ∧ Below B w w' ∧ Lib.OthersKept 5 (some b) w w' := by
 have hnc := mnumber_calls B b l s.size 1 w h (by omega) (by omega) hB
 rw [numS_one _ hs] at hnc
 have hsi : IntKind.u64.wrap (s.size : Int) = (s.size : Int) := by rw [IntKind.wrap_u64]; omega
 have hsb : (s.size : Int) < 18446744073709551616 := by omega
 have hl2 : (l ++ beL s.size 1).length ≤ 1048576 := by rw [List.length_append, beL_length]; omega
 have happ : (l ++ beL s.size 1) ++ s.data.toList = l ++ tx1 s := by rw [tx1, List.append_assoc]
 generalize l ++ beL s.size 1 = l1 at *
 generalize l ++ tx1 s = l2 at *
 have HA := Lib.hid happ
 clear happ h
 go_enter Tryz.func41, Tryz.ntmps41
 go_wp2_with fail
 refine hnc.mono ?_
 rintro e w1 ⟨rfl, h1, hb1, hk1⟩
 have hws := bWriteString_calls 79 holds_maker B b (Lib.byteCells l1) s w1 h1 (by rw [Lib.byteCells_length]; omega) (Nat.le_trans hB hb1.size)
 rw [byteCells_append, HA.out] at hws
 clear h1
 go_wp2_with fail
 refine hws.mono ?_
 rintro e w2 ⟨rfl, h2, hb2, hk2⟩
 have H2 := Lib.hid h2
 have hb3 := hb1.trans hb2
 have hk3 := hk1.trans hk2
 clear h2 hb1 hb2 hk1 hk2
 go_wp2_with fail
 go_end0
 exact ⟨rfl, .inr H2.out, hb3, hk3⟩

theorem repeat_zero (c : Nat) : Lib.repeatL (⟨#[0]⟩ : ByteArray).data.toList c = List.replicate c 0 := by
 induction c with
 | zero => rfl
 | succ c ih =>
  show (⟨#[0]⟩ : ByteArray).data.toList ++ Lib.repeatL (⟨#[0]⟩ : ByteArray).data.toList c = _
  rw [ih]; rfl

set_option maxRecDepth 20000 in
theorem whole_calls (s : ByteArray) (w : World) (hs : s.size ≤ 508) :
  Calls Tryz.prog 43 #[.string s] w fun e w' => e = .returned (.string (strOf (wholeL s.data.toList))) ∧ Below w.heap.size w w' := by
 have hrep := fun w => Tryz.strings_Repeat ⟨#[0]⟩ (508 - s.size) w (by omega) (by show 1 * (508 - s.size) ≤ _; omega)
 rw [repeat_zero] at hrep
 have hcast : ((508 - s.size : Nat) : Int) = 508 - (s.size : Int) := by omega
 rw [hcast] at hrep
 have hcat : s ++ ⟨(List.replicate (508 - s.size) (0 : UInt8)).toArray⟩ = strOf (padTo 508 s.data.toList) := by
  apply ByteArray.ext
  apply Array.ext'
  have e : s.data.toList.length = s.size := Array.length_toList
  simp [strOf, padTo, e]
 have hrz : (⟨(List.replicate (508 - s.size) (0 : UInt8)).toArray⟩ : ByteArray).size = 508 - s.size := by show (List.replicate _ _).toArray.size = _; simp
 have hpz : (strOf (padTo 508 s.data.toList)).size = 508 := by
  show (padTo 508 s.data.toList).toArray.size = 508
  rw [List.size_toArray, padTo_length _ _ (by rw [Array.length_toList]; exact hs)]
 have hsum := fun w => sum_calls (strOf (padTo 508 s.data.toList)) w (by rw [hpz]; decide)
 have hpd : (strOf (padTo 508 s.data.toList)).data.toList = padTo 508 s.data.toList := rfl
 rw [hpd] at hsum
 have hcl := (crc (padTo 508 s.data.toList)).isLt
 have hnum := fun w => number_calls (crc (padTo 508 s.data.toList)).toNat 4 w (by omega)
 have hnok : numOk (crc (padTo 508 s.data.toList)).toNat 4 := ⟨by omega, by omega, by have e : (256 : Nat) ^ (4 : Int).toNat = 2 ^ 32 := by decide
                                                                                      omega⟩
 have hnS : numS (crc (padTo 508 s.data.toList)).toNat 4 = beN (crc (padTo 508 s.data.toList)).toNat 4 := by rw [numS, if_pos hnok]; rfl
 rw [hnS] at hnum
 have hez := beN_size (crc (padTo 508 s.data.toList)).toNat 4
 have hhead : beN (crc (padTo 508 s.data.toList)).toNat 4 ++ strOf (padTo 508 s.data.toList) = strOf (headed s.data.toList) := by
  apply ByteArray.ext
  apply Array.ext'
  simp [strOf, headed, beN]
 have htr := fun w => Tryz.strings_TrimRight_one (strOf (headed s.data.toList)) 0 (by decide) w (by rw [← hhead, ByteArray.size_append, hez, hpz]; decide)
 have hfin : (⟨(Lib.trimRightB (strOf (headed s.data.toList)).data.toList 0).toArray⟩ : ByteArray) = strOf (wholeL s.data.toList) := rfl
 rw [hfin] at htr
 have huw : uw (crc (padTo 508 s.data.toList)) = ((crc (padTo 508 s.data.toList)).toNat : Int) := rfl
 rw [huw] at hsum
 generalize numE (crc (padTo 508 s.data.toList)).toNat 4 = E at *
 generalize (crc (padTo 508 s.data.toList)).toNat = cn at *
 generalize beN cn 4 = head at *
 generalize strOf (padTo 508 s.data.toList) = P at *
 generalize strOf (headed s.data.toList) = HD at *
 generalize strOf (wholeL s.data.toList) = R at *
 generalize (⟨(List.replicate (508 - s.size) (0 : UInt8)).toArray⟩ : ByteArray) = Z at *
 have hwu : IntKind.u64.wrap (cn : Int) = (cn : Int) := by rw [IntKind.wrap_u64]; omega
 clear hnok hnS hpd hfin huw hcast
 go_enter Tryz.func43, Tryz.ntmps43
 go_wp2_with fail
 refine (hrep w).mono ?_
 rintro e w1 ⟨rfl, hb1⟩
 go_wp2_with fail
 refine (hsum w1).mono ?_
 rintro e w2 ⟨rfl, hb2⟩
 replace hb2 := hb1.trans (hb2.mono hb1.size)
 clear hb1
 go_wp2_with fail
 refine (hnum w2).mono ?_
 rintro e w3 ⟨rfl, hb3⟩
 replace hb3 := hb2.trans (hb3.mono hb2.size)
 clear hb2
 go_wp2_with fail
 refine (htr w3).mono ?_
 rintro e w3 ⟨rfl, rfl⟩
 go_wp2_with fail
 go_ret
 exact ⟨rfl, hb3⟩

end Go.Proofs.YtimkklaidodkdaaGreatDoor

namespace Go.Proofs.YtimkklaidodkdaaGreatDoor
open Go.RowKit

theorem node_sizes (n : NodeD) (hw : n.wf) (h : checkN n = 0) :
  (∀ x ∈ n.items, x.key.size < 256 ∧ x.val.size < 256) ∧ (∀ k ∈ n.kids, k.key.size < 256 ∧ k.wf) ∧ (∀ v ∈ n.vols, v.name.size < 256 ∧ v.frm.size < 256 ∧ v.wf) ∧
  2 + (itemsB n.items).length + (kidsB n.kids).length + (volsB n.vols).length ≤ 508 ∧ n.items.length + n.kids.length + n.vols.length < 256 := by
 obtain ⟨hs, hz⟩ := (check_ok n).1 h
 have hl := bytesN_length n hw hs
 have hl2 : (bytesN n).length = 2 + (itemsB n.items).length + (kidsB n.kids).length + (volsB n.vols).length := by
  rw [bytesN, List.length_append, List.length_append, List.length_append, List.length_append, beL_length, beL_length]; omega
 obtain ⟨kind, items, kids, vols⟩ := n
 have hall : (∀ x ∈ items, x.key.size < 256 ∧ x.val.size < 256) ∧ (∀ k ∈ kids, k.key.size < 256) ∧ (∀ v ∈ vols, v.name.size < 256 ∧ v.frm.size < 256) ∧ items.length + kids.length + vols.length < 256 := by
  unfold shapedN at hs
  simp only [] at hs
  split at hs
  ·simp only [Bool.and_eq_true, List.isEmpty_iff, decide_eq_true_eq] at hs
   obtain ⟨⟨⟨⟨rfl, rfl⟩, _⟩, h2⟩, h3⟩ := hs
   exact ⟨itemsOk_sizes _ _ h3, fun k hk => (by cases hk), fun k hk => (by cases hk), by simp; omega⟩
  ·split at hs
   ·simp only [Bool.and_eq_true, List.isEmpty_iff, decide_eq_true_eq] at hs
    obtain ⟨⟨⟨⟨rfl, rfl⟩, _⟩, h2⟩, h3⟩ := hs
    exact ⟨fun k hk => (by cases hk), kidsOk_sizes _ _ h3, fun k hk => (by cases hk), by simp; omega⟩
   ·split at hs
    ·simp only [Bool.and_eq_true, List.isEmpty_iff, decide_eq_true_eq] at hs
     obtain ⟨⟨⟨rfl, rfl⟩, h2⟩, h3⟩ := hs
     exact ⟨fun k hk => (by cases hk), fun k hk => (by cases hk), volsOk_sizes _ _ h3, by simp; omega⟩
    ·simp at hs
 exact ⟨hall.1, fun k hk => ⟨hall.2.1 k hk, hw.2.1 k hk⟩, fun v hv => ⟨(hall.2.2.1 v hv).1, (hall.2.2.1 v hv).2, hw.2.2 v hv⟩, by simp only [] at hl2 ⊢; omega, hall.2.2.2⟩

theorem flat_take_succ {α : Type} (f : α → List UInt8) (l : List α) (t : Nat) (h : t < l.length) : (l.take (t + 1)).flatMap f = (l.take t).flatMap f ++ f l[t] := by
 rw [List.take_succ_eq_append_getElem h, List.flatMap_append]; simp
theorem flat_take_le {α : Type} (f : α → List UInt8) (l : List α) (t : Nat) : ((l.take t).flatMap f).length ≤ (l.flatMap f).length := by
 conv => rhs; rw [← List.take_append_drop t l, List.flatMap_append, List.length_append]
 omega
theorem _root_.Go.Proofs.YtimkklaidodkdaaGreatDoor.RowIs.apart {w : World} {b g : Nat} {T : TypeId} {C : Array Value} (h : RowIs w g T C) (hne : g ≠ b) (hT : T ≠ 5) : Apart b w g :=
 ⟨hne, _, h, fun c fz e => hT (by injection e)⟩
theorem fresh_maker (w : World) : MakerAt w.heap.size w.heap.size [] (w.alloc (.cells #[.pointer none, .slice none 0 0] 79)) := Lib.fresh_isBuilder _ _ w

set_option maxRecDepth 20000 in
set_option maxHeartbeats 6400000 in
theorem encode_calls (B : Nat) (v : Value) (n : NodeD) (w : World) (h : NodeAt B w v n) (hB : B ≤ w.heap.size) (hz : fitN n) :
  Calls Tryz.prog 13 #[v] w fun e w' => e = .returned (.tuple #[.string (strOf (encN n)), .int .i64 (checkN n)]) ∧ Below w.heap.size w w' := by
 have hchk := fun w' (hb : Below w.heap.size w w') => check_calls B v n w' (h.below hb hB) (Nat.le_trans hB hb.size) hz
 have hsz := node_sizes n h.wf
 have hwf := h.wf
 obtain ⟨_, vi, vk, vv, rfl, h1, h2, h3⟩ := h
 have hX : ¬ checkN n = 0 → encN n = [] := fun q => by rw [encN, if_neg q]
 have hY : checkN n = 0 → encN n = wholeL (bytesN n) := fun q => by rw [encN, if_pos q]
 have hbn : bytesN n = beL n.kind 1 ++ (beL (n.items.length + n.kids.length + n.vols.length) 1 ++ (itemsB n.items ++ (kidsB n.kids ++ volsB n.vols))) := rfl
 have hbW : Below w.heap.size w (w.alloc (.cells #[.int .u8 (n.kind : Int), vi, vk, vv] 28)) := (Below.refl _ _).alloc (Nat.le_refl _) _
 have hg : RowIs (w.alloc (.cells #[.int .u8 (n.kind : Int), vi, vk, vv] 28)) w.heap.size 28 #[.int .u8 (n.kind : Int), vi, vk, vv] := RowIs.new w _ _
 generalize hE : encN n = E at *
 generalize hC : checkN n = C at *
 have HX := Lib.hid hX
 have HY := Lib.hid hY
 have Hbn := Lib.hid hbn
 have Hsz := Lib.hid hsz
 have hkw := hwf.1
 clear hX hY hbn hz hE hC hsz hwf
 generalize hk : n.kind = kind at *
 generalize hi : n.items = items at *
 generalize hkd : n.kids = kids at *
 generalize hvl : n.vols = vols at *
 generalize bytesN n = bytes at *
 clear hk hi hkd hvl
 go_enter Tryz.func13, Tryz.ntmps13
 go_wp2_with fail
 generalize w.alloc (.cells #[.int .u8 (kind : Int), vi, vk, vv] 28) = W at *
 refine (hchk W hbW).mono ?_
 rintro e w2 ⟨rfl, hb2⟩
 have hg2 := hg.below hb2 hg.lt
 replace hb2 := hbW.trans (hb2.mono hbW.size)
 clear hbW hg hchk
 by_cases hc : C = 0
 ·subst hc
  have hsz := Hsz.out rfl
  obtain ⟨hI, hK, hV, hlen, hcnt⟩ := hsz
  have hfin := HY.out rfl
  rw [Hbn.out] at hfin
  have HF := Lib.hid hfin
  clear hfin HX HY Hbn Hsz
  obtain ⟨ai, ci, rfl, hni, hri⟩ := h1
  obtain ⟨ak, ck, rfl, hnk, hrk⟩ := h2
  obtain ⟨av, cv, rfl, hnv, hrv⟩ := h3
  obtain ⟨b, hbd⟩ : ∃ b, b = w2.heap.size := ⟨_, rfl⟩
  obtain ⟨W3, hW3⟩ : ∃ W3, W3 = w2.alloc (.cells #[.pointer none, .slice none 0 0] 79) := ⟨_, rfl⟩
  obtain ⟨G0, hG0⟩ : ∃ G0, G0 = w.heap.size := ⟨_, rfl⟩
  have hm3 : MakerAt b b [] W3 := by rw [hbd, hW3]; exact fresh_maker w2
  have hb3 : Below G0 w W3 := by rw [hG0, hW3]; exact hb2.alloc hb2.size _
  have hg3 : RowIs W3 G0 28 #[.int .u8 (kind : Int), .slice ai items.length ci, .slice ak kids.length ck, .slice av vols.length cv] := by rw [hW3, hG0]; exact hg2.alloc _
  have hs3 : b ≤ W3.heap.size := by rw [hW3, hbd]; simp
  have hG0b : G0 < b := by rw [hG0, hbd]; exact hg2.lt
  have hGb : G0 ≤ b := Nat.le_of_lt hG0b
  have hBG : B ≤ G0 := by rw [hG0]; exact hB
  have d0 : W3.cell? ⟨G0, 0, none⟩ = some (.int .u8 (kind : Int)) := by rw [hg3.cell]; rfl
  have d1 : W3.cell? ⟨G0, 1, none⟩ = some (.slice ai items.length ci) := by rw [hg3.cell]; rfl
  have d2 : W3.cell? ⟨G0, 2, none⟩ = some (.slice ak kids.length ck) := by rw [hg3.cell]; rfl
  have d3 : W3.cell? ⟨G0, 3, none⟩ = some (.slice av vols.length cv) := by rw [hg3.cell]; rfl
  have hku : IntKind.u64.wrap (kind : Int) = (kind : Int) := by rw [IntKind.wrap_u64]; omega
  have e1 := numS_one kind hkw
  have e2 := numS_one (items.length + kids.length + vols.length) hcnt
  rw [← hG0]
  have HW3 := Lib.hid hW3
  have HG0 := Lib.hid hG0
  have Hbd := Lib.hid hbd
  clear hW3 hG0 hbd hb2 hg2 hB
  go_wp2_with (refine wpList_world HW3.out ?_)
  rw [← Hbd.out]
  have hn1 := mnumber_calls b b [] kind 1 W3 hm3 (by omega) (by simp) hs3
  rw [e1, List.nil_append] at hn1
  refine hn1.mono ?_
  rintro e w4 ⟨rfl, hm4, hq, _⟩
  have hb4 := hb3.trans (hq.mono hGb)
  have hg4 := hg3.below hq hG0b
  have hs4 := Nat.le_trans hs3 hq.size
  clear hn1 hq hb3 hg3 hs3 hm3 d0 d1 d2 d3
  have d1 : w4.cell? ⟨G0, 1, none⟩ = some (.slice ai items.length ci) := by rw [hg4.cell]; rfl
  have d2 : w4.cell? ⟨G0, 2, none⟩ = some (.slice ak kids.length ck) := by rw [hg4.cell]; rfl
  have d3 : w4.cell? ⟨G0, 3, none⟩ = some (.slice av vols.length cv) := by rw [hg4.cell]; rfl
  have hwu : IntKind.u64.wrap ((items.length : Int) + (kids.length : Int) + (vols.length : Int)) = (items.length : Int) + (kids.length : Int) + (vols.length : Int) := by rw [IntKind.wrap_u64]; omega
  have b1 : items.length < 256 := by omega
  have b2 : kids.length < 256 := by omega
  have b3 : vols.length < 256 := by omega
  go_wp2_with fail
  have hcu : (items.length : Int) + (kids.length : Int) + (vols.length : Int) = ((items.length + kids.length + vols.length : Nat) : Int) := by omega
  rw [hcu]
  have hn1 := mnumber_calls b b (beL kind 1) (items.length + kids.length + vols.length) 1 w4 hm4 (by omega) (by rw [beL_length]; decide) hs4
  rw [e2] at hn1
  refine hn1.mono ?_
  rintro e w5 ⟨rfl, hm5, hq, _⟩
  have hb5 := hb4.trans (hq.mono hGb)
  have hg5 := hg4.below hq hG0b
  have hs5 := Nat.le_trans hs4 hq.size
  clear hn1 hq hb4 hg4 hs4 hm4 d1 d2 d3 hcu hwu hku
  obtain ⟨pre, hpre⟩ : ∃ pre, pre = beL kind 1 ++ beL (items.length + kids.length + vols.length) 1 := ⟨_, rfl⟩
  have hpl : pre.length = 2 := by rw [hpre, List.length_append, beL_length, beL_length]
  rw [← hpre] at hm5
  have hF2 : (beL kind 1 ++ (beL (items.length + kids.length + vols.length) 1 ++ (itemsB items ++ (kidsB kids ++ volsB vols)))) = ((pre ++ itemsB items) ++ kidsB kids) ++ volsB vols := by rw [hpre]; simp only [List.append_assoc]
  rw [hF2] at HF
  clear hpre hF2 e1 e2
  have d1 : w5.cell? ⟨G0, 1, none⟩ = some (.slice ai items.length ci) := by rw [hg5.cell]; rfl
  have HI := Lib.hid hI
  have HK := Lib.hid hK
  have HV := Lib.hid hV
  have Hri := Lib.hid hri
  have Hrk := Lib.hid hrk
  have Hrv := Lib.hid hrv
  clear hI hK hV hri hrk hrv hni hnk hnv
  go_wp2_with fail
  clear d1
  go_loopw [41] (fun v wr => ∃ t : Nat, t ≤ items.length ∧ v = .int .i64 t ∧ MakerAt b b (pre ++ (items.take t).flatMap itemB) wr ∧ Below G0 w wr ∧ RowIs wr G0 28 #[.int .u8 (kind : Int), .slice ai items.length ci, .slice ak kids.length ck, .slice av vols.length cv] ∧ b ≤ wr.heap.size) (fun v _ => items.length - (intOf v).toNat)
  case atStart => exact ⟨0, by omega, rfl, by simpa using hm5, hb5, hg5, hs5⟩
  case round =>
   clear hm5 hb5 hg5 hs5
   obtain ⟨t, ht, rfl, hm6, hb6, hg6, hs6⟩ := hrel
   by_cases hlt : t < items.length
   ·obtain ⟨c, o, rfl, hcB, hc⟩ := Hri.out (by omega)
    have hci : wr.rangeAt c (o + t * 2) (itemV items[t]) := by
     have := rangeAt_below (hc t hlt) hb6 (by omega)
     rwa [List.getElem?_eq_getElem hlt] at this
    have hxs := HI.out _ (List.getElem_mem hlt)
    have hlti : (t : Int) < (items.length : Int) := by omega
    have hfs := flat_take_succ itemB items t hlt
    have hfl := flat_take_le itemB items (t + 1)
    have hfl0 := flat_take_le itemB items t
    have c0 : wr.cell? ⟨c, o + t * 2, none⟩ = some (.string items[t].key) := hci 0 _ rfl
    have c1 : wr.cell? ⟨c, o + t * 2 + 1, none⟩ = some (.string items[t].val) := hci 1 _ rfl
    have hL : ((pre ++ (items.take t).flatMap itemB) ++ tx1 items[t].key) ++ tx1 items[t].val = pre ++ (items.take (t + 1)).flatMap itemB := by rw [hfs, itemB]; simp only [List.append_assoc]
    have hLl : (pre ++ (items.take t).flatMap itemB).length ≤ 1000 := by rw [List.length_append, hpl]; unfold itemsB at hlen; omega
    obtain ⟨hx1, hx2⟩ := hxs
    generalize items[t].key = key at *
    generalize items[t].val = val at *
    generalize hLg : pre ++ (items.take t).flatMap itemB = L at *
    have HL := Lib.hid hL
    obtain ⟨W7, hW7⟩ : ∃ W7, W7 = wr.alloc (.cells #[.string key, .string val] 44) := ⟨_, rfl⟩
    have hm7 : MakerAt b b L W7 := by rw [hW7]; exact builder_below hm6 ((Below.refl _ _).alloc (Nat.le_refl _) _)
    have hb7 : Below G0 w W7 := by rw [hW7]; exact hb6.alloc (Nat.le_trans hGb hs6) _
    have hg7 := hg6.alloc (.cells #[.string key, .string val] 44)
    rw [← hW7] at hg7
    have hs7 : b ≤ W7.heap.size := by rw [hW7]; exact Nat.le_trans hs6 (by simp)
    have hr7 : RowIs W7 wr.heap.size 44 #[.string key, .string val] := by rw [hW7]; exact RowIs.new wr _ _
    have hGne : wr.heap.size ≠ b := by
     have := (hm6.elim (fun x => x.lt) (fun x => x.lt))
     omega
    have hTne : (44 : TypeId) ≠ 5 := by decide
    have HW7 := Lib.hid hW7
    clear hW7 hL hLg hfs hfl hfl0 hci hc hm6 hb6 hg6 hs6
    go_wp2_with fail
    rw [← HW7.out]
    generalize wr.heap.size = G at *
    refine (mtext_calls b b L key W7 hm7 hx1 (by omega) hs7).mono ?_
    rintro e w8 ⟨rfl, hm8, hq, hkk⟩
    have hb8 := hb7.trans (hq.mono hGb)
    have hg8 := hg7.below hq hG0b
    have hs8 := Nat.le_trans hs7 hq.size
    have hr8 : RowIs w8 G 44 #[.string key, .string val] := (((RowIs.apart hr7 hGne hTne).kept hkk).1).trans hr7
    have c1' : w8.cell? ⟨G, 1, none⟩ = some (.string val) := by rw [hr8.cell]; rfl
    clear hq hkk hb7 hg7 hs7 hm7 hr7
    go_wp2_with fail
    refine (mtext_calls b b (L ++ tx1 key) val w8 hm8 hx2 (by rw [List.length_append, tx1_length]; omega) hs8).mono ?_
    rintro e w9 ⟨rfl, hm9, hq, _⟩
    rw [HL.out] at hm9
    have hb9 := hb8.trans (hq.mono hGb)
    have hg9 := hg8.below hq hG0b
    have hs9 := Nat.le_trans hs8 hq.size
    clear hq hb8 hg8 hs8 hm8 hr8
    have Hm9 := Lib.hid hm9
    clear hm9
    go_wp2_with fail
    go_roundw
    case rel => exact ⟨t + 1, by omega, by go_num, Hm9.out, hb9, hg9, hs9⟩
    case measure => simp [intOf]; omega
   ·have htl : t = items.length := by omega
    subst htl
    rw [List.take_length] at hm6
    have d2 : wr.cell? ⟨G0, 2, none⟩ = some (.slice ak kids.length ck) := by rw [hg6.cell]; rfl
    have hpl1 : (pre ++ items.flatMap itemB).length + (kidsB kids).length + (volsB vols).length ≤ 508 := by rw [List.length_append, hpl]; unfold itemsB at hlen; omega
    have HF2 : Hid (E = wholeL (((pre ++ items.flatMap itemB) ++ kidsB kids) ++ volsB vols)) := HF
    have hpn : 2 ≤ (pre ++ items.flatMap itemB).length := by rw [List.length_append, hpl]; omega
    generalize hpg : pre ++ items.flatMap itemB = pre1 at *
    clear HF hpl HI Hri hlen hpg HW3
    go_wp2_with fail
    clear d2
    go_loopw [57] (fun v wr => ∃ t : Nat, t ≤ kids.length ∧ v = .int .i64 t ∧ MakerAt b b (pre1 ++ (kids.take t).flatMap kidB) wr ∧ Below G0 w wr ∧ RowIs wr G0 28 #[.int .u8 (kind : Int), .slice ai items.length ci, .slice ak kids.length ck, .slice av vols.length cv] ∧ b ≤ wr.heap.size) (fun v _ => kids.length - (intOf v).toNat)
    case atStart => exact ⟨0, by omega, rfl, by simpa using hm6, hb6, hg6, hs6⟩
    case round =>
     clear hm6 hb6 hg6 hs6
     obtain ⟨t, ht, rfl, hm6, hb6, hg6, hs6⟩ := hrel
     by_cases hlt : t < kids.length
     ·obtain ⟨c, o, rfl, hcB, hc⟩ := Hrk.out (by omega)
      have hci : wr.rangeAt c (o + t * 34) (kidV kids[t]) := by
       have := rangeAt_below (hc t hlt) hb6 (by omega)
       rwa [List.getElem?_eq_getElem hlt] at this
      have hxs := HK.out _ (List.getElem_mem hlt)
      have hlti : (t : Int) < (kids.length : Int) := by omega
      have hfs := flat_take_succ kidB kids t hlt
      have hfl := flat_take_le kidB kids (t + 1)
      have hfl0 := flat_take_le kidB kids t
      obtain ⟨hx1, hxw⟩ := hxs
      have hkl := kidV_length hxw.2
      have hone := kidV_one kids[t]
      have hksz : (Tryz.prog.info? 38).map (·.size) = some (kidV kids[t]).length := by rw [hkl]; kernel_rfl
      have hksz2 : (Tryz.prog.info? 38).map (·.size) = some (kidV kids[t]).toArray.size := by rw [List.size_toArray, hkl]; kernel_rfl
      obtain ⟨W, W7, hW, hW7, hr7, hbf, hthere⟩ := alloc_fill wr kidZ (kidV kids[t]).toArray 38 (by rw [List.size_toArray, hkl]; rfl)
      have hm7 : MakerAt b b _ W7 := builder_below hm6 hbf
      have hb7 : Below G0 w W7 := hb6.trans (hbf.mono (Nat.le_trans hGb hs6))
      have hg7 := hg6.below hbf hg6.lt
      have hs7 : b ≤ W7.heap.size := Nat.le_trans hs6 hbf.size
      have hGne : wr.heap.size ≠ b := by
       have := (hm6.elim (fun x => x.lt) (fun x => x.lt))
       omega
      have hTne : (38 : TypeId) ≠ 5 := by decide
      have k0 : W7.cell? ⟨wr.heap.size, 0, none⟩ = some (.string kids[t].key) := by rw [hr7.cell]; rfl
      have kk1 : ∀ w, RowIs w wr.heap.size 38 (kidV kids[t]).toArray → w.cell? ⟨wr.heap.size, 1, none⟩ = some (.int .u32 (kids[t].num : Int)) := fun w h => by rw [h.cell]; rfl
      have kk2 : ∀ w, RowIs w wr.heap.size 38 (kidV kids[t]).toArray → ∀ j (hj : j < kids[t].hash.length), w.cell? ⟨wr.heap.size, 2 + j, none⟩ = some (.int .u8 (kids[t].hash[j].toNat : Int)) := fun w h j hj => by rw [h.cell]; simp [kidV, bytesV, Nat.add_comm 2 j, List.getElem?_eq_getElem hj]
      have hn4 : (numS kids[t].num 4).data.toList = beL kids[t].num 4 := by rw [numS, if_pos ⟨by omega, by omega, hxw.1⟩]; rfl
      have hnw : IntKind.u64.wrap (kids[t].num : Int) = (kids[t].num : Int) := by have := hxw.1; rw [IntKind.wrap_u64]; omega
      have hnl : kids[t].num < 18446744073709551616 := by have := hxw.1; omega
      have hhl := hxw.2
      have hL : (((pre1 ++ (kids.take t).flatMap kidB) ++ tx1 kids[t].key) ++ beL kids[t].num 4) ++ kids[t].hash = pre1 ++ (kids.take (t + 1)).flatMap kidB := by rw [hfs, kidB]; simp only [List.append_assoc]
      have hLl : (pre1 ++ (kids.take t).flatMap kidB).length ≤ 1000 := by rw [List.length_append]; unfold kidsB at hpl1; omega
      generalize hcs : kidV kids[t] = cs at *
      generalize kids[t].key = key at *
      generalize kids[t].num = num at *
      generalize kids[t].hash = hash at *
      generalize hLg : pre1 ++ (kids.take t).flatMap kidB = L at *
      have HL := Lib.hid hL
      have HW := Lib.hid hW
      have HW7 := Lib.hid hW7
      have Hkk2 := Lib.hid kk2
      have Hn4 := Lib.hid hn4
      clear hW hW7 hL hLg hfs hfl hfl0 hc hm6 hb6 hg6 hs6 hcs kk2 hxw hkl hbf hn4
      go_wp2_with (first | (refine wpList_world HW.out ?_) | (refine wpList_load_mid rfl 38 _ rfl c (o + t * 34) rfl cs _ hci Tryz.underlying38 rfl hksz ?_) | (refine wpList_store_mid rfl 38 _ _ rfl wr.heap.size 0 cs.toArray rfl rfl hthere hksz2 hone ?_; refine wpList_world HW7.out ?_))
      clear HW HW7 hthere hci
      generalize wr.heap.size = G at *
      refine (mtext_calls b b L key W7 hm7 hx1 (by omega) hs7).mono ?_
      rintro e w8 ⟨rfl, hm8, hq, hkk⟩
      have hb8 := hb7.trans (hq.mono hGb)
      have hg8 := hg7.below hq hG0b
      have hs8 := Nat.le_trans hs7 hq.size
      have hr8 : RowIs w8 G 38 cs.toArray := (((RowIs.apart hr7 hGne hTne).kept hkk).1).trans hr7
      have k1 := kk1 w8 hr8
      clear hq hkk hb7 hg7 hs7 hm7 hr7 kk1
      go_wp2_with fail
      have hnn := mnumber_calls b b (L ++ tx1 key) num 4 w8 hm8 hnl (by rw [List.length_append, tx1_length]; omega) hs8
      rw [Hn4.out] at hnn
      refine hnn.mono ?_
      rintro e w9 ⟨rfl, hm9, hq, hkk⟩
      have hb9 := hb8.trans (hq.mono hGb)
      have hg9 := hg8.below hq hG0b
      have hs9 := Nat.le_trans hs8 hq.size
      have kk9 : True := trivial
      have hr9 : RowIs w9 G 38 cs.toArray := (((RowIs.apart hr8 hGne hTne).kept hkk).1).trans hr8
      clear hq hkk hb8 hg8 hs8 hm8 hr8 k1 hnn Hn4
      go_wp2_with fail
      have Hkr := kk9
      have hmv : MakerAt b b _ w9.drew := builder_below hm9 (Below.drew (Below.refl _ _))
      have hbv := hb9.drew
      have hgv := hg9.drew
      have hsv : b ≤ w9.drew.heap.size := hs9
      have hrv2 := hr9.drew
      have hcellv := Hkk2.out _ hrv2
      have hLl2 : (L ++ tx1 key ++ beL num 4).length ≤ 2000 := by rw [List.length_append, List.length_append, tx1_length, beL_length]; omega
      clear hm9 hb9 hg9 hs9 hr9 Hkk2 Hkr k0
      refine wp_region_held_drew (S := fun _ => True) (by kernel_rfl) trivial (fun hHeld => ?_)
      generalize w9.drew = wv at *
      refine take_N (i := 0) (v := ?_) (some 70) #[true, false, false, false, false, false] rfl rfl (by kernel_rfl) (by kernel_rfl) (by kernel_rfl) (by kernel_rfl) (fun _ _ _ h => h) trivial (Or.inl ⟨by rfl, ?_⟩) ?_
      rotate_left
      ·intro w_ hSw_; go_simp; try with_reducible rfl
      try simp only [Act.put, List.setIfInBounds_toArray, List.set_cons_zero, List.set_cons_succ]
      refine take_N (i := 1) (v := ?_) (some 71) #[true, true, false, false, false, false] rfl rfl (by kernel_rfl) (by kernel_rfl) (by kernel_rfl) (by kernel_rfl) (fun _ _ _ h => h) trivial (Or.inl ⟨by rfl, ?_⟩) ?_
      rotate_left
      ·intro w_ hSw_; go_simp; try with_reducible rfl
      try simp only [Act.put, List.setIfInBounds_toArray, List.set_cons_zero, List.set_cons_succ]
      refine take_N (i := 2) (v := ?_) (some 72) #[true, true, true, false, false, false] rfl rfl (by kernel_rfl) (by kernel_rfl) (by kernel_rfl) (by kernel_rfl) (fun _ _ _ h => h) trivial (Or.inl ⟨by rfl, ?_⟩) ?_
      rotate_left
      ·intro w_ hSw_; go_simp; try with_reducible rfl
      try simp only [Act.put, List.setIfInBounds_toArray, List.set_cons_zero, List.set_cons_succ]
      refine take_N (i := 3) (v := ?_) (some 73) #[true, true, true, true, false, false] rfl rfl (by kernel_rfl) (by kernel_rfl) (by kernel_rfl) (by kernel_rfl) (fun _ _ _ h => h) trivial (Or.inl ⟨by rfl, ?_⟩) ?_
      rotate_left
      ·intro w_ hSw_; go_simp; try with_reducible rfl
      try simp only [Act.put, List.setIfInBounds_toArray, List.set_cons_zero, List.set_cons_succ]
      refine take_N (i := 4) (v := ?_) (some 74) #[true, true, true, true, true, false] rfl rfl (by kernel_rfl) (by kernel_rfl) (by kernel_rfl) (by kernel_rfl) (fun _ _ _ h => h) trivial (Or.inl ⟨by rfl, ?_⟩) ?_
      rotate_left
      ·intro w_ hSw_; go_simp; try with_reducible rfl
      try simp only [Act.put, List.setIfInBounds_toArray, List.set_cons_zero, List.set_cons_succ]
      refine step_N (i := 5) #[true, true, true, true, true, true] rfl (by kernel_rfl) (by kernel_rfl) (fun K hK => ?_)
      rw [if_pos (by rfl)]
      go_simp
      have hwr := bWrite_calls 79 holds_maker b b (Lib.byteCells (L ++ tx1 key ++ beL num 4)) G 2 32 hash wv hmv (by rw [Lib.byteCells_length, hhl]; have := hLl2; omega) hsv (RowIs.apart hrv2 hGne hTne) hcellv
      rw [hhl] at hwr
      refine hwr.mono ?_
      rintro e wz ⟨rfl, hmz, hq, _⟩
      rw [show Lib.byteCells (L ++ tx1 key ++ beL num 4) ++ Lib.byteCells hash = Lib.byteCells ((L ++ tx1 key ++ beL num 4) ++ hash) by simp [Lib.byteCells], HL.out] at hmz
      have hbz := hbv.trans (hq.mono hGb)
      have hgz := hgv.below hq hG0b
      have hsz := Nat.le_trans hsv hq.size
      have Hmz := Lib.hid hmz
      clear hwr hq hmz hbv hgv hsv hmv hrv2 hcellv
      refine hK.out _ _ trivial ?_
      clear hK K
      refine wpAnyH_done (by kernel_rfl) ?_ _
      clear hHeld
      go_wp2_with fail
      go_roundw
      case rel => exact ⟨t + 1, by omega, by go_num, .inr Hmz.out, hbz, hgz, hsz⟩
      case measure => simp [intOf]; omega
     ·have htl : t = kids.length := by omega
      subst htl
      rw [List.take_length] at hm6
      have d3 : wr.cell? ⟨G0, 3, none⟩ = some (.slice av vols.length cv) := by rw [hg6.cell]; rfl
      have hpl2 : (pre1 ++ kids.flatMap kidB).length + (volsB vols).length ≤ 508 := by rw [List.length_append]; unfold kidsB at hpl1; omega
      have HF3 : Hid (E = wholeL ((pre1 ++ kids.flatMap kidB) ++ volsB vols)) := HF2
      have hpn2 : 2 ≤ (pre1 ++ kids.flatMap kidB).length := by rw [List.length_append]; omega
      generalize hpg : pre1 ++ kids.flatMap kidB = pre2 at *
      clear HF2 HK Hrk hpl1 hpg hg6
      go_wp2_with fail
      clear d3
      go_loopw [80] (fun v wr => ∃ t : Nat, t ≤ vols.length ∧ v = .int .i64 t ∧ MakerAt b b (pre2 ++ (vols.take t).flatMap volB) wr ∧ Below G0 w wr ∧ b ≤ wr.heap.size) (fun v _ => vols.length - (intOf v).toNat)
      case atStart => exact ⟨0, by omega, rfl, by simpa using hm6, hb6, hs6⟩
      case round =>
       clear hm6 hb6 hs6
       obtain ⟨t, ht, rfl, hm6, hb6, hs6⟩ := hrel
       by_cases hlt : t < vols.length
       ·obtain ⟨c, o, rfl, hcB, hc⟩ := Hrv.out (by omega)
        have hci : wr.rangeAt c (o + t * 37) (volV vols[t]) := by
         have := rangeAt_below (hc t hlt) hb6 (by omega)
         rwa [List.getElem?_eq_getElem hlt] at this
        have hxs := HV.out _ (List.getElem_mem hlt)
        have hlti : (t : Int) < (vols.length : Int) := by omega
        have hfs := flat_take_succ volB vols t hlt
        have hfl := flat_take_le volB vols (t + 1)
        have hfl0 := flat_take_le volB vols t
        obtain ⟨hx1, hx2, hxw⟩ := hxs
        have hkl := volV_length hxw.2.2.2
        have hone := volV_one vols[t]
        have hksz : (Tryz.prog.info? 89).map (·.size) = some (volV vols[t]).length := by rw [hkl]; kernel_rfl
        have hksz2 : (Tryz.prog.info? 89).map (·.size) = some (volV vols[t]).toArray.size := by rw [List.size_toArray, hkl]; kernel_rfl
        obtain ⟨W, W7, hW, hW7, hr7, hbf, hthere⟩ := alloc_fill wr volZ (volV vols[t]).toArray 89 (by rw [List.size_toArray, hkl]; rfl)
        have hm7 : MakerAt b b _ W7 := builder_below hm6 hbf
        have hb7 : Below G0 w W7 := hb6.trans (hbf.mono (Nat.le_trans hGb hs6))
        have hs7 : b ≤ W7.heap.size := Nat.le_trans hs6 hbf.size
        have hGne : wr.heap.size ≠ b := by
         have := (hm6.elim (fun x => x.lt) (fun x => x.lt))
         omega
        have hTne : (89 : TypeId) ≠ 5 := by decide
        have q0 : ∀ w, RowIs w wr.heap.size 89 (volV vols[t]).toArray → w.cell? ⟨wr.heap.size, 0, none⟩ = some (.string vols[t].name) := fun w h => by rw [h.cell]; rfl
        have q1 : ∀ w, RowIs w wr.heap.size 89 (volV vols[t]).toArray → w.cell? ⟨wr.heap.size, 1, none⟩ = some (.int .u8 (vols[t].kind : Int)) := fun w h => by rw [h.cell]; rfl
        have q2 : ∀ w, RowIs w wr.heap.size 89 (volV vols[t]).toArray → w.cell? ⟨wr.heap.size, 2, none⟩ = some (.string vols[t].frm) := fun w h => by rw [h.cell]; rfl
        have q3 : ∀ w, RowIs w wr.heap.size 89 (volV vols[t]).toArray → w.cell? ⟨wr.heap.size, 3, none⟩ = some (.int .u64 (vols[t].born : Int)) := fun w h => by rw [h.cell]; rfl
        have q4 : ∀ w, RowIs w wr.heap.size 89 (volV vols[t]).toArray → w.cell? ⟨wr.heap.size, 4, none⟩ = some (.int .u32 (vols[t].root : Int)) := fun w h => by rw [h.cell]; rfl
        have kk2 : ∀ w, RowIs w wr.heap.size 89 (volV vols[t]).toArray → ∀ j (hj : j < vols[t].hash.length), w.cell? ⟨wr.heap.size, 5 + j, none⟩ = some (.int .u8 (vols[t].hash[j].toNat : Int)) := fun w h j hj => by rw [h.cell]; simp [volV, bytesV, Nat.add_comm 5 j, List.getElem?_eq_getElem hj]
        have hn1 : (numS vols[t].kind 1).data.toList = beL vols[t].kind 1 := numS_one _ hxw.1
        have hn8 : (numS vols[t].born 8).data.toList = beL vols[t].born 8 := by rw [numS, if_pos ⟨by omega, by omega, hxw.2.1⟩]; rfl
        have hn4 : (numS vols[t].root 4).data.toList = beL vols[t].root 4 := by rw [numS, if_pos ⟨by omega, by omega, hxw.2.2.1⟩]; rfl
        have hnw1 : IntKind.u64.wrap (vols[t].kind : Int) = (vols[t].kind : Int) := by have := hxw.1; rw [IntKind.wrap_u64]; omega
        have hnw4 : IntKind.u64.wrap (vols[t].root : Int) = (vols[t].root : Int) := by have := hxw.2.2.1; rw [IntKind.wrap_u64]; omega
        have hl1 : vols[t].kind < 18446744073709551616 := by have := hxw.1; omega
        have hl8 : vols[t].born < 18446744073709551616 := hxw.2.1
        have hl4 : vols[t].root < 18446744073709551616 := by have := hxw.2.2.1; omega
        have hhl := hxw.2.2.2
        have hL : ((((((pre2 ++ (vols.take t).flatMap volB) ++ tx1 vols[t].name) ++ tx1 vols[t].frm) ++ beL vols[t].kind 1) ++ beL vols[t].born 8) ++ beL vols[t].root 4) ++ vols[t].hash = pre2 ++ (vols.take (t + 1)).flatMap volB := by rw [hfs, volB]; simp only [List.append_assoc]
        have hLl : (pre2 ++ (vols.take t).flatMap volB).length ≤ 1000 := by rw [List.length_append]; unfold volsB at hpl2; omega
        generalize hcs : volV vols[t] = cs at *
        generalize vols[t].name = name at *
        generalize vols[t].frm = frm at *
        generalize vols[t].kind = vkind at *
        generalize vols[t].born = born at *
        generalize vols[t].root = root at *
        generalize vols[t].hash = hash at *
        generalize hLg : pre2 ++ (vols.take t).flatMap volB = L at *
        have HL := Lib.hid hL
        have HW := Lib.hid hW
        have HW7 := Lib.hid hW7
        have Hkk2 := Lib.hid kk2
        have Hn1 := Lib.hid hn1
        have Hn8 := Lib.hid hn8
        have Hn4 := Lib.hid hn4
        clear hW hW7 hL hLg hfs hfl hfl0 hc hm6 hb6 hs6 hcs kk2 hxw hkl hbf hn1 hn8 hn4
        have k0 := q0 W7 hr7
        go_wp2_with (first | (refine wpList_world HW.out ?_) | (refine wpList_load_mid rfl 89 _ rfl c (o + t * 37) rfl cs _ hci Tryz.underlying89 rfl hksz ?_) | (refine wpList_store_mid rfl 89 _ _ rfl wr.heap.size 0 cs.toArray rfl rfl hthere hksz2 hone ?_; refine wpList_world HW7.out ?_))
        clear HW HW7 hthere hci k0 q0
        generalize wr.heap.size = G at *
        refine (mtext_calls b b L name W7 hm7 hx1 (by omega) hs7).mono ?_
        rintro e w8 ⟨rfl, hm8, hq, hkk⟩
        have hb8 := hb7.trans (hq.mono hGb)
        have hs8 := Nat.le_trans hs7 hq.size
        have hr8 : RowIs w8 G 89 cs.toArray := (((RowIs.apart hr7 hGne hTne).kept hkk).1).trans hr7
        clear hq hkk hb7 hs7 hm7 hr7
        have k2 := q2 w8 hr8
        go_wp2_with fail
        refine (mtext_calls b b (L ++ tx1 name) frm w8 hm8 hx2 (by rw [List.length_append, tx1_length]; omega) hs8).mono ?_
        rintro e w9 ⟨rfl, hm9, hq, hkk⟩
        have hb9 := hb8.trans (hq.mono hGb)
        have hs9 := Nat.le_trans hs8 hq.size
        have hr9 : RowIs w9 G 89 cs.toArray := (((RowIs.apart hr8 hGne hTne).kept hkk).1).trans hr8
        clear hq hkk hb8 hs8 hm8 hr8 k2 q2
        have k1 := q1 w9 hr9
        have hLa : (L ++ tx1 name ++ tx1 frm).length ≤ 2000 := by rw [List.length_append, List.length_append, tx1_length, tx1_length]; omega
        go_wp2_with fail
        have hnn := mnumber_calls b b (L ++ tx1 name ++ tx1 frm) vkind 1 w9 hm9 hl1 (by omega) hs9
        rw [Hn1.out] at hnn
        refine hnn.mono ?_
        rintro e w10 ⟨rfl, hm10, hq, hkk⟩
        have hb10 := hb9.trans (hq.mono hGb)
        have hs10 := Nat.le_trans hs9 hq.size
        have hr10 : RowIs w10 G 89 cs.toArray := (((RowIs.apart hr9 hGne hTne).kept hkk).1).trans hr9
        clear hq hkk hb9 hs9 hm9 hr9 k1 q1 hnn Hn1
        have k3 := q3 w10 hr10
        go_wp2_with fail
        have hnn := mnumber_calls b b (L ++ tx1 name ++ tx1 frm ++ beL vkind 1) born 8 w10 hm10 hl8 (by rw [List.length_append, beL_length]; omega) hs10
        rw [Hn8.out] at hnn
        refine hnn.mono ?_
        rintro e w11 ⟨rfl, hm11, hq, hkk⟩
        have hb11 := hb10.trans (hq.mono hGb)
        have hs11 := Nat.le_trans hs10 hq.size
        have hr11 : RowIs w11 G 89 cs.toArray := (((RowIs.apart hr10 hGne hTne).kept hkk).1).trans hr10
        clear hq hkk hb10 hs10 hm10 hr10 k3 q3 hnn Hn8
        have k4 := q4 w11 hr11
        go_wp2_with fail
        have hnn := mnumber_calls b b (L ++ tx1 name ++ tx1 frm ++ beL vkind 1 ++ beL born 8) root 4 w11 hm11 hl4 (by rw [List.length_append, List.length_append, beL_length, beL_length]; omega) hs11
        rw [Hn4.out] at hnn
        refine hnn.mono ?_
        rintro e w12 ⟨rfl, hm12, hq, hkk⟩
        have hb12 := hb11.trans (hq.mono hGb)
        have hs12 := Nat.le_trans hs11 hq.size
        have hr12 : RowIs w12 G 89 cs.toArray := (((RowIs.apart hr11 hGne hTne).kept hkk).1).trans hr11
        clear hq hkk hb11 hs11 hm11 hr11 k4 q4 hnn Hn4
        go_wp2_with fail
        have hmv : MakerAt b b _ w12.drew := builder_below hm12 (Below.drew (Below.refl _ _))
        have hbv := hb12.drew
        have hsv : b ≤ w12.drew.heap.size := hs12
        have hrv2 := hr12.drew
        have hcellv := Hkk2.out _ hrv2
        have hLl2 : (L ++ tx1 name ++ tx1 frm ++ beL vkind 1 ++ beL born 8 ++ beL root 4).length ≤ 3000 := by rw [List.length_append, List.length_append, List.length_append, beL_length, beL_length, beL_length]; omega
        clear hm12 hb12 hs12 hr12 Hkk2
        refine wp_region_held_drew (S := fun _ => True) (by kernel_rfl) trivial (fun hHeld => ?_)
        generalize w12.drew = wv at *
        refine take_N (i := 0) (v := ?_) (some 106) #[true, false, false, false, false, false] rfl rfl (by kernel_rfl) (by kernel_rfl) (by kernel_rfl) (by kernel_rfl) (fun _ _ _ h => h) trivial (Or.inl ⟨by rfl, ?_⟩) ?_
        rotate_left
        ·intro w_ hSw_; go_simp; try with_reducible rfl
        try simp only [Act.put, List.setIfInBounds_toArray, List.set_cons_zero, List.set_cons_succ]
        refine take_N (i := 1) (v := ?_) (some 107) #[true, true, false, false, false, false] rfl rfl (by kernel_rfl) (by kernel_rfl) (by kernel_rfl) (by kernel_rfl) (fun _ _ _ h => h) trivial (Or.inl ⟨by rfl, ?_⟩) ?_
        rotate_left
        ·intro w_ hSw_; go_simp; try with_reducible rfl
        try simp only [Act.put, List.setIfInBounds_toArray, List.set_cons_zero, List.set_cons_succ]
        refine take_N (i := 2) (v := ?_) (some 108) #[true, true, true, false, false, false] rfl rfl (by kernel_rfl) (by kernel_rfl) (by kernel_rfl) (by kernel_rfl) (fun _ _ _ h => h) trivial (Or.inl ⟨by rfl, ?_⟩) ?_
        rotate_left
        ·intro w_ hSw_; go_simp; try with_reducible rfl
        try simp only [Act.put, List.setIfInBounds_toArray, List.set_cons_zero, List.set_cons_succ]
        refine take_N (i := 3) (v := ?_) (some 109) #[true, true, true, true, false, false] rfl rfl (by kernel_rfl) (by kernel_rfl) (by kernel_rfl) (by kernel_rfl) (fun _ _ _ h => h) trivial (Or.inl ⟨by rfl, ?_⟩) ?_
        rotate_left
        ·intro w_ hSw_; go_simp; try with_reducible rfl
        try simp only [Act.put, List.setIfInBounds_toArray, List.set_cons_zero, List.set_cons_succ]
        refine take_N (i := 4) (v := ?_) (some 110) #[true, true, true, true, true, false] rfl rfl (by kernel_rfl) (by kernel_rfl) (by kernel_rfl) (by kernel_rfl) (fun _ _ _ h => h) trivial (Or.inl ⟨by rfl, ?_⟩) ?_
        rotate_left
        ·intro w_ hSw_; go_simp; try with_reducible rfl
        try simp only [Act.put, List.setIfInBounds_toArray, List.set_cons_zero, List.set_cons_succ]
        refine step_N (i := 5) #[true, true, true, true, true, true] rfl (by kernel_rfl) (by kernel_rfl) (fun K hK => ?_)
        rw [if_pos (by rfl)]
        go_simp
        have hwr := bWrite_calls 79 holds_maker b b (Lib.byteCells (L ++ tx1 name ++ tx1 frm ++ beL vkind 1 ++ beL born 8 ++ beL root 4)) G 5 32 hash wv hmv (by rw [Lib.byteCells_length, hhl]; have := hLl2; omega) hsv (RowIs.apart hrv2 hGne hTne) hcellv
        rw [hhl] at hwr
        refine hwr.mono ?_
        rintro e wz ⟨rfl, hmz, hq, _⟩
        rw [show Lib.byteCells (L ++ tx1 name ++ tx1 frm ++ beL vkind 1 ++ beL born 8 ++ beL root 4) ++ Lib.byteCells hash = Lib.byteCells ((L ++ tx1 name ++ tx1 frm ++ beL vkind 1 ++ beL born 8 ++ beL root 4) ++ hash) by simp [Lib.byteCells], HL.out] at hmz
        have hbz := hbv.trans (hq.mono hGb)
        have hsz := Nat.le_trans hsv hq.size
        have Hmz := Lib.hid hmz
        clear hwr hq hmz hbv hsv hmv hrv2 hcellv
        refine hK.out _ _ trivial ?_
        clear hK K
        refine wpAnyH_done (by kernel_rfl) ?_ _
        clear hHeld
        go_wp2_with fail
        go_roundw
        case rel => exact ⟨t + 1, by omega, by go_num, .inr Hmz.out, hbz, hsz⟩
        case measure => simp [intOf]; omega
       ·have htl : t = vols.length := by omega
        subst htl
        rw [List.take_length] at hm6
        have hnil : pre2 ++ vols.flatMap volB ≠ [] := by intro q; have := congrArg List.length q; rw [List.length_append, List.length_nil] at this; omega
        have hlen3 : (pre2 ++ vols.flatMap volB).length ≤ 508 := by rw [List.length_append]; unfold volsB at hpl2; omega
        have HF4 : Hid (E = wholeL (pre2 ++ vols.flatMap volB)) := HF3
        generalize pre2 ++ vols.flatMap volB = all at *
        clear HF3 HV Hrv hpl2 hpn2
        have hstr := bString_calls 79 b b all wr hm6 hnil
        have hwh := fun w => whole_calls (strOf all) w (by show all.toArray.size ≤ 508; rw [List.size_toArray]; exact hlen3)
        rw [show (strOf all).data.toList = all from rfl] at hwh
        rw [show (⟨all.toArray⟩ : ByteArray) = strOf all from rfl] at hstr
        generalize strOf all = SA at *
        generalize hwl : strOf (wholeL all) = SW at *
        have HS := Lib.hid hwl
        clear hwl hnil hlen3 hm6
        go_wp2_with fail
        refine hstr.mono ?_
        rintro e w21 ⟨rfl, hq⟩
        have hb21 := hb6.trans (hq.mono hGb)
        clear hq hb6
        go_wp2_with fail
        refine (hwh w21).mono ?_
        rintro e w22 ⟨rfl, hq⟩
        have hb22 := hb21.trans (hq.mono (by rw [HG0.out]; exact hb21.size))
        clear hq hb21
        go_wp2_with fail
        go_ret2
        exact ⟨by rw [HF4.out, HS.out]; rfl, by rw [← HG0.out]; exact hb22⟩
 ·have hE := HX.out hc
  have HE := Lib.hid hE
  have hc2 : ¬ C = 0 := hc
  clear hE HX HY Hbn Hsz h1 h2 h3
  go_wp2_with fail
  go_ret2
  exact ⟨by rw [HE.out]; rfl, hb2⟩

end Go.Proofs.YtimkklaidodkdaaGreatDoor
