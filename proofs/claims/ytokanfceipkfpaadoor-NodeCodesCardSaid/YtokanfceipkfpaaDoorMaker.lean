/- node.maker: number, text; node.Whole: walked. -/
import Derived.Test.YtokanfceipkfpaaDoorBuild
import Derived.Test.YtokanfceipkfpaaDoorNumA
import Derived.Test.YtokanfceipkfpaaDoorSum
import Derived.Test.YtokanfceipkfpaaDoorNodeShaped
namespace Go.Proofs.YtokanfceipkfpaaDoor
open Go.RowKit

theorem holds_maker : Holds 47 := ⟨by kernel_rfl, by decide⟩
theorem ownsRow_below {w w' : World} {base : Nat} {e : TypeId} {size : Nat} {v : Value} {n : Nat} {xs : List Value} (h : w.ownsRow base e size v n xs) (hb : Below w.heap.size w w') : w'.ownsRow base e size v n xs := by
  refine ⟨h.1, ?_⟩
  rcases h.2 with h2 | ⟨g, cap, cur, hv, hg, hh, r⟩
  · exact .inl h2
  · exact .inr ⟨g, cap, cur, hv, hg, (hb.block g (lt_of_block hh)).trans hh, r⟩
theorem builderAt_below {T e : TypeId} {B b : Nat} {p : Value} {bs : List Value} {w w' : World} (h : Lib.BuilderAt T e B b p bs w) (hb : Below w.heap.size w w') : Lib.BuilderAt T e B b p bs w' := by
  obtain ⟨hB, v, hv, ho, hne⟩ := h
  exact ⟨hB, v, (hb.block b (lt_of_block hv)).trans hv, ownsRow_below ho hb, hne⟩
theorem builder_below {T e : TypeId} {B b : Nat} {bs : List Value} {w w' : World} (h : Lib.IsBuilder T e B b bs w) (hb : Below w.heap.size w w') : Lib.IsBuilder T e B b bs w' :=
  h.elim (fun x => .inl (builderAt_below x hb)) (fun x => .inr (builderAt_below x hb))

/-- The maker holds these bytes. -/
def MakerAt (B b : Nat) (l : List UInt8) (w : World) : Prop := Lib.IsBuilder 47 5 B b (Lib.byteCells l) w
theorem byteCells_append (l : List UInt8) (s : ByteArray) : Lib.byteCells l ++ Lib.strCells s = Lib.byteCells (l ++ s.data.toList) := by simp [Lib.byteCells, Lib.strCells]

set_option maxRecDepth 20000 in
theorem mnumber_calls (B b : Nat) (l : List UInt8) (n : Nat) (x : Int) (w : World) (h : MakerAt B b l w) (hn : n < 18446744073709551616) (hl : l.length ≤ 1048576) (hB : B ≤ w.heap.size) :
    Calls Tryd.prog 16 #[.pointer (some ⟨b, 0, none⟩), .int .u64 (n : Int), .int .i64 x] w fun e w' => e = .returned (.tuple #[]) ∧ MakerAt B b (l ++ (numS n x).data.toList) w' ∧ Below B w w' ∧ Lib.OthersKept 5 (some b) w w' := by
  have hns : (numS n x).size ≤ 8 := by
    unfold numS
    split
    · rename_i hq
      have := hq.2.1
      rw [beN_size]; omega
    · exact Nat.zero_le 8
  have hnc := fun w => number_calls n x w hn
  generalize numS n x = S at *
  generalize numE n x = E at *
  have H := Lib.hid h
  clear h
  go_enter Tryd.func16, Tryd.ntmps16
  go_wp2_with fail
  refine (hnc w).mono ?_
  rintro e w1 ⟨rfl, hb1⟩
  have h1 := builder_below H.out hb1
  have hws := bWriteString_calls 47 holds_maker B b (Lib.byteCells l) S w1 h1 (by rw [Lib.byteCells_length]; omega) (Nat.le_trans hB hb1.size)
  rw [byteCells_append] at hws
  have hk1 := others_of_below (b := b) hb1
  have hb1' := hb1.mono hB
  clear h1 hb1
  go_wp2_with fail
  refine hws.mono ?_
  rintro e w2 ⟨rfl, h2, hb2, hk2⟩
  have H2 := Lib.hid h2
  have hb3 := hb1'.trans hb2
  have hk3 := hk1.trans hk2
  clear h2 hb1' hb2 hk1 hk2
  go_wp2_with fail
  go_end0
  exact ⟨rfl, .inr H2.out, hb3, hk3⟩

theorem numS_one (k : Nat) (h : k < 256) : (numS k 1).data.toList = beL k 1 := by
  rw [numS, if_pos ⟨by omega, by omega, by show k < 256 ^ 1; omega⟩]; rfl

set_option maxRecDepth 20000 in
theorem mtext_calls (B b : Nat) (l : List UInt8) (s : ByteArray) (w : World) (h : MakerAt B b l w) (hs : s.size < 256) (hl : l.length ≤ 1000000) (hB : B ≤ w.heap.size) :
    Calls Tryd.prog 17 #[.pointer (some ⟨b, 0, none⟩), .string s] w fun e w' => e = .returned (.tuple #[]) ∧ MakerAt B b (l ++ tx1 s) w' ∧ Below B w w' ∧ Lib.OthersKept 5 (some b) w w' := by
  have hnc := mnumber_calls B b l s.size 1 w h (by omega) (by omega) hB
  rw [numS_one _ hs] at hnc
  have hsi : IntKind.u64.wrap (s.size : Int) = (s.size : Int) := by rw [IntKind.wrap_u64]; omega
  have hsb : (s.size : Int) < 18446744073709551616 := by omega
  have hl2 : (l ++ beL s.size 1).length ≤ 1048576 := by rw [List.length_append, beL_length]; omega
  have happ : (l ++ beL s.size 1) ++ s.data.toList = l ++ tx1 s := by rw [tx1, List.append_assoc]
  generalize l ++ beL s.size 1 = l1 at *
  generalize l ++ tx1 s = l2 at *
  have HA := Lib.hid happ
  clear happ h
  go_enter Tryd.func17, Tryd.ntmps17
  go_wp2_with fail
  refine hnc.mono ?_
  rintro e w1 ⟨rfl, h1, hb1, hk1⟩
  have hws := bWriteString_calls 47 holds_maker B b (Lib.byteCells l1) s w1 h1 (by rw [Lib.byteCells_length]; omega) (Nat.le_trans hB hb1.size)
  rw [byteCells_append, HA.out] at hws
  clear h1
  go_wp2_with fail
  refine hws.mono ?_
  rintro e w2 ⟨rfl, h2, hb2, hk2⟩
  have H2 := Lib.hid h2
  have hb3 := hb1.trans hb2
  have hk3 := hk1.trans hk2
  clear h2 hb1 hb2 hk1 hk2
  go_wp2_with fail
  go_end0
  exact ⟨rfl, .inr H2.out, hb3, hk3⟩

theorem repeat_zero (c : Nat) : Lib.repeatL (⟨#[0]⟩ : ByteArray).data.toList c = List.replicate c 0 := by
  induction c with
  | zero => rfl
  | succ c ih =>
    show (⟨#[0]⟩ : ByteArray).data.toList ++ Lib.repeatL (⟨#[0]⟩ : ByteArray).data.toList c = _
    rw [ih]; rfl

set_option maxRecDepth 20000 in
theorem whole_calls (s : ByteArray) (w : World) (hs : s.size ≤ 508) :
    Calls Tryd.prog 19 #[.string s] w fun e w' => e = .returned (.string (strOf (wholeL s.data.toList))) ∧ Below w.heap.size w w' := by
  have hrep := fun w => Tryd.strings_Repeat ⟨#[0]⟩ (508 - s.size) w (by omega) (by show 1 * (508 - s.size) ≤ _; omega)
  rw [repeat_zero] at hrep
  have hcast : ((508 - s.size : Nat) : Int) = 508 - (s.size : Int) := by omega
  rw [hcast] at hrep
  have hcat : s ++ ⟨(List.replicate (508 - s.size) (0 : UInt8)).toArray⟩ = strOf (padTo 508 s.data.toList) := by
    apply ByteArray.ext
    apply Array.ext'
    have e : s.data.toList.length = s.size := Array.length_toList
    simp [strOf, padTo, e]
  have hrz : (⟨(List.replicate (508 - s.size) (0 : UInt8)).toArray⟩ : ByteArray).size = 508 - s.size := by show (List.replicate _ _).toArray.size = _; simp
  have hpz : (strOf (padTo 508 s.data.toList)).size = 508 := by
    show (padTo 508 s.data.toList).toArray.size = 508
    rw [List.size_toArray, padTo_length _ _ (by rw [Array.length_toList]; exact hs)]
  have hsum := fun w => sum_calls (strOf (padTo 508 s.data.toList)) w (by rw [hpz]; decide)
  have hpd : (strOf (padTo 508 s.data.toList)).data.toList = padTo 508 s.data.toList := rfl
  rw [hpd] at hsum
  have hcl := (crc (padTo 508 s.data.toList)).isLt
  have hnum := fun w => number_calls (crc (padTo 508 s.data.toList)).toNat 4 w (by omega)
  have hnok : numOk (crc (padTo 508 s.data.toList)).toNat 4 := ⟨by omega, by omega, by have e : (256 : Nat) ^ (4 : Int).toNat = 2 ^ 32 := by decide
                                                                                       omega⟩
  have hnS : numS (crc (padTo 508 s.data.toList)).toNat 4 = beN (crc (padTo 508 s.data.toList)).toNat 4 := by rw [numS, if_pos hnok]; rfl
  rw [hnS] at hnum
  have hez := beN_size (crc (padTo 508 s.data.toList)).toNat 4
  have hhead : beN (crc (padTo 508 s.data.toList)).toNat 4 ++ strOf (padTo 508 s.data.toList) = strOf (headed s.data.toList) := by
    apply ByteArray.ext
    apply Array.ext'
    simp [strOf, headed, beN]
  have htr := fun w => Tryd.strings_TrimRight_one (strOf (headed s.data.toList)) 0 (by decide) w (by rw [← hhead, ByteArray.size_append, hez, hpz]; decide)
  have hfin : (⟨(Lib.trimRightB (strOf (headed s.data.toList)).data.toList 0).toArray⟩ : ByteArray) = strOf (wholeL s.data.toList) := rfl
  rw [hfin] at htr
  have huw : uw (crc (padTo 508 s.data.toList)) = ((crc (padTo 508 s.data.toList)).toNat : Int) := rfl
  rw [huw] at hsum
  generalize numE (crc (padTo 508 s.data.toList)).toNat 4 = E at *
  generalize (crc (padTo 508 s.data.toList)).toNat = cn at *
  generalize beN cn 4 = head at *
  generalize strOf (padTo 508 s.data.toList) = P at *
  generalize strOf (headed s.data.toList) = HD at *
  generalize strOf (wholeL s.data.toList) = R at *
  generalize (⟨(List.replicate (508 - s.size) (0 : UInt8)).toArray⟩ : ByteArray) = Z at *
  have hwu : IntKind.u64.wrap (cn : Int) = (cn : Int) := by rw [IntKind.wrap_u64]; omega
  clear hnok hnS hpd hfin huw hcast
  go_enter Tryd.func19, Tryd.ntmps19
  go_wp2_with fail
  refine (hrep w).mono ?_
  rintro e w1 ⟨rfl, hb1⟩
  go_wp2_with fail
  refine (hsum w1).mono ?_
  rintro e w2 ⟨rfl, hb2⟩
  replace hb2 := hb1.trans (hb2.mono hb1.size)
  clear hb1
  go_wp2_with fail
  refine (hnum w2).mono ?_
  rintro e w3 ⟨rfl, hb3⟩
  replace hb3 := hb2.trans (hb3.mono hb2.size)
  clear hb2
  go_wp2_with fail
  refine (htr w3).mono ?_
  rintro e w3 ⟨rfl, rfl⟩
  go_wp2_with fail
  go_ret
  exact ⟨rfl, hb3⟩

end Go.Proofs.YtokanfceipkfpaaDoor
