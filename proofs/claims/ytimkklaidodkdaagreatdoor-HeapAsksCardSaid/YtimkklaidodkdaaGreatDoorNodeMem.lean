/- Nodes in memory: slices of things, a node's value; small lemmas. And node.Block, named, item.right, walked. -/
import Derived.Test.YtimkklaidodkdaaGreatDoorHeapPut
import Derived.Test.YtimkklaidodkdaaGreatDoorKit
import Derived.Deep.MidRow
import Derived.RegionTactic
import Derived.ChangeAlike
import Derived.Outline
import Derived.LoopTactic
import Derived.Deep.QuietTactic
import Derived.BigQuiet
import Derived.Laws.Cover1
namespace Go.Proofs.YtimkklaidodkdaaGreatDoor
open Go.RowKit

def bytesV (l : List UInt8) : List Value := l.map fun c => Value.int .u8 (c.toNat : Int)
def itemV (x : ItemD) : List Value := [.string x.key, .string x.val]
def kidV (k : KidD) : List Value := [.string k.key, .int .u32 (k.num : Int)] ++ bytesV k.hash
def volV (v : VolD) : List Value := [.string v.name, .int .u8 (v.kind : Int), .string v.frm, .int .u64 (v.born : Int), .int .u32 (v.root : Int)] ++ bytesV v.hash
theorem kidV_length {k : KidD} (h : k.hash.length = 32) : (kidV k).length = 34 := by simp [kidV, bytesV, h]
theorem volV_length {v : VolD} (h : v.hash.length = 32) : (volV v).length = 37 := by simp [volV, bytesV, h]

/-- A slice of n things of z cells each: its cells lie in a block below B. -/
def SlAt (B : Nat) (w : World) (v : Value) (n : Nat) (cs : Nat → List Value) (z : Nat) : Prop :=
 ∃ a cap, v = .slice a n cap ∧ n ≤ maxLen ∧ (0 < n → ∃ b o, a = some ⟨b, o, none⟩ ∧ b < B ∧ ∀ i, i < n → w.rangeAt b (o + i * z) (cs i))
theorem rangeAt_below {B : Nat} {w w' : World} {b o : Nat} {cs : List Value} (h : w.rangeAt b o cs) (hb : Below B w w') (hB : b < B) : w'.rangeAt b o cs := fun j v hv => (hb.cell (p := ⟨b, o + j, none⟩) hB).trans (h j v hv)
theorem SlAt.below {B C : Nat} {w w' : World} {v : Value} {n z : Nat} {cs : Nat → List Value} (h : SlAt B w v n cs z) (hb : Below C w w') (hC : B ≤ C) : SlAt B w' v n cs z := by
 obtain ⟨a, cap, hv, hn, hr⟩ := h
 refine ⟨a, cap, hv, hn, fun h0 => ?_⟩
 obtain ⟨b, o, ha, hB, hc⟩ := hr h0
 exact ⟨b, o, ha, hB, fun i hi => rangeAt_below (hc i hi) hb (by omega)⟩

def ItemsAt (B : Nat) (w : World) (v : Value) (l : List ItemD) : Prop := SlAt B w v l.length (fun i => (l[i]?.map itemV).getD []) 2
def KidsAt (B : Nat) (w : World) (v : Value) (l : List KidD) : Prop := SlAt B w v l.length (fun i => (l[i]?.map kidV).getD []) 34
def VolsAt (B : Nat) (w : World) (v : Value) (l : List VolD) : Prop := SlAt B w v l.length (fun i => (l[i]?.map volV).getD []) 37
structure NodeAt (B : Nat) (w : World) (v : Value) (n : NodeD) : Prop where
 wf : n.wf
 at_ : ∃ vi vk vv, v = .agg #[.int .u8 (n.kind : Int), vi, vk, vv] ∧ ItemsAt B w vi n.items ∧ KidsAt B w vk n.kids ∧ VolsAt B w vv n.vols
theorem NodeAt.below {B C : Nat} {w w' : World} {v : Value} {n : NodeD} (h : NodeAt B w v n) (hb : Below C w w') (hC : B ≤ C) : NodeAt B w' v n := by
 obtain ⟨hw, vi, vk, vv, hv, h1, h2, h3⟩ := h
 exact ⟨hw, vi, vk, vv, hv, h1.below hb hC, h2.below hb hC, h3.below hb hC⟩

/-! ### The order of texts -/
theorem less_total : ∀ a b : List UInt8, (!(Op.bytesLess a b || a == b)) = Op.bytesLess b a
 | [], [] => rfl
 | [], _ :: _ => rfl
 | _ :: _, [] => rfl
 | x :: a, y :: b => by
  have ih := less_total a b
  simp only [Op.bytesLess]
  rw [← ih]
  have hx := UInt8.lt_iff_toNat_lt (a := x) (b := y)
  have hy := UInt8.lt_iff_toNat_lt (a := y) (b := x)
  have he := UInt8.toNat_inj (a := x) (b := y)
  rcases Nat.lt_trichotomy x.toNat y.toNat with h | h | h
  ·have h1 : x < y := hx.2 h
   have h2 : ¬ y < x := fun q => by have := hy.1 q; omega
   have h3 : x ≠ y := fun q => by rw [q] at h; omega
   simp [h1, h2, h3.symm]
  ·have h3 : x = y := he.1 h
   subst h3
   have h1 : ¬ x < x := fun q => by have := hx.1 q; omega
   simp [h1, List.cons_beq_cons]
  ·have h1 : ¬ x < y := fun q => by have := hx.1 q; omega
   have h2 : y < x := hy.2 h
   have h3 : x ≠ y := fun q => by rw [q] at h; omega
   simp [h1, h2, h3]
theorem less_empty (s : ByteArray) : lessB noName s = decide (s.size ≠ 0) := by
 have e : s.data.toList.length = s.size := Array.length_toList
 unfold lessB noName
 cases h : s.data.toList with
 | nil => rw [h] at e; simp at e; simp [Op.bytesLess, ← e]
 | cons a l =>
  rw [h, List.length_cons] at e
  rw [Op.bytesLess, decide_eq_true (show s.size ≠ 0 by omega)]

theorem block_calls (n : Nat) (w : World) : Calls Tryz.prog 126 #[.int .u32 (n : Int)] w fun e w' => e = .returned (.bool (blockN n)) ∧ w' = w := by
 have h : (2 ≤ n ∧ n < 65536 ∧ blockN n = true) ∨ (2 ≤ n ∧ ¬ n < 65536 ∧ blockN n = false) ∨ (¬ 2 ≤ n ∧ blockN n = false) := by
  unfold blockN
  by_cases h1 : 2 ≤ n <;> by_cases h2 : n < 65536 <;> simp [h1, h2]
 generalize blockN n = R at *
 rcases h with ⟨h1, h2, rfl⟩ | ⟨h1, h2, rfl⟩ | ⟨h1, rfl⟩
 ·have i1 : (2 : Int) ≤ (n : Int) := by omega
  have i2 : (n : Int) < 65536 := by omega
  go_enter Tryz.func126, Tryz.ntmps126
  go_wp2_with fail
  go_ret
  exact ⟨rfl, rfl⟩
 ·have i1 : (2 : Int) ≤ (n : Int) := by omega
  have i2 : ¬ (n : Int) < 65536 := by omega
  go_enter Tryz.func126, Tryz.ntmps126
  go_wp2_with fail
  go_ret
  exact ⟨rfl, rfl⟩
 ·have i1 : ¬ (2 : Int) ≤ (n : Int) := by omega
  go_enter Tryz.func126, Tryz.ntmps126
  go_wp2_with fail
  go_ret
  exact ⟨rfl, rfl⟩

theorem named_calls (b s : ByteArray) (m : Nat) (w : World) : Calls Tryz.prog 125 #[.string b, .string s, .int .i64 (m : Int)] w fun e w' => e = .returned (.bool (decide (s.size ≤ m) && lessB b s)) ∧ w' = w := by
 have ht : lessB b s = !(Op.bytesLess s.toList b.toList || s.toList == b.toList) := by
  rw [ByteArray.toList_eq, ByteArray.toList_eq, less_total]; rfl
 rw [ht]
 by_cases h : s.size ≤ m
 ·rw [decide_eq_true h, Bool.true_and]
  have i1 : (s.size : Int) ≤ (m : Int) := by omega
  generalize hq : (!(Op.bytesLess s.toList b.toList || s.toList == b.toList)) = R at *
  have HQ := Lib.hid hq
  clear hq ht
  go_enter Tryz.func125, Tryz.ntmps125
  go_wp2_with fail
  go_ret
  exact ⟨by rw [← HQ.out, Bool.not_or]; rfl, rfl⟩
 ·rw [decide_eq_false h, Bool.false_and]
  clear ht
  have i1 : ¬ (s.size : Int) ≤ (m : Int) := by omega
  go_enter Tryz.func125, Tryz.ntmps125
  go_wp2_with fail
  go_ret
  exact ⟨rfl, rfl⟩

def rightB (k v : ByteArray) : Bool := decide (k.size ≠ 0) && decide (k.size ≤ 48) && decide (v.size ≤ 160)
theorem right_calls (k v : ByteArray) (w : World) : Calls Tryz.prog 124 #[.string k, .string v] w fun e w' => e = .returned (.bool (rightB k v)) ∧ w' = w := by
 have hz : (k.toList == ByteArray.toList ⟨#[]⟩) = decide (k.size = 0) := by
  rw [ByteArray.toList_eq, ByteArray.toList_eq]
  have e : k.data.toList.length = k.size := Array.length_toList
  cases h : k.data.toList with
  | nil => rw [h] at e; simp at e; simp [← e]
  | cons a l => rw [h, List.length_cons] at e; rw [decide_eq_false (show ¬ k.size = 0 by omega)]; rfl
 have hz2 : (k.toList == []) = decide (k.size = 0) := by rw [← hz]; rw [ByteArray.toList_eq ⟨#[]⟩]
 by_cases h0 : k.size = 0
 ·have hr : rightB k v = false := by simp [rightB, h0]
  rw [hr]
  rw [decide_eq_true h0] at hz hz2
  go_enter Tryz.func124, Tryz.ntmps124
  go_wp2_with fail
  go_ret
  exact ⟨rfl, rfl⟩
 ·rw [decide_eq_false h0] at hz hz2
  by_cases h1 : k.size ≤ 48
  ·have i1 : (k.size : Int) ≤ 48 := by omega
   by_cases h2 : v.size ≤ 160
   ·have i2 : (v.size : Int) ≤ 160 := by omega
    have hr : rightB k v = true := by simp [rightB, h0, h1, h2]
    rw [hr]
    go_enter Tryz.func124, Tryz.ntmps124
    go_wp2_with fail
    go_ret
    exact ⟨rfl, rfl⟩
   ·have i2 : ¬ (v.size : Int) ≤ 160 := by omega
    have hr : rightB k v = false := by simp [rightB, h2]
    rw [hr]
    go_enter Tryz.func124, Tryz.ntmps124
    go_wp2_with fail
    go_ret
    exact ⟨rfl, rfl⟩
  ·have i1 : ¬ (k.size : Int) ≤ 48 := by omega
   have hr : rightB k v = false := by simp [rightB, h1]
   rw [hr]
   go_enter Tryz.func124, Tryz.ntmps124
   go_wp2_with fail
   go_ret
   exact ⟨rfl, rfl⟩

end Go.Proofs.YtimkklaidodkdaaGreatDoor
