/- node.Filled: walked. -/
/- node.Taker: take: what it keeps; one item more: walked. -/
import Derived.Test.YtimkklaidodkdaaGreatDoorTakerH
import Derived.OwnWalk
namespace Go.Proofs.YtimkklaidodkdaaGreatDoor
open Go.RowKit

set_option maxRecDepth 20000 in
theorem filled_calls (s : ByteArray) (w : World) (hs : s.size ≤ 140737488351232) :
  Calls Tryz.prog 105 #[.string s] w fun e w' => e = .returned (.string (strOf (padTo 512 s.data.toList))) ∧ Below w.heap.size w w' := by
 have hrep := fun w => Tryz.strings_Repeat ⟨#[0]⟩ (512 - s.size) w (by omega) (by show 1 * (512 - s.size) ≤ _; omega)
 rw [repeat_zero] at hrep
 have hcat : s ++ ⟨(List.replicate (512 - s.size) (0 : UInt8)).toArray⟩ = strOf (padTo 512 s.data.toList) := by
  apply ByteArray.ext
  apply Array.ext'
  have e : s.data.toList.length = s.size := Array.length_toList
  simp [strOf, padTo, e]
 have hrz : (⟨(List.replicate (512 - s.size) (0 : UInt8)).toArray⟩ : ByteArray).size = 512 - s.size := by show (List.replicate _ _).toArray.size = _; simp
 generalize strOf (padTo 512 s.data.toList) = R at *
 by_cases h : s.size ≤ 512
 ·have hcast : ((512 - s.size : Nat) : Int) = 512 - (s.size : Int) := by omega
  rw [hcast] at hrep
  have hmax : max (0 : Int) (512 - (s.size : Int)) = 512 - (s.size : Int) := by omega
  have h1 : ¬ (512 - (s.size : Int)) < 0 := by omega
  have h2 : (0 : Int) ≤ 512 - (s.size : Int) := by omega
  generalize (⟨(List.replicate (512 - s.size) (0 : UInt8)).toArray⟩ : ByteArray) = Z at *
  go_enter Tryz.func105, Tryz.ntmps105
  go_wp2_with fail
  refine (hrep w).mono ?_
  rintro e w1 ⟨rfl, hb1⟩
  go_wp2_with fail
  go_ret
  exact ⟨rfl, hb1⟩
 ·have hz0 : 512 - s.size = 0 := by omega
  rw [hz0] at hrep hcat hrz
  have h1 : (512 - (s.size : Int)) < 0 := by omega
  have h2 : ¬ (0 : Int) ≤ 512 - (s.size : Int) := by omega
  rw [show ((0 : Nat) : Int) = 0 from rfl] at hrep
  generalize (⟨(List.replicate 0 (0 : UInt8)).toArray⟩ : ByteArray) = Z at *
  go_enter Tryz.func105, Tryz.ntmps105
  go_wp2_with fail
  rw [show max (0 : Int) (512 - (s.size : Int)) = 0 by omega]
  refine (hrep w).mono ?_
  rintro e w1 ⟨rfl, hb1⟩
  go_wp2_with fail
  go_ret
  exact ⟨rfl, hb1⟩

end Go.Proofs.YtimkklaidodkdaaGreatDoor

namespace Go.Proofs.YtimkklaidodkdaaGreatDoor
open Go.RowKit

theorem ownsRow_but {w w' : World} {base b : Nat} {e : TypeId} {size : Nat} {v : Value} {n : Nat} {xs : List Value} (h : w.ownsRow base e size v n xs) (hb : But b w w') (hne : ∀ c, w.heap[b]? ≠ some (.cells c e (0, 0))) : w'.ownsRow base e size v n xs := by
 refine ⟨h.1, ?_⟩
 rcases h.2 with h2 | ⟨g, cap, cur, hv, hg, hh, r⟩
 ·exact .inl h2
 ·exact .inr ⟨g, cap, cur, hv, hg, (hb.block g (lt_of_block hh) (fun q => hne cur (by rw [← q]; exact hh))).trans hh, r⟩

/-- What take holds midway: the Taker, the node's four cells, the three slices, each owned. -/
structure Taking (B b N : Nat) (w : World) (t : TkD) (kind : Nat) (vi vk vv : Value) (items : List ItemD) (kids : List KidD) (vols : List VolD) : Prop where
 tk : TkAt w b t
 nd : RowIs w N 28 #[.int .u8 (kind : Int), vi, vk, vv]
 oi : w.ownsRow B 44 2 vi items.length (items.flatMap itemV)
 ok : w.ownsRow B 38 34 vk kids.length (kids.flatMap kidV)
 ov : w.ownsRow B 89 37 vv vols.length (vols.flatMap volV)
theorem Taking.but {B b N : Nat} {w w' : World} {t t' : TkD} {kind : Nat} {vi vk vv : Value} {items : List ItemD} {kids : List KidD} {vols : List VolD} (h : Taking B b N w t kind vi vk vv items kids vols) (hb : But b w w') (ht : TkAt w' b t') (hN : N ≠ b) :
  Taking B b N w' t' kind vi vk vv items kids vols := by
 have hq : ∀ (e : TypeId) c, e ≠ 184 → w.heap[b]? ≠ some (.cells c e (0, 0)) := fun e c he hx => by
  have := h.tk
  unfold TkAt RowIs at this
  rw [hx] at this
  injection this with this
  injection this with _ h2 _
  exact he h2
 exact ⟨ht, h.nd.but hb hN, ownsRow_but h.oi hb (fun c => hq _ c (by decide)), ownsRow_but h.ok hb (fun c => hq _ c (by decide)), ownsRow_but h.ov hb (fun c => hq _ c (by decide))⟩
theorem Taking.below {B b N : Nat} {w w' : World} {t : TkD} {kind : Nat} {vi vk vv : Value} {items : List ItemD} {kids : List KidD} {vols : List VolD} (h : Taking B b N w t kind vi vk vv items kids vols) (hb : Below w.heap.size w w') : Taking B b N w' t kind vi vk vv items kids vols :=
 ⟨RowIs.below h.tk hb (RowIs.lt h.tk), h.nd.below hb h.nd.lt, ownsRow_below h.oi hb, ownsRow_below h.ok hb, ownsRow_below h.ov hb⟩

/-- A block that is not the slice's own stands through an append. -/
theorem row_grown {w w' : World} {row : Option Nat} {g : Nat} {T : TypeId} {C : Array Value} (h : RowIs w g T C) (hg : w.grownBy w' row) (hne : some g ≠ row) : RowIs w' g T C :=
 (hg.block g h.lt hne).trans h
theorem owns_grown {w w' : World} {row : Option Nat} {base : Nat} {e : TypeId} {size : Nat} {v : Value} {n : Nat} {xs : List Value} (h : w.ownsRow base e size v n xs) (hg : w.grownBy w' row) (hne : ∀ g, row = some g → ∀ c, w.heap[g]? ≠ some (.cells c e (0, 0))) : w'.ownsRow base e size v n xs := by
 refine ⟨h.1, ?_⟩
 rcases h.2 with h2 | ⟨g, cap, cur, hv, hgb, hh, r⟩
 ·exact .inl h2
 ·exact .inr ⟨g, cap, cur, hv, hgb, (hg.block g (lt_of_block hh) (fun q => hne g q.symm cur hh)).trans hh, r⟩
/-- The block that a slice owns holds things of its type. -/
theorem own_type {w : World} {base : Nat} {e : TypeId} {size : Nat} {v : Value} {n : Nat} {xs : List Value} (h : w.ownsRow base e size v n xs) {g : Nat} (hg : v.ownBlock = some g) : ∃ c, w.heap[g]? = some (.cells c e (0, 0)) := by
 rcases h.2 with ⟨hv, _⟩ | ⟨g', cap, cur, hv, _, hh, _⟩
 ·rw [hv] at hg; simp [Value.ownBlock] at hg
 ·rw [hv] at hg; simp [Value.ownBlock] at hg; subst hg; exact ⟨cur, hh⟩

theorem But.setCells {b : Nat} {u w : World} (h : But b u w) (vs : List Value) (o : Nat) : But b u (w.setCells b o vs) := by
 have hb := setCells_below b 0 (Nat.zero_le _) vs o w w (Below.refl 0 w)
 exact ⟨hb.os.trans h.os, hb.tape.trans h.tape, hb.output.trans h.output, by rw [setCells_size]; exact h.size, fun k hk hne => (setCells_other b k hne vs o w).trans (h.block k hk hne)⟩
theorem But.thenBelow {b : Nat} {w u v : World} (h : But b w u) (k : Below w.heap.size u v) : But b w v := ⟨k.os.trans h.os, k.tape.trans h.tape, k.output.trans h.output, Nat.le_trans h.size k.size, fun i hi hne => (k.block i hi).trans (h.block i hi hne)⟩
theorem own_shape {w : World} {base : Nat} {e : TypeId} {size : Nat} {v : Value} {n : Nat} {xs : List Value} (h : w.ownsRow base e size v n xs) : ∃ p c, v = .slice p n c := by
 rcases h.2 with ⟨hv, hn⟩ | ⟨g, cap, _, hv, _⟩
 ·subst hn; exact ⟨none, 0, hv⟩
 ·exact ⟨_, cap, hv⟩
/-- A node whose three slices are owned, each block made at or behind B. -/
structure OwnAt (B : Nat) (w : World) (v : Value) (n : NodeD) : Prop where
 wf : n.wf
 at_ : ∃ vi vk vv, v = .agg #[.int .u8 (n.kind : Int), vi, vk, vv] ∧ w.ownsRow B 44 2 vi n.items.length (n.items.flatMap itemV) ∧ w.ownsRow B 38 34 vk n.kids.length (n.kids.flatMap kidV) ∧ w.ownsRow B 89 37 vv n.vols.length (n.vols.flatMap volV)
theorem flat_get {α : Type} {f : α → List Value} {z : Nat} : ∀ (l : List α), (∀ x ∈ l, (f x).length = z) → ∀ (i j : Nat), j < z → (l.flatMap f)[i * z + j]? = ((l[i]?.map f).getD [])[j]?
 | [], _, i, j, _ => by simp
 | x :: l, h, 0, j, hj => by
  have hx := h x List.mem_cons_self
  rw [List.flatMap_cons, Nat.zero_mul, Nat.zero_add, List.getElem?_append_left (by omega)]; rfl
 | x :: l, h, i + 1, j, hj => by
  have hx := h x List.mem_cons_self
  rw [List.flatMap_cons, List.getElem?_append_right (by rw [hx, Nat.succ_mul]; omega), hx, show (i + 1) * z + j - z = i * z + j by rw [Nat.succ_mul]; omega, flat_get l (fun y hy => h y (List.mem_cons_of_mem _ hy)) i j hj]
  rfl
theorem own_sl {α : Type} {f : α → List Value} {w : World} {B : Nat} {e : TypeId} {z : Nat} {v : Value} {l : List α} (h : w.ownsRow B e z v l.length (l.flatMap f)) (hf : ∀ x ∈ l, (f x).length = z) : SlAt w.heap.size w v l.length (fun i => (l[i]?.map f).getD []) z := by
 rcases h.2 with ⟨hv, hn⟩ | ⟨g, cap, cur, hv, hg, hh, hnc, hcm, hcs, hxs⟩
 ·exact ⟨none, 0, by rw [hv, hn], by rw [hn]; exact Nat.zero_le _, fun h0 => absurd h0 (by omega)⟩
 ·refine ⟨_, cap, hv, Nat.le_trans hnc hcm, fun _ => ⟨g, 0, rfl, lt_of_block hh, fun i hi j u hu => ?_⟩⟩
  have hj : j < z := by
   have hm := hf l[i] (List.getElem_mem hi)
   have := List.getElem?_eq_some_iff.1 hu
   obtain ⟨hlt, _⟩ := this
   simp [List.getElem?_eq_getElem hi, hm] at hlt
   exact hlt
  have hget := flat_get l hf i j hj
  dsimp only at hu
  rw [hu, ← hxs, List.getElem?_take] at hget
  rw [cell_of_row w g _ cur e (0, 0) hh, Nat.zero_add]
  split at hget
  ·simpa using hget
  ·simp at hget
theorem OwnAt.node {B : Nat} {w : World} {v : Value} {n : NodeD} (h : OwnAt B w v n) : NodeAt w.heap.size w v n := by
 obtain ⟨hw, vi, vk, vv, hv, h1, h2, h3⟩ := h
 exact ⟨hw, vi, vk, vv, hv, own_sl h1 (fun _ _ => rfl), own_sl h2 (fun k hk => kidV_length (hw.2.1 k hk).2), own_sl h3 (fun k hk => volV_length (hw.2.2 k hk).2.2.2)⟩
theorem OwnAt.below {B C : Nat} {w w' : World} {v : Value} {n : NodeD} (h : OwnAt B w v n) (hb : Below C w w') (hC : w.heap.size ≤ C) : OwnAt B w' v n := by
 obtain ⟨hw, vi, vk, vv, hv, h1, h2, h3⟩ := h
 have hb' : Below w.heap.size w w' := hb.mono hC
 exact ⟨hw, vi, vk, vv, hv, ownsRow_below h1 hb', ownsRow_below h2 hb', ownsRow_below h3 hb'⟩
theorem OwnAt.but {B b : Nat} {w w' : World} {v : Value} {n : NodeD} (h : OwnAt B w v n) (hb : But b w w') (hne : ∀ c e, e = 44 ∨ e = 38 ∨ e = 89 → w.heap[b]? ≠ some (.cells c e (0, 0))) : OwnAt B w' v n := by
 obtain ⟨hw, vi, vk, vv, hv, h1, h2, h3⟩ := h
 exact ⟨hw, vi, vk, vv, hv, ownsRow_but h1 hb (fun c => hne c _ (.inl rfl)), ownsRow_but h2 hb (fun c => hne c _ (.inr (.inl rfl))), ownsRow_but h3 hb (fun c => hne c _ (.inr (.inr rfl)))⟩

theorem Taking.own {B b N : Nat} {w : World} {t : TkD} {kind : Nat} {vi vk vv : Value} {items : List ItemD} {kids : List KidD} {vols : List VolD} (h : Taking B b N w t kind vi vk vv items kids vols) (hw : (⟨kind, items, kids, vols⟩ : NodeD).wf) : OwnAt B w (.agg #[.int .u8 (kind : Int), vi, vk, vv]) ⟨kind, items, kids, vols⟩ := ⟨hw, vi, vk, vv, rfl, h.oi, h.ok, h.ov⟩
theorem OwnAt.store {B b : Nat} {w : World} {v : Value} {n : NodeD} {C : Array Value} (h : OwnAt B w v n) (hr : RowIs w b 28 C) (vs : List Value) (o : Nat) : OwnAt B (w.setCells b o vs) v n :=
 h.but ((But.refl b w).setCells vs o) (fun c e he hx => by
  unfold RowIs at hr
  rw [hr] at hx
  injection hx with hx
  injection hx with _ h2 _
  rcases he with he | he | he <;> rw [he] at h2 <;> exact absurd h2 (by decide))

theorem many_bad {α : Type} {f : TkD → α} {g : TkD → TkD} {c : Nat} {t : TkD} (hc : c ≠ 0) (h : (g t).bad = true) : manyT f g c t = [f t] ∧ manyN g c t = g t := by
 cases c with
 | zero => exact absurd rfl hc
 | succ c => rw [manyT, manyN, if_pos h, if_pos h]; exact ⟨rfl, rfl⟩
theorem many_ok {α : Type} {f : TkD → α} {g : TkD → TkD} {c : Nat} {t : TkD} (hc : c ≠ 0) (h : (g t).bad = false) : manyT f g c t = f t :: manyT f g (c - 1) (g t) ∧ manyN g c t = manyN g (c - 1) (g t) := by
 cases c with
 | zero => exact absurd rfl hc
 | succ c => rw [manyT, manyN, if_neg (by simp [h]), if_neg (by simp [h])]; exact ⟨rfl, rfl⟩

end Go.Proofs.YtimkklaidodkdaaGreatDoor
