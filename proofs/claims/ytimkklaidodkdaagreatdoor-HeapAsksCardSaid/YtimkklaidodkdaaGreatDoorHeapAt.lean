/- The store's find, at: walked; and what they call. -/
/- The store's find, at: walked. -/
import Derived.Test.YtimkklaidodkdaaGreatDoorHeapMem
import Derived.Test.YtimkklaidodkdaaGreatDoorHeapPut
import Derived.Laws.Pointers
import Derived.Laws.LoneSync
import Derived.RegionCalls
namespace Go.Proofs.YtimkklaidodkdaaGreatDoor
open Go.RowKit

set_option maxRecDepth 100000 in
theorem add64_calls (S : Nat) (C : Array Value) (t : TypeId) (w : World) (x : Int) (h : RowIs w S t C) (hx : C[2]? = some (.int .i64 x)) :
  Calls Tryz.prog 108 #[.pointer (some ⟨S, 2, none⟩), .int .i64 1] w fun e w' => ∃ y, e = .returned (.int .i64 y) ∧ w' = w.setCell ⟨S, 2, none⟩ (.int .i64 y) := by
 have hc : w.cell? ⟨S, 2, none⟩ = some (.int .i64 x) := by rw [h.cell]; exact hx
 have hz : w.frozen? ⟨S, 2, none⟩ = false := h.free 2
 have hadd := run_call_add (P := Tryz.prog) Tryz.func137 (by kernel_rfl) (by kernel_rfl) (by kernel_rfl) .i64 (by kernel_rfl) (y := 1) (s := IntKind.i64.wrap (x + 1)) hc hz (by simp [go_sem])
 generalize IntKind.i64.wrap (x + 1) = y at *
 go_enter Tryz.func108, Tryz.ntmps108
 go_wp2_with fail
 go_ret
 exact ⟨y, rfl, rfl⟩

theorem nan32_calls (a : Int) (w : World) : Calls Tryz.prog 138 #[.int .u32 a] w fun e w' => e = .returned (.bool false) ∧ w' = w := by
 go_enter Tryz.func138, Tryz.ntmps138
 go_wp2_with fail
 go_ret
 exact ⟨rfl, rfl⟩
def cmpI (a b : Nat) : Int := if a < b then -1 else if b < a then 1 else 0
theorem cmp32_calls (a b : Nat) (w : World) : Calls Tryz.prog 111 #[.int .u32 (a : Int), .int .u32 (b : Int)] w fun e w' => e = .returned (.int .i64 (cmpI a b)) ∧ w' = w := by
 have ha := nan32_calls (a : Int) w
 have hb := nan32_calls (b : Int) w
 go_enter Tryz.func111, Tryz.ntmps111
 go_wp2_with fail
 refine ha.mono ?_
 rintro e w1 ⟨rfl, rfl⟩
 go_wp2_with fail
 refine hb.mono ?_
 rintro e w2 ⟨rfl, rfl⟩
 by_cases h1 : a < b
 ·have i1 : (a : Int) < (b : Int) := by omega
  have hc : cmpI a b = -1 := if_pos h1
  have HC := Lib.hid hc
  clear hc ha hb
  go_wp2_with fail
  go_ret
  exact ⟨by rw [HC.out]; rfl, rfl⟩
 ·have i1 : ¬ (a : Int) < (b : Int) := by omega
  by_cases h2 : b < a
  ·have i2 : (b : Int) < (a : Int) := by omega
   have hc : cmpI a b = 1 := by rw [cmpI, if_neg h1, if_pos h2]
   have HC := Lib.hid hc
   clear hc ha hb
   go_wp2_with fail
   go_ret
   exact ⟨by rw [HC.out]; rfl, rfl⟩
  ·have i2 : ¬ (b : Int) < (a : Int) := by omega
   have hc : cmpI a b = 0 := by rw [cmpI, if_neg h1, if_neg h2]
   have HC := Lib.hid hc
   clear hc ha hb
   go_wp2_with fail
   go_ret
   exact ⟨by rw [HC.out]; rfl, rfl⟩
theorem cellcmp_calls (p : Nat) (C : Array Value) (a b : Nat) (w : World) (h : RowIs w p 109 C) (hC : C[0]? = some (.int .u32 (a : Int))) :
  Calls Tryz.prog 110 #[.pointer (some ⟨p, 0, none⟩), .int .u32 (b : Int)] w fun e w' => e = .returned (.int .i64 (cmpI a b)) ∧ w' = w := by
 have hc : w.cell? ⟨p, 0, none⟩ = some (.int .u32 (a : Int)) := by rw [h.cell]; exact hC
 go_enter Tryz.func110, Tryz.ntmps110
 go_wp2_with fail
 refine (cmp32_calls a b w).mono ?_
 rintro e w1 ⟨rfl, rfl⟩
 go_wp2_with fail
 go_ret
 exact ⟨rfl, rfl⟩

/-- A slice of cells' pointers. -/
def PtrsAt (w : World) (v : Value) (L : List CellM) : Prop := ∃ p cap, v = .slice p L.length cap ∧ ∀ i (h : i < L.length), ∃ R, p = some ⟨R, 0, none⟩ ∧ w.cell? ⟨R, i, none⟩ = some L[i].p
theorem own_ptrs {w : World} {B : Nat} {v : Value} {L : List CellM} (h : w.ownsRow B 106 1 v L.length (L.map CellM.p)) : PtrsAt w v L := by
 obtain ⟨_, ⟨hv, hn⟩ | ⟨g, cap, cur, hv, hg, hh, hnc, hcm, hcs, hxs⟩⟩ := h
 ·exact ⟨none, 0, by rw [hv, hn], fun i hi => absurd hi (by omega)⟩
 ·refine ⟨_, cap, hv, fun i hi => ⟨g, rfl, ?_⟩⟩
  have h1 : (L.map CellM.p)[i]? = some L[i].p := by rw [List.getElem?_map, List.getElem?_eq_getElem hi]; rfl
  rw [← hxs, List.getElem?_take] at h1
  rw [if_pos (by omega), Array.getElem?_toList] at h1
  simp only [World.cell?, hh]
  simpa using h1

theorem low_le {l : List CellD} (hs : l.Pairwise (fun a b => a.num < b.num)) {k i : Nat} (h : i ≤ l.length) (h1 : ∀ j (hj : j < i), (l[j]'(by omega)).num < k) (h2 : ∀ j (hj : j < l.length), i ≤ j → k ≤ l[j].num) : i = lowC l k := by
 obtain ⟨s1, s2⟩ := sorted_split hs k
 have hle := lowC_le l k
 rcases Nat.lt_trichotomy i (lowC l k) with h3 | h3 | h3
 ·have h4 := h2 i (by omega) (Nat.le_refl _)
  have h5 := s1 (l[i]'(by omega)) (by rw [List.mem_take_iff_getElem]; exact ⟨i, by omega, rfl⟩)
  omega
 ·exact h3
 ·have h4 := h1 (lowC l k) h3
  have h5 := s2 (l[lowC l k]'(by omega)) (by rw [List.mem_drop_iff_getElem]; exact ⟨0, by omega, rfl⟩)
  omega

theorem low_M {L : List CellM} (hs : (L.map CellM.d).Pairwise (fun a b => a.num < b.num)) {k i : Nat} (h : i ≤ L.length) (h1 : ∀ q (hq : q < L.length), q < i → L[q].d.num < k) (h2 : ∀ q (hq : q < L.length), i ≤ q → k ≤ L[q].d.num) : i = lowC (L.map CellM.d) k :=
 low_le hs (by rw [List.length_map]; exact h) (fun j hj => by rw [List.getElem_map]; exact h1 j (by omega) hj) (fun j hj hij => by rw [List.length_map] at hj; rw [List.getElem_map]; exact h2 j hj hij)
theorem find_M {L : List CellM} (hs : (L.map CellM.d).Pairwise (fun a b => a.num < b.num)) {k : Nat} : (findC (L.map CellM.d) k).isSome = true ↔ ∃ h : lowC (L.map CellM.d) k < L.length, L[lowC (L.map CellM.d) k].d.num = k := by
 obtain ⟨s1, s2⟩ := sorted_split hs k
 constructor
 ·intro h
  obtain ⟨c, hc⟩ := Option.isSome_iff_exists.1 h
  obtain ⟨hm, hn⟩ := find_mem hc
  obtain ⟨q, hq, hqe⟩ := List.getElem_of_mem hm
  rw [List.length_map] at hq
  have hge : lowC (L.map CellM.d) k ≤ q := by
   rcases Nat.lt_or_ge q (lowC (L.map CellM.d) k) with h3 | h3
   ·have := s1 ((L.map CellM.d)[q]'(by rw [List.length_map]; exact hq)) (by rw [List.mem_take_iff_getElem]; exact ⟨q, by rw [List.length_map]; omega, rfl⟩)
    rw [hqe, hn] at this; omega
   ·exact h3
  refine ⟨by omega, ?_⟩
  have h5 := s2 ((L.map CellM.d)[lowC (L.map CellM.d) k]'(by rw [List.length_map]; omega)) (by rw [List.mem_drop_iff_getElem]; exact ⟨0, by rw [List.length_map]; omega, by simp⟩)
  rw [List.getElem_map] at h5
  rcases Nat.lt_or_ge (lowC (L.map CellM.d) k) q with h3 | h3
  ·have h6 := (List.pairwise_iff_getElem.1 hs) (lowC (L.map CellM.d) k) q (by rw [List.length_map]; omega) (by rw [List.length_map]; omega) h3
   rw [hqe, hn, List.getElem_map] at h6
   omega
  ·have h7 : lowC (L.map CellM.d) k = q := by omega
   have h8 : (L.map CellM.d)[q].num = k := by rw [hqe, hn]
   rw [List.getElem_map] at h8
   simp only [h7]; exact h8
 ·rintro ⟨h, hn⟩
  have hm : L[lowC (L.map CellM.d) k].d ∈ L.map CellM.d := List.mem_map_of_mem (List.getElem_mem _)
  have := find_of hs hm
  rw [hn] at this
  rw [this]; rfl

set_option maxRecDepth 100000 in
set_option maxHeartbeats 1600000 in
theorem bsearch_calls (L : List CellM) (v : Value) (k : Nat) (w : World) (hv : PtrsAt w v L) (hc : ∀ c ∈ L, RowIs w c.ptr 109 c.row.toArray) (hs : (L.map CellM.d).Pairwise (fun a b => a.num < b.num)) (hl : L.length ≤ 65536) :
  Calls Tryz.prog 109 #[v, .int .u32 (k : Int), .func (.func 110) #[] #[]] w fun e w' =>
   e = .returned (.tuple #[.int .i64 (lowC (L.map CellM.d) k : Int), .bool (findC (L.map CellM.d) k).isSome]) ∧ Below w.heap.size w w' := by
 obtain ⟨p, cap, rfl, hp⟩ := hv
 have HS := Lib.hid hs
 go_enter Tryz.func109, Tryz.ntmps109
 go_wp2_with fail
 go_loopw [9, 10] (fun vi vj wr => ∃ i j : Nat, i ≤ j ∧ j ≤ L.length ∧ vi = .int .i64 i ∧ vj = .int .i64 j ∧ (∀ q (hq : q < L.length), q < i → L[q].d.num < k) ∧ (∀ q (hq : q < L.length), j ≤ q → k ≤ L[q].d.num) ∧ Below w.heap.size w wr) (fun vi vj _ => (intOf vj).toNat - (intOf vi).toNat)
 case atStart => exact ⟨0, L.length, by omega, by omega, rfl, rfl, fun q _ h => by omega, fun q h1 h2 => by omega, Below.refl _ _⟩
 case round =>
  obtain ⟨i, j, hij, hj, rfl, rfl, h1, h2, hb⟩ := hrel
  have H12 := Lib.hid (And.intro h1 h2)
  clear h1 h2
  by_cases hlt : i < j
  ·have i1 : (i : Int) < (j : Int) := by omega
   obtain ⟨m, hm⟩ : ∃ m, m = (i + j) / 2 := ⟨_, rfl⟩
   have hm1 : i ≤ m := by omega
   have hm2 : m < j := by omega
   have hmL : m < L.length := by omega
   have hw1 : IntKind.u64.wrap ((i : Int) + (j : Int)) = ((i + j : Nat) : Int) := by rw [IntKind.wrap_u64]; omega
   have hw2 : ((i + j : Nat) : Int) / 2 = (m : Int) := by omega
   have hw3 : ((i : Int) + (j : Int)) / 2 = (m : Int) := by omega
   clear hm
   obtain ⟨R, rfl, hcell⟩ := hp m hmL
   have hcr := (World.cell?_of_block (hb.block R (World.block_lt_of_cell? w _ hcell))).trans hcell
   have hrow := hc _ (List.getElem_mem hmL)
   have hcm := cellcmp_calls _ _ L[m].d.num k wr (hrow.below hb hrow.lt) rfl
   have hup : ∀ q (hq : q < L.length), m < q → L[m].d.num < L[q].d.num := fun q hq hmq => by
    have := (List.pairwise_iff_getElem.1 HS.out) m q (by rw [List.length_map]; exact hmL) (by rw [List.length_map]; exact hq) hmq
    rwa [List.getElem_map, List.getElem_map] at this
   have hdn : ∀ q (hq : q < L.length), q < m → L[q].d.num < L[m].d.num := fun q hq hmq => by
    have := (List.pairwise_iff_getElem.1 HS.out) q m (by rw [List.length_map]; exact hq) (by rw [List.length_map]; exact hmL) hmq
    rwa [List.getElem_map, List.getElem_map] at this
   have hme : ∀ q (hq : q < L.length), q = m → L[q].d.num = L[m].d.num := fun q hq e => by subst e; rfl
   rw [CellM.p] at hcr
   have HUD := Lib.hid (And.intro hup (And.intro hdn hme))
   clear hcell hrow hup hdn hme
   generalize L[m].ptr = P at *
   generalize L[m].d.num = N at *
   go_wp2_with fail
   refine hcm.mono ?_
   rintro e w1 ⟨rfl, rfl⟩
   clear hcm
   by_cases hN : N < k
   ·have hci : cmpI N k = -1 := if_pos hN
    rw [hci]
    clear hci
    go_wp2_with fail
    go_roundw
    case rel => exact ⟨m + 1, j, by omega, hj, by go_num, rfl, fun q hq h => by
     rcases Nat.lt_or_ge q m with h3 | h3
     ·have := HUD.out.2.1 q hq h3; omega
     ·have := HUD.out.2.2 q hq (by omega); omega, H12.out.2, hb⟩
    case measure => simp [intOf]; omega
   ·have hci : ¬ cmpI N k < 0 := by unfold cmpI; rw [if_neg hN]; split <;> omega
    generalize cmpI N k = Q at *
    go_wp2_with fail
    go_roundw
    case rel => exact ⟨i, m, hm1, by omega, rfl, rfl, H12.out.1, fun q hq h => by
     rcases Nat.lt_or_ge m q with h3 | h3
     ·have := HUD.out.1 q hq h3; omega
     ·have := HUD.out.2.2 q hq (by omega); omega, hb⟩
    case measure => simp [intOf]; omega
  ·have hij2 : i = j := by omega
   subst hij2
   have hi := low_M HS.out hj H12.out.1 H12.out.2
   have hfin := find_M HS.out (k := k)
   rw [← hi] at hfin
   clear hlt
   by_cases hlt : i < L.length
   ·have i1 : (i : Int) < (L.length : Int) := by omega
    obtain ⟨R, rfl, hcell⟩ := hp i hlt
    have hcr := (World.cell?_of_block (hb.block R (World.block_lt_of_cell? w _ hcell))).trans hcell
    have hrow := hc _ (List.getElem_mem hlt)
    have hcm := cellcmp_calls _ _ L[i].d.num k wr (hrow.below hb hrow.lt) rfl
    have hf : (findC (L.map CellM.d) k).isSome = decide (L[i].d.num = k) := by
     rw [Bool.eq_iff_iff, hfin, decide_eq_true_eq]
     exact ⟨fun ⟨_, h⟩ => h, fun h => ⟨hlt, h⟩⟩
    rw [CellM.p] at hcr
    have HF := Lib.hid (And.intro hi hf)
    clear hcell hrow hfin hf hi hp hc hs
    generalize L[i].ptr = P at *
    generalize L[i].d.num = N at *
    go_wp2_with fail
    refine hcm.mono ?_
    rintro e w1 ⟨rfl, rfl⟩
    clear hcm
    have hci : (cmpI N k == 0) = decide (N = k) := by
     rw [Bool.eq_iff_iff, decide_eq_true_eq, beq_iff_eq]
     unfold cmpI
     split
     ·omega
     ·split <;> omega
    have HCI := Lib.hid hci
    clear hci
    generalize cmpI N k = Q at *
    go_wp2_with fail
    go_ret2
    exact ⟨by rw [← HF.out.1, HF.out.2, ← HCI.out]; rfl, hb⟩
   ·have i1 : ¬ (i : Int) < (L.length : Int) := by omega
    have hf : (findC (L.map CellM.d) k).isSome = false := by
     rw [Bool.eq_false_iff]
     intro h
     exact hlt (hfin.1 h).1
    have HF := Lib.hid (And.intro hi hf)
    clear hfin hf hi hp hc hs
    go_wp2_with fail
    go_ret2
    exact ⟨by rw [← HF.out.1, HF.out.2]; rfl, hb⟩

end Go.Proofs.YtimkklaidodkdaaGreatDoor

namespace Go.Proofs.YtimkklaidodkdaaGreatDoor
open Go.RowKit

theorem row_type {w : World} {b : Nat} {t t' : TypeId} {C C' : Array Value} (h : RowIs w b t C) (h' : RowIs w b t' C') : t = t' := by
 unfold RowIs at h h'
 rw [h] at h'
 injection h' with h'
 injection h'
theorem row_ne {w : World} {b c : Nat} {t t' : TypeId} {C C' : Array Value} (h : RowIs w b t C) (h' : RowIs w c t' C') (hne : t ≠ t') : b ≠ c := fun e => by
 subst e; exact hne (row_type h h')
/-- A step that turns the store's own block alone. -/
theorem StoreAt.turn {B : Nat} {w w' : World} {S size : Nat} {vs : Value} {L : List CellM} {ask : Int} (h : StoreAt B w S size vs L) (hk : Keep B w w') (hb : But S w w') (hr : RowIs w' S 118 #[.int .u32 (size : Int), vs, .int .i64 ask]) : StoreAt B w' S size vs L := by
 obtain ⟨ask0, hr0, ho⟩ := h.row
 refine ⟨Nat.le_trans h.hB hb.size, ⟨ask, hr, ownsRow_but ho hb (fun c hx => ?_)⟩, h.ge, fun c hc => ?_, h.nodup⟩
 ·have := row_type hr0 hx
  revert this; decide
 ·have hcr := (h.cells c hc).row
  exact (h.cells c hc).keep hk h.hB (hb.block _ hcr.lt (row_ne hcr hr0 (by decide)))
theorem store_ask {B : Nat} {w : World} {S size : Nat} {vs : Value} {L : List CellM} (h : StoreAt B w S size vs L) (y : Int) : StoreAt B (w.setCell ⟨S, 2, none⟩ (.int .i64 y)) S size vs L ∧ Keep B w (w.setCell ⟨S, 2, none⟩ (.int .i64 y)) := by
 obtain ⟨ask, hr, _⟩ := h.row
 have hk := Keep.set (B := B) hr (by decide) h.ge 2 (.int .i64 y)
 exact ⟨h.turn hk ((But.refl S w).setCell 2 _) (hr.set 2 (.int .i64 y)), hk⟩

set_option maxRecDepth 100000 in
set_option maxHeartbeats 1600000 in
theorem find_calls (B S size : Nat) (vs : Value) (L : List CellM) (k : Nat) (w : World) (h : StoreAt B w S size vs L) (hs : (L.map CellM.d).Pairwise (fun a b => a.num < b.num)) (hl : L.length ≤ 65536) :
  Calls Tryz.prog 80 #[.pointer (some ⟨S, 0, none⟩), .int .u32 (k : Int)] w fun e w' =>
   e = .returned (.tuple #[.int .i64 (lowC (L.map CellM.d) k : Int), .bool (findC (L.map CellM.d) k).isSome]) ∧ StoreAt B w' S size vs L ∧ Keep B w w' := by
 have hst := store_ask h
 obtain ⟨ask, hr, ho⟩ := h.row
 have hadd := add64_calls S _ _ w ask hr rfl
 have hbs := fun v W h1 h2 => bsearch_calls L v k W h1 h2 hs hl
 generalize (lowC (L.map CellM.d) k : Int) = lo at *
 generalize (findC (L.map CellM.d) k).isSome = fo at *
 clear ho hr h
 go_enter Tryz.func80, Tryz.ntmps80
 go_wp2_with fail
 refine hadd.mono ?_
 rintro e w1 ⟨y, rfl, rfl⟩
 obtain ⟨hst1, hk1⟩ := hst y
 generalize w.setCell ⟨S, 2, none⟩ (.int .i64 y) = w1 at *
 clear hst hadd
 obtain ⟨ask1, hr1, ho1⟩ := hst1.row
 have c1 : w1.cell? ⟨S, 1, none⟩ = some vs := by rw [hr1.cell]; rfl
 have hcall := hbs vs w1 (own_ptrs ho1) (fun c hc => (hst1.cells c hc).row)
 have HH := Lib.hid (And.intro hst1 hk1)
 clear hbs hr1 ho1 hst1 hk1
 go_wp2_with fail
 refine hcall.mono ?_
 rintro e w2 ⟨rfl, hb⟩
 have HB := Lib.hid hb
 clear hb
 go_wp2_with fail
 go_ret2
 exact ⟨rfl, HH.out.1.below HB.out (Nat.le_refl _), HH.out.2.trans (Keep.of HB.out)⟩

/-- The cell of a block; none: there is none. -/
def atM (L : List CellM) (k : Nat) : Option CellM := L.find? (fun c => c.d.num == k)
def ptrV : Option CellM → Value
 | some c => c.p
 | none => .pointer none
theorem atM_map (L : List CellM) (k : Nat) : findC (L.map CellM.d) k = (atM L k).map CellM.d := by
 unfold findC atM
 rw [List.find?_map]; rfl
theorem atM_mem {L : List CellM} {k : Nat} {c : CellM} (h : atM L k = some c) : c ∈ L ∧ c.d.num = k := by
 refine ⟨List.mem_of_find?_eq_some h, ?_⟩
 have := List.find?_some h
 simpa using this
theorem sorted_inj {L : List CellM} (hs : (L.map CellM.d).Pairwise (fun a b => a.num < b.num)) {a b : CellM} (ha : a ∈ L) (hb : b ∈ L) (e : a.d.num = b.d.num) : a = b := by
 rw [List.pairwise_map] at hs
 induction hs with
 | nil => cases ha
 | cons hx _ ih =>
  rcases List.mem_cons.1 ha with rfl | ha'
  ·rcases List.mem_cons.1 hb with rfl | hb'
   ·rfl
   ·have := hx b hb'; omega
  ·rcases List.mem_cons.1 hb with rfl | hb'
   ·have := hx a ha'; omega
   ·exact ih ha' hb'
theorem atM_low {L : List CellM} (hs : (L.map CellM.d).Pairwise (fun a b => a.num < b.num)) {k : Nat} (h : (findC (L.map CellM.d) k).isSome = true) : ∃ hl : lowC (L.map CellM.d) k < L.length, atM L k = some L[lowC (L.map CellM.d) k] := by
 obtain ⟨hl, hn⟩ := (find_M hs).1 h
 refine ⟨hl, ?_⟩
 rw [atM_map] at h
 obtain ⟨c, hc⟩ : ∃ c, atM L k = some c := Option.isSome_iff_exists.1 (by simpa using h)
 obtain ⟨hm, hcn⟩ := atM_mem hc
 rw [hc, sorted_inj hs hm (List.getElem_mem hl) (hcn.trans hn.symm)]

set_option maxRecDepth 100000 in
set_option maxHeartbeats 1600000 in
theorem at_calls (B S size : Nat) (vs : Value) (L : List CellM) (k : Nat) (w : World) (h : StoreAt B w S size vs L) (hs : (L.map CellM.d).Pairwise (fun a b => a.num < b.num)) (hl : L.length ≤ 65536) :
  Calls Tryz.prog 51 #[.pointer (some ⟨S, 0, none⟩), .int .u32 (k : Int)] w fun e w' => e = .returned (ptrV (atM L k)) ∧ StoreAt B w' S size vs L ∧ Keep B w w' := by
 have hfi := find_calls B S size vs L k w h hs hl
 have hno : (findC (L.map CellM.d) k).isSome = false → atM L k = none := fun h => by
  rw [atM_map] at h
  cases hq : atM L k with
  | none => rfl
  | some c => rw [hq] at h; cases h
 have hyes := @atM_low L hs k
 generalize lowC (L.map CellM.d) k = lo at *
 generalize (findC (L.map CellM.d) k).isSome = fo at *
 have HN := Lib.hid hno
 have HY := Lib.hid hyes
 have hnot : ∀ (x : Bool) (w : World), (Op.unary .not (.bool x)).run Tryz.prog w = .ok (.bool (!x)) w := fun _ _ => rfl
 clear hno hyes h
 go_enter Tryz.func51, Tryz.ntmps51
 go_wp2_with fail
 refine hfi.mono ?_
 rintro e w1 ⟨rfl, hst, hk⟩
 clear hfi
 cases fo with
 | false =>
  have HH := Lib.hid (And.intro (HN.out rfl) (And.intro hst hk))
  clear hst hk HN HY
  go_wp2_with fail
  go_ret
  exact ⟨by rw [HH.out.1]; rfl, HH.out.2⟩
 | true =>
  obtain ⟨hlo, hat⟩ := HY.out rfl
  obtain ⟨ask1, hr1, ho1⟩ := hst.row
  obtain ⟨p, cap, rfl, hp⟩ := own_ptrs ho1
  obtain ⟨R, rfl, hcell⟩ := hp lo hlo
  rw [CellM.p] at hcell
  have c1 : w1.cell? ⟨S, 1, none⟩ = some (.slice (some ⟨R, 0, none⟩) L.length cap) := by rw [hr1.cell]; rfl
  have HH := Lib.hid (And.intro hat (And.intro hst hk))
  clear hst hk hat hr1 ho1 hp
  generalize hP : L[lo].ptr = P at *
  have HP := Lib.hid hP
  clear hP
  go_wp2_with fail
  go_ret
  exact ⟨by rw [HH.out.1, ptrV, CellM.p, HP.out]; rfl, HH.out.2⟩

end Go.Proofs.YtimkklaidodkdaaGreatDoor
