/- An argument of 32 bytes, opened and shut. -/
/- An argument that is a node, opened: what it reads as, and how great it may be. -/
/- An argument that is a heap, opened: what it reads as. -/
import Derived.Test.YtimkklaidodkdaaGreatDoorWords
import Derived.OpenShut
import Derived.DataBytes
import Derived.Test.YtimkklaidodkdaaGreatDoorHeapLed
import Derived.Deep.Slices
import Derived.SizedLaws
namespace Go.Proofs.YtimkklaidodkdaaGreatDoor
open Go.RowKit

def dataBytes {H : Type} (l : List UInt8) : DataW H := .agg (l.map fun c => .lit (.int .u8 (c.toNat : Int)))
def byteOf' : Value → UInt8
 | .int _ n => UInt8.ofNat n.toNat
 | _ => 0

set_option maxRecDepth 20000 in
theorem shut_bytes32 {H : Type} {enc : TypeId × Value → H} {W : World} {base : Nat} {spare : Nat → Bool} {held : Bool} {l : List UInt8} (hl : l.length = 32) :
  DataW.Trod enc Tryz.prog W base spare held 36 (.agg (byteCells l)) (dataBytes l) [] := by
 refine ⟨2, ?_⟩
 have hc : Tryz.prog.cellsOf 36 = 32 := by kernel_rfl
 have hc5 : Tryz.prog.cellsOf 5 = 1 := by kernel_rfl
 have hall : ∀ i ∈ List.range 32, DataW.trod enc Tryz.prog W base spare held 1 5 (((byteCells l).toList.drop (i * Tryz.prog.cellsOf 5)).take (Tryz.prog.cellsOf 5)) = some (.lit (.int .u8 ((l.getD i 0).toNat : Int)), []) := by
  intro i hi
  have hi' : i < l.length := by simpa [hl] using hi
  have e : ((byteCells l).toList.drop (i * Tryz.prog.cellsOf 5)).take (Tryz.prog.cellsOf 5) = [.int .u8 ((l.getD i 0).toNat : Int)] := by
   rw [hc5, Nat.mul_one, byteCells_toList, List.take_one, List.head?_drop, List.getElem?_map, List.getElem?_eq_getElem hi', List.getD_eq_getElem?_getD, List.getElem?_eq_getElem hi']
   rfl
  rw [e]
  have hwf : (Lit.int .u8 ((l.getD i 0).toNat : Int)).wf = true := by
   have := (l.getD i 0).toNat_lt
   generalize (l.getD i 0).toNat = n at *
   simp [Lit.wf, IntKind.min, IntKind.max, IntKind.signed, IntKind.bits]; omega
  unfold DataW.trod
  rw [Tryz.underlying5]
  simp only [hwf, and_self, if_true]
 have hlen : (byteCells l).toList.length = 32 := by rw [Array.length_toList, byteCells_size, hl]
 show DataW.trod enc Tryz.prog W base spare held (1 + 1) 36 (byteCells l).toList = _
 unfold DataW.trod
 rw [Tryz.underlying36]
 simp only []
 rw [if_pos (by rw [hlen, hc]), mapM_some_of_forall (List.range 32) hall]
 have hmap : ((List.range 32).map fun i => ((DataW.lit (.int .u8 ((l.getD i 0).toNat : Int)) : DataW H), ([] : List MemPlace))).map (·.1) = l.map fun c => .lit (.int .u8 (c.toNat : Int)) := by
  apply List.ext_getElem (by rw [List.length_map, List.length_map, List.length_map, List.length_range, hl])
  intro i h1 h2
  have hi' : i < l.length := by simpa using h2
  rw [List.getElem_map, List.getElem_map, List.getElem_map, List.getElem_range, List.getD_eq_getElem?_getD, List.getElem?_eq_getElem hi']
  rfl
 have hflat : ((List.range 32).map fun i => ((DataW.lit (.int .u8 ((l.getD i 0).toNat : Int)) : DataW H), ([] : List MemPlace))).flatMap (·.2) = [] := by
  rw [List.flatMap_eq_nil_iff]
  intro x hx
  obtain ⟨i, _, rfl⟩ := List.mem_map.1 hx
  rfl
 rw [Option.map_some, hmap, hflat]
 rfl

set_option maxRecDepth 20000 in
theorem open_bytes32 {H : Type} {enc : TypeId × Value → H} {W : World} {base : Nat} {spare : Nat → Bool} {held : Bool} {v : Value} {d : DataW H} {ps : List MemPlace} (hd : DataW.Trod enc Tryz.prog W base spare held 36 v d ps) :
  ∃ l : List UInt8, v = .agg (byteCells l) ∧ l.length = 32 ∧ d = dataBytes l ∧ ps = [] := by
 have hc : Tryz.prog.cellsOf 36 = 32 := by kernel_rfl
 have hc5 : Tryz.prog.cellsOf 5 = 1 := by kernel_rfl
 obtain ⟨fuel, hf⟩ := hd
 obtain ⟨xs, m, _, hx, hl, hxl, hel⟩ := DataW.trod_array Tryz.underlying36 hf
 rw [hc] at hl
 have hv : ∃ cs, v = .agg cs := by
  cases v with
  | agg cs => exact ⟨cs, rfl⟩
  | _ => simp [Value.cells] at hl
 obtain ⟨cs, rfl⟩ := hv
 simp only [Value.cells] at hl hel
 have key : ∀ i (h : i < cs.toList.length) (h2 : i < xs.length), cs.toList[i] = .int .u8 ((byteOf' cs.toList[i]).toNat : Int) ∧ xs[i] = (.lit (.int .u8 ((byteOf' cs.toList[i]).toNat : Int)), []) := by
  intro i h h2
  have he := hel i (by omega)
  rw [hc5, Nat.mul_one, List.take_one, List.head?_drop, List.getElem?_eq_getElem h, List.getElem?_eq_getElem h2] at he
  obtain ⟨n, h3, h4, h5⟩ := DataW.trod_int Tryz.underlying5 he
  simp only [Option.toList] at h3
  have hci : cs.toList[i] = .int .u8 n := by simpa using h3
  have hb : ((byteOf' (.int .u8 n)).toNat : Int) = n := by
   have hw := bounds_u8 h5
   simp only [byteOf', UInt8.toNat_ofNat']
   omega
  rw [hci, hb]
  exact ⟨rfl, h4⟩
 refine ⟨cs.toList.map byteOf', ?_, by rw [List.length_map]; exact hl, ?_, ?_⟩
 ·congr 1
  apply Array.ext'
  rw [byteCells_toList, List.map_map]
  apply List.ext_getElem (by simp)
  intro i h1 h2
  rw [(key i h1 (by omega)).1]
  simp only [List.getElem_map, Function.comp]
 ·obtain ⟨hx1, _⟩ := Prod.mk.inj hx
  rw [hx1, dataBytes, List.map_map]
  congr 1
  apply List.ext_getElem (by rw [List.length_map, List.length_map, hl, hxl])
  intro i h1 h2
  have hi : i < cs.toList.length := by simpa using h2
  rw [List.getElem_map, List.getElem_map, (key i hi (by omega)).2]
  rfl
 ·obtain ⟨_, hx2⟩ := Prod.mk.inj hx
  rw [hx2, List.flatMap_eq_nil_iff]
  intro x hxm
  obtain ⟨i, hi, rfl⟩ := List.getElem_of_mem hxm
  rw [(key i (by omega) hi).2]

end Go.Proofs.YtimkklaidodkdaaGreatDoor

namespace Go.Proofs.YtimkklaidodkdaaGreatDoor
open Go.RowKit Go.ChangeShapes Go.WideShapes Go.Deep

theorem choose_list {α : Type} {R : Nat → α → Prop} : ∀ n, (∀ i, i < n → ∃ a, R i a) → ∃ l : List α, l.length = n ∧ ∀ i (h : i < l.length), R i l[i]
 | 0, _ => ⟨[], rfl, fun i h => absurd h (Nat.not_lt_zero _)⟩
 | n + 1, h => by
  obtain ⟨l, hl, hr⟩ := choose_list n (fun i hi => h i (by omega))
  obtain ⟨a, ha⟩ := h n (by omega)
  refine ⟨l ++ [a], by rw [List.length_append, hl]; rfl, fun i hi => ?_⟩
  rw [List.length_append, hl] at hi
  by_cases hn : i < n
  ·rw [List.getElem_append_left (by omega)]; exact hr i (by omega)
  ·have : i = n := by simp at hi; omega
   subst this
   rw [List.getElem_append_right (by omega)]
   simpa [hl] using ha
theorem weightsAll_mem {H : Type} {P : Program} {e : TypeId} : ∀ {ds : List (DataW H)} {d : DataW H}, d ∈ ds → ∀ n ∈ d.weights P e, n ∈ DataW.weightsAll P e ds
 | [], _, h, _, _ => by cases h
 | x :: r, d, h, n, hn => by
  rw [DataW.weightsAll, List.mem_append]
  rcases List.mem_cons.1 h with rfl | h
  ·exact .inl hn
  ·exact .inr (weightsAll_mem h n hn)

section
variable {H : Type} {enc : TypeId × Value → H} {W : World} {base : Nat} {spare : Nat → Bool} {held : Bool}
/-- What is read weighs no more than memory reaches. -/
def Weighs (t : TypeId) (d : DataW H) : Prop := ∀ n ∈ d.weights Tryz.prog t, n ≤ reachBytes

theorem open_sl {α : Type} {f : α → List Value} {Q : α → Prop} {t e : TypeId} {z by_ : Nat} (ht : Tryz.prog.underlying t = some (.slice e)) (hC : Tryz.prog.cellsOf e = z) (hby : Tryz.prog.bytesOf e = by_) (hz : 0 < z)
  (elem : ∀ fuel cs (x : DataW H × List MemPlace), DataW.trod enc Tryz.prog W base spare held fuel e cs = some x → Weighs e x.1 → (∀ q ∈ x.2, q.block < W.heap.size) → ∃ a : α, cs = f a ∧ Q a)
  {fuel : Nat} {cs : List Value} {x : DataW H × List MemPlace} (h : DataW.trod enc Tryz.prog W base spare held fuel t cs = some x) (hw : Weighs t x.1) (hlt : ∀ q ∈ x.2, q.block < W.heap.size) :
  ∃ (v : Value) (l : List α), cs = [v] ∧ SlAt W.heap.size W v l.length (fun i => (l[i]?.map f).getD []) z ∧ (∀ a ∈ l, Q a) ∧ l.length * by_ ≤ reachBytes := by
 rcases open_slice ht h with ⟨rfl, rfl⟩ | ⟨a, len, cap, m, n, D, Pl, rfl, hb, hl, hm, hmm, hx, hi⟩
 ·exact ⟨_, [], rfl, ⟨none, 0, rfl, Nat.zero_le _, fun h0 => absurd h0 (Nat.lt_irrefl 0)⟩, by simp, by simp⟩
 ·subst hx
  have hlm : len ≤ m := by rw [hmm]; split <;> omega
  have hwd : ∀ i, i < len → Weighs e (D i) := fun i hi k hk => by
   refine hw k ?_
   rw [DataW.weights, ht]
   simp only [List.mem_cons, List.mem_append]
   exact .inr (.inl (weightsAll_mem (List.mem_map.2 ⟨i, List.mem_range.2 hi, rfl⟩) k hk))
  have hlen : len * by_ ≤ reachBytes := by
   have := hw ((len + (m - len)) * by_) (by rw [DataW.weights, ht]; simp [hby])
   refine Nat.le_trans (Nat.mul_le_mul_right _ (by omega)) this
  have hch : ∀ i, i < len → ∃ c : α, W.cells? base (a.add (i * z)) z = some (f c) ∧ Q c := fun i hi' => by
   obtain ⟨cs', hc, ht'⟩ := hi i (by omega)
   rw [hC] at hc
   obtain ⟨c, hcf, hq⟩ := elem n cs' (D i, Pl i) ht' (hwd i hi') (fun q hq => hlt q (List.mem_append_right _ (List.mem_flatMap.2 ⟨i, List.mem_range.2 (by omega), hq⟩)))
   exact ⟨c, by rw [hc, hcf], hq⟩
  obtain ⟨l, hll, hr⟩ := choose_list len hch
  refine ⟨_, l, rfl, ?_, ?_, by rw [hll]; exact hlen⟩
  ·rw [hll]
   refine ⟨some a, cap, rfl, by omega, fun h0 => ?_⟩
   obtain ⟨b, off, spot⟩ := a
   have hspot : spot = none := by
    obtain ⟨hcell, _⟩ := hr 0 (by omega)
    obtain ⟨_, hcl, hat⟩ := World.cells?_some hcell
    have h1 := hat 0 hz
    have h2 : (f l[0])[0]? = some ((f l[0])[0]'(by omega)) := List.getElem?_eq_getElem (by omega)
    rw [h2] at h1
    simpa [Addr.add] using World.cell?_spot h1
   subst hspot
   have hbl : b < W.heap.size := by
    obtain ⟨hcell, _⟩ := hr 0 (by omega)
    obtain ⟨_, hcl, hat⟩ := World.cells?_some hcell
    have h1 := hat 0 hz
    have h2 : (f l[0])[0]? = some ((f l[0])[0]'(by omega)) := List.getElem?_eq_getElem (by omega)
    rw [h2, Addr.add_mid] at h1
    exact World.block_lt_of_cell? W _ h1
   refine ⟨b, off, rfl, hbl, fun i hi' j v hv => ?_⟩
   obtain ⟨hcell, _⟩ := hr i (by omega)
   obtain ⟨_, hcl, hat⟩ := World.cells?_some hcell
   have hi2 : i < l.length := by omega
   replace hv : (f l[i])[j]? = some v := by
    have hv2 : ((l[i]?.map f).getD [])[j]? = some v := hv
    rw [List.getElem?_eq_getElem hi2] at hv2
    exact hv2
   have hjl := (List.getElem?_eq_some_iff.1 hv).1
   have h1 := hat j (by omega)
   rw [Addr.add_mid, Addr.add_mid] at h1
   rw [← hv, ← h1]
  ·intro c hc
   obtain ⟨i, hi', rfl⟩ := List.getElem_of_mem hc
   exact (hr i hi').2

theorem open_cells32 {fuel : Nat} {cs : List Value} {x : DataW H × List MemPlace} (h : DataW.trod enc Tryz.prog W base spare held fuel 36 cs = some x) : ∃ l : List UInt8, cs = bytesV l ∧ l.length = 32 := by
 obtain ⟨l, hv, hl, _⟩ := open_bytes32 (enc := enc) (W := W) (base := base) (spare := spare) (held := held) (v := .agg cs.toArray) (d := x.1) (ps := x.2) ⟨fuel, by simpa [Value.cells] using h⟩
 injection hv with hv
 exact ⟨l, (congrArg Array.toList hv : cs.toArray.toList = (byteCells l).toList), hl⟩
theorem u32_lt {z : Int} (h : (Lit.int .u32 z).wf = true) : ∃ n : Nat, z = (n : Int) ∧ n < 4294967296 := by
 have hb := bounds_u32 h
 exact ⟨z.toNat, by omega, by omega⟩
theorem u8_lt {z : Int} (h : (Lit.int .u8 z).wf = true) : ∃ n : Nat, z = (n : Int) ∧ n < 256 := by
 have hb := bounds_u8 h
 exact ⟨z.toNat, by omega, by omega⟩

/-- A string among a struct's parts. -/
theorem part_str {fuel : Nat} {cs : List Value} {x : DataW H × List MemPlace} (h : DataW.trod enc Tryz.prog W base spare held fuel 9 cs = some x) (hw : Weighs 9 x.1) : ∃ s : ByteArray, cs = [.string s] ∧ s.size ≤ reachBytes := by
 obtain ⟨s, rfl, rfl, _⟩ := DataW.trod_string Tryz.underlying9 h
 refine ⟨s, rfl, ?_⟩
 have := hw s.data.toList.length (by simp [DataW.weights])
 rwa [Array.length_toList] at this
theorem weighs_part {t : TypeId} {fs : Array Field} (ht : Tryz.prog.underlying t = some (.struct fs)) {ds : List (DataW H)} (hw : Weighs t (.agg ds)) {j : Nat} {f : Field} {d : DataW H} (hf : fs[j]? = some f) (hd : ds[j]? = some d) : Weighs f.type d := by
 intro n hn
 refine hw n ?_
 rw [DataW.weights, ht]
 exact DataW.weights_mem_each (j := j) (by rw [List.getElem?_map, Array.getElem?_toList, hf]; rfl) hd n hn

set_option maxRecDepth 20000 in
theorem elem_item (fuel : Nat) (cs : List Value) (x : DataW H × List MemPlace) (h : DataW.trod enc Tryz.prog W base spare held fuel 44 cs = some x) (hw : Weighs 44 x.1) (_ : ∀ q ∈ x.2, q.block < W.heap.size) :
  ∃ a : ItemD, cs = itemV a ∧ a.key.size ≤ 140737488355328 ∧ a.val.size ≤ 140737488355328 := by
 obtain ⟨xs, m, _, rfl, hl, hxl, hg⟩ := DataW.trod_struct Tryz.underlying44 h
 have hc : Tryz.prog.cellsOf 44 = 2 := by kernel_rfl
 have hcs : Tryz.prog.cellsOf 9 = 1 := by kernel_rfl
 rw [hc] at hl
 match xs, hxl with
 | [y0, y1], _ =>
  have g0 : DataW.trod enc Tryz.prog W base spare held m 9 ((cs.drop 0).take (Tryz.prog.cellsOf 9)) = some y0 := hg 0 _ rfl
  rw [hcs] at g0
  have g1 : DataW.trod enc Tryz.prog W base spare held m 9 ((cs.drop 1).take (Tryz.prog.cellsOf 9)) = some y1 := hg 1 _ rfl
  rw [hcs] at g1
  obtain ⟨k, e0, s0⟩ := part_str g0 (weighs_part (j := 0) Tryz.underlying44 hw rfl rfl)
  obtain ⟨v, e1, s1⟩ := part_str g1 (weighs_part (j := 1) Tryz.underlying44 hw rfl rfl)
  refine ⟨⟨k, v⟩, ?_, Nat.le_trans s0 (by decide), Nat.le_trans s1 (by decide)⟩
  match cs, hl with
  | [c0, c1], _ =>
   simp at e0 e1
   rw [e0, e1]; rfl

set_option maxRecDepth 20000 in
theorem elem_kid (fuel : Nat) (cs : List Value) (x : DataW H × List MemPlace) (h : DataW.trod enc Tryz.prog W base spare held fuel 38 cs = some x) (hw : Weighs 38 x.1) (_ : ∀ q ∈ x.2, q.block < W.heap.size) :
  ∃ a : KidD, cs = kidV a ∧ a.wf ∧ a.key.size ≤ 140737488355328 := by
 obtain ⟨xs, m, _, rfl, hl, hxl, hg⟩ := DataW.trod_struct Tryz.underlying38 h
 have hc : Tryz.prog.cellsOf 38 = 34 := by kernel_rfl
 have hcs : Tryz.prog.cellsOf 9 = 1 := by kernel_rfl
 have hcu : Tryz.prog.cellsOf 32 = 1 := by kernel_rfl
 have hch : Tryz.prog.cellsOf 36 = 32 := by kernel_rfl
 rw [hc] at hl
 match xs, hxl with
 | [y0, y1, y2], _ =>
  have g0 : DataW.trod enc Tryz.prog W base spare held m 9 ((cs.drop 0).take (Tryz.prog.cellsOf 9)) = some y0 := hg 0 _ rfl
  rw [hcs] at g0
  have g1 : DataW.trod enc Tryz.prog W base spare held m 32 ((cs.drop 1).take (Tryz.prog.cellsOf 32)) = some y1 := hg 1 _ rfl
  rw [hcu] at g1
  have g2 : DataW.trod enc Tryz.prog W base spare held m 36 ((cs.drop 2).take (Tryz.prog.cellsOf 36)) = some y2 := hg 2 _ rfl
  rw [hch] at g2
  obtain ⟨k, e0, s0⟩ := part_str g0 (weighs_part (j := 0) Tryz.underlying38 hw rfl rfl)
  obtain ⟨z, e1, _, wz⟩ := DataW.trod_int Tryz.underlying32 g1
  obtain ⟨n, rfl, hn⟩ := u32_lt wz
  obtain ⟨hh, e2, hlen⟩ := open_cells32 g2
  refine ⟨⟨k, n, hh⟩, ?_, ⟨hn, hlen⟩, Nat.le_trans s0 (by decide)⟩
  match cs, hl with
  | c0 :: c1 :: r, hl =>
   simp at e0 e1 e2
   have hr : r.length = 32 := by simp at hl; omega
   rw [List.take_of_length_le (by omega)] at e2
   rw [e0, e1, e2]; rfl

set_option maxRecDepth 20000 in
theorem elem_vol (fuel : Nat) (cs : List Value) (x : DataW H × List MemPlace) (h : DataW.trod enc Tryz.prog W base spare held fuel 89 cs = some x) (hw : Weighs 89 x.1) (_ : ∀ q ∈ x.2, q.block < W.heap.size) :
  ∃ a : VolD, cs = volV a ∧ a.wf ∧ a.name.size ≤ 140737488355328 ∧ a.frm.size ≤ 140737488355328 := by
 obtain ⟨xs, m, _, rfl, hl, hxl, hg⟩ := DataW.trod_struct Tryz.underlying89 h
 have hc : Tryz.prog.cellsOf 89 = 37 := by kernel_rfl
 have hcs : Tryz.prog.cellsOf 9 = 1 := by kernel_rfl
 have hck : Tryz.prog.cellsOf 87 = 1 := by kernel_rfl
 have hcq : Tryz.prog.cellsOf 81 = 1 := by kernel_rfl
 have hcu : Tryz.prog.cellsOf 32 = 1 := by kernel_rfl
 have hch : Tryz.prog.cellsOf 36 = 32 := by kernel_rfl
 rw [hc] at hl
 match xs, hxl with
 | [y0, y1, y2, y3, y4, y5], _ =>
  have g0 : DataW.trod enc Tryz.prog W base spare held m 9 ((cs.drop 0).take (Tryz.prog.cellsOf 9)) = some y0 := hg 0 _ rfl
  rw [hcs] at g0
  have g1 : DataW.trod enc Tryz.prog W base spare held m 87 ((cs.drop 1).take (Tryz.prog.cellsOf 87)) = some y1 := hg 1 _ rfl
  rw [hck] at g1
  have g2 : DataW.trod enc Tryz.prog W base spare held m 9 ((cs.drop 2).take (Tryz.prog.cellsOf 9)) = some y2 := hg 2 _ rfl
  rw [hcs] at g2
  have g3 : DataW.trod enc Tryz.prog W base spare held m 81 ((cs.drop 3).take (Tryz.prog.cellsOf 81)) = some y3 := hg 3 _ rfl
  rw [hcq] at g3
  have g4 : DataW.trod enc Tryz.prog W base spare held m 32 ((cs.drop 4).take (Tryz.prog.cellsOf 32)) = some y4 := hg 4 _ rfl
  rw [hcu] at g4
  have g5 : DataW.trod enc Tryz.prog W base spare held m 36 ((cs.drop 5).take (Tryz.prog.cellsOf 36)) = some y5 := hg 5 _ rfl
  rw [hch] at g5
  obtain ⟨k, e0, s0⟩ := part_str g0 (weighs_part (j := 0) Tryz.underlying89 hw rfl rfl)
  obtain ⟨z1, e1, _, w1⟩ := DataW.trod_int Tryz.underlying87 g1
  obtain ⟨n1, rfl, h1⟩ := u8_lt w1
  obtain ⟨f, e2, s2⟩ := part_str g2 (weighs_part (j := 2) Tryz.underlying89 hw rfl rfl)
  obtain ⟨z3, e3, _, w3⟩ := DataW.trod_int Tryz.underlying81 g3
  obtain ⟨n3, rfl, h3⟩ := u64_of w3
  obtain ⟨z4, e4, _, w4⟩ := DataW.trod_int Tryz.underlying32 g4
  obtain ⟨n4, rfl, h4⟩ := u32_lt w4
  obtain ⟨hh, e5, hlen⟩ := open_cells32 g5
  refine ⟨⟨k, n1, f, n3, n4, hh⟩, ?_, ⟨h1, h3, h4, hlen⟩, Nat.le_trans s0 (by decide), Nat.le_trans s2 (by decide)⟩
  match cs, hl with
  | c0 :: c1 :: c2 :: c3 :: c4 :: r, hl =>
   simp at e0 e1 e2 e3 e4 e5
   have hr : r.length = 32 := by simp at hl; omega
   rw [List.take_of_length_le (by omega)] at e5
   rw [e0, e1, e2, e3, e4, e5]; rfl

set_option maxRecDepth 20000 in
/-- Four cells that read as a node. -/
theorem cells_node {fuel : Nat} {cs : List Value} {x : DataW H × List MemPlace} (h : DataW.trod enc Tryz.prog W base spare held fuel 28 cs = some x) (hw : Weighs 28 x.1) (hlt : ∀ q ∈ x.2, q.block < W.heap.size) :
  ∃ n : NodeD, NodeAt W.heap.size W (.agg cs.toArray) n ∧ fitN n := by
 obtain ⟨xs, m, _, rfl, hl, hxl, hg⟩ := DataW.trod_struct Tryz.underlying28 h
 have hc : Tryz.prog.cellsOf 28 = 4 := by kernel_rfl
 have hck : Tryz.prog.cellsOf 24 = 1 := by kernel_rfl
 have hci : Tryz.prog.cellsOf 22 = 1 := by kernel_rfl
 have hcr : Tryz.prog.cellsOf 25 = 1 := by kernel_rfl
 have hcv : Tryz.prog.cellsOf 26 = 1 := by kernel_rfl
 rw [hc] at hl
 match xs, hxl with
 | [y0, y1, y2, y3], _ =>
  have g0 : DataW.trod enc Tryz.prog W base spare held m 24 ((cs.drop 0).take (Tryz.prog.cellsOf 24)) = some y0 := hg 0 _ rfl
  rw [hck] at g0
  have g1 : DataW.trod enc Tryz.prog W base spare held m 22 ((cs.drop 1).take (Tryz.prog.cellsOf 22)) = some y1 := hg 1 _ rfl
  rw [hci] at g1
  have g2 : DataW.trod enc Tryz.prog W base spare held m 25 ((cs.drop 2).take (Tryz.prog.cellsOf 25)) = some y2 := hg 2 _ rfl
  rw [hcr] at g2
  have g3 : DataW.trod enc Tryz.prog W base spare held m 26 ((cs.drop 3).take (Tryz.prog.cellsOf 26)) = some y3 := hg 3 _ rfl
  rw [hcv] at g3
  have l1 : ∀ q ∈ y1.2, q.block < W.heap.size := fun q hq => hlt q (by simp [hq])
  have l2 : ∀ q ∈ y2.2, q.block < W.heap.size := fun q hq => hlt q (by simp [hq])
  have l3 : ∀ q ∈ y3.2, q.block < W.heap.size := fun q hq => hlt q (by simp [hq])
  obtain ⟨z0, e0, _, w0⟩ := DataW.trod_int Tryz.underlying24 g0
  obtain ⟨kind, rfl, hk⟩ := u8_lt w0
  obtain ⟨v1, items, e1, s1, q1, n1⟩ := open_sl (f := itemV) (z := 2) (by_ := 32) Tryz.underlying22 (by kernel_rfl) (by kernel_rfl) (by decide) elem_item g1 (weighs_part (j := 1) Tryz.underlying28 hw rfl rfl) l1
  obtain ⟨v2, kids, e2, s2, q2, n2⟩ := open_sl (f := kidV) (z := 34) (by_ := 56) Tryz.underlying25 (by kernel_rfl) (by kernel_rfl) (by decide) elem_kid g2 (weighs_part (j := 2) Tryz.underlying28 hw rfl rfl) l2
  obtain ⟨v3, vols, e3, s3, q3, n3⟩ := open_sl (f := volV) (z := 37) (by_ := 88) Tryz.underlying26 (by kernel_rfl) (by kernel_rfl) (by decide) elem_vol g3 (weighs_part (j := 3) Tryz.underlying28 hw rfl rfl) l3
  refine ⟨⟨kind, items, kids, vols⟩, ⟨⟨hk, fun k hk => (q2 k hk).1, fun v hv => (q3 v hv).1⟩, v1, v2, v3, ?_, s1, s2, s3⟩, ⟨⟨?_, ?_, ?_⟩, fun a ha => q1 a ha, fun a ha => (q2 a ha).2, fun a ha => (q3 a ha).2⟩⟩
  ·match cs, hl with
   | [c0, c1, c2, c3], _ =>
    simp at e0 e1 e2 e3
    rw [e0, e1, e2, e3]
  ·unfold reachBytes at n1; simp only []; omega
  ·unfold reachBytes at n2; simp only []; omega
  ·unfold reachBytes at n3; simp only []; omega

theorem open_node {v : Value} {d : DataW H} {ps : List MemPlace} (h : DataW.Trod enc Tryz.prog W base spare held 28 v d ps) (hv : ∃ cs, v = .agg cs) (hw : Weighs 28 d) (hlt : ∀ q ∈ ps, q.block < W.heap.size) :
  ∃ n : NodeD, NodeAt W.heap.size W v n ∧ fitN n := by
 obtain ⟨fuel, hf⟩ := h
 obtain ⟨cs, rfl⟩ := hv
 have := cells_node (x := (d, ps)) hf hw hlt
 simpa [Value.cells] using this
end

end Go.Proofs.YtimkklaidodkdaaGreatDoor

namespace Go.Proofs.YtimkklaidodkdaaGreatDoor
open Go.RowKit Go.ChangeShapes Go.WideShapes Go.Deep

section
variable {H : Type} {enc : TypeId × Value → H} {W : World} {base : Nat} {spare : Nat → Bool} {held : Bool}
set_option maxRecDepth 20000 in
theorem elem_cell (fuel : Nat) (cs : List Value) (x : DataW H × List MemPlace) (h : DataW.trod enc Tryz.prog W base spare held fuel 57 cs = some x) (hw : Weighs 57 x.1) (_ : ∀ q ∈ x.2, q.block < W.heap.size) :
  ∃ a : CellD, cs = cellV a ∧ a.num < 4294967296 ∧ a.data.size ≤ 140737488351232 := by
 obtain ⟨xs, m, _, rfl, hl, hxl, hg⟩ := DataW.trod_struct Tryz.underlying57 h
 have hc : Tryz.prog.cellsOf 57 = 3 := by kernel_rfl
 have hcs : Tryz.prog.cellsOf 9 = 1 := by kernel_rfl
 have hcu : Tryz.prog.cellsOf 32 = 1 := by kernel_rfl
 have hci : Tryz.prog.cellsOf 3 = 1 := by kernel_rfl
 rw [hc] at hl
 match xs, hxl with
 | [y0, y1, y2], _ =>
  have g0 : DataW.trod enc Tryz.prog W base spare held m 32 ((cs.drop 0).take (Tryz.prog.cellsOf 32)) = some y0 := hg 0 _ rfl
  rw [hcu] at g0
  have g1 : DataW.trod enc Tryz.prog W base spare held m 9 ((cs.drop 1).take (Tryz.prog.cellsOf 9)) = some y1 := hg 1 _ rfl
  rw [hcs] at g1
  have g2 : DataW.trod enc Tryz.prog W base spare held m 3 ((cs.drop 2).take (Tryz.prog.cellsOf 3)) = some y2 := hg 2 _ rfl
  rw [hci] at g2
  obtain ⟨z, e0, _, wz⟩ := DataW.trod_int Tryz.underlying32 g0
  obtain ⟨n, rfl, hn⟩ := u32_lt wz
  obtain ⟨s, e1, s1⟩ := part_str g1 (weighs_part (j := 1) Tryz.underlying57 hw rfl rfl)
  obtain ⟨r, e2, _, _⟩ := DataW.trod_int Tryz.underlying3 g2
  refine ⟨⟨n, s, r⟩, ?_, hn, s1⟩
  match cs, hl with
  | [c0, c1, c2], _ =>
   simp at e0 e1 e2
   rw [e0, e1, e2]; rfl

set_option maxRecDepth 20000 in
/-- Two cells that read as a heap. -/
theorem cells_heap {fuel : Nat} {cs : List Value} {x : DataW H × List MemPlace} (h : DataW.trod enc Tryz.prog W base spare held fuel 35 cs = some x) (hw : Weighs 35 x.1) (hlt : ∀ q ∈ x.2, q.block < W.heap.size) :
  ∃ h : HeapD, HeapAt W.heap.size W (.agg cs.toArray) h := by
 obtain ⟨xs, m, _, rfl, hl, hxl, hg⟩ := DataW.trod_struct Tryz.underlying35 h
 have hc : Tryz.prog.cellsOf 35 = 2 := by kernel_rfl
 have hcu : Tryz.prog.cellsOf 32 = 1 := by kernel_rfl
 have hcc : Tryz.prog.cellsOf 33 = 1 := by kernel_rfl
 rw [hc] at hl
 match xs, hxl with
 | [y0, y1], _ =>
  have g0 : DataW.trod enc Tryz.prog W base spare held m 32 ((cs.drop 0).take (Tryz.prog.cellsOf 32)) = some y0 := hg 0 _ rfl
  rw [hcu] at g0
  have g1 : DataW.trod enc Tryz.prog W base spare held m 33 ((cs.drop 1).take (Tryz.prog.cellsOf 33)) = some y1 := hg 1 _ rfl
  rw [hcc] at g1
  have l1 : ∀ q ∈ y1.2, q.block < W.heap.size := fun q hq => hlt q (by simp [hq])
  obtain ⟨z0, e0, _, w0⟩ := DataW.trod_int Tryz.underlying32 g0
  obtain ⟨n, rfl, hn⟩ := u32_lt w0
  obtain ⟨v1, l, e1, s1, q1, n1⟩ := open_sl (f := cellV) (z := 3) (by_ := 32) Tryz.underlying33 (by kernel_rfl) (by kernel_rfl) (by decide) elem_cell g1 (weighs_part (j := 1) Tryz.underlying35 hw rfl rfl) l1
  refine ⟨⟨n, l⟩, ⟨hn, fun c hcm => q1 c hcm, ?_, v1, ?_, s1⟩⟩
  ·unfold reachBytes at n1; simp only []; omega
  ·match cs, hl with
   | [c0, c1], _ =>
    simp at e0 e1
    rw [e0, e1]

theorem open_heap {v : Value} {d : DataW H} {ps : List MemPlace} (h : DataW.Trod enc Tryz.prog W base spare held 35 v d ps) (hv : ∃ cs, v = .agg cs) (hw : Weighs 35 d) (hlt : ∀ q ∈ ps, q.block < W.heap.size) :
  ∃ h : HeapD, HeapAt W.heap.size W v h := by
 obtain ⟨fuel, hf⟩ := h
 obtain ⟨cs, rfl⟩ := hv
 have := cells_heap (x := (d, ps)) hf hw hlt
 simpa [Value.cells] using this
end

end Go.Proofs.YtimkklaidodkdaaGreatDoor
