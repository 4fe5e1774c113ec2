/- An argument of 32 bytes, opened and shut. -/
import Derived.Test.YtokanfceipkfpaaDoorWords
import Derived.OpenShut
import Derived.DataBytes
namespace Go.Proofs.YtokanfceipkfpaaDoor
open Go.RowKit

def dataBytes {H : Type} (l : List UInt8) : DataW H := .agg (l.map fun c => .lit (.int .u8 (c.toNat : Int)))
def byteOf' : Value → UInt8
  | .int _ n => UInt8.ofNat n.toNat
  | _ => 0

set_option maxRecDepth 20000 in
theorem shut_bytes32 {H : Type} {enc : TypeId × Value → H} {W : World} {base : Nat} {spare : Nat → Bool} {held : Bool} {l : List UInt8} (hl : l.length = 32) :
    DataW.Trod enc Tryd.prog W base spare held 53 (.agg (byteCells l)) (dataBytes l) [] := by
  refine ⟨2, ?_⟩
  have hc : Tryd.prog.cellsOf 53 = 32 := by kernel_rfl
  have hc5 : Tryd.prog.cellsOf 5 = 1 := by kernel_rfl
  have hall : ∀ i ∈ List.range 32, DataW.trod enc Tryd.prog W base spare held 1 5 (((byteCells l).toList.drop (i * Tryd.prog.cellsOf 5)).take (Tryd.prog.cellsOf 5)) = some (.lit (.int .u8 ((l.getD i 0).toNat : Int)), []) := by
    intro i hi
    have hi' : i < l.length := by simpa [hl] using hi
    have e : ((byteCells l).toList.drop (i * Tryd.prog.cellsOf 5)).take (Tryd.prog.cellsOf 5) = [.int .u8 ((l.getD i 0).toNat : Int)] := by
      rw [hc5, Nat.mul_one, byteCells_toList, List.take_one, List.head?_drop, List.getElem?_map, List.getElem?_eq_getElem hi', List.getD_eq_getElem?_getD, List.getElem?_eq_getElem hi']
      rfl
    rw [e]
    have hwf : (Lit.int .u8 ((l.getD i 0).toNat : Int)).wf = true := by
      have := (l.getD i 0).toNat_lt
      generalize (l.getD i 0).toNat = n at *
      simp [Lit.wf, IntKind.min, IntKind.max, IntKind.signed, IntKind.bits]; omega
    unfold DataW.trod
    rw [Tryd.underlying5]
    simp only [hwf, and_self, if_true]
  have hlen : (byteCells l).toList.length = 32 := by rw [Array.length_toList, byteCells_size, hl]
  show DataW.trod enc Tryd.prog W base spare held (1 + 1) 53 (byteCells l).toList = _
  unfold DataW.trod
  rw [Tryd.underlying53]
  simp only []
  rw [if_pos (by rw [hlen, hc]), mapM_some_of_forall (List.range 32) hall]
  have hmap : ((List.range 32).map fun i => ((DataW.lit (.int .u8 ((l.getD i 0).toNat : Int)) : DataW H), ([] : List MemPlace))).map (·.1) = l.map fun c => .lit (.int .u8 (c.toNat : Int)) := by
    apply List.ext_getElem (by rw [List.length_map, List.length_map, List.length_map, List.length_range, hl])
    intro i h1 h2
    have hi' : i < l.length := by simpa using h2
    rw [List.getElem_map, List.getElem_map, List.getElem_map, List.getElem_range, List.getD_eq_getElem?_getD, List.getElem?_eq_getElem hi']
    rfl
  have hflat : ((List.range 32).map fun i => ((DataW.lit (.int .u8 ((l.getD i 0).toNat : Int)) : DataW H), ([] : List MemPlace))).flatMap (·.2) = [] := by
    rw [List.flatMap_eq_nil_iff]
    intro x hx
    obtain ⟨i, _, rfl⟩ := List.mem_map.1 hx
    rfl
  rw [Option.map_some, hmap, hflat]
  rfl

set_option maxRecDepth 20000 in
theorem open_bytes32 {H : Type} {enc : TypeId × Value → H} {W : World} {base : Nat} {spare : Nat → Bool} {held : Bool} {v : Value} {d : DataW H} {ps : List MemPlace} (hd : DataW.Trod enc Tryd.prog W base spare held 53 v d ps) :
    ∃ l : List UInt8, v = .agg (byteCells l) ∧ l.length = 32 ∧ d = dataBytes l ∧ ps = [] := by
  have hc : Tryd.prog.cellsOf 53 = 32 := by kernel_rfl
  have hc5 : Tryd.prog.cellsOf 5 = 1 := by kernel_rfl
  obtain ⟨fuel, hf⟩ := hd
  obtain ⟨xs, m, _, hx, hl, hxl, hel⟩ := DataW.trod_array Tryd.underlying53 hf
  rw [hc] at hl
  have hv : ∃ cs, v = .agg cs := by
    cases v with
    | agg cs => exact ⟨cs, rfl⟩
    | _ => simp [Value.cells] at hl
  obtain ⟨cs, rfl⟩ := hv
  simp only [Value.cells] at hl hel
  have key : ∀ i (h : i < cs.toList.length) (h2 : i < xs.length), cs.toList[i] = .int .u8 ((byteOf' cs.toList[i]).toNat : Int) ∧ xs[i] = (.lit (.int .u8 ((byteOf' cs.toList[i]).toNat : Int)), []) := by
    intro i h h2
    have he := hel i (by omega)
    rw [hc5, Nat.mul_one, List.take_one, List.head?_drop, List.getElem?_eq_getElem h, List.getElem?_eq_getElem h2] at he
    obtain ⟨n, h3, h4, h5⟩ := DataW.trod_int Tryd.underlying5 he
    simp only [Option.toList] at h3
    have hci : cs.toList[i] = .int .u8 n := by simpa using h3
    have hb : ((byteOf' (.int .u8 n)).toNat : Int) = n := by
      have hw := bounds_u8 h5
      simp only [byteOf', UInt8.toNat_ofNat']
      omega
    rw [hci, hb]
    exact ⟨rfl, h4⟩
  refine ⟨cs.toList.map byteOf', ?_, by rw [List.length_map]; exact hl, ?_, ?_⟩
  · congr 1
    apply Array.ext'
    rw [byteCells_toList, List.map_map]
    apply List.ext_getElem (by simp)
    intro i h1 h2
    rw [(key i h1 (by omega)).1]
    simp only [List.getElem_map, Function.comp]
  · obtain ⟨hx1, _⟩ := Prod.mk.inj hx
    rw [hx1, dataBytes, List.map_map]
    congr 1
    apply List.ext_getElem (by rw [List.length_map, List.length_map, hl, hxl])
    intro i h1 h2
    have hi : i < cs.toList.length := by simpa using h2
    rw [List.getElem_map, List.getElem_map, (key i hi (by omega)).2]
    rfl
  · obtain ⟨_, hx2⟩ := Prod.mk.inj hx
    rw [hx2, List.flatMap_eq_nil_iff]
    intro x hxm
    obtain ⟨i, hi, rfl⟩ := List.getElem_of_mem hxm
    rw [(key i (by omega) hi).2]

end Go.Proofs.YtokanfceipkfpaaDoor
