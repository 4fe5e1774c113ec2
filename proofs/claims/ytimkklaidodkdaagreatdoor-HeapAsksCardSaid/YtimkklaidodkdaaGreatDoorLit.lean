/- Literals with an array among the parts; a literal slice of one thing. -/
import Derived.Test.YtimkklaidodkdaaGreatDoorNodeVols
import Derived.Test.YtimkklaidodkdaaGreatDoorTake1
import Derived.Test.YtimkklaidodkdaaGreatDoorGate
import Derived.Laws.Tables
namespace Go.Proofs.YtimkklaidodkdaaGreatDoor
open Go.RowKit

abbrev putAll (off : Nat) (cs : Array Value) (v : Array Value) : Array Value := v.zipIdx.foldl (fun cs (c, j) => cs.setIfInBounds (off + j) c) cs
theorem putAll_list (off : Nat) : ∀ (l : List Value) (k : Nat) (A : Array Value), off + k + l.length ≤ A.size →
  ((l.zipIdx k).foldl (fun cs (c, j) => cs.setIfInBounds (off + j) c) A).toList = A.toList.take (off + k) ++ l ++ A.toList.drop (off + k + l.length)
 | [], k, A, h => by simp
 | c :: l, k, A, h => by
  rw [List.length_cons] at h
  rw [List.zipIdx_cons, List.foldl_cons, putAll_list off l (k + 1) _ (by simp; omega)]
  have hlt : off + k < A.toList.length := by simp; omega
  simp only [Array.toList_setIfInBounds]
  have h1 : (A.toList.set (off + k) c).take (off + (k + 1)) = A.toList.take (off + k) ++ [c] := by
   rw [← Nat.add_assoc, List.take_set, List.take_add_one, List.getElem?_eq_getElem hlt, List.set_append_right _ _ (by simp; omega)]
   simp [Nat.min_eq_left (Nat.le_of_lt (show off + k < A.size by omega))]
  have h2 : (A.toList.set (off + k) c).drop (off + (k + 1) + l.length) = A.toList.drop (off + k + (l.length + 1)) := by
   rw [List.drop_set_of_lt (by omega), show off + (k + 1) + l.length = off + k + (l.length + 1) by omega]
  rw [h1, h2]
  simp
theorem putAll_eq (off : Nat) (A v : Array Value) (h : off + v.size ≤ A.size) : putAll off A v = (A.toList.take off ++ v.toList ++ A.toList.drop (off + v.size)).toArray := by
 apply Array.toList_inj.1
 have := putAll_list off v.toList 0 A (by simpa using h)
 rw [Nat.add_zero, Array.length_toList] at this
 rw [← this]
 show (v.zipIdx.foldl (fun cs (c, j) => cs.setIfInBounds (off + j) c) A).toList = _
 rw [← Array.foldl_toList, Array.toList_zipIdx]

theorem fill_cons {place : Nat → Option (Nat × Nat)} {A : Array Value} {i : Nat} {v : Value} {rest : List (Nat × Value)} {off size : Nat} (hp : place i = some (off, size)) (hs : v.cells.size = size) (ho : off + size ≤ A.size) :
  Instr.fill place A ((i, v) :: rest) = Instr.fill place (A.toList.take off ++ v.cells.toList ++ A.toList.drop (off + size)).toArray rest := by
 rw [Instr.fill, hp]
 dsimp only
 rw [if_neg (by simp [hs]; omega), show (v.cells.zipIdx.foldl (fun cs (c, j) => cs.setIfInBounds (off + j) c) A) = putAll off A v.cells from rfl, putAll_eq off A v.cells (by omega), hs]

theorem fill_one {place : Nat → Option (Nat × Nat)} {A : Array Value} {i : Nat} {v : Value} {rest : List (Nat × Value)} {off : Nat} (hp : place i = some (off, 1)) (hv : v.cells = #[v]) (ho : off + 1 ≤ A.size) :
  Instr.fill place A ((i, v) :: rest) = Instr.fill place (A.setIfInBounds off v) rest := by
 rw [Instr.fill, hp]
 dsimp only
 rw [hv, if_neg (by simp; omega)]
 rfl
theorem fill_last {place : Nat → Option (Nat × Nat)} {A : Array Value} {i : Nat} {v : Value} {off size : Nat} (hp : place i = some (off, size)) (hs : v.cells.size = size) (ho : off + size = A.size) :
  Instr.fill place A [(i, v)] = some (A.toList.take off ++ v.cells.toList).toArray := by
 rw [fill_cons hp hs (by omega), Instr.fill, List.drop_of_length_le (by simp; omega), List.append_nil]

theorem wp_build_eq {P : Program} {o : Oper} {a : Act} {w : World} {K : Act → World → Prop} {Q : Exit → Act → World → Prop} (t : TypeId) (parts : List (Nat × Operand)) (ho : o.op = .build t parts.toArray) (cells : Array Value)
  (hf : P.built t (parts.map fun (i, x) => (i, a.eval x)) = some cells) (h : K (a.put o.dst (.agg cells)) w) : o.wp P a w K Q := by
 have hf' : P.built t (parts.toArray.map fun (i, x) => (i, a.eval x)).toList = some cells := by rw [List.map_toArray]; exact hf
 refine wp_build t parts.toArray ho (by rw [hf']; rfl) ?_
 rw [hf']; exact h
theorem run_buildSlice_one {P : Program} (t e : TypeId) (hu : P.underlying t = some (.slice e)) (i : TypeInfo) (hi : P.info? e = some i) (z : Value) (hz : i.zero = some z) (C : Array Value) (hC : C.size = i.size) (hp : 0 < i.size) (hm : i.size ≤ 65536) (w : World) :
  (Instr.buildSlice t 1 #[(0, .agg C)]).run P w = .ok (.slice (some ⟨w.heap.size, 0, none⟩) 1 1) (w.alloc (.cells C e)) := by
 have hfill : Instr.fill (fun k => some (k * i.size, i.size)) ((Array.range i.size).map (z.cells[· % z.cells.size]!)) [(0, .agg C)] = some C := by
  rw [fill_cons (off := 0) (size := i.size) (v := .agg C) (by simp) hC (by simp), Instr.fill]
  simp only [Value.cells]
  rw [List.drop_of_length_le (by simp)]
  simp
 have hs : (sizeOf e).run P w = .ok i.size w := by simp [sizeOf, typeInfo, hi]
 have hzv : (zeroValue e).run P w = .ok z w := by simp [zeroValue, typeInfo, hi, hz]
 unfold Instr.buildSlice
 simp only [Sem.run_bind, run_underlying hu, Result.andThen_ok, hs, Nat.one_mul]
 rw [if_neg (by omega), if_neg (by omega)]
 simp only [Sem.run_bind, hzv, Result.andThen_ok, Sem.run_pure, hfill]
 simp [newRow]

theorem wp_buildSlice_one {P : Program} {o : Oper} {a : Act} {w : World} {K : Act → World → Prop} {Q : Exit → Act → World → Prop} (t e : TypeId) (x : Operand) (ho : o.op = .buildSlice t 1 #[(0, x)]) (hu : P.underlying t = some (.slice e)) (i : TypeInfo) (hi : P.info? e = some i) (z : Value) (hz : i.zero = some z) (size : Nat) (his : i.size = size) (C : Array Value) (hx : a.eval x = .agg C) (hC : C.size = size) (hp : 0 < size) (hm : size ≤ 65536)
  (h : K (a.put o.dst (.slice (some ⟨w.heap.size, 0, none⟩) 1 1)) (w.alloc (.cells C e))) : o.wp P a w K Q := by
 subst his
 have hr := run_buildSlice_one (P := P) t e hu i hi z hz C hC hp hm w
 unfold Oper.wp execOp
 simp only [ho, List.map_toArray, List.map_cons, List.map_nil, hx, Sem.run_bind, hr, Result.andThen_ok]
 exact h

theorem built_kid (s : ByteArray) (n : Int) (R : List UInt8) (hR : R.length = 32) : Tryz.prog.built 38 [(0, .string s), (1, .int .u32 n), (2, .agg (byteCells R))] = some ((Value.string s :: Value.int .u32 n :: bytesV R).toArray) := by
 have h : Tryz.prog.built 38 [(0, .string s), (1, .int .u32 n), (2, .agg (byteCells R))] = Instr.fill ((#[(0, 1), (1, 1), (2, 32)] : Array (Nat × Nat))[·]?) kidZ [(0, .string s), (1, .int .u32 n), (2, .agg (byteCells R))] := by
  kernel_rfl
 have hz : kidZ.size = 34 := rfl
 rw [h, fill_one (off := 0) rfl rfl (by omega), fill_one (off := 1) rfl rfl (by simp [hz]), fill_last (off := 2) (size := 32) rfl (by simp [Value.cells, byteCells_size, hR]) (by simp [hz])]
 rfl

theorem built_vol (s f : ByteArray) (k n r : Int) (R : List UInt8) (hR : R.length = 32) : Tryz.prog.built 89 [(0, .string s), (2, .string f), (1, .int .u8 k), (3, .int .u64 n), (4, .int .u32 r), (5, .agg (byteCells R))] = some ((Value.string s :: Value.int .u8 k :: Value.string f :: Value.int .u64 n :: Value.int .u32 r :: bytesV R).toArray) := by
 have h : Tryz.prog.built 89 [(0, .string s), (2, .string f), (1, .int .u8 k), (3, .int .u64 n), (4, .int .u32 r), (5, .agg (byteCells R))] = Instr.fill ((#[(0, 1), (1, 1), (2, 1), (3, 1), (4, 1), (5, 32)] : Array (Nat × Nat))[·]?) volZ [(0, .string s), (2, .string f), (1, .int .u8 k), (3, .int .u64 n), (4, .int .u32 r), (5, .agg (byteCells R))] := by
  kernel_rfl
 have hz : volZ.size = 37 := rfl
 rw [h, fill_one (off := 0) rfl rfl (by omega), fill_one (off := 2) rfl rfl (by simp [hz]), fill_one (off := 1) rfl rfl (by simp [hz]), fill_one (off := 3) rfl rfl (by simp [hz]), fill_one (off := 4) rfl rfl (by simp [hz]), fill_last (off := 5) (size := 32) rfl (by simp [Value.cells, byteCells_size, hR]) (by simp [hz])]
 rfl

theorem cast_u32 (n : Nat) (w : World) (h : n < 256 ^ 4) : (convert 81 32 (.int .u64 (n : Int))).run Tryz.prog w = .ok (.int .u32 (n : Int)) w := by
 have hw : IntKind.u32.wrap (n : Int) = (n : Int) := by rw [IntKind.wrap_u32]; omega
 go_simp
theorem cast_u8 (n : Nat) (w : World) (h : n < 256 ^ 1) : (convert 81 87 (.int .u64 (n : Int))).run Tryz.prog w = .ok (.int .u8 (n : Int)) w := by
 have hw : IntKind.u8.wrap (n : Int) = (n : Int) := by rw [IntKind.wrap_u8]; omega
 go_simp
theorem info_item : (Tryz.prog.info? 44).map (fun i => (i.zero, i.size, i.bytes)) = some (some (.agg #[.string ⟨#[]⟩, .string ⟨#[]⟩]), 2, 32) := by kernel_rfl
theorem info_kid : (Tryz.prog.info? 38).map (fun i => (i.zero, i.size, i.bytes)) = some (some (.agg kidZ), 34, 56) := by kernel_rfl
theorem info_vol : (Tryz.prog.info? 89).map (fun i => (i.zero, i.size, i.bytes)) = some (some (.agg volZ), 37, 88) := by kernel_rfl

theorem txN_left (t : TkD) : (txN t).left.length ≤ t.left.length := Nat.le_trans (next_left _ _) (next_left _ _)

end Go.Proofs.YtimkklaidodkdaaGreatDoor
