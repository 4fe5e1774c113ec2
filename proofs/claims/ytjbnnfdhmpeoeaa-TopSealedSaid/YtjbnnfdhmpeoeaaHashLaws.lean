/- What the laws of hashes ask before all: codes, walked. -/
import Derived.Test.YtjbnnfdhmpeoeaaParse2
namespace Go.Proofs.Ytjbnnfdhmpeoeaa
open Go.RowKit

theorem parse_hexS (l : List UInt8) (hl : l.length = 32) : parseH (hexS l) = l ∧ parseE (hexS l) = 0 := by
  have ho : parseOk (hexS l) = true := by
    unfold parseOk
    rw [Bool.and_eq_true, beq_iff_eq, hexS_size, hexS_data, hexL_digits]
    exact ⟨by omega, rfl⟩
  rw [parseH, parseE, if_pos ho, if_pos ho, hexS_data, unhex_hexL]
  exact ⟨rfl, rfl⟩

/-- A world by another name: an arm that a walk takes as soon as it meets this world. -/
theorem wpList_world {P : Program} {ops : Array Oper} {Q : Exit → Act → World → Prop} {rest : List Oper} {a : Act} {w W : World} (h : W = w) (k : wpList P ops Q rest a W) : wpList P ops Q rest a w := h ▸ k
/-- A whole row is loaded, guarded or not. -/
theorem wpList_load_rowG {P : Program} {ops : Array Oper} {rest : List Oper} {o : Oper} {a : Act} {w : World} {Q : Exit → Act → World → Prop} (ty : TypeId) (x : Operand) (ho : o.op = .load ty x) (g : Nat) (hx : a.eval x = .pointer (some ⟨g, 0, none⟩))
    (hwn : Region.wanted o (yielded ops a.tmps) = true) (t : TypeId) (cs : Array Value) (fr : Nat × Nat) (d : TypeDesc) (hg : w.heap[g]? = some (.cells cs t fr))
    (hu : P.underlying ty = some d) (hd : (match d with | .struct _ | .array _ _ => true | _ => false) = true) (hi : (P.info? ty).map (·.size) = some cs.size)
    (h : wpList P ops Q rest (a.put o.dst (.agg cs)) w) : wpList P ops Q (o :: rest) a w := by
  unfold wpList
  rw [if_pos hwn]
  exact .inl (wp_load_row ty x ho g hx t cs fr d hg hu hd hi h)
theorem hexS_parse (s : ByteArray) (h : parseE s = 0) : hexS (parseH s) = s := by
  have ho : parseOk s = true := by
    unfold parseE at h
    split at h
    · assumption
    · simp at h
  rw [parseH, if_pos ho]
  unfold parseOk at ho
  rw [Bool.and_eq_true, beq_iff_eq] at ho
  rw [hexS, hexL_unhex 32 _ (by rw [Array.length_toList]; exact ho.1) ho.2]

def codeL : List UInt8 := ((List.replicate 32 0).set 0 171).set 31 9
theorem codeL_length : codeL.length = 32 := rfl
theorem code_head : (hexS codeL).extract 0 2 = ⟨#[97, 98]⟩ := by decide +kernel
theorem code_tail : (hexS codeL).extract 62 64 = ⟨#[48, 57]⟩ := by decide +kernel

theorem eq_bytes_self {l : List UInt8} (hl : l.length = 32) (w : World) : (Op.equalIn 10000 45 (.agg (byteCells l)) (.agg (byteCells l))).run Try.prog w = .ok true w := by
  have := eq_bytes l l w hl hl
  rwa [beq_self_eq_true] at this
theorem load_row_32 {l : List UInt8} (hl : l.length = 32) : (Try.prog.info? 45).map (·.size) = some (byteCells l).size := by rw [byteCells_size, hl]; kernel_rfl

/-- A fresh row of 32 bytes, then filled whole. -/
theorem alloc_store (w : World) {l : List UInt8} (hl : l.length = 32) : ∃ W W2, W = w.alloc (.cells (byteCells (List.replicate 32 0)) 45) ∧ W2 = W.setCells w.heap.size 0 (byteCells l).toList ∧
    RowIs W2 w.heap.size 45 (byteCells l) ∧ Below w.heap.size w W2 ∧ W.there w.heap.size 0 (byteCells l).size := by
  have hr := RowIs.new w 45 (byteCells (List.replicate 32 0))
  have hs : (byteCells l).size = (byteCells (List.replicate 32 0)).size := by rw [byteCells_size, hl]; rfl
  exact ⟨_, _, rfl, rfl, store_row hr hs, setCells_below _ _ (Nat.le_refl _) _ _ _ _ ((Below.refl _ _).alloc (Nat.le_refl _) _), hr.there 0 _ (by rw [hs]; exact Nat.le_refl _)⟩

set_option maxRecDepth 20000 in
set_option maxHeartbeats 1600000 in
theorem codes_calls (w : World) : Calls Try.prog 40 #[] w fun e w' => e = .returned (.bool true) ∧ Below w.heap.size w w' := by
  have hR0 : RowIs (w.alloc (.cells (byteCells (List.replicate 32 0)) 45)) w.heap.size 45 (byteCells (List.replicate 32 0)) := RowIs.new w 45 (byteCells (List.replicate 32 0))
  have hB0 : Below w.heap.size w (w.alloc (.cells (byteCells (List.replicate 32 0)) 45)) := (Below.refl _ _).alloc (Nat.le_refl _) _
  obtain ⟨W, hW⟩ : ∃ W, W = w.alloc (.cells (byteCells (List.replicate 32 0)) 45) := ⟨_, rfl⟩
  rw [← hW] at hR0 hB0
  have HW := Lib.hid hW
  clear hW
  have hR1 : RowIs ((W.setCell ⟨w.heap.size, 0, none⟩ (.int .u8 171)).setCell ⟨w.heap.size, 31, none⟩ (.int .u8 9)) w.heap.size 45 (byteCells codeL) := (hR0.setByte 0 171 171 rfl).setByte 31 9 9 rfl
  have hB1 : Below w.heap.size w ((W.setCell ⟨w.heap.size, 0, none⟩ (.int .u8 171)).setCell ⟨w.heap.size, 31, none⟩ (.int .u8 9)) := (hB0.setCell (p := ⟨w.heap.size, 0, none⟩) (Nat.le_refl _) _).setCell (p := ⟨w.heap.size, 31, none⟩) (Nat.le_refl _) _
  have hc0 : W.cell? ⟨w.heap.size, 0, none⟩ = some (.int .u8 0) := hR0.byte 0 (by decide)
  have hc31 : W.cell? ⟨w.heap.size, 31, none⟩ = some (.int .u8 0) := hR0.byte 31 (by decide)
  have hf0 := hR0.free 0
  have hf31 := hR0.free 31
  have HR0 := Lib.hid hR0
  have HB0 := Lib.hid hB0
  clear hR0 hB0
  have hsz := load_row_32 codeL_length
  have hone := byteCells_one codeL
  have hhex := fun w => hex_calls codeL w codeL_length
  have hps := fun w => parse_calls (hexS codeL) w
  rw [(parse_hexS codeL codeL_length).1, (parse_hexS codeL codeL_length).2] at hps
  have has := fun w => alloc_store w codeL_length
  have hS : (hexS codeL).size = 64 := by rw [hexS_size, codeL_length]
  have h1 := code_head
  have h2 := code_tail
  have heq := eq_bytes_self codeL_length
  have hcs : (byteCells codeL).size = 32 := rfl
  generalize hexS codeL = S at *
  generalize byteCells codeL = C at *
  go_enter Try.func40, Try.ntmps40
  go_wp2_with (first | (refine wpList_world HW.out ?_) | (refine wpList_load_row rfl 45 _ rfl w.heap.size rfl 45 C (0, 0) _ hR1 Try.underlying45 rfl hsz ?_))
  generalize (W.setCell ⟨w.heap.size, 0, none⟩ (.int .u8 171)).setCell ⟨w.heap.size, 31, none⟩ (.int .u8 9) = w1 at *
  clear hc0 hc31 hf0 hf31 HR0 HB0 HW
  generalize hB : w.heap.size = B at *
  have HB := Lib.hid hB
  clear hB
  refine (hhex w1).mono ?_
  rintro e w2 ⟨rfl, hb2⟩
  have hR2 := hR1.below hb2 hR1.lt
  have hB2 := hB1.trans (hb2.mono (Nat.le_of_lt hR1.lt))
  clear hR1 hB1 hb2
  go_wp2_with fail
  refine (hps w2).mono ?_
  rintro e w3 ⟨rfl, hb3⟩
  have hR3 := hR2.below hb3 hR2.lt
  have hB3 := hB2.trans (hb3.mono (Nat.le_of_lt hR2.lt))
  clear hR2 hB2 hb3
  obtain ⟨W, W2, hW, hW2, hG, hb4, hthere⟩ := has w3
  have hR4 := hR3.below hb4 hR3.lt
  have hB4 := hB3.trans (hb4.mono (Nat.le_of_lt hR3.lt))
  have HW := Lib.hid hW
  have HW2 := Lib.hid hW2
  have HB4 := Lib.hid hB4
  clear hR3 hB3 hb4 hW hW2 hB4
  go_wp2_with (first | (refine wpList_world HW.out ?_) | (refine wpList_store_mid rfl 45 _ _ rfl w3.heap.size 0 C rfl rfl hthere hsz hone ?_; refine wpList_world HW2.out ?_) | (refine wpList_load_rowG 45 _ rfl w3.heap.size rfl rfl 45 C (0, 0) _ hG Try.underlying45 rfl hsz ?_) | (refine wpList_load_rowG 45 _ rfl B rfl rfl 45 C (0, 0) _ hR4 Try.underlying45 rfl hsz ?_))
  go_ret
  exact ⟨rfl, by rw [HB.out]; exact HB4.out⟩

end Go.Proofs.Ytjbnnfdhmpeoeaa
