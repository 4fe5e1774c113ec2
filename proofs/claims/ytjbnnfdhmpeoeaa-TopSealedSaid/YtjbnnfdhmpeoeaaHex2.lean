/- hash.Hex, walked. -/
import Derived.Test.YtjbnnfdhmpeoeaaHex
import Derived.Test.YtjbnnfdhmpeoeaaSha4
namespace Go.Proofs.Ytjbnnfdhmpeoeaa
open Go.RowKit

theorem dig_get (n : Nat) (h : n < (⟨#[48, 49, 50, 51, 52, 53, 54, 55, 56, 57, 97, 98, 99, 100, 101, 102]⟩ : ByteArray).size) : (⟨#[48, 49, 50, 51, 52, 53, 54, 55, 56, 57, 97, 98, 99, 100, 101, 102]⟩ : ByteArray)[n] = hexDig n :=
  (by decide : ∀ n : Fin 16, (⟨#[48, 49, 50, 51, 52, 53, 54, 55, 56, 57, 97, 98, 99, 100, 101, 102]⟩ : ByteArray)[n.val]'n.isLt = hexDig n.val) ⟨n, h⟩

theorem dig_ext (n : Nat) (h : n < 16) : (⟨#[48, 49, 50, 51, 52, 53, 54, 55, 56, 57, 97, 98, 99, 100, 101, 102]⟩ : ByteArray).extract n (n + 1) = ⟨#[hexDig n]⟩ :=
  (by decide : ∀ n : Fin 16, (⟨#[48, 49, 50, 51, 52, 53, 54, 55, 56, 57, 97, 98, 99, 100, 101, 102]⟩ : ByteArray).extract n.val (n.val + 1) = ⟨#[hexDig n.val]⟩) ⟨n, h⟩

theorem index_byteZ (l : List UInt8) (k : Nat) (hk : k < l.length) (hn : l.length = 32) (w : World) :
    (Instr.index 45 (.agg (byteCells l)) (.int .i64 (k : Int))).run Try.prog w = .ok (.int .u8 (l[k].toNat : Int)) w := index_byte Try.underlying45 l k hk hn w

theorem libCells_snoc (l : List UInt8) (c : UInt8) : Lib.byteCells l ++ [.int .u8 (c.toNat : Int)] = Lib.byteCells (l ++ [c]) := by simp [Lib.byteCells]
theorem libCells_length (l : List UInt8) : (Lib.byteCells l).length = l.length := by simp [Lib.byteCells]

set_option maxRecDepth 20000 in
set_option maxHeartbeats 1600000 in
theorem hex_calls (l : List UInt8) (w : World) (hl : l.length = 32) :
    Calls Try.prog 34 #[.agg (byteCells l)] w fun e w' => e = .returned (.string (hexS l)) ∧ Below w.heap.size w w' := by
  have hsz : (Try.prog.info? 45).map (·.size) = some (byteCells l).size := by rw [byteCells_size, hl]; kernel_rfl
  have hbld : Lib.IsBuilder 69 5 (w.heap.size + 1) (w.heap.size + 1) (Lib.byteCells (hexL (l.take 0))) ((w.alloc (.cells (byteCells l) 45)).alloc (.cells #[.pointer none, .slice none 0 0] 69)) := by
    have := Lib.fresh_isBuilder 69 5 (w.alloc (.cells (byteCells l) 45))
    rw [show (w.alloc (.cells (byteCells l) 45)).heap.size = w.heap.size + 1 by simp] at this
    exact this
  have hrow : ((w.alloc (.cells (byteCells l) 45)).alloc (.cells #[.pointer none, .slice none 0 0] 69)).heap[w.heap.size]? = some (.cells (byteCells l) 45 (0, 0)) := (RowIs.new w 45 (byteCells l)).alloc _
  have hbel : Below w.heap.size w ((w.alloc (.cells (byteCells l) 45)).alloc (.cells #[.pointer none, .slice none 0 0] 69)) := ((Below.refl _ _).alloc (Nat.le_refl _) _).alloc (by simp) _
  have hz : w.heap.size + 2 ≤ ((w.alloc (.cells (byteCells l) 45)).alloc (.cells #[.pointer none, .slice none 0 0] 69)).heap.size := by simp
  go_enter Try.func34, Try.ntmps34
  go_wp2_with (refine wpList_load_row rfl 45 _ rfl w.heap.size rfl 45 (byteCells l) (0, 0) _ hrow Try.underlying45 rfl hsz ?_)
  generalize (w.alloc (.cells (byteCells l) 45)).alloc (.cells #[.pointer none, .slice none 0 0] 69) = w1 at *
  generalize hB : w.heap.size = B at *
  clear hrow hsz
  go_loopw [5, 7] (fun _ v wr => ∃ t : Nat, t ≤ 32 ∧ v = .int .i64 t ∧ Lib.IsBuilder 69 5 (B + 1) (B + 1) (Lib.byteCells (hexL (l.take t))) wr ∧ Below B w wr ∧ B + 2 ≤ wr.heap.size) (fun _ v _ => 32 - (intOf v).toNat)
  case atStart => exact ⟨0, by omega, rfl, hbld, hbel, hz⟩
  case round =>
    clear hbld hbel hz
    obtain ⟨t, ht, rfl, hbd, hb, hz⟩ := hrel
    by_cases hlt : t < 32
    · have hi := index_byteZ l t (by omega) hl wr
      have htk : hexL (l.take (t + 1)) = (hexL (l.take t) ++ [hexDig (l[t].toNat / 16)]) ++ [hexDig (l[t].toNat % 16)] := by rw [List.take_succ_eq_append_getElem, hexL_snoc, List.append_assoc]; rfl
      have hlen : (hexL (l.take t)).length ≤ 62 := by rw [hexL_length, List.length_take]; omega
      generalize l[t] = c at *
      have hc : c.toNat < 256 := c.toNat_lt
      have Htk := Lib.hid htk
      clear htk
      generalize hexL (l.take t) = R at *
      have hl1 : (Lib.byteCells R).length + 1 ≤ 140737488355328 := by rw [libCells_length]; omega
      have hl2 : (Lib.byteCells (R ++ [hexDig (c.toNat / 16)])).length + 1 ≤ 140737488355328 := by rw [libCells_length, List.length_append, List.length_singleton]; omega
      generalize byteCells l = C at *
      go_wp2_with fail
      rw [dig_get]
      refine (writeByte_calls (B + 1) (B + 1) _ _ wr hbd hl1 (by omega)).mono ?_
      rintro e w2 ⟨rfl, hbd2, hb2⟩
      rw [libCells_snoc] at hbd2
      have hz2 := hb2.size
      have hb2' := hb.trans (hb2.mono (by omega))
      clear hb hbd hb2
      go_wp2_with fail
      rw [dig_get]
      refine (writeByte_calls (B + 1) (B + 1) _ _ w2 (Or.inr hbd2) hl2 (by omega)).mono ?_
      rintro e w3 ⟨rfl, hbd3, hb3⟩
      rw [libCells_snoc, ← Htk.out] at hbd3
      have hz3 := hb3.size
      have hb3' := hb2'.trans (hb3.mono (by omega))
      clear hb2' hbd2 hb3
      go_wp2_with fail
      go_roundw
      case rel => exact ⟨t + 1, by omega, by go_num, Or.inr hbd3, hb3', by omega⟩
      case measure => simp [intOf]; omega
    · have ht32 : t = 32 := by omega
      subst ht32
      rw [List.take_of_length_le (by omega)] at hbd
      generalize byteCells l = C at *
      go_wp2_with fail
      refine (Try.Builder_String_any (B + 1) (B + 1) (hexL l) wr hbd (by omega)).mono ?_
      rintro e w2 ⟨rfl, hb2⟩
      have hb2' := hb.trans (hb2.mono (by omega))
      rw [show (⟨(hexL l).toArray⟩ : ByteArray) = hexS l from rfl]
      generalize hH : hexS l = H at *
      have HH := Lib.hid hH
      have HB := Lib.hid hB
      clear hH hB
      go_wp2_with fail
      go_ret
      exact ⟨by rw [HH.out]; rfl, by rw [HB.out]; exact hb2'⟩

set_option maxRecDepth 20000 in
set_option maxHeartbeats 1600000 in
theorem refhex_calls (l : List UInt8) (w : World) (hl : l.length = 32) :
    Calls Try.prog 41 #[.agg (byteCells l)] w fun e w' => e = .returned (.string (hexS l)) ∧ Below w.heap.size w w' := by
  have hsz : (Try.prog.info? 45).map (·.size) = some (byteCells l).size := by rw [byteCells_size, hl]; kernel_rfl
  have hrow : (w.alloc (.cells (byteCells l) 45)).heap[w.heap.size]? = some (.cells (byteCells l) 45 (0, 0)) := RowIs.new w 45 (byteCells l)
  have hbel : Below w.heap.size w (w.alloc (.cells (byteCells l) 45)) := (Below.refl _ _).alloc (Nat.le_refl _) _
  go_enter Try.func41, Try.ntmps41
  go_wp2_with (refine wpList_load_row rfl 45 _ rfl w.heap.size rfl 45 (byteCells l) (0, 0) _ hrow Try.underlying45 rfl hsz ?_)
  generalize (w.alloc (.cells (byteCells l) 45)) = w1 at *
  generalize hB : w.heap.size = B at *
  clear hrow hsz
  go_loopw [3, 5, 7] (fun v3 _ v wr => ∃ t : Nat, t ≤ 32 ∧ v = .int .i64 t ∧ v3 = .string (hexS (l.take t)) ∧ Below B w wr) (fun _ _ v _ => 32 - (intOf v).toNat)
  case atStart => exact ⟨0, by omega, rfl, rfl, hbel⟩
  case round =>
    clear hbel
    obtain ⟨t, ht, rfl, rfl, hb⟩ := hrel
    by_cases hlt : t < 32
    · have hi := index_byteZ l t (by omega) hl wr
      have htl : t < l.length := by omega
      have hc : l[t].toNat < 256 := l[t].toNat_lt
      have htk : hexS (l.take (t + 1)) = hexS (l.take t) ++ (⟨#[hexDig (l[t].toNat / 16)]⟩ ++ ⟨#[hexDig (l[t].toNat % 16)]⟩) := by
        have e : hexL (l.take (t + 1)) = hexL (l.take t) ++ [hexDig (l[t].toNat / 16), hexDig (l[t].toNat % 16)] := by rw [List.take_succ_eq_append_getElem (by omega), hexL_snoc]
        apply ByteArray.ext
        simp [hexS, e]
      have hlen : (hexS (l.take t)).size ≤ 64 := by rw [hexS_size, List.length_take]; omega
      generalize l[t] = c at *
      have Htk := Lib.hid htk
      clear htk
      generalize hexS (l.take t) = R at *
      generalize byteCells l = C at *
      have q1 : (c.toNat : Int) / 16 < 16 := by omega
      have q2 : 0 ≤ (c.toNat : Int) / 16 := by omega
      have q3 : (c.toNat : Int) % 16 < 16 := by omega
      have q4 : 0 ≤ (c.toNat : Int) % 16 := by omega
      go_wp2_with fail
      go_quiet (fail)
      rw [dig_ext _ (by omega), dig_ext _ (by omega)]
      generalize R ++ (⟨#[hexDig (c.toNat / 16)]⟩ ++ ⟨#[hexDig (c.toNat % 16)]⟩) = R' at *
      go_wp2_with fail
      go_roundw
      case rel => exact ⟨t + 1, by omega, by go_num, by rw [Htk.out], below_drewN hb _⟩
      case measure => simp [intOf]; omega
    · have ht32 : t = 32 := by omega
      subst ht32
      rw [List.take_of_length_le (by omega)]
      generalize byteCells l = C at *
      generalize hH : hexS l = H at *
      have HH := Lib.hid hH
      have HB := Lib.hid hB
      clear hH hB
      go_wp2_with fail
      go_ret
      exact ⟨by rw [HH.out]; rfl, by rw [HB.out]; exact hb⟩

end Go.Proofs.Ytjbnnfdhmpeoeaa
