/- The law that any bytes have their hash, walked. -/
import Derived.Test.YtjbnnfdhmpeoeaaShaR4
import Derived.Stop.BytesEq
namespace Go.Proofs.Ytjbnnfdhmpeoeaa
open Go.RowKit

set_option maxRecDepth 20000 in
theorem sha_empty : ∃ c l, sha [] = c :: l ∧ c = 0xe3 ∧ l.length = 31 := by
  refine ⟨(sha []).headD 0, (sha []).tail, ?_, ?_, ?_⟩
  · have := sha_length []
    generalize sha [] = R at *
    cases R with
    | nil => simp at this
    | cons a t => rfl
  · decide +kernel
  · rw [List.length_tail, sha_length]
set_option maxRecDepth 20000 in
theorem sha_abc : (sha [97, 98, 99])[0]? = some 0xba ∧ (sha [97, 98, 99])[1]? = some 0x78 ∧ (sha [97, 98, 99])[31]? = some 0xad := by decide +kernel

theorem eq_bytes (xs ys : List UInt8) (w : World) (hx : xs.length = 32) (hy : ys.length = 32) : (Op.equalIn 10000 45 (.agg (byteCells xs)) (.agg (byteCells ys))).run Try.prog w = .ok (xs == ys) w :=
  run_equalIn_bytes w 9998 45 5 32 Try.underlying45 Try.underlying5 Try.sizeOf5 xs ys hx hy

theorem fresh_row (w : World) (C D : Array Value) (t : TypeId) (hs : D.size = C.size) : ∃ W, W = (w.alloc (.cells C t)).setCells w.heap.size 0 D.toList ∧ RowIs W w.heap.size t D ∧ Below w.heap.size w W :=
  ⟨_, rfl, store_row (RowIs.new w t C) hs, setCells_below _ _ (Nat.le_refl _) _ _ _ _ ((Below.refl _ _).alloc (Nat.le_refl _) _)⟩

set_option maxRecDepth 20000 in
set_option maxHeartbeats 1600000 in
theorem shasums_calls (w : World) : Calls Try.prog 37 #[] w fun e w' => e = .returned (.bool true) ∧ Below w.heap.size w w' := by
  have h1 := fun w => shasum_calls ⟨#[97, 98, 99]⟩ w (by decide)
  have h2 := fun w => shasum_calls ⟨#[]⟩ w (by decide)
  rw [show (⟨#[97, 98, 99]⟩ : ByteArray).data.toList = [97, 98, 99] from rfl] at h1
  rw [show (⟨#[]⟩ : ByteArray).data.toList = [] from rfl] at h2
  obtain ⟨c, l, hE, hc, hl⟩ := sha_empty
  have ha := sha_abc
  have hal := sha_length [97, 98, 99]
  rw [hE] at h2
  generalize sha [97, 98, 99] = A at *
  go_enter Try.func37, Try.ntmps37
  go_wp2_with fail
  refine (h1 _).mono ?_
  rintro e w1 ⟨rfl, hb1⟩
  have hlen : (byteCells A).size = 32 := by rw [byteCells_size, hal]
  have hsz : (Try.prog.info? 45).map (·.size) = some (byteCells A).size := by rw [hlen]; kernel_rfl
  have hone := byteCells_one A
  obtain ⟨W, hW, hR, hbW⟩ := fresh_row w1 (byteCells (List.replicate 32 0)) (byteCells A) 45 (by rw [hlen]; rfl)
  have hthere := (RowIs.new w1 45 (byteCells (List.replicate 32 0))).there 0 (byteCells A).size (by rw [hlen]; exact Nat.le_refl 32)
  have hw1 : w.heap.size ≤ w1.heap.size := hb1.size
  have hcell : ∀ j (c : UInt8), A[j]? = some c → W.cell? ⟨w1.heap.size, j, none⟩ = some (.int .u8 (c.toNat : Int)) := by
    intro j c hj
    rw [hR.cell]
    simp [byteCells, hj]
  have hc0 : W.cell? ⟨w1.heap.size, 0, none⟩ = some (.int .u8 186) := hcell 0 _ ha.1
  have hc1 : W.cell? ⟨w1.heap.size, 1, none⟩ = some (.int .u8 120) := hcell 1 _ ha.2.1
  have hc31 : W.cell? ⟨w1.heap.size, 31, none⟩ = some (.int .u8 173) := hcell 31 _ ha.2.2
  have hbel := hb1.trans (hbW.mono hw1)
  have Hbel := Lib.hid hbel
  have HW := Lib.hid hW
  clear hW
  clear hcell ha hb1 hbW hR hbel
  go_wp2_with (refine wpList_store_mid rfl 45 _ _ rfl w1.heap.size 0 (byteCells A) rfl rfl hthere hsz hone ?_; go_must (generalize hWW : World.setCells _ _ _ _ = W2; obtain rfl : W = W2 := (by rw [← hWW]; exact HW.out); clear hWW))
  refine (h2 _).mono ?_
  rintro e w5 ⟨rfl, hb5⟩
  have hcz : (byteCells (c :: l))[0]? = some (.int .u8 227) := by rw [hc]; rfl
  have hlz : (byteCells (c :: l)).size = 32 := by rw [byteCells_size, List.length_cons, hl]
  have hi : (Instr.index 45 (.agg (byteCells (c :: l))) (.int .i64 0)).run Try.prog w5 = .ok (.int .u8 227) w5 := by
    have := index_byte Try.underlying45 (c :: l) 0 (by simp) (by simp [hl]) w5
    rw [List.getElem_cons_zero, hc] at this
    rw [hc]
    exact this
  have Hb5 := Lib.hid hb5
  clear hb5
  generalize hZ : byteCells (c :: l) = Z at *
  go_wp2_with fail
  go_ret
  exact ⟨rfl, Hbel.out.trans (Hb5.out.mono Hbel.out.size)⟩

set_option maxRecDepth 20000 in
set_option maxHeartbeats 1600000 in
theorem hashSums_calls (s : ByteArray) (w : World) (hs : s.size ≤ 140737488351232) : Calls Try.prog 15 #[.string s] w fun e w' => e = .returned (.bool true) ∧ Below w.heap.size w w' := by
  have h1 := fun w => shasum_calls s w hs
  have h2 := fun w => refshasum_calls s w hs
  have hR := sha_length s.data.toList
  generalize sha s.data.toList = R at *
  go_enter Try.func15, Try.ntmps15
  go_wp2_with fail
  refine (shasums_calls _).mono ?_
  rintro e w1 ⟨rfl, hb1⟩
  go_wp2_with fail
  refine (h1 _).mono ?_
  rintro e w2 ⟨rfl, hb2⟩
  have hb2' := hb1.trans (hb2.mono hb1.size)
  clear hb1 hb2
  go_wp2_with fail
  refine (h2 _).mono ?_
  rintro e w3 ⟨rfl, hb3⟩
  have hb3' := hb2'.trans (hb3.mono hb2'.size)
  clear hb2' hb3
  have heq := eq_bytes R R w3 hR hR
  rw [beq_self_eq_true] at heq
  generalize byteCells R = C at *
  go_wp2_with fail
  go_ret
  exact ⟨rfl, hb3'⟩

end Go.Proofs.Ytjbnnfdhmpeoeaa
