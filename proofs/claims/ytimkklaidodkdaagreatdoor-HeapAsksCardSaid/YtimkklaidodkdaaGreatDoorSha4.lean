/- hash.Sum's parts, walked: right, words, rounds, take, tail. -/
/- hash.Sum, walked: rounds, take, tail, Sum. -/
/- hash's take, walked. -/
/- hash.Sum, walked. -/
import Derived.Test.YtimkklaidodkdaaGreatDoorHeapPut
import Derived.Test.YtimkklaidodkdaaGreatDoorWords
import Derived.Test.YtimkklaidodkdaaGreatDoorNumA
import Derived.Deep.RegionHeld3
import Derived.WalkSmall
import Derived.BigQuiet
namespace Go.Proofs.YtimkklaidodkdaaGreatDoor
open Go.RowKit

theorem rot_mask : ∀ k : Fin 32, 1 ≤ k.val → bits .and .u64 (IntKind.u64.wrap (-((k.val : Nat) : Int))) 31 = ((32 - k.val : Nat) : Int) := by decide +kernel

theorem rot_int (x : BitVec 32) (s : Nat) (_hs : s ≤ 31) : bits .or .u32 (uw x * 2 ^ s % 4294967296) (uw x / 2 ^ (32 - s)) = uw ((x <<< s) ||| (x >>> (32 - s))) := by
 have e1 := uw_shl x s (2 ^ s) (by simp)
 have e2 := uw_shr x (32 - s) (2 ^ (32 - s)) (by simp)
 rw [e1, e2, uw_or]

set_option maxRecDepth 20000 in
theorem rotate_calls (x : BitVec 32) (k : Int) (s : Nat) (w : World) (hm : bits .and .u64 (IntKind.u64.wrap k) 31 = (s : Int)) (hs1 : 1 ≤ s) (hs2 : s ≤ 31) :
  Calls Tryz.prog 114 #[.int .u32 (uw x), .int .i64 k] w fun e w' => e = .returned (.int .u32 (uw ((x <<< s) ||| (x >>> (32 - s))))) ∧ w' = w := by
 have h32 : (32 : Int) - (s : Int) = ((32 - s : Nat) : Int) := by omega
 have hlo : 0 ≤ (32 : Int) - (s : Int) := by omega
 have hfin := rot_int x s hs2
 have Hfin := Lib.hid hfin
 clear hfin
 go_enter Tryz.func114, Tryz.ntmps114
 go_wp2
 go_ret
 exact ⟨by rw [← Hfin.out]; rfl, rfl⟩

set_option maxRecDepth 20000 in
theorem hright_calls (x : BitVec 32) (k : Int) (w : World) (h1 : 1 ≤ k) (h2 : k ≤ 31) :
  Calls Tryz.prog 83 #[.int .u32 (uw x), .int .i64 k] w fun e w' => e = .returned (.int .u32 (uw (rotr x k.toNat))) ∧ w' = w := by
 obtain ⟨j, rfl⟩ := Int.eq_ofNat_of_zero_le (show 0 ≤ k by omega)
 rw [Int.toNat_natCast]
 have hm := rot_mask ⟨j, by omega⟩ (by show 1 ≤ j; omega)
 simp only at hm
 have hr : (x <<< (32 - j)) ||| (x >>> (32 - (32 - j))) = rotr x j := by
  have : 32 - (32 - j) = j := by omega
  rw [this, rotr, BitVec.or_comm]
 have Hr := Lib.hid hr
 have Hm := Lib.hid hm
 clear hr hm
 go_enter Tryz.func83, Tryz.ntmps83
 go_wp2_with fail
 refine (rotate_calls x _ (32 - j) _ Hm.out (by omega) (by omega)).mono ?_
 rintro e w1 ⟨rfl, rfl⟩
 rw [Hr.out]
 go_wp2
 go_ret
 exact ⟨rfl, rfl⟩

theorem part_int (p : BitVec 32) (c : UInt8) : bits .or .u32 (uw p * 256 % 4294967296) ((c.toNat : Int) % 4294967296) = uw ((p <<< 8) ||| w8 c) := by
 have e1 := uw_shl p 8 256 rfl
 have e2 : (c.toNat : Int) % 4294967296 = uw (w8 c) := by rw [← uw_w8]; exact uw_mod _
 rw [e1, e2, uw_or]

/-- The row while word t is being made of i bytes. -/
def partRow (l : List UInt8) (t i : Nat) : List (BitVec 32) := schedTo l t ++ wordPart l t i :: List.replicate (63 - t) 0#32
theorem partRow_length (l : List UInt8) (t i : Nat) (h : t ≤ 63) : (partRow l t i).length = 64 := by simp [partRow, schedTo_length]; omega
theorem partRow_get (l : List UInt8) (t i : Nat) (h : t < (partRow l t i).length) : (partRow l t i)[t] = wordPart l t i := by
 simp only [partRow]
 rw [List.getElem_append_right (by rw [schedTo_length]; exact Nat.le_refl _)]
 simp [schedTo_length]
theorem partRow_set (l : List UInt8) (t i : Nat) : (partRow l t i).set t (wordPart l t (i + 1)) = partRow l t (i + 1) := by
 simp only [partRow]
 rw [List.set_append_right _ _ (by rw [schedTo_length]; exact Nat.le_refl _)]
 simp [schedTo_length]
theorem partRow_zero (l : List UInt8) (t : Nat) (h : t < 16) : partRow l t 0 = schedTo l t ++ List.replicate (64 - t) 0#32 := by
 have : 64 - t = (63 - t) + 1 := by omega
 simp [partRow, wordPart, this, List.replicate_succ]
theorem partRow_four (l : List UInt8) (t : Nat) (h : t < 16) : partRow l t 4 = schedTo l (t + 1) ++ List.replicate (64 - (t + 1)) 0#32 := by
 have : 64 - (t + 1) = 63 - t := by omega
 simp [partRow, schedTo, nextW, h, wordAt, this]

theorem sched_int (x16 x7 x15 x2 : BitVec 32) : IntKind.u32.wrap (IntKind.u32.wrap (IntKind.u32.wrap (uw x16 + uw x7) + bits .xor .u32 (bits .xor .u32 (uw (rotr x15 7)) (uw (rotr x15 18))) (uw x15 / 8)) +
  bits .xor .u32 (bits .xor .u32 (uw (rotr x2 17)) (uw (rotr x2 19))) (uw x2 / 1024)) = uw (x16 + x7 + sig0 x15 + sig1 x2) := by
 have e1 := uw_shr x15 3 8 rfl
 have e2 := uw_shr x2 10 1024 rfl
 simp only [IntKind.wrap_u32]
 rw [e1, e2, uw_xor, uw_xor, uw_xor, uw_xor, uw_add, uw_add, uw_add]
 rfl

theorem sched_facts (w : World) (B : Nat) (l : List UInt8) (t : Nat) (h16 : 16 ≤ t) (h : t < 64) (hr : RowIs w B 153 (wordCells (schedTo l t ++ List.replicate (64 - t) 0#32))) :
  w.cell? ⟨B, t - 15, none⟩ = some (.int .u32 (uw ((schedTo l t).getD (t - 15) 0#32))) ∧ w.cell? ⟨B, t - 2, none⟩ = some (.int .u32 (uw ((schedTo l t).getD (t - 2) 0#32))) ∧
  w.cell? ⟨B, t - 16, none⟩ = some (.int .u32 (uw ((schedTo l t).getD (t - 16) 0#32))) ∧ w.cell? ⟨B, t - 7, none⟩ = some (.int .u32 (uw ((schedTo l t).getD (t - 7) 0#32))) ∧
  w.cell? ⟨B, t, none⟩ = some (.int .u32 0) ∧ w.frozen? ⟨B, t, none⟩ = false ∧
  Hid (RowIs (w.setCell ⟨B, t, none⟩ (.int .u32 (uw ((schedTo l t).getD (t - 16) 0#32 + (schedTo l t).getD (t - 7) 0#32 + sig0 ((schedTo l t).getD (t - 15) 0#32) + sig1 ((schedTo l t).getD (t - 2) 0#32))))) B 153
   (wordCells (schedTo l (t + 1) ++ List.replicate (64 - (t + 1)) 0#32))) := by
 have hl := schedTo_length l t
 have hlen : (schedTo l t ++ List.replicate (64 - t) 0#32).length = 64 := by simp [hl]; omega
 have hget : ∀ j, j < t → w.cell? ⟨B, j, none⟩ = some (.int .u32 (uw ((schedTo l t).getD j 0#32))) := fun j hj => by
  rw [hr.word j (by omega), List.getElem_append_left (by omega), List.getD_eq_getElem?_getD, List.getElem?_eq_getElem (by omega)]; rfl
 refine ⟨hget _ (by omega), hget _ (by omega), hget _ (by omega), hget _ (by omega), ?_, hr.free t, ?_⟩
 ·rw [hr.word t (by omega), List.getElem_append_right (by omega)]; simp; rfl
 ·have := hr.setWord t ((schedTo l t).getD (t - 16) 0#32 + (schedTo l t).getD (t - 7) 0#32 + sig0 ((schedTo l t).getD (t - 15) 0#32) + sig1 ((schedTo l t).getD (t - 2) 0#32))
  refine Lib.hid ?_
  have e : (schedTo l t ++ List.replicate (64 - t) 0#32).set t ((schedTo l t).getD (t - 16) 0#32 + (schedTo l t).getD (t - 7) 0#32 + sig0 ((schedTo l t).getD (t - 15) 0#32) + sig1 ((schedTo l t).getD (t - 2) 0#32)) = schedTo l (t + 1) ++ List.replicate (64 - (t + 1)) 0#32 := by
   rw [List.set_append_right _ _ (by omega), hl, Nat.sub_self]
   have e1 : 64 - t = (64 - (t + 1)) + 1 := by omega
   rw [e1, List.replicate_succ, List.set_cons_zero, schedTo, nextW, if_neg (by omega), List.append_assoc]
   rfl
  rwa [e] at this

theorem getD_data (s : ByteArray) (j : Nat) (h : j < s.size) : s.data.toList.getD j 0 = s[j] := by
 rw [List.getD_eq_getElem?_getD, List.getElem?_eq_getElem (by rw [size_data]; exact h)]; rfl

set_option maxRecDepth 20000 in
set_option maxHeartbeats 1600000 in
theorem words_calls (s : ByteArray) (w : World) (hs : s.size = 64) :
  Calls Tryz.prog 82 #[.string s] w fun e w' => e = .returned (.agg (wordCells (sched s.data.toList))) ∧ Below w.heap.size w w' := by
 go_enter Tryz.func82, Tryz.ntmps82
 go_wp2_with fail
 have hrow0 : RowIs (w.alloc (.cells (wordCells (List.replicate 64 0#32)) 153)) w.heap.size 153 (wordCells (List.replicate 64 0#32)) := RowIs.new _ _ _
 have hbel0 : Below w.heap.size w (w.alloc (.cells (wordCells (List.replicate 64 0#32)) 153)) := (Below.refl _ _).alloc (Nat.le_refl _) _
 have hw0 : (w.alloc (.cells (wordCells (List.replicate 64 0#32)) 153)).heap.size = w.heap.size + 1 := by simp
 change Code.wp _ _ _ _ (w.alloc (.cells (wordCells (List.replicate 64 0#32)) 153))
 generalize w.alloc (.cells (wordCells (List.replicate 64 0#32)) 153) = W0 at *
 generalize hB : w.heap.size = B at *
 have HB := Lib.hid hB
 clear hB
 go_loopw [3, 4, 8, 11] (fun _ _ i _ wr => ∃ t : Nat, t ≤ 16 ∧ i = .int .i64 t ∧ RowIs wr B 153 (wordCells (schedTo s.data.toList t ++ List.replicate (64 - t) 0#32)) ∧ Below B w wr) (fun _ _ i _ _ => 16 - (intOf i).toNat)
 case atStart => exact ⟨0, by omega, rfl, by simpa [schedTo] using hrow0, hbel0⟩
 case round =>
  obtain ⟨t, ht, rfl, hrow, hbel⟩ := hrel
  by_cases hlt : t < 16
  ·rw [← partRow_zero _ t hlt] at hrow
   obtain ⟨wo, rfl⟩ : ∃ wo : World, wo = wr := ⟨_, rfl⟩
   go_wp2
   go_loopw [4, 11] (fun _ i wr => ∃ j : Nat, j ≤ 4 ∧ i = .int .i64 j ∧ RowIs wr B 153 (wordCells (partRow s.data.toList t j)) ∧ Below B w wr) (fun _ i _ => 4 - (intOf i).toNat)
   case atStart => exact ⟨0, by omega, rfl, hrow, hbel⟩
   case round =>
    clear hrow hbel
    obtain ⟨j, hj, rfl, hrow, hbel⟩ := hrel
    by_cases hj4 : j < 4
    ·have hidx : 4 * t + j < s.size := by omega
     have hl := partRow_length s.data.toList t j (by omega)
     have hcell := hrow.word t (by omega)
     rw [partRow_get] at hcell
     have hfree := hrow.free t
     have hset := hrow.setWord t (wordPart s.data.toList t (j + 1))
     rw [partRow_set] at hset
     have hstep : wordPart s.data.toList t (j + 1) = (wordPart s.data.toList t j <<< 8) ||| w8 s[4 * t + j] := by rw [wordPart, getD_data s _ hidx]
     have hval := part_int (wordPart s.data.toList t j) s[4 * t + j]
     rw [← hstep] at hval
     generalize wordPart s.data.toList t j = p at *
     generalize wordPart s.data.toList t (j + 1) = p' at *
     have Hset := Lib.hid hset
     have Hval := Lib.hid hval
     have Hs := Lib.hid hs
     clear hset hval hstep hl hrow hs
     have h64 : (t : Int) < 64 := by omega
     have hi0 : 0 ≤ 4 * (t : Int) + (j : Int) := by omega
     have hi1 : 4 * (t : Int) + (j : Int) < (s.size : Int) := by omega
     have hi2 : (4 * (t : Int) + (j : Int)).toNat = 4 * t + j := by omega
     go_wp2
     go_region
     go_wp2
     rw [Hval.out]
     go_roundw
     case rel => exact ⟨j + 1, by omega, by go_num, Hset.out.drew, (hbel.setCell (p := ⟨B, t, none⟩) (Nat.le_refl B) _).drew⟩
     case measure => simp [intOf]; omega
    ·have hj4' : j = 4 := by omega
     subst hj4'
     rw [partRow_four _ t hlt] at hrow
     go_wp2
     go_roundw
     case rel => exact ⟨t + 1, by omega, by go_num, hrow, hbel⟩
     case measure => simp [intOf]; omega
  ·have ht16 : t = 16 := by omega
   subst ht16
   rw [show (((16 : Nat) : Int)) = 16 from rfl]
   go_wp2
   clear hrow0 hbel0
   go_loopw [5, 6, 7] (fun i _ _ wr => ∃ t : Nat, 16 ≤ t ∧ t ≤ 64 ∧ i = .int .i64 t ∧ RowIs wr B 153 (wordCells (schedTo s.data.toList t ++ List.replicate (64 - t) 0#32)) ∧ Below B w wr) (fun i _ _ _ => 64 - (intOf i).toNat)
   case atStart => exact ⟨16, by omega, by omega, rfl, hrow, hbel⟩
   case round =>
    clear hrow hbel
    obtain ⟨t, ht0, ht, rfl, hrow, hbel⟩ := hrel
    by_cases hlt : t < 64
    ·obtain ⟨wo, rfl⟩ : ∃ wo : World, wo = wr := ⟨_, rfl⟩
     obtain ⟨c15, c2, c16, c7, ct, hfree, Hset⟩ := sched_facts wo B s.data.toList t ht0 hlt hrow
     generalize (schedTo s.data.toList t).getD (t - 15) 0#32 = x15 at *
     generalize (schedTo s.data.toList t).getD (t - 2) 0#32 = x2 at *
     generalize (schedTo s.data.toList t).getD (t - 16) 0#32 = x16 at *
     generalize (schedTo s.data.toList t).getD (t - 7) 0#32 = x7 at *
     have Hs := Lib.hid hs
     clear hs hrow
     have a15 : 0 ≤ (t : Int) - 15 := by omega
     have b15 : (t : Int) - 15 < 64 := by omega
     have n15 : ((t : Int) - 15).toNat = t - 15 := by omega
     have a2 : 0 ≤ (t : Int) - 2 := by omega
     have b2 : (t : Int) - 2 < 64 := by omega
     have n2 : ((t : Int) - 2).toNat = t - 2 := by omega
     have a16 : 0 ≤ (t : Int) - 16 := by omega
     have b16 : (t : Int) - 16 < 64 := by omega
     have n16 : ((t : Int) - 16).toNat = t - 16 := by omega
     have a7 : 0 ≤ (t : Int) - 7 := by omega
     have b7 : (t : Int) - 7 < 64 := by omega
     have n7 : ((t : Int) - 7).toNat = t - 7 := by omega
     have bt : (t : Int) < 64 := by omega
     go_wp2
     go_quiet (fail)
     have k16 : (wo.drewN nq).cell? ⟨B, t - 16, none⟩ = some (.int .u32 (uw x16)) := by simpa using c16
     have k7 : (wo.drewN nq).cell? ⟨B, t - 7, none⟩ = some (.int .u32 (uw x7)) := by simpa using c7
     have kt : (wo.drewN nq).cell? ⟨B, t, none⟩ = some (.int .u32 0) := by simpa using ct
     have kf : (wo.drewN nq).frozen? ⟨B, t, none⟩ = false := by simpa using hfree
     have Hbel : Below B w (wo.drewN nq) := below_drewN hbel nq
     have Hset' : Hid (RowIs ((wo.drewN nq).setCell ⟨B, t, none⟩ (.int .u32 (uw (x16 + x7 + sig0 x15 + sig1 x2)))) B 153 (wordCells (schedTo s.data.toList (t + 1) ++ List.replicate (64 - (t + 1)) 0#32))) := Hset.out
     clear c15 c2 c16 c7 ct hfree Hset hbel
     generalize wo.drewN nq = wz at *
     have m16 : IntKind.i64.wrap ((t : Int) - 16) = (t : Int) - 16 := by rw [IntKind.wrap_i64]; omega
     have m7 : IntKind.i64.wrap ((t : Int) - 7) = (t : Int) - 7 := by rw [IntKind.wrap_i64]; omega
     have l16 : 16 ≤ (t : Int) := by omega
     have l7 : 7 ≤ (t : Int) := by omega
     have u16 : (t : Int) < 80 := by omega
     have u7 : (t : Int) < 71 := by omega
     have r16 : ∀ v, (wz.setCell ⟨B, t, none⟩ v).cell? ⟨B, t - 16, none⟩ = some (.int .u32 (uw x16)) := fun v => by
      rw [World.cell?_setCell_other _ _ _ _ (fun e => by have := congrArg Addr.off e; simp at this; omega)]; exact k16
     have r7 : ∀ v, (wz.setCell ⟨B, t, none⟩ v).cell? ⟨B, t - 7, none⟩ = some (.int .u32 (uw x7)) := fun v => by
      rw [World.cell?_setCell_other _ _ _ _ (fun e => by have := congrArg Addr.off e; simp at this; omega)]; exact k7
     go_wp2_with fail
     go_region_held3 (fun w' => w'.cell? ⟨B, t - 16, none⟩ = some (.int .u32 (uw x16)) ∧ w'.cell? ⟨B, t - 7, none⟩ = some (.int .u32 (uw x7))) (go_keep)
      (first | (go_at_call 83; refine (hright_calls _ _ _ (by omega) (by omega)).mono ?_; rintro e w' ⟨rfl, rfl⟩))
     rw [sched_int]
     go_wp2
     go_roundw
     case rel => exact ⟨t + 1, by omega, by omega, by go_num, Hset'.out.drew, (Hbel.setCell (p := ⟨B, t, none⟩) (Nat.le_refl B) _).drew⟩
     case measure => simp [intOf]; omega
    ·have ht64 : t = 64 := by omega
     subst ht64
     have hrow' : RowIs wr B 153 (wordCells (sched s.data.toList)) := by simpa [sched] using hrow
     have hlen : (wordCells (sched s.data.toList)).size = 64 := by rw [wordCells_size]; exact schedTo_length _ _
     have hone := wordCells_one (sched s.data.toList)
     have Hs := Lib.hid hs
     clear hrow hs
     generalize hC : wordCells (sched s.data.toList) = C at *
     have HC := Lib.hid hC
     clear hC
     have hsz : (Tryz.prog.info? 153).map (·.size) = some C.size := by rw [hlen]; kernel_rfl
     have hst : RowIs (wr.setCells B 0 C.toList) B 153 C := store_row hrow' rfl
     have hthere := hrow'.there 0 C.size (by omega)
     have hbel2 := setCells_below B B (Nat.le_refl B) C.toList 0 w wr hbel
     have Hlen := Lib.hid hlen
     have Hst := Lib.hid hst
     clear hlen hst
     go_wp2_with (first | (refine wpList_load_row rfl 153 _ rfl B rfl 153 C (0, 0) _ hrow' Tryz.underlying153 rfl hsz ?_) | (refine wpList_store_mid rfl 153 _ _ rfl B 0 C rfl rfl hthere hsz hone ?_))
     refine bodyPost_ret (v := .agg C) (results_cell_row (p := 2) (ty := 153) (by rfl) _ _ B 153 C (0, 0) _ (by rfl) Hst.out Tryz.underlying153 (by rfl) hsz) (by rfl) ?_
     exact ⟨by rw [HC.out], hbel2.mono (by rw [HB.out]; exact Nat.le_refl _)⟩

end Go.Proofs.YtimkklaidodkdaaGreatDoor

namespace Go.Proofs.YtimkklaidodkdaaGreatDoor
open Go.RowKit

set_option maxRecDepth 20000 in
set_option maxHeartbeats 1600000 in
theorem rounds_calls (w : World) : Calls Tryz.prog 48 #[] w fun e w' => e = .returned (.pointer (some ⟨w.heap.size, 0, none⟩)) ∧ RowIs w' w.heap.size 153 (wordCells shaK) ∧ Below w.heap.size w w' ∧ w'.heap.size = w.heap.size + 1 := by
 go_enter Tryz.func48, Tryz.ntmps48
 go_wp2
 go_ret
 exact ⟨rfl, RowIs.new w _ (wordCells shaK), (Below.refl _ _).alloc (Nat.le_refl _) _, by simp⟩

theorem tail_int (n : Nat) (j : Nat) (hn : n ≤ 140737488351232) : (n : Int) * 8 / 2 ^ (8 * j) % 256 = ((UInt8.ofNat (n * 8 % 18446744073709551616 / 256 ^ j)).toNat : Int) := by
 rw [byte_toNat]
 have e : (2 : Int) ^ (8 * j) = ((256 ^ j : Nat) : Int) := by
  have : 256 ^ j = 2 ^ (8 * j) := by rw [Nat.pow_mul]
  rw [this]; simp
 have e2 : n * 8 % 18446744073709551616 = n * 8 := by omega
 rw [e, e2]
 generalize 256 ^ j = P
 have e3 : (n : Int) * 8 = ((n * 8 : Nat) : Int) := by omega
 rw [e3]
 generalize n * 8 = q
 omega

set_option maxRecDepth 20000 in
set_option maxHeartbeats 1600000 in
theorem tail_calls (n : Nat) (w : World) (hn : n ≤ 140737488351232) :
  Calls Tryz.prog 50 #[.int .i64 (n : Int)] w fun e w' => e = .returned (.string ⟨(padding n).toArray⟩) ∧ Below w.heap.size w w' := by
 have hz0 : 0 ≤ (119 : Int) - (n : Int) % 64 := by omega
 have hz1 : (0 : Int) ≤ ((119 : Int) - (n : Int) % 64) % 64 := by omega
 have hz2 : ((119 : Int) - (n : Int) % 64) % 64 < 64 := by omega
 obtain ⟨z, hz⟩ := Int.eq_ofNat_of_zero_le hz1
 go_enter Tryz.func50, Tryz.ntmps50
 have hzn : z < 64 := by omega
 have hpad : padding n = 0x80 :: (List.replicate z 0 ++ beL (n * 8 % 18446744073709551616) 8) := by
  have : (119 - n % 64) % 64 = z := by omega
  rw [padding, this]
 have Hpad := Lib.hid hpad
 clear hpad
 obtain ⟨W2, hmake, hrow, hb2, hz3⟩ := make_bytes w .i64 (z + 9) (by omega)
 have e9 : ((z + 9 : Nat) : Int) = 1 + (z : Int) + 8 := by omega
 rw [e9] at hmake
 have hr1 := hrow.set 0 0x80 128 rfl (by simp)
 have hc0 := hrow.cell 0 (by simp)
 have hf0 := hrow.free 0 (by simp)
 rw [List.replicate_succ, List.set_cons_zero] at hr1
 have hbel1 : Below w.heap.size w (W2.setCell ⟨w.heap.size, 0, none⟩ (.int .u8 128)) := hb2.setCell (p := ⟨w.heap.size, 0, none⟩) (Nat.le_refl _) _
 generalize hq : n * 8 % 18446744073709551616 = q at *
 have hti := fun j => tail_int n j hn
 rw [hq] at hti
 have Hq := Lib.hid hq
 have Hti := Lib.hid hti
 generalize hB : w.heap.size = B at *
 have HB := Lib.hid hB
 clear hq hrow hb2 hti hB
 go_wp2_with fail
 generalize W2.setCell ⟨B, 0, none⟩ (.int .u8 128) = W3 at *
 go_loopw [5, 16] (fun _ i wr => ∃ j : Nat, j ≤ 8 ∧ i = .int .i64 j ∧ ByteRow wr B (0x80 :: numRow q (z + 8) j) ∧ Below B w wr) (fun _ i _ => 8 - (intOf i).toNat)
 case atStart => exact ⟨0, by omega, rfl, by simpa [numRow, beL] using hr1, hbel1⟩
 case round =>
  clear hr1 hbel1
  obtain ⟨j, hj, rfl, hr, hbel⟩ := hrel
  have hlen := numRow_length q (z + 8) j (by omega)
  by_cases hlt : j < 8
  ·have hcell := hr.cell (z + 8 - j) (by simp; omega)
   have hfree := hr.free (z + 8 - j) (by simp; omega)
   have hset := hr.set (z + 8 - j) (UInt8.ofNat (q / 256 ^ j)) _ (Hti.out j) (by simp; omega)
   have e1 : z + 8 - j = (z + 8 - 1 - j) + 1 := by omega
   have e2 : (0x80 :: numRow q (z + 8) j).set (z + 8 - j) (UInt8.ofNat (q / 256 ^ j)) = 0x80 :: numRow q (z + 8) (j + 1) := by
    rw [e1, List.set_cons_succ, numRow_set q (z + 8) j (by omega)]
   rw [e2] at hset
   have Hset := Lib.hid hset
   have i0 : 0 ≤ 1 + (z : Int) + 8 - 1 - j := by omega
   have i1 : 1 + (z : Int) + 8 - 1 - j < 1 + (z : Int) + 8 := by omega
   have i2 : (1 + (z : Int) + 8 - 1 - j).toNat = z + 8 - j := by omega
   clear hr hset e1 e2
   go_wp2
   go_roundw
   case rel => exact ⟨j + 1, by omega, by go_num, Hset.out, hbel.setCell (p := ⟨B, z + 8 - j, none⟩) (Nat.le_refl B) _⟩
   case measure => simp [intOf]; omega
  ·have hj8 : j = 8 := by omega
   subst hj8
   have e8 : (0x80 :: numRow q (z + 8) 8) = padding n := by rw [Hpad.out, numRow]; simp
   rw [e8] at hr
   have hpl : (padding n).length = z + 9 := by rw [Hpad.out]; simp [beL_length]
   have hback := conv_back wr B (z + 9) (z + 9) (padding n) hpl.symm hr
   clear hr e8 hpl
   go_wp2
   go_ret
   exact ⟨rfl, hbel⟩

end Go.Proofs.YtimkklaidodkdaaGreatDoor

namespace Go.Proofs.YtimkklaidodkdaaGreatDoor
open Go.RowKit

theorem rt1_int (s : St) (k w : BitVec 32) : IntKind.u32.wrap (IntKind.u32.wrap (IntKind.u32.wrap (IntKind.u32.wrap (uw s.h + bits .xor .u32 (bits .xor .u32 (uw (rotr s.e 6)) (uw (rotr s.e 11))) (uw (rotr s.e 25))) +
  bits .xor .u32 (uw s.g) (bits .and .u32 (uw s.e) (bits .xor .u32 (uw s.f) (uw s.g)))) + uw k) + uw w) = uw (rt1 s k w) := by
 simp only [IntKind.wrap_u32]
 rw [uw_xor, uw_xor, uw_xor, uw_and, uw_xor, uw_add, uw_add, uw_add, uw_add]
 rfl
theorem rt1_int' (s : St) (k w : BitVec 32) : ((uw s.h + bits .xor .u32 (bits .xor .u32 (uw (rotr s.e 6)) (uw (rotr s.e 11))) (uw (rotr s.e 25)) +
  bits .xor .u32 (uw s.g) (bits .and .u32 (uw s.e) (bits .xor .u32 (uw s.f) (uw s.g))) + uw k) % 4294967296 + uw w) % 4294967296 = uw (rt1 s k w) := by
 rw [← rt1_int]
 simp only [IntKind.wrap_u32]
 omega
theorem rt2_int (s : St) : IntKind.u32.wrap (bits .xor .u32 (bits .xor .u32 (uw (rotr s.a 2)) (uw (rotr s.a 13))) (uw (rotr s.a 22)) +
  bits .or .u32 (bits .and .u32 (uw s.a) (uw s.b)) (bits .and .u32 (uw s.c) (bits .or .u32 (uw s.a) (uw s.b)))) = uw (rt2 s) := by
 simp only [IntKind.wrap_u32]
 rw [uw_xor, uw_xor, uw_or, uw_and, uw_and, uw_or, uw_add]
 rfl
theorem rt2_int' (s : St) : (bits .xor .u32 (bits .xor .u32 (uw (rotr s.a 2)) (uw (rotr s.a 13))) (uw (rotr s.a 22)) +
  bits .or .u32 (bits .and .u32 (uw s.a) (uw s.b)) (bits .and .u32 (uw s.c) (bits .or .u32 (uw s.a) (uw s.b)))) % 4294967296 = uw (rt2 s) := by
 rw [← rt2_int, IntKind.wrap_u32]
theorem add_int (x y : BitVec 32) : IntKind.u32.wrap (uw x + uw y) = uw (x + y) := by simp only [IntKind.wrap_u32]; exact uw_add x y

def addTo (s r : St) (j : Nat) : List (BitVec 32) := (s.add r).list.take j ++ s.list.drop j
theorem addTo_length (s r : St) (j : Nat) (h : j ≤ 8) : (addTo s r j).length = 8 := by simp [addTo, St.list, St.add]; omega
theorem addTo_at (s r : St) (j : Nat) (h : j < 8) : ∃ x y : BitVec 32, s.list[j]? = some x ∧ r.list[j]? = some y ∧ (addTo s r j)[j]? = some x ∧ (addTo s r j).set j (x + y) = addTo s r (j + 1) := by
 rcases j with _ | _ | _ | _ | _ | _ | _ | _ | j
 all_goals first | exact ⟨_, _, rfl, rfl, rfl, rfl⟩ | omega

set_option maxRecDepth 20000 in
set_option maxHeartbeats 3200000 in
theorem statetake_calls (s : St) (l : ByteArray) (w : World) (bh bk : Nat) (hl : l.size = 64)
  (hh : RowIs w bh 99 (wordCells s.list)) (hk : RowIs w bk 153 (wordCells shaK)) :
  Calls Tryz.prog 49 #[.pointer (some ⟨bh, 0, none⟩), .string l, .pointer (some ⟨bk, 0, none⟩)] w fun e w' =>
   e = .returned (.tuple #[]) ∧ RowIs w' bh 99 (wordCells (compress s l.data.toList).list) ∧ But bh w w' := by
 obtain ⟨a, b, c, d, e, f, g, z⟩ := s
 have c0 := hh.word 0 (by simp [St.list])
 have c1 := hh.word 1 (by simp [St.list])
 have c2 := hh.word 2 (by simp [St.list])
 have c3 := hh.word 3 (by simp [St.list])
 have c4 := hh.word 4 (by simp [St.list])
 have c5 := hh.word 5 (by simp [St.list])
 have c6 := hh.word 6 (by simp [St.list])
 have c7 := hh.word 7 (by simp [St.list])
 simp only [St.list, List.getElem_cons_zero, List.getElem_cons_succ] at c0 c1 c2 c3 c4 c5 c6 c7
 have Hh := Lib.hid hh
 have Hk := Lib.hid hk
 clear hh hk
 go_enter Tryz.func49, Tryz.ntmps49
 go_wp2_with fail
 go_quiet (fail)
 have hh1 : RowIs (w.drewN nq) bh 99 (wordCells (St.mk a b c d e f g z).list) := Hh.out
 have hk1 : RowIs (w.drewN nq) bk 153 (wordCells shaK) := Hk.out
 have hb1 : But bh w (w.drewN nq) := But.of (below_drewN (Below.refl _ _) nq)
 clear c0 c1 c2 c3 c4 c5 c6 c7
 generalize w.drewN nq = w1 at *
 have Hh1 := Lib.hid hh1
 have Hk1 := Lib.hid hk1
 clear hh1 hk1 Hh Hk
 go_wp2_with fail
 refine (words_calls l _ hl).mono ?_
 rintro e2 w2 ⟨rfl, hb2⟩
 have hh2 := Hh1.out.below hb2 Hh1.out.lt
 have hk2 := Hk1.out.below hb2 Hk1.out.lt
 have hb3 := hb1.trans (But.of hb2)
 clear hb1 hb2 Hh1 Hk1
 have hlen : (sched l.data.toList).length = 64 := schedTo_length _ _
 have hcomp : compress ⟨a, b, c, d, e, f, g, z⟩ l.data.toList = (St.mk a b c d e f g z).add (roundsTo shaK (sched l.data.toList) ⟨a, b, c, d, e, f, g, z⟩ 64) := rfl
 generalize sched l.data.toList = W at *
 have Hcomp := Lib.hid hcomp
 clear hcomp
 have hkl : ∀ w : World, RowIs w bk 153 (wordCells shaK) → ∀ t : Nat, t < 64 → w.cell? ⟨bk, t, none⟩ = some (.int .u32 (uw (shaK.getD t 0#32))) := fun w h t ht => by
  rw [h.word t (show t < shaK.length from ht), List.getD_eq_getElem?_getD, List.getElem?_eq_getElem (show t < shaK.length from ht)]; rfl
 generalize shaK = K at *
 have hS0 : roundsTo K W ⟨a, b, c, d, e, f, g, z⟩ 0 = ⟨a, b, c, d, e, f, g, z⟩ := rfl
 generalize hs0 : St.mk a b c d e f g z = s0 at *
 have Hs0 := Lib.hid hs0
 clear hs0
 have hA : ∀ (w : World) (t : Nat), t < 64 → Sem.run Tryz.prog (Instr.index 153 (.agg (wordCells W)) (.int .i64 (t : Int))) w = .ok (.int .u32 (uw (W.getD t 0#32))) w := fun w t ht => by
  have := index_word Tryz.underlying153 W t (by omega) hlen w
  rw [List.getD_eq_getElem?_getD, List.getElem?_eq_getElem (by omega)]; exact this
 go_wp2
 go_loopw [6, 7, 8, 9, 10, 11, 12, 13, 14, 15, 16, 17, 54] (fun va vb vc vd ve vf vg vz _ _ _ _ vt wr => ∃ t : Nat, t ≤ 64 ∧ vt = .int .i64 t ∧ (∃ r : St, r = roundsTo K W s0 t ∧
   va = .int .u32 (uw r.a) ∧ vb = .int .u32 (uw r.b) ∧ vc = .int .u32 (uw r.c) ∧ vd = .int .u32 (uw r.d) ∧ ve = .int .u32 (uw r.e) ∧ vf = .int .u32 (uw r.f) ∧ vg = .int .u32 (uw r.g) ∧ vz = .int .u32 (uw r.h)) ∧
   RowIs wr bh 99 (wordCells s0.list) ∧ RowIs wr bk 153 (wordCells K) ∧ But bh w wr) (fun _ _ _ _ _ _ _ _ _ _ _ _ vt _ => 64 - (intOf vt).toNat)
 case atStart => exact ⟨0, by omega, rfl, ⟨s0, hS0.symm, by rw [← Hs0.out], by rw [← Hs0.out], by rw [← Hs0.out], by rw [← Hs0.out], by rw [← Hs0.out], by rw [← Hs0.out], by rw [← Hs0.out], by rw [← Hs0.out]⟩, hh2, hk2, hb3⟩
 case round =>
  clear hh2 hk2 hb3
  obtain ⟨t, ht, rfl, ⟨r, hr, rfl, rfl, rfl, rfl, rfl, rfl, rfl, rfl⟩, hh, hk, hb⟩ := hrel
  have HA := Lib.hid hA
  clear hA
  by_cases hlt : t < 64
  ·have hKt := hkl wr hk t hlt
   have hround : roundsTo K W s0 (t + 1) = round r (K.getD t 0#32) (W.getD t 0#32) := by rw [roundsTo, ← hr]
   have hi := HA.out wr t hlt
   generalize K.getD t 0#32 = kt at *
   generalize W.getD t 0#32 = wt at *
   have Hround := Lib.hid hround
   have Hh := Lib.hid hh
   have Hk := Lib.hid hk
   have Hb := Lib.hid hb
   clear hround hh hk hb hr hlen hkl HA
   have h64 : (t : Int) < 64 := by omega
   obtain ⟨wo, rfl⟩ : ∃ wo : World, wo = wr := ⟨_, rfl⟩
   go_wp2_with fail
   go_quiet ((go_at_call 83; exact Calls.quiet_of_same (hright_calls _ _ _ (by omega) (by omega))))
   have Hh2 : Hid (RowIs (wo.drewN nq) bh 99 (wordCells s0.list)) := Hh.out
   have Hk2 : Hid (RowIs (wo.drewN nq) bk 153 (wordCells K)) := Hk.out
   have Hb2 : Hid (But bh w (wo.drewN nq)) := Lib.hid (Hb.out.trans (But.of (below_drewN (Below.refl _ _) nq)))
   clear hKt hi Hh Hk Hb
   generalize wo.drewN nq = wz at *
   rw [rt1_int' r kt wt]
   go_wp2_with fail
   refine (hright_calls _ _ _ (by omega) (by omega)).mono ?_
   rintro e3 w3 ⟨rfl, rfl⟩
   go_wp2_with fail
   refine (hright_calls _ _ _ (by omega) (by omega)).mono ?_
   rintro e3 w3 ⟨rfl, rfl⟩
   go_wp2_with fail
   refine (hright_calls _ _ _ (by omega) (by omega)).mono ?_
   rintro e3 w3 ⟨rfl, rfl⟩
   go_wp2_with fail
   rw [rt2_int', uw_add, uw_add]
   go_roundw
   case rel => exact ⟨t + 1, by omega, by go_num, ⟨round r kt wt, Hround.out.symm, rfl, rfl, rfl, rfl, rfl, rfl, rfl, rfl⟩, Hh2.out, Hk2.out, Hb2.out⟩
   case measure => simp [intOf]; omega
  ·have ht64 : t = 64 := by omega
   subst ht64
   rw [← hr] at Hcomp
   clear hr HA hkl hlen hS0 hk
   rw [show (((64 : Nat) : Int)) = 64 from rfl]
   have hbuild : #[Value.int .u32 (uw r.a), .int .u32 (uw r.b), .int .u32 (uw r.c), .int .u32 (uw r.d), .int .u32 (uw r.e), .int .u32 (uw r.f), .int .u32 (uw r.g), .int .u32 (uw r.h)] = wordCells r.list := rfl
   have hR : ∀ (w : World) (t : Nat) (y : BitVec 32), t < 8 → r.list[t]? = some y → Sem.run Tryz.prog (Instr.index 98 (.agg (wordCells r.list)) (.int .i64 (t : Int))) w = .ok (.int .u32 (uw y)) w := fun w t y ht hy => by
    have := index_word Tryz.underlying98 r.list t ht rfl w
    rw [this]
    congr 3
    rw [List.getElem?_eq_getElem ht] at hy
    exact Option.some.inj hy
   go_wp2
   have HR := Lib.hid hR
   have h0 : RowIs wr bh 99 (wordCells (addTo s0 r 0)) := by simpa [addTo] using hh
   clear hR hbuild hh
   go_loopw [18, 19, 124] (fun _ _ vj wr => ∃ j : Nat, j ≤ 8 ∧ vj = .int .i64 j ∧ RowIs wr bh 99 (wordCells (addTo s0 r j)) ∧ But bh w wr) (fun _ _ vj _ => 8 - (intOf vj).toNat)
   case atStart => exact ⟨0, by omega, rfl, h0, hb⟩
   case round =>
    clear h0 hb
    obtain ⟨j, hj, rfl, hh, hb⟩ := hrel
    by_cases hlt : j < 8
    ·obtain ⟨x, y, hx, hy, hxy, hset⟩ := addTo_at s0 r j hlt
     have hi := HR.out wr j y hlt hy
     have hal := addTo_length s0 r j hj
     have hc : wr.cell? ⟨bh, j, none⟩ = some (.int .u32 (uw x)) := by
      rw [hh.word j (by omega)]
      rw [List.getElem?_eq_getElem (by omega)] at hxy
      rw [Option.some.inj hxy]
     have hf := hh.free j
     have hs := hh.setWord j (x + y)
     rw [hset] at hs
     have Hs := Lib.hid hs
     have Hb := Lib.hid (hb.setCell j (.int .u32 (uw (x + y))))
     clear hh hb hs hset hxy hx hy HR hal
     have h8 : (j : Int) < 8 := by omega
     go_wp2_with fail
     go_region
     go_wp2
     rw [uw_add]
     go_roundw
     case rel => exact ⟨j + 1, by omega, by go_num, Hs.out.drew, Hb.out.drew⟩
     case measure => simp [intOf]; omega
    ·have hj8 : j = 8 := by omega
     subst hj8
     have hfin : addTo s0 r 8 = (s0.add r).list := by simp [addTo, St.list, St.add]
     rw [hfin] at hh
     go_wp2
     go_end0
     refine ⟨rfl, ?_, hb⟩
     rw [Hs0.out, Hcomp.out]
     exact hh

end Go.Proofs.YtimkklaidodkdaaGreatDoor

namespace Go.Proofs.YtimkklaidodkdaaGreatDoor
open Go.RowKit

theorem digest_int (x : BitVec 32) (k : Nat) (m : Int) (hm : m = 2 ^ k) : uw x / m % 256 = ((UInt8.ofNat (x.toNat / 2 ^ k)).toNat : Int) := by
 subst hm
 rw [byte_toNat, uw]
 have : (2 : Int) ^ k = ((2 ^ k : Nat) : Int) := by simp
 rw [this]
 omega

def digRow (s : St) (i : Nat) : List UInt8 := digestTo s i ++ List.replicate (32 - i) 0
theorem digRow_length (s : St) (i : Nat) (h : i ≤ 32) : (digRow s i).length = 32 := by simp [digRow, digestTo_length]; omega
theorem digRow_set (s : St) (i : Nat) (h : i < 32) : (digRow s i).set i (UInt8.ofNat ((s.list.getD (i / 4) 0#32).toNat / 2 ^ (24 - 8 * (i % 4)))) = digRow s (i + 1) := by
 simp only [digRow]
 rw [List.set_append_right _ _ (by rw [digestTo_length]; exact Nat.le_refl _), digestTo_length, Nat.sub_self]
 have e1 : 32 - i = (32 - (i + 1)) + 1 := by omega
 rw [e1, List.replicate_succ, List.set_cons_zero, digestTo, List.append_assoc]
 rfl

theorem two_rows (w : World) (C D : Array Value) (t u : TypeId) : ∃ W, W = (w.alloc (.cells C t)).alloc (.cells D u) ∧ RowIs W w.heap.size t C ∧ RowIs W (w.heap.size + 1) u D ∧ Below w.heap.size w W ∧ W.heap.size = w.heap.size + 2 := by
 refine ⟨_, rfl, (RowIs.new w _ _).alloc _, ?_, ((Below.refl _ _).alloc (Nat.le_refl _) _).alloc (by simp) _, by simp⟩
 have := RowIs.new (w.alloc (.cells C t)) u D
 simpa using this

set_option maxRecDepth 20000 in
set_option maxHeartbeats 3200000 in
theorem shasum_calls (s : ByteArray) (w : World) (hs : s.size ≤ 140737488351232) :
  Calls Tryz.prog 15 #[.string s] w fun e w' => e = .returned (.agg (byteCells (sha s.data.toList))) ∧ Below w.heap.size w w' := by
 have hpl : (padL s.data.toList).length ≤ 140737488351232 + 73 := by
  rw [padL, List.length_append, padding_length, size_data]; omega
 have hP : s ++ ⟨(padding s.size).toArray⟩ = ⟨(padL s.data.toList).toArray⟩ := by
  apply ByteArray.ext
  apply Array.ext'
  simp [padL]
 have hmod := padL_mod s.data.toList
 have hsha : sha s.data.toList = digest (blocks (padL s.data.toList) ((padL s.data.toList).length / 64)) := rfl
 generalize sha s.data.toList = R at *
 generalize hPL : padL s.data.toList = P at *
 clear hPL
 have HP := Lib.hid hP
 have Hsha := Lib.hid hsha
 clear hP hsha
 go_enter Tryz.func15, Tryz.ntmps15
 go_wp2_with fail
 change Calls _ _ _ ((w.alloc (.cells (byteCells (List.replicate 32 0)) 36)).alloc (.cells (wordCells shaH.list) 99)) _
 obtain ⟨W1, hW1, hO, hH, hB1, hz1⟩ := two_rows w (byteCells (List.replicate 32 0)) (wordCells shaH.list) 36 99
 rw [← hW1]
 clear hW1
 generalize hB : w.heap.size = B at *
 have HB := Lib.hid hB
 clear hB
 refine (rounds_calls W1).mono ?_
 rintro e w2 ⟨rfl, hK, hb2, hz2⟩
 rw [hz1] at hK hb2 hz2 ⊢
 have hO2 := hO.below hb2 (by omega)
 have hH2 := hH.below hb2 (by omega)
 have hB2 := hB1.trans (hb2.mono (by omega))
 clear hO hH hb2 hB1 hz1
 have hsz : (B + 3) ≤ w2.heap.size := by omega
 clear hz2
 go_wp2_with fail
 refine (tail_calls s.size w2 (by omega)).mono ?_
 rintro e w3 ⟨rfl, hb3⟩
 have hO3 := hO2.below hb3 (by omega)
 have hH3 := hH2.below hb3 (by omega)
 have hK3 := hK.below hb3 (by omega)
 have hB3 := hB2.trans (hb3.mono (by omega))
 clear hO2 hH2 hB2 hb3 hsz hK
 have htl : (⟨(padding s.size).toArray⟩ : ByteArray).size ≤ 73 := by
  rw [ByteArray.size, List.size_toArray, padding_length]; omega
 have hcat := HP.out
 obtain ⟨x, hx⟩ : ∃ x : ByteArray, x = ⟨P.toArray⟩ := ⟨_, rfl⟩
 rw [← hx] at hcat
 have hxl : x.data.toList = P := by rw [hx]
 generalize (⟨(padding s.size).toArray⟩ : ByteArray) = tl at *
 have Hx := Lib.hid hx
 have hcap : ¬ ((s.size + tl.size : Nat) : Int) > IntKind.i64.max := by
  have : IntKind.i64.max = 9223372036854775807 := rfl
  rw [this]; omega
 clear hx
 go_wp2_with fail
 have hx0 : x.data.toList = P.drop (64 * 0) := by rw [hxl]; rfl
 clear hcap htl hcat hxl Hx HP
 go_loopw [0] (fun v0 wr => ∃ i : Nat, ∃ y : ByteArray, 64 * i ≤ P.length ∧ v0 = .string y ∧ y.data.toList = P.drop (64 * i) ∧ RowIs wr (B + 1) 99 (wordCells (blocks P i).list) ∧
  RowIs wr (B + 2) 153 (wordCells shaK) ∧ RowIs wr B 36 (byteCells (List.replicate 32 0)) ∧ Below B w wr) (fun v0 _ => match v0 with | .string y => y.size | _ => 0)
 case atStart => exact ⟨0, x, by omega, rfl, hx0, hH3, hK3, hO3, hB3⟩
 case round =>
  clear hx0 hH3 hK3 hO3 hB3
  obtain ⟨i, y, hi, rfl, hy, hH, hK, hO, hb⟩ := hrel
  have hys : y.size = P.length - 64 * i := by rw [← size_data, hy, List.length_drop]
  by_cases hlt : 64 * i < P.length
  ·have h64 : 64 ≤ y.size := by omega
   have HH := Lib.hid hH
   have HK := Lib.hid hK
   have HO := Lib.hid hO
   have Hb := Lib.hid hb
   clear hH hK hO hb
   have hb1 : (y.toList == ByteArray.toList ⟨#[]⟩) = false := by
    rw [ByteArray.toList_eq, ByteArray.toList_eq, beq_eq_false_iff_ne]
    intro h
    have : y.data.toList.length = 0 := by rw [h]; rfl
    rw [size_data] at this
    omega
   have hb2 : (y.toList == []) = false := by
    rw [ByteArray.toList_eq, beq_eq_false_iff_ne]
    intro h
    have : y.data.toList.length = 0 := by rw [h]; rfl
    rw [size_data] at this
    omega
   have hxs : (y.extract 0 64).size = 64 := by simp [ByteArray.size_extract]; omega
   have hxl : (y.extract 0 64).data.toList = (P.drop (64 * i)).take 64 := by rw [← hy]; simp
   have hyl : (y.extract 64 y.size).data.toList = P.drop (64 * (i + 1)) := by
    have e : 64 * (i + 1) = 64 * i + 64 := by omega
    rw [e, ← List.drop_drop, ← hy]
    simp
    rw [List.take_of_length_le]
    simp
   have Hyl := Lib.hid hyl
   have Hxl := Lib.hid hxl
   have Hpl := Lib.hid hpl
   clear hyl hxl hy hpl hmod
   go_wp2_with (go_at_call 49; refine (statetake_calls (blocks P i) (y.extract 0 64) wr (B + 1) (B + 2) hxs HH.out HK.out).mono ?_; rintro e w4 ⟨rfl, hH4, hb4⟩; have HH4 := Lib.hid hH4; have HB4 := Lib.hid hb4; clear hH4 hb4)
   go_roundw
   case rel =>
    refine ⟨i + 1, _, by omega, rfl, ?_, ?_, HK.out.but HB4.out (by omega), HO.out.but HB4.out (by omega), Hb.out.trans (HB4.out.below (by omega) ?_)⟩
    ·rw [← hys]; exact Hyl.out
    ·have := HH4.out
     rw [Hxl.out] at this
     exact this
    ·have := HO.out.lt
     omega
   case measure =>
    show (y.extract 64 (P.length - 64 * i)).size < y.size
    rw [ByteArray.size_extract]
    omega
  ·have hy0 : y = ⟨#[]⟩ := by
    apply ByteArray.ext
    apply Array.ext'
    rw [hy, List.drop_eq_nil_of_le (by omega)]
   have hin : i = P.length / 64 := by omega
   subst hy0
   rw [← hin] at Hsha
   have hb1 : (ByteArray.toList ⟨#[]⟩ == ByteArray.toList ⟨#[]⟩) = true := by simp
   have hb2 : (ByteArray.toList ⟨#[]⟩ == []) = true := by rw [ByteArray.toList_eq]; rfl
   generalize blocks P i = st at *
   clear hy hys hi hlt hK hpl hmod hin
   have HH := Lib.hid hH
   have HO := Lib.hid hO
   have Hb := Lib.hid hb
   clear hH hO hb
   go_wp2_with fail
   have h0 : RowIs wr B 36 (byteCells (digRow st 0)) := by simpa [digRow, digestTo] using HO.out
   have hH := HH.out
   have hb := Hb.out
   clear HO HH Hb hb1 hb2
   go_loopw [6, 23] (fun _ v wr => ∃ t : Nat, t ≤ 32 ∧ v = .int .i64 t ∧ RowIs wr B 36 (byteCells (digRow st t)) ∧ RowIs wr (B + 1) 99 (wordCells st.list) ∧ Below B w wr) (fun _ v _ => 32 - (intOf v).toNat)
   case atStart => exact ⟨0, by omega, rfl, h0, hH, hb⟩
   case round =>
    clear h0 hH hb
    obtain ⟨t, ht, rfl, hO, hH, hb⟩ := hrel
    by_cases hlt : t < 32
    ·have hsl : st.list.length = 8 := rfl
     have hdl := digRow_length st t ht
     have hc : wr.cell? ⟨B + 1, t / 4, none⟩ = some (.int .u32 (uw (st.list.getD (t / 4) 0#32))) := by
      rw [hH.word (t / 4) (by omega), List.getD_eq_getElem?_getD, List.getElem?_eq_getElem (by omega)]; rfl
     generalize hX : st.list.getD (t / 4) 0#32 = X at *
     have hset := digRow_set st t hlt
     rw [hX] at hset
     have hv := digest_int X (24 - 8 * (t % 4)) _ rfl
     have hO2 := hO.setByte t (UInt8.ofNat (X.toNat / 2 ^ (24 - 8 * (t % 4)))) _ hv
     rw [hset] at hO2
     have hex : ∃ old : Int, wr.cell? ⟨B, t, none⟩ = some (.int .u8 old) := ⟨_, hO.byte t (by omega)⟩
     obtain ⟨old, hcO⟩ := hex
     have hfO := hO.free t
     have HO2 := Lib.hid hO2
     have HH := Lib.hid (hH.other ⟨B, t, none⟩ (.int .u8 (uw X / 2 ^ (24 - 8 * (t % 4)) % 256)) (by show B + 1 ≠ B; omega))
     have Hb := Lib.hid (hb.setCell (p := ⟨B, t, none⟩) (Nat.le_refl B) (.int .u8 (uw X / 2 ^ (24 - 8 * (t % 4)) % 256)))
     clear hO hH hb hO2 hset hv hX hdl hsl
     have q1 : (t : Int) / 4 < 8 := by omega
     have q0 : 0 ≤ (t : Int) / 4 := by omega
     have qn : ((t : Int) / 4).toNat = t / 4 := by omega
     have s0 : 0 ≤ 24 - 8 * ((t : Int) % 4) := by omega
     have sn : (24 - 8 * ((t : Int) % 4)).toNat = 24 - 8 * (t % 4) := by omega
     go_wp2_with fail
     go_roundw
     case rel => exact ⟨t + 1, by omega, by go_num, HO2.out, HH.out, Hb.out⟩
     case measure => simp [intOf]; omega
    ·have ht32 : t = 32 := by omega
     subst ht32
     have hR : digRow st 32 = R := by rw [Hsha.out]; simp [digRow, digest]
     rw [hR] at hO
     have hlen : (byteCells R).size = 32 := by rw [← hR, byteCells_size, digRow_length st 32 (by omega)]
     have hone := byteCells_one R
     clear hR Hsha hH
     generalize hC : byteCells R = C at *
     have HC := Lib.hid hC
     clear hC
     have hsz : (Tryz.prog.info? 36).map (·.size) = some C.size := by rw [hlen]; kernel_rfl
     have hst : RowIs (wr.setCells B 0 C.toList) B 36 C := store_row hO rfl
     have hthere := hO.there 0 C.size (by omega)
     have hbel2 := setCells_below B B (Nat.le_refl B) C.toList 0 w wr hb
     have Hlen := Lib.hid hlen
     have Hst := Lib.hid hst
     have Hbel := Lib.hid hbel2
     clear hlen hst hbel2
     go_wp2_with (first | (refine wpList_load_row rfl 36 _ rfl B rfl 36 C (0, 0) _ hO Tryz.underlying36 rfl hsz ?_) | (refine wpList_store_mid rfl 36 _ _ rfl B 0 C rfl rfl hthere hsz hone ?_))
     refine bodyPost_ret (v := .agg C) (results_cell_row (p := 2) (ty := 36) (by rfl) _ _ B 36 C (0, 0) _ (by rfl) Hst.out Tryz.underlying36 (by rfl) hsz) (by rfl) ?_
     exact ⟨by rw [HC.out], by rw [HB.out]; exact Hbel.out⟩

end Go.Proofs.YtimkklaidodkdaaGreatDoor
