/- hash.Sum's parts, walked: right, words, rounds, take, tail. -/
import Derived.Test.YtjbnnfdhmpeoeaaShaPure
import Derived.Test.YtjbnnfdhmpeoeaaWords
import Derived.Test.YtjbnnfdhmpeoeaaNum
import Derived.Deep.RegionHeld3
import Derived.WalkSmall
namespace Go.Proofs.Ytjbnnfdhmpeoeaa
open Go.RowKit

theorem rot_mask : ∀ k : Fin 32, 1 ≤ k.val → bits .and .u64 (IntKind.u64.wrap (-((k.val : Nat) : Int))) 31 = ((32 - k.val : Nat) : Int) := by decide +kernel

theorem rot_int (x : BitVec 32) (s : Nat) (_hs : s ≤ 31) : bits .or .u32 (uw x * 2 ^ s % 4294967296) (uw x / 2 ^ (32 - s)) = uw ((x <<< s) ||| (x >>> (32 - s))) := by
  have e1 := uw_shl x s (2 ^ s) (by simp)
  have e2 := uw_shr x (32 - s) (2 ^ (32 - s)) (by simp)
  rw [e1, e2, uw_or]

set_option maxRecDepth 20000 in
theorem rotate_calls (x : BitVec 32) (k : Int) (s : Nat) (w : World) (hm : bits .and .u64 (IntKind.u64.wrap k) 31 = (s : Int)) (hs1 : 1 ≤ s) (hs2 : s ≤ 31) :
    Calls Try.prog 65 #[.int .u32 (uw x), .int .i64 k] w fun e w' => e = .returned (.int .u32 (uw ((x <<< s) ||| (x >>> (32 - s))))) ∧ w' = w := by
  have h32 : (32 : Int) - (s : Int) = ((32 - s : Nat) : Int) := by omega
  have hlo : 0 ≤ (32 : Int) - (s : Int) := by omega
  have hfin := rot_int x s hs2
  have Hfin := Lib.hid hfin
  clear hfin
  go_enter Try.func65, Try.ntmps65
  go_wp2
  go_ret
  exact ⟨by rw [← Hfin.out]; rfl, rfl⟩

set_option maxRecDepth 20000 in
theorem right_calls (x : BitVec 32) (k : Int) (w : World) (h1 : 1 ≤ k) (h2 : k ≤ 31) :
    Calls Try.prog 57 #[.int .u32 (uw x), .int .i64 k] w fun e w' => e = .returned (.int .u32 (uw (rotr x k.toNat))) ∧ w' = w := by
  obtain ⟨j, rfl⟩ := Int.eq_ofNat_of_zero_le (show 0 ≤ k by omega)
  rw [Int.toNat_natCast]
  have hm := rot_mask ⟨j, by omega⟩ (by show 1 ≤ j; omega)
  simp only at hm
  have hr : (x <<< (32 - j)) ||| (x >>> (32 - (32 - j))) = rotr x j := by
    have : 32 - (32 - j) = j := by omega
    rw [this, rotr, BitVec.or_comm]
  have Hr := Lib.hid hr
  have Hm := Lib.hid hm
  clear hr hm
  go_enter Try.func57, Try.ntmps57
  go_wp2_with fail
  refine (rotate_calls x _ (32 - j) _ Hm.out (by omega) (by omega)).mono ?_
  rintro e w1 ⟨rfl, rfl⟩
  rw [Hr.out]
  go_wp2
  go_ret
  exact ⟨rfl, rfl⟩

theorem part_int (p : BitVec 32) (c : UInt8) : bits .or .u32 (uw p * 256 % 4294967296) ((c.toNat : Int) % 4294967296) = uw ((p <<< 8) ||| w8 c) := by
  have e1 := uw_shl p 8 256 rfl
  have e2 : (c.toNat : Int) % 4294967296 = uw (w8 c) := by rw [← uw_w8]; exact uw_mod _
  rw [e1, e2, uw_or]

/-- The row while word t is being made of i bytes. -/
def partRow (l : List UInt8) (t i : Nat) : List (BitVec 32) := schedTo l t ++ wordPart l t i :: List.replicate (63 - t) 0#32
theorem partRow_length (l : List UInt8) (t i : Nat) (h : t ≤ 63) : (partRow l t i).length = 64 := by simp [partRow, schedTo_length]; omega
theorem partRow_get (l : List UInt8) (t i : Nat) (h : t < (partRow l t i).length) : (partRow l t i)[t] = wordPart l t i := by
  simp only [partRow]
  rw [List.getElem_append_right (by rw [schedTo_length]; exact Nat.le_refl _)]
  simp [schedTo_length]
theorem partRow_set (l : List UInt8) (t i : Nat) : (partRow l t i).set t (wordPart l t (i + 1)) = partRow l t (i + 1) := by
  simp only [partRow]
  rw [List.set_append_right _ _ (by rw [schedTo_length]; exact Nat.le_refl _)]
  simp [schedTo_length]
theorem partRow_zero (l : List UInt8) (t : Nat) (h : t < 16) : partRow l t 0 = schedTo l t ++ List.replicate (64 - t) 0#32 := by
  have : 64 - t = (63 - t) + 1 := by omega
  simp [partRow, wordPart, this, List.replicate_succ]
theorem partRow_four (l : List UInt8) (t : Nat) (h : t < 16) : partRow l t 4 = schedTo l (t + 1) ++ List.replicate (64 - (t + 1)) 0#32 := by
  have : 64 - (t + 1) = 63 - t := by omega
  simp [partRow, schedTo, nextW, h, wordAt, this]

theorem sched_int (x16 x7 x15 x2 : BitVec 32) : IntKind.u32.wrap (IntKind.u32.wrap (IntKind.u32.wrap (uw x16 + uw x7) + bits .xor .u32 (bits .xor .u32 (uw (rotr x15 7)) (uw (rotr x15 18))) (uw x15 / 8)) +
    bits .xor .u32 (bits .xor .u32 (uw (rotr x2 17)) (uw (rotr x2 19))) (uw x2 / 1024)) = uw (x16 + x7 + sig0 x15 + sig1 x2) := by
  have e1 := uw_shr x15 3 8 rfl
  have e2 := uw_shr x2 10 1024 rfl
  simp only [IntKind.wrap_u32]
  rw [e1, e2, uw_xor, uw_xor, uw_xor, uw_xor, uw_add, uw_add, uw_add]
  rfl

theorem sched_facts (w : World) (B : Nat) (l : List UInt8) (t : Nat) (h16 : 16 ≤ t) (h : t < 64) (hr : RowIs w B 101 (wordCells (schedTo l t ++ List.replicate (64 - t) 0#32))) :
    w.cell? ⟨B, t - 15, none⟩ = some (.int .u32 (uw ((schedTo l t).getD (t - 15) 0#32))) ∧ w.cell? ⟨B, t - 2, none⟩ = some (.int .u32 (uw ((schedTo l t).getD (t - 2) 0#32))) ∧
    w.cell? ⟨B, t - 16, none⟩ = some (.int .u32 (uw ((schedTo l t).getD (t - 16) 0#32))) ∧ w.cell? ⟨B, t - 7, none⟩ = some (.int .u32 (uw ((schedTo l t).getD (t - 7) 0#32))) ∧
    w.cell? ⟨B, t, none⟩ = some (.int .u32 0) ∧ w.frozen? ⟨B, t, none⟩ = false ∧
    Hid (RowIs (w.setCell ⟨B, t, none⟩ (.int .u32 (uw ((schedTo l t).getD (t - 16) 0#32 + (schedTo l t).getD (t - 7) 0#32 + sig0 ((schedTo l t).getD (t - 15) 0#32) + sig1 ((schedTo l t).getD (t - 2) 0#32))))) B 101
      (wordCells (schedTo l (t + 1) ++ List.replicate (64 - (t + 1)) 0#32))) := by
  have hl := schedTo_length l t
  have hlen : (schedTo l t ++ List.replicate (64 - t) 0#32).length = 64 := by simp [hl]; omega
  have hget : ∀ j, j < t → w.cell? ⟨B, j, none⟩ = some (.int .u32 (uw ((schedTo l t).getD j 0#32))) := fun j hj => by
    rw [hr.word j (by omega), List.getElem_append_left (by omega), List.getD_eq_getElem?_getD, List.getElem?_eq_getElem (by omega)]; rfl
  refine ⟨hget _ (by omega), hget _ (by omega), hget _ (by omega), hget _ (by omega), ?_, hr.free t, ?_⟩
  · rw [hr.word t (by omega), List.getElem_append_right (by omega)]; simp; rfl
  · have := hr.setWord t ((schedTo l t).getD (t - 16) 0#32 + (schedTo l t).getD (t - 7) 0#32 + sig0 ((schedTo l t).getD (t - 15) 0#32) + sig1 ((schedTo l t).getD (t - 2) 0#32))
    refine Lib.hid ?_
    have e : (schedTo l t ++ List.replicate (64 - t) 0#32).set t ((schedTo l t).getD (t - 16) 0#32 + (schedTo l t).getD (t - 7) 0#32 + sig0 ((schedTo l t).getD (t - 15) 0#32) + sig1 ((schedTo l t).getD (t - 2) 0#32)) = schedTo l (t + 1) ++ List.replicate (64 - (t + 1)) 0#32 := by
      rw [List.set_append_right _ _ (by omega), hl, Nat.sub_self]
      have e1 : 64 - t = (64 - (t + 1)) + 1 := by omega
      rw [e1, List.replicate_succ, List.set_cons_zero, schedTo, nextW, if_neg (by omega), List.append_assoc]
      rfl
    rwa [e] at this

theorem getD_data (s : ByteArray) (j : Nat) (h : j < s.size) : s.data.toList.getD j 0 = s[j] := by
  rw [List.getD_eq_getElem?_getD, List.getElem?_eq_getElem (by rw [size_data]; exact h)]; rfl

set_option maxRecDepth 20000 in
set_option maxHeartbeats 1600000 in
theorem words_calls (s : ByteArray) (w : World) (hs : s.size = 64) :
    Calls Try.prog 56 #[.string s] w fun e w' => e = .returned (.agg (wordCells (sched s.data.toList))) ∧ Below w.heap.size w w' := by
  go_enter Try.func56, Try.ntmps56
  go_wp2_with fail
  have hrow0 : RowIs (w.alloc (.cells (wordCells (List.replicate 64 0#32)) 101)) w.heap.size 101 (wordCells (List.replicate 64 0#32)) := RowIs.new _ _ _
  have hbel0 : Below w.heap.size w (w.alloc (.cells (wordCells (List.replicate 64 0#32)) 101)) := (Below.refl _ _).alloc (Nat.le_refl _) _
  have hw0 : (w.alloc (.cells (wordCells (List.replicate 64 0#32)) 101)).heap.size = w.heap.size + 1 := by simp
  change Code.wp _ _ _ _ (w.alloc (.cells (wordCells (List.replicate 64 0#32)) 101))
  generalize w.alloc (.cells (wordCells (List.replicate 64 0#32)) 101) = W0 at *
  generalize hB : w.heap.size = B at *
  have HB := Lib.hid hB
  clear hB
  go_loopw [3, 4, 8, 11] (fun _ _ i _ wr => ∃ t : Nat, t ≤ 16 ∧ i = .int .i64 t ∧ RowIs wr B 101 (wordCells (schedTo s.data.toList t ++ List.replicate (64 - t) 0#32)) ∧ Below B w wr) (fun _ _ i _ _ => 16 - (intOf i).toNat)
  case atStart => exact ⟨0, by omega, rfl, by simpa [schedTo] using hrow0, hbel0⟩
  case round =>
    obtain ⟨t, ht, rfl, hrow, hbel⟩ := hrel
    by_cases hlt : t < 16
    · rw [← partRow_zero _ t hlt] at hrow
      obtain ⟨wo, rfl⟩ : ∃ wo : World, wo = wr := ⟨_, rfl⟩
      go_wp2
      go_loopw [4, 11] (fun _ i wr => ∃ j : Nat, j ≤ 4 ∧ i = .int .i64 j ∧ RowIs wr B 101 (wordCells (partRow s.data.toList t j)) ∧ Below B w wr) (fun _ i _ => 4 - (intOf i).toNat)
      case atStart => exact ⟨0, by omega, rfl, hrow, hbel⟩
      case round =>
        clear hrow hbel
        obtain ⟨j, hj, rfl, hrow, hbel⟩ := hrel
        by_cases hj4 : j < 4
        · have hidx : 4 * t + j < s.size := by omega
          have hl := partRow_length s.data.toList t j (by omega)
          have hcell := hrow.word t (by omega)
          rw [partRow_get] at hcell
          have hfree := hrow.free t
          have hset := hrow.setWord t (wordPart s.data.toList t (j + 1))
          rw [partRow_set] at hset
          have hstep : wordPart s.data.toList t (j + 1) = (wordPart s.data.toList t j <<< 8) ||| w8 s[4 * t + j] := by rw [wordPart, getD_data s _ hidx]
          have hval := part_int (wordPart s.data.toList t j) s[4 * t + j]
          rw [← hstep] at hval
          generalize wordPart s.data.toList t j = p at *
          generalize wordPart s.data.toList t (j + 1) = p' at *
          have Hset := Lib.hid hset
          have Hval := Lib.hid hval
          have Hs := Lib.hid hs
          clear hset hval hstep hl hrow hs
          have h64 : (t : Int) < 64 := by omega
          have hi0 : 0 ≤ 4 * (t : Int) + (j : Int) := by omega
          have hi1 : 4 * (t : Int) + (j : Int) < (s.size : Int) := by omega
          have hi2 : (4 * (t : Int) + (j : Int)).toNat = 4 * t + j := by omega
          go_wp2
          go_region
          go_wp2
          rw [Hval.out]
          go_roundw
          case rel => exact ⟨j + 1, by omega, by go_num, Hset.out.drew, (hbel.setCell (p := ⟨B, t, none⟩) (Nat.le_refl B) _).drew⟩
          case measure => simp [intOf]; omega
        · have hj4' : j = 4 := by omega
          subst hj4'
          rw [partRow_four _ t hlt] at hrow
          go_wp2
          go_roundw
          case rel => exact ⟨t + 1, by omega, by go_num, hrow, hbel⟩
          case measure => simp [intOf]; omega
    · have ht16 : t = 16 := by omega
      subst ht16
      rw [show (((16 : Nat) : Int)) = 16 from rfl]
      go_wp2
      clear hrow0 hbel0
      go_loopw [5, 6, 7] (fun i _ _ wr => ∃ t : Nat, 16 ≤ t ∧ t ≤ 64 ∧ i = .int .i64 t ∧ RowIs wr B 101 (wordCells (schedTo s.data.toList t ++ List.replicate (64 - t) 0#32)) ∧ Below B w wr) (fun i _ _ _ => 64 - (intOf i).toNat)
      case atStart => exact ⟨16, by omega, by omega, rfl, hrow, hbel⟩
      case round =>
        clear hrow hbel
        obtain ⟨t, ht0, ht, rfl, hrow, hbel⟩ := hrel
        by_cases hlt : t < 64
        · obtain ⟨wo, rfl⟩ : ∃ wo : World, wo = wr := ⟨_, rfl⟩
          obtain ⟨c15, c2, c16, c7, ct, hfree, Hset⟩ := sched_facts wo B s.data.toList t ht0 hlt hrow
          generalize (schedTo s.data.toList t).getD (t - 15) 0#32 = x15 at *
          generalize (schedTo s.data.toList t).getD (t - 2) 0#32 = x2 at *
          generalize (schedTo s.data.toList t).getD (t - 16) 0#32 = x16 at *
          generalize (schedTo s.data.toList t).getD (t - 7) 0#32 = x7 at *
          have Hs := Lib.hid hs
          clear hs hrow
          have a15 : 0 ≤ (t : Int) - 15 := by omega
          have b15 : (t : Int) - 15 < 64 := by omega
          have n15 : ((t : Int) - 15).toNat = t - 15 := by omega
          have a2 : 0 ≤ (t : Int) - 2 := by omega
          have b2 : (t : Int) - 2 < 64 := by omega
          have n2 : ((t : Int) - 2).toNat = t - 2 := by omega
          have a16 : 0 ≤ (t : Int) - 16 := by omega
          have b16 : (t : Int) - 16 < 64 := by omega
          have n16 : ((t : Int) - 16).toNat = t - 16 := by omega
          have a7 : 0 ≤ (t : Int) - 7 := by omega
          have b7 : (t : Int) - 7 < 64 := by omega
          have n7 : ((t : Int) - 7).toNat = t - 7 := by omega
          have bt : (t : Int) < 64 := by omega
          go_wp2
          go_quiet (fail)
          have k16 : (wo.drewN nq).cell? ⟨B, t - 16, none⟩ = some (.int .u32 (uw x16)) := by simpa using c16
          have k7 : (wo.drewN nq).cell? ⟨B, t - 7, none⟩ = some (.int .u32 (uw x7)) := by simpa using c7
          have kt : (wo.drewN nq).cell? ⟨B, t, none⟩ = some (.int .u32 0) := by simpa using ct
          have kf : (wo.drewN nq).frozen? ⟨B, t, none⟩ = false := by simpa using hfree
          have Hbel : Below B w (wo.drewN nq) := below_drewN hbel nq
          have Hset' : Hid (RowIs ((wo.drewN nq).setCell ⟨B, t, none⟩ (.int .u32 (uw (x16 + x7 + sig0 x15 + sig1 x2)))) B 101 (wordCells (schedTo s.data.toList (t + 1) ++ List.replicate (64 - (t + 1)) 0#32))) := Hset.out
          clear c15 c2 c16 c7 ct hfree Hset hbel
          generalize wo.drewN nq = wz at *
          have m16 : IntKind.i64.wrap ((t : Int) - 16) = (t : Int) - 16 := by rw [IntKind.wrap_i64]; omega
          have m7 : IntKind.i64.wrap ((t : Int) - 7) = (t : Int) - 7 := by rw [IntKind.wrap_i64]; omega
          have l16 : 16 ≤ (t : Int) := by omega
          have l7 : 7 ≤ (t : Int) := by omega
          have u16 : (t : Int) < 80 := by omega
          have u7 : (t : Int) < 71 := by omega
          have r16 : ∀ v, (wz.setCell ⟨B, t, none⟩ v).cell? ⟨B, t - 16, none⟩ = some (.int .u32 (uw x16)) := fun v => by
            rw [World.cell?_setCell_other _ _ _ _ (fun e => by have := congrArg Addr.off e; simp at this; omega)]; exact k16
          have r7 : ∀ v, (wz.setCell ⟨B, t, none⟩ v).cell? ⟨B, t - 7, none⟩ = some (.int .u32 (uw x7)) := fun v => by
            rw [World.cell?_setCell_other _ _ _ _ (fun e => by have := congrArg Addr.off e; simp at this; omega)]; exact k7
          go_wp2_with fail
          go_region_held3 (fun w' => w'.cell? ⟨B, t - 16, none⟩ = some (.int .u32 (uw x16)) ∧ w'.cell? ⟨B, t - 7, none⟩ = some (.int .u32 (uw x7))) (go_keep)
            (first | (go_at_call 57; refine (right_calls _ _ _ (by omega) (by omega)).mono ?_; rintro e w' ⟨rfl, rfl⟩))
          rw [sched_int]
          go_wp2
          go_roundw
          case rel => exact ⟨t + 1, by omega, by omega, by go_num, Hset'.out.drew, (Hbel.setCell (p := ⟨B, t, none⟩) (Nat.le_refl B) _).drew⟩
          case measure => simp [intOf]; omega
        · have ht64 : t = 64 := by omega
          subst ht64
          have hrow' : RowIs wr B 101 (wordCells (sched s.data.toList)) := by simpa [sched] using hrow
          have hlen : (wordCells (sched s.data.toList)).size = 64 := by rw [wordCells_size]; exact schedTo_length _ _
          have hone := wordCells_one (sched s.data.toList)
          have Hs := Lib.hid hs
          clear hrow hs
          generalize hC : wordCells (sched s.data.toList) = C at *
          have HC := Lib.hid hC
          clear hC
          have hsz : (Try.prog.info? 101).map (·.size) = some C.size := by rw [hlen]; kernel_rfl
          have hst : RowIs (wr.setCells B 0 C.toList) B 101 C := store_row hrow' rfl
          have hthere := hrow'.there 0 C.size (by omega)
          have hbel2 := setCells_below B B (Nat.le_refl B) C.toList 0 w wr hbel
          have Hlen := Lib.hid hlen
          have Hst := Lib.hid hst
          clear hlen hst
          go_wp2_with (first | (refine wpList_load_row rfl 101 _ rfl B rfl 101 C (0, 0) _ hrow' Try.underlying101 rfl hsz ?_) | (refine wpList_store_mid rfl 101 _ _ rfl B 0 C rfl rfl hthere hsz hone ?_))
          refine bodyPost_ret (v := .agg C) (results_cell_row (p := 2) (ty := 101) (by rfl) _ _ B 101 C (0, 0) _ (by rfl) Hst.out Try.underlying101 (by rfl) hsz) (by rfl) ?_
          exact ⟨by rw [HC.out], hbel2.mono (by rw [HB.out]; exact Nat.le_refl _)⟩

end Go.Proofs.Ytjbnnfdhmpeoeaa
