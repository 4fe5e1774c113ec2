/- cambiumlaw09.lives: walked. -/
import Derived.Test.YtgjaoofgmdijdaaGreatDoorOrder3
namespace Go.Proofs.YtgjaoofgmdijdaaGreatDoor
open Go.RowKit Go.Sort

theorem trimR_zerosS (l : List UInt8) (k : Nat) : trimR (l ++ List.replicate k 0) = trimR l := by
  unfold trimR Lib.trimRightB
  rw [List.reverse_append, List.reverse_replicate]
  congr 1
  induction k with
  | zero => rfl
  | succ k ih => rw [List.replicate_succ, List.cons_append, List.dropWhile_cons]; simp
theorem trimR_lastS (l : List UInt8) (c : UInt8) (h : c ≠ 0) : trimR (l ++ [c]) = l ++ [c] := by
  unfold trimR Lib.trimRightB
  rw [List.reverse_append, List.reverse_singleton, List.singleton_append, List.dropWhile_cons, if_neg (by simpa using h)]
  simp
theorem wholeL_lastS (l : List UInt8) (c : UInt8) (h : c ≠ 0) : wholeL (l ++ [c]) = beL (crc (padTo 508 (l ++ [c]))).toNat 4 ++ (l ++ [c]) := by
  rw [wholeL, headed]
  generalize (crc (padTo 508 (l ++ [c]))).toNat = n
  rw [padTo, ← List.append_assoc, trimR_zerosS, ← List.append_assoc, trimR_lastS _ _ h]

def sA : SupD := ⟨16, 4, 2, List.replicate 32 0⟩
def sB : SupD := ⟨16, 5, 3, List.replicate 32 0⟩
def sC : SupD := ⟨16, 4, 16, List.replicate 32 0⟩
theorem sA_wf : sA.wf := ⟨by decide, by decide, by decide, rfl⟩
theorem sB_wf : sB.wf := ⟨by decide, by decide, by decide, rfl⟩
theorem sC_wf : sC.wf := ⟨by decide, by decide, by decide, rfl⟩
theorem sA_ok : okS sA = true := by decide +kernel
theorem sB_ok : okS sB = true := by decide +kernel
theorem sC_no : okS sC = false := by decide +kernel
theorem sA_pad : padTo 508 (bytesS sA) = padTo 508 ([67, 66, 0, 0, 0, 16, 0, 0, 0, 0, 0, 0, 0, 4, 0, 0, 0] ++ [2]) := by decide +kernel
theorem sA_enc : ∃ n, encS sA = beL n 4 ++ [67, 66, 0, 0, 0, 16, 0, 0, 0, 0, 0, 0, 0, 4, 0, 0, 0, 2] := by
  rw [encS, if_pos sA_ok]
  have e : wholeL (bytesS sA) = wholeL ([67, 66, 0, 0, 0, 16, 0, 0, 0, 0, 0, 0, 0, 4, 0, 0, 0] ++ [2]) := by rw [wholeL, wholeL, headed, headed, sA_pad]
  rw [e, wholeL_lastS _ _ (by decide)]
  exact ⟨_, rfl⟩
theorem sA_len : (strOf (encS sA)).size = 22 := by
  obtain ⟨n, h⟩ := sA_enc
  rw [strOf_size, h, List.length_append, beL_length]; rfl
theorem sA_mark : (strOf (encS sA)).extract 4 6 = ⟨#[67, 66]⟩ := by
  obtain ⟨n, h⟩ := sA_enc
  rw [h]
  have hl := beL_length n 4
  match hb : beL n 4, hl with
  | [a, b, c, d], _ => rfl
theorem sA_dec : decES (encS sA) = 0 ∧ supL (encS sA) = sA := by
  have h := dec_encS sA sA_wf sA_ok
  exact ⟨by rw [decES, if_pos h.1], h.2⟩
theorem order_ab : orderS (encS sA) (encS sB) = [sB, sA] := by
  have h := dec_encS sA sA_wf sA_ok
  have k := dec_encS sB sB_wf sB_ok
  rw [orderS, atSlot, atSlot, if_pos ⟨h.1, by rw [h.2]; rfl⟩, if_pos ⟨k.1, by rw [k.2]; rfl⟩, h.2, k.2]
  rfl
theorem order_ba : orderS (encS sB) (encS sA) = [] := by
  have h := dec_encS sA sA_wf sA_ok
  have k := dec_encS sB sB_wf sB_ok
  rw [orderS, atSlot, atSlot, if_neg (fun q => by have := q.2; rw [k.2] at this; revert this; decide), if_neg (fun q => by have := q.2; rw [h.2] at this; revert this; decide)]
  rfl

theorem own_cell {w : World} {B : Nat} {v : Value} {s : SupD} {l : List SupW} {n : Nat} (h : w.ownsRow B 26 35 v n (l.flatMap supE)) (hl : l.map (·.1) = s :: (l.map (·.1)).tail) (hn : n = l.length) : ∃ g cap, v = .slice (some ⟨g, 0, none⟩) n cap ∧ g < w.heap.size ∧ w.cell? ⟨g, 1, none⟩ = some (.int .u64 (s.gen : Int)) := by
  match l, hl with
  | x :: l', hl =>
    obtain ⟨_, ⟨_, h0⟩ | ⟨g, cap, cur, hv, hg, hh, hnc, hcm, hcs, hxs⟩⟩ := h
    · rw [hn] at h0; cases h0
    · refine ⟨g, cap, hv, lt_of_block hh, ?_⟩
      have hx : x.1 = s := by simpa using hl
      have e : (cur.toList.take (n * 35))[1]? = some (.int .u64 (s.gen : Int)) := by rw [hxs, List.flatMap_cons, supE, hx]; rfl
      rw [List.getElem?_take, if_pos (by rw [hn]; simp; omega), Array.getElem?_toList] at e
      simp only [World.cell?, hh]
      simpa using e

theorem built_sA : Tryz.prog.built 26 [(0, .int .u32 16), (1, .int .u64 4), (2, .int .u32 2)] = some (supV sA).toArray := by kernel_rfl
theorem built_sB : Tryz.prog.built 26 [(0, .int .u32 16), (1, .int .u64 5), (2, .int .u32 3)] = some (supV sB).toArray := by kernel_rfl
theorem built_sC : Tryz.prog.built 26 [(0, .int .u32 16), (1, .int .u64 4), (2, .int .u32 16)] = some (supV sC).toArray := by kernel_rfl

end Go.Proofs.YtgjaoofgmdijdaaGreatDoor
