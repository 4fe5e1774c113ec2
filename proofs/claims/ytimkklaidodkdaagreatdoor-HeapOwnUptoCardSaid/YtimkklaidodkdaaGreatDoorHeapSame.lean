/- The reference's Same at heaps, where the two are one: walked. -/
import Derived.Test.YtimkklaidodkdaaGreatDoorHeapLed
namespace Go.Proofs.YtimkklaidodkdaaGreatDoor
open Go.RowKit

theorem guard_cell : Tryz.prog.eqGuardType Tryz.prog.depth 57 = false := by kernel_rfl
theorem neq_cell (a : CellD) (w : World) : (binOp .neq 57 (.agg (cellV a).toArray) (.agg (cellV a).toArray)).run Tryz.prog w = .ok (.bool false) w := by
  have hS : Tryz.prog.underlying 57 = some (.struct (Tryz.prog.fieldsOf 57)) := by kernel_rfl
  have hp : Tryz.prog.stoodInHeld 57 = false := by kernel_rfl
  have q1 : (part 32 (cellV a).toArray 0).run Tryz.prog w = .ok (.int .u32 (a.num : Int)) w := by simp [part, isAgg, run_underlying Tryz.underlying32, cellV]
  have q2 : (part 9 (cellV a).toArray 1).run Tryz.prog w = .ok (.string a.data) w := by simp [part, isAgg, run_underlying Tryz.underlying9, cellV]
  have q3 : (part 3 (cellV a).toArray 2).run Tryz.prog w = .ok (.int .i64 a.refs) w := by simp [part, isAgg, run_underlying Tryz.underlying3, cellV]
  have r1 := run_equalIn_int w 9998 32 .u32 .u32 (a.num : Int) (a.num : Int) Tryz.underlying32
  have r2 := run_equalIn_string w 9998 9 a.data a.data Tryz.underlying9
  have r3 := run_equalIn_int w 9998 3 .i64 .i64 a.refs a.refs Tryz.underlying3
  rw [run_neq_struct, show (10000 : Nat) = 9999 + 1 from rfl, run_equalIn_agg w 9999 57 _ _ hS hp]
  simp only [Program.fieldsOf, Tryz.underlying57]
  rw [eqFields_cons 32 0 rfl rfl (by decide) q1 q1 r1, eqFields_cons 9 1 rfl rfl (by decide) q2 q2 r2, eqFields_cons 3 2 rfl rfl (by decide) q3 q3 r3, Op.eqFields, Sem.run_pure]
  simp

set_option maxRecDepth 100000 in
set_option maxHeartbeats 3200000 in
theorem same06_calls (B : Nat) (va vb : Value) (h : HeapD) (w : World) (ha : HeapAt B w va h) (hb : HeapAt B w vb h) (hB : B ≤ w.heap.size) :
    Calls Tryz.prog 21 #[va, vb] w fun e w' => e = .returned (.bool true) ∧ Below w.heap.size w w' := by
  obtain ⟨_, _, _, sa, rfl, pa, ca, rfl, hna, hra⟩ := ha
  obtain ⟨_, _, _, sb, rfl, pb, cb, rfl, hnb, hrb⟩ := hb
  unfold maxLen at hna
  obtain ⟨size, l⟩ := h
  simp only [] at hna hra hrb ⊢
  obtain ⟨W1, hW1⟩ : ∃ W1, W1 = w.alloc (.cells #[.int .u32 (size : Int), .slice pa l.length ca] 35) := ⟨_, rfl⟩
  obtain ⟨W, hW⟩ : ∃ W, W = W1.alloc (.cells #[.int .u32 (size : Int), .slice pb l.length cb] 35) := ⟨_, rfl⟩
  have hA1 : RowIs W1 w.heap.size 35 #[.int .u32 (size : Int), .slice pa l.length ca] := by rw [hW1]; exact RowIs.new w _ _
  have hAW : RowIs W w.heap.size 35 #[.int .u32 (size : Int), .slice pa l.length ca] := by rw [hW]; exact hA1.alloc _
  have hBW : RowIs W W1.heap.size 35 #[.int .u32 (size : Int), .slice pb l.length cb] := by rw [hW]; exact RowIs.new W1 _ _
  have hbW : Below w.heap.size w W := by rw [hW, hW1]; exact ((Below.refl _ _).alloc (Nat.le_refl _) _).alloc (by simp) _
  have a0 : W.cell? ⟨w.heap.size, 0, none⟩ = some (.int .u32 (size : Int)) := by rw [hAW.cell]; rfl
  have b0 : W.cell? ⟨W1.heap.size, 0, none⟩ = some (.int .u32 (size : Int)) := by rw [hBW.cell]; rfl
  have a1 : W.cell? ⟨w.heap.size, 1, none⟩ = some (.slice pa l.length ca) := by rw [hAW.cell]; rfl
  have b1 : W.cell? ⟨W1.heap.size, 1, none⟩ = some (.slice pb l.length cb) := by rw [hBW.cell]; rfl
  have HW1 := Lib.hid hW1
  have HW := Lib.hid hW
  have HR := Lib.hid (And.intro hra hrb)
  clear hW1 hW hA1 hAW hBW hra hrb hnb
  go_enter Tryz.func21, Tryz.ntmps21
  go_wp2_with (first | (refine wpList_world HW1.out ?_) | (refine wpList_world HW.out ?_))
  go_loopw [23] (fun v wr => ∃ t : Nat, t ≤ l.length ∧ v = .int .i64 t ∧ ∃ n, wr = W.drewN n) (fun v _ => l.length - (intOf v).toNat)
  case atStart => exact ⟨0, by omega, rfl, 0, rfl⟩
  case round =>
    obtain ⟨t, ht, rfl, m, rfl⟩ := hrel
    by_cases hlt : t < l.length
    · obtain ⟨ba, oa, hpa, hba, hca⟩ := HR.out.1 (by omega)
      obtain ⟨bb, ob, hpb, hbb, hcb⟩ := HR.out.2 (by omega)
      subst hpa
      subst hpb
      have hc1 := rangeAt_below (hca t hlt) hbW (by omega)
      have hc2 := rangeAt_below (hcb t hlt) hbW (by omega)
      rw [List.getElem?_eq_getElem hlt] at hc1 hc2
      replace hc1 : W.rangeAt ba (oa + t * 3) (cellV l[t]) := hc1
      replace hc2 : W.rangeAt bb (ob + t * 3) (cellV l[t]) := hc2
      have hneq := fun w => neq_cell l[t] w
      have hsz1 : (Tryz.prog.info? 57).map (·.size) = some (cellV l[t]).length := by kernel_rfl
      have hlti : (t : Int) < (l.length : Int) := by omega
      generalize cellV l[t] = cs at *
      clear hca hcb ht
      go_wp2_with fail
      refine wp_region_quiet_lit (by kernel_rfl) (by kernel_rfl) ?_
      go_big_quiet_step (fail)
      go_big_quiet_step (fail)
      go_big_quiet_step (fail)
      go_big_quiet_step (fail)
      refine quiet_exec _ (by rfl) (fun n => exec_load_mid 57 _ rfl ba (oa + t * 3) (by rfl) cs _ (rangeAt_drewN hc1 n) Tryz.underlying57 rfl hsz1) ?_
      simp only [Act.put, List.setIfInBounds_toArray, List.set_cons_zero, List.set_cons_succ]
      go_big_quiet_step (fail)
      go_big_quiet_step (fail)
      go_big_quiet_step (fail)
      go_big_quiet_step (fail)
      refine quiet_exec _ (by rfl) (fun n => exec_load_mid 57 _ rfl bb (ob + t * 3) (by rfl) cs _ (rangeAt_drewN hc2 n) Tryz.underlying57 rfl hsz1) ?_
      simp only [Act.put, List.setIfInBounds_toArray, List.set_cons_zero, List.set_cons_succ]
      refine quiet_exec _ (by rfl) (fun n => exec_neq rfl (by rfl) (by rfl) guard_cell (hneq _)) ?_
      simp only [Act.put, List.setIfInBounds_toArray, List.set_cons_zero, List.set_cons_succ]
      refine wpQuiet_nil ?_
      intro _ hw'
      obtain ⟨nq, hw''⟩ := hw'
      subst hw''
      go_wp2_with fail
      go_roundw
      case rel => exact ⟨t + 1, by omega, by go_num, m + nq, rfl⟩
      case measure => simp [intOf]; omega
    · have htl : t = l.length := by omega
      have i1 : ¬ (t : Int) < (l.length : Int) := by omega
      clear htl
      go_wp2_with fail
      go_ret
      exact ⟨rfl, below_drewN hbW _⟩

end Go.Proofs.YtimkklaidodkdaaGreatDoor
