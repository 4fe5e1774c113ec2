/- What the laws through the layers ask before all; lists of items that are one: walked. -/
import Derived.Test.YtimkklaidodkdaaGreatDoorSame
import Derived.Test.YtimkklaidodkdaaGreatDoorSha4
import Derived.Test.YtimkklaidodkdaaGreatDoorKit
namespace Go.Proofs.YtimkklaidodkdaaGreatDoor
open Go.RowKit

theorem sha_abc0 : ∃ c l, sha [97, 98, 99] = c :: l ∧ c = 0xba ∧ l.length = 31 := by
  have h : (sha [97, 98, 99])[0]? = some 0xba := by decide +kernel
  have hl := sha_length [97, 98, 99]
  generalize sha [97, 98, 99] = R at *
  cases R with
  | nil => simp at hl
  | cons a t =>
    refine ⟨a, t, rfl, by simpa using h, by simpa using hl⟩

set_option maxRecDepth 20000 in
set_option maxHeartbeats 1600000 in
theorem begins_calls (w : World) : Calls Tryz.prog 12 #[] w fun e w' => e = .returned (.bool true) ∧ Below w.heap.size w w' := by
  have h1 := fun w => sum_calls ⟨#[49, 50, 51, 52, 53, 54, 55, 56, 57]⟩ w (by simp [ByteArray.size, maxLen])
  rw [show crc (⟨#[49, 50, 51, 52, 53, 54, 55, 56, 57]⟩ : ByteArray).data.toList = 0x3010bf7f#32 by decide +kernel] at h1
  have h2 := fun w => shasum_calls ⟨#[97, 98, 99]⟩ w (by decide)
  rw [show (⟨#[97, 98, 99]⟩ : ByteArray).data.toList = [97, 98, 99] from rfl] at h2
  obtain ⟨c, l, hE, hc, hl⟩ := sha_abc0
  rw [hE] at h2
  have hi : ∀ w, (Instr.index 36 (.agg (byteCells (c :: l))) (.int .i64 0)).run Tryz.prog w = .ok (.int .u8 186) w := by
    intro w
    have := index_byte Tryz.underlying36 (c :: l) 0 (by simp) (by simp [hl]) w
    rw [List.getElem_cons_zero, hc] at this
    rw [hc]
    exact this
  have hu : uw 0x3010bf7f#32 = 806403967 := by decide
  rw [hu] at h1
  generalize byteCells (c :: l) = Z at *
  go_enter Tryz.func12, Tryz.ntmps12
  go_wp2_with fail
  refine (h1 _).mono ?_
  rintro e w1 ⟨rfl, hb1⟩
  go_wp2_with fail
  refine (h2 _).mono ?_
  rintro e w2 ⟨rfl, hb2⟩
  have hb3 := hb1.trans (hb2.mono hb1.size)
  clear hb1 hb2
  go_wp2_with fail
  go_ret
  exact ⟨rfl, hb3⟩

set_option maxRecDepth 20000 in
set_option maxHeartbeats 1600000 in
theorem topSame_calls (B : Nat) (va vb : Value) (a b : List ItemD) (w : World) (ha : ItemsAt B w va a) (hb : ItemsAt B w vb b) :
    Calls Tryz.prog 16 #[va, vb] w fun e w' => e = .returned (.bool (lEq itemEq a b)) ∧ ∃ n, w' = w.drewN n := by
  obtain ⟨pa, ca, rfl, hna, hra⟩ := ha
  obtain ⟨pb, cb, rfl, hnb, hrb⟩ := hb
  unfold maxLen at hna hnb
  have hlen := lEq_len (f := itemEq) a b
  generalize hX : lEq itemEq a b = X at *
  have HX := Lib.hid hX
  clear hX
  by_cases hl : a.length = b.length
  · have i1 : (a.length : Int) = (b.length : Int) := by omega
    clear hlen
    have HL := Lib.hid hl
    rw [hl] at hna hra ⊢
    clear hl i1
    go_enter Tryz.func16, Tryz.ntmps16
    go_wp2_with fail
    go_loopw [13] (fun v wr => ∃ t : Nat, t ≤ b.length ∧ v = .int .i64 t ∧ X = lEq itemEq (a.drop t) (b.drop t) ∧ ∃ n, wr = w.drewN n) (fun v _ => b.length - (intOf v).toNat)
    case atStart => exact ⟨0, by omega, rfl, HX.out.symm, 0, rfl⟩
    case round =>
      obtain ⟨t, ht, rfl, hok, m, rfl⟩ := hrel
      by_cases hlt : t < b.length
      · have hlta : t < a.length := by rw [HL.out]; exact hlt
        obtain ⟨ba, oa, rfl, _, hca⟩ := hra (by omega)
        obtain ⟨bb, ob, rfl, _, hcb⟩ := hrb (by omega)
        have hc1 := hca t hlt
        have hc2 := hcb t hlt
        rw [List.getElem?_eq_getElem hlta] at hc1
        rw [List.getElem?_eq_getElem hlt] at hc2
        replace hc1 : (w.drewN m).rangeAt ba (oa + t * 2) (itemV a[t]) := hc1
        replace hc2 : (w.drewN m).rangeAt bb (ob + t * 2) (itemV b[t]) := hc2
        have hstep := lEq_drop (f := itemEq) a b t hlta hlt
        have hneq := fun w => neq_item a[t] b[t] w
        have hsz1 : (Tryz.prog.info? 44).map (·.size) = some (itemV a[t]).length := by rw [show (itemV a[t]).length = 2 from rfl]; kernel_rfl
        have hsz2 : (Tryz.prog.info? 44).map (·.size) = some (itemV b[t]).length := by rw [show (itemV b[t]).length = 2 from rfl]; kernel_rfl
        rw [hstep] at hok
        have hlti : (t : Int) < (b.length : Int) := by omega
        generalize itemEq a[t] b[t] = r at *
        generalize itemV a[t] = ca1 at *
        generalize itemV b[t] = cb1 at *
        have HR := Lib.hid hok
        clear hok hstep hca hcb hra hrb HX HL
        clear hlta ht
        go_wp2_with fail
        refine wp_region_quiet_lit (by kernel_rfl) (by kernel_rfl) ?_
        go_big_quiet_step (fail)
        go_big_quiet_step (fail)
        go_big_quiet_step (fail)
        refine quiet_exec _ (by rfl) (fun n => exec_load_mid 44 _ rfl ba (oa + t * 2) (by rfl) ca1 _ (rangeAt_drewN hc1 n) Tryz.underlying44 rfl hsz1) ?_
        simp only [Act.put, List.setIfInBounds_toArray, List.set_cons_zero, List.set_cons_succ]
        go_big_quiet_step (fail)
        go_big_quiet_step (fail)
        go_big_quiet_step (fail)
        refine quiet_exec _ (by rfl) (fun n => exec_load_mid 44 _ rfl bb (ob + t * 2) (by rfl) cb1 _ (rangeAt_drewN hc2 n) Tryz.underlying44 rfl hsz2) ?_
        simp only [Act.put, List.setIfInBounds_toArray, List.set_cons_zero, List.set_cons_succ]
        refine quiet_exec _ (by rfl) (fun n => exec_neq rfl (by rfl) (by rfl) guard_item (hneq _)) ?_
        simp only [Act.put, List.setIfInBounds_toArray, List.set_cons_zero, List.set_cons_succ]
        refine wpQuiet_nil ?_
        intro _ hw'
        obtain ⟨nq, hw''⟩ := hw'
        subst hw''
        cases r with
        | true =>
          go_wp2_with fail
          go_roundw
          case rel => exact ⟨t + 1, by omega, by go_num, by rw [HR.out]; rfl, m + nq, rfl⟩
          case measure => simp [intOf]; omega
        | false =>
          have hX : X = false := by rw [HR.out]; rfl
          have HXf := Lib.hid hX
          clear hX
          go_wp2_with fail
          go_ret
          exact ⟨by rw [HXf.out]; rfl, m + nq, World.drewN_drewN _ _ _⟩
      · have htl : t = b.length := by omega
        have hX : X = true := by rw [hok, htl, List.drop_length, ← HL.out, List.drop_length]; rfl
        have HXf := Lib.hid hX
        clear hX hok hra hrb
        go_wp2_with fail
        go_ret
        exact ⟨by rw [HXf.out]; rfl, m, rfl⟩
  · have hX : X = false := hlen hl
    have HXf := Lib.hid hX
    have i1 : ¬ (a.length : Int) = (b.length : Int) := by omega
    clear hX hlen hl
    go_enter Tryz.func16, Tryz.ntmps16
    go_wp2_with fail
    go_ret
    exact ⟨by rw [HXf.out]; rfl, 0, rfl⟩

end Go.Proofs.YtimkklaidodkdaaGreatDoor
