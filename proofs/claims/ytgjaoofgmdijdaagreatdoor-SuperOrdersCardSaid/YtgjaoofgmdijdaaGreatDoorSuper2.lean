/- super.Encode: walked. -/
import Derived.Test.YtgjaoofgmdijdaaGreatDoorSuper1
import Derived.Test.YtgjaoofgmdijdaaGreatDoorLit
namespace Go.Proofs.YtgjaoofgmdijdaaGreatDoor
open Go.RowKit

theorem cast_u32_u64 (n : Nat) (w : World) (h : n < 4294967296) : (convert 22 23 (.int .u32 (n : Int))).run Tryz.prog w = .ok (.int .u64 (n : Int)) w := by
  have hw : IntKind.u64.wrap (n : Int) = (n : Int) := by rw [IntKind.wrap_u64]; omega
  go_simp
theorem conv_hash {pre : List Value} {b : Nat} (w : World) (l : List UInt8) (hl : l.length = 32) (h : RowIs w b 26 (pre ++ bytesV l).toArray) :
    (convert 48 9 (.slice (some ⟨b, pre.length, none⟩) 32 32)).run Tryz.prog w = .ok (.string (strOf l)) w := by
  rw [← hl]
  exact run_convert_bytes_back w _ _ _ ⟨b, pre.length, none⟩ l.length l Tryz.underlying48 Tryz.underlying5 Tryz.underlying9 fun j hj => by
    rw [Addr.add_mid, h.cell]
    simp [bytesV, hj]

set_option maxRecDepth 20000 in
set_option maxHeartbeats 3200000 in
theorem encodeS_calls (s : SupD) (hw : s.wf) (w : World) : Calls Tryz.prog 8 #[.agg (supV s).toArray] w fun e w' => e = .returned (.tuple #[.string (strOf (encS s)), .int .i64 (checkS s)]) ∧ Below w.heap.size w w' := by
  have hchk := fun w' => checkS_calls s w'
  have hsz : (Tryz.prog.info? 26).map (·.size) = some (supV s).toArray.size := by rw [List.size_toArray, supV_length hw.2.2.2]; kernel_rfl
  have hbl := bytesS_length s hw
  have hE : okS s = true → encS s = wholeL (bytesS s) := fun h => by rw [encS, if_pos h]
  have hN : okS s = false → encS s = [] := fun h => by rw [encS, if_neg (by rw [h]; decide)]
  have hC : checkS s = (if okS s then 0 else 4) := rfl
  have hcs0 : (supV s).toArray[0]? = some (.int .u32 (s.size : Int)) := rfl
  have hcs1 : (supV s).toArray[1]? = some (.int .u64 (s.gen : Int)) := rfl
  have hcs2 : (supV s).toArray[2]? = some (.int .u32 (s.table : Int)) := rfl
  obtain ⟨W1, hW1⟩ : ∃ W1, W1 = w.alloc (.cells (supV s).toArray 26) := ⟨_, rfl⟩
  have hG1 : RowIs W1 w.heap.size 26 (supV s).toArray := by rw [hW1]; exact RowIs.new w _ _
  have hb1 : Below w.heap.size w W1 := by rw [hW1]; exact (Below.refl _ _).alloc (Nat.le_refl _) _
  have hby : bytesS s = [67, 66] ++ (beL s.size 4 ++ (beL s.gen 8 ++ (beL s.table 4 ++ s.hash))) := rfl
  have hcsh : (supV s).toArray = (([.int .u32 (s.size : Int), .int .u64 (s.gen : Int), .int .u32 (s.table : Int)] : List Value) ++ bytesV s.hash).toArray := rfl
  obtain ⟨hz, hg, ht, hl32⟩ := hw
  generalize checkS s = C at *
  generalize okS s = K at *
  generalize encS s = E at *
  generalize bytesS s = Bs at *
  obtain ⟨size, gen, table, hash⟩ := s
  simp only [] at hz hg ht hl32 hcs0 hcs1 hcs2 hby hcsh
  generalize (supV ⟨size, gen, table, hash⟩).toArray = cs at *
  have HW1 := Lib.hid hW1
  have HC := Lib.hid hC
  have HE := Lib.hid hE
  have HN := Lib.hid hN
  have Hby := Lib.hid hby
  have Hbl := Lib.hid hbl
  have Hcsh := Lib.hid hcsh
  have Hc0 := Lib.hid hcs0
  have Hc1 := Lib.hid hcs1
  have Hc2 := Lib.hid hcs2
  clear hW1 hC hE hN hby hbl hcsh hcs0 hcs1 hcs2
  go_enter Tryz.func8, Tryz.ntmps8
  go_wp2_with (first | (refine wpList_world HW1.out ?_) | (refine wpList_load_row rfl 26 _ rfl w.heap.size rfl 26 cs (0, 0) _ hG1 Tryz.underlying26 rfl hsz ?_))
  refine (hchk W1).mono ?_
  rintro e wb ⟨rfl, hq⟩
  have hG := hG1.below hq hG1.lt
  have hb := hb1.trans (hq.mono hb1.size)
  clear hq hG1 hb1 hchk
  cases K with
  | false =>
    have hC : C = 4 := HC.out
    subst hC
    obtain rfl := HN.out rfl
    go_wp2_with fail
    go_ret2
    exact ⟨rfl, hb⟩
  | true =>
    have hC : C = 0 := HC.out
    subst hC
    obtain rfl := HE.out rfl
    have hn1 := fun w => snumber_calls size 4 w hz (by decide) (by decide)
    have hn2 := fun w => snumber_calls gen 8 w hg (by decide) (by decide)
    have hn3 := fun w => snumber_calls table 4 w ht (by decide) (by decide)
    rw [show ((4 : Nat) : Int) = 4 from rfl] at hn1 hn3
    rw [show ((8 : Nat) : Int) = 8 from rfl] at hn2
    have s1 := strOf_size (beL size 4)
    have s2 := strOf_size (beL gen 8)
    have s3 := strOf_size (beL table 4)
    have s4 := strOf_size hash
    rw [beL_length] at s1 s2 s3
    rw [hl32] at s4
    have hX : (⟨#[67, 66]⟩ : ByteArray) ++ strOf (beL size 4) ++ strOf (beL gen 8) ++ strOf (beL table 4) ++ strOf hash = strOf Bs := by
      rw [Hby.out]
      apply ByteArray.ext
      apply Array.ext'
      simp [strOf, List.append_assoc]
    have hwh := fun w => whole_calls (strOf Bs) w (by rw [strOf_size, Hbl.out]; decide)
    have hBd : (strOf Bs).data.toList = Bs := rfl
    rw [hBd] at hwh
    have hcs0 := Hc0.out
    have hcs1 := Hc1.out
    have hcs2 := Hc2.out
    clear hBd HC HE HN
    go_wp2_with fail
    refine wp_region_held_drew (S := fun w' => RowIs w' w.heap.size 26 cs) (by kernel_rfl) hG.drew (fun hHeld => ?_)
    have hGcur := hG.drew
    have hbcur : Below w.heap.size w wb.drew := Below.drew hb
    clear hG hb
    generalize wb.drew = wv at *
    refine take_N (i := 0) (v := ?_) (some 10) #[true, false, false, false, false, false, false, false, false, false, false, false, false, false, false, false, false, false, false, false, false] rfl rfl (by kernel_rfl) (by kernel_rfl) (by kernel_rfl) (by kernel_rfl) (fun _ _ _ h => h) hGcur (Or.inl ⟨by rfl, ?_⟩) ?_
    rotate_left
    · intro w_ hSw_; go_simp; try with_reducible rfl
    try simp only [Act.put, List.setIfInBounds_toArray, List.set_cons_zero, List.set_cons_succ]
    refine take_N (i := 1) (v := .int .u32 (size : Int)) (some 11) #[true, true, false, false, false, false, false, false, false, false, false, false, false, false, false, false, false, false, false, false, false] rfl rfl (by kernel_rfl) (by kernel_rfl) (by kernel_rfl) (by kernel_rfl) (fun _ _ _ h => h) hGcur (Or.inl ⟨by rfl, ?_⟩) ?_
    · intro w_ hSw_; exact (by have hcc : w_.cell? ⟨w.heap.size, 0, none⟩ = some (.int .u32 (size : Int)) := (by rw [RowIs.cell hSw_]; exact hcs0); go_simp)
    try simp only [Act.put, List.setIfInBounds_toArray, List.set_cons_zero, List.set_cons_succ]
    refine take_N (i := 2) (v := .int .u64 (size : Int)) (some 12) #[true, true, true, false, false, false, false, false, false, false, false, false, false, false, false, false, false, false, false, false, false] rfl rfl (by kernel_rfl) (by kernel_rfl) (by kernel_rfl) (by kernel_rfl) (fun _ _ _ h => h) hGcur (Or.inl ⟨by rfl, ?_⟩) ?_
    · intro w_ hSw_; exact exec_conv rfl rfl (cast_u32_u64 _ _ hz)
    try simp only [Act.put, List.setIfInBounds_toArray, List.set_cons_zero, List.set_cons_succ]
    refine take_N (i := 5) (v := ?_) (some 15) #[true, true, true, false, false, true, false, false, false, false, false, false, false, false, false, false, false, false, false, false, false] rfl rfl (by kernel_rfl) (by kernel_rfl) (by kernel_rfl) (by kernel_rfl) (fun _ _ _ h => h) hGcur (Or.inl ⟨by rfl, ?_⟩) ?_
    rotate_left
    · intro w_ hSw_; go_simp; try with_reducible rfl
    try simp only [Act.put, List.setIfInBounds_toArray, List.set_cons_zero, List.set_cons_succ]
    refine take_N (i := 6) (v := .int .u64 (gen : Int)) (some 16) #[true, true, true, false, false, true, true, false, false, false, false, false, false, false, false, false, false, false, false, false, false] rfl rfl (by kernel_rfl) (by kernel_rfl) (by kernel_rfl) (by kernel_rfl) (fun _ _ _ h => h) hGcur (Or.inl ⟨by rfl, ?_⟩) ?_
    · intro w_ hSw_; exact (by have hcc : w_.cell? ⟨w.heap.size, 1, none⟩ = some (.int .u64 (gen : Int)) := (by rw [RowIs.cell hSw_]; exact hcs1); go_simp)
    try simp only [Act.put, List.setIfInBounds_toArray, List.set_cons_zero, List.set_cons_succ]
    refine take_N (i := 9) (v := ?_) (some 19) #[true, true, true, false, false, true, true, false, false, true, false, false, false, false, false, false, false, false, false, false, false] rfl rfl (by kernel_rfl) (by kernel_rfl) (by kernel_rfl) (by kernel_rfl) (fun _ _ _ h => h) hGcur (Or.inl ⟨by rfl, ?_⟩) ?_
    rotate_left
    · intro w_ hSw_; go_simp; try with_reducible rfl
    try simp only [Act.put, List.setIfInBounds_toArray, List.set_cons_zero, List.set_cons_succ]
    refine take_N (i := 10) (v := .int .u32 (table : Int)) (some 20) #[true, true, true, false, false, true, true, false, false, true, true, false, false, false, false, false, false, false, false, false, false] rfl rfl (by kernel_rfl) (by kernel_rfl) (by kernel_rfl) (by kernel_rfl) (fun _ _ _ h => h) hGcur (Or.inl ⟨by rfl, ?_⟩) ?_
    · intro w_ hSw_; exact (by have hcc : w_.cell? ⟨w.heap.size, 2, none⟩ = some (.int .u32 (table : Int)) := (by rw [RowIs.cell hSw_]; exact hcs2); go_simp)
    try simp only [Act.put, List.setIfInBounds_toArray, List.set_cons_zero, List.set_cons_succ]
    refine take_N (i := 11) (v := .int .u64 (table : Int)) (some 21) #[true, true, true, false, false, true, true, false, false, true, true, true, false, false, false, false, false, false, false, false, false] rfl rfl (by kernel_rfl) (by kernel_rfl) (by kernel_rfl) (by kernel_rfl) (fun _ _ _ h => h) hGcur (Or.inl ⟨by rfl, ?_⟩) ?_
    · intro w_ hSw_; exact exec_conv rfl rfl (cast_u32_u64 _ _ ht)
    try simp only [Act.put, List.setIfInBounds_toArray, List.set_cons_zero, List.set_cons_succ]
    refine take_N (i := 14) (v := ?_) (some 24) #[true, true, true, false, false, true, true, false, false, true, true, true, false, false, true, false, false, false, false, false, false] rfl rfl (by kernel_rfl) (by kernel_rfl) (by kernel_rfl) (by kernel_rfl) (fun _ _ _ h => h) hGcur (Or.inl ⟨by rfl, ?_⟩) ?_
    rotate_left
    · intro w_ hSw_; go_simp; try with_reducible rfl
    try simp only [Act.put, List.setIfInBounds_toArray, List.set_cons_zero, List.set_cons_succ]
    refine take_N (i := 15) (v := ?_) (some 25) #[true, true, true, false, false, true, true, false, false, true, true, true, false, false, true, true, false, false, false, false, false] rfl rfl (by kernel_rfl) (by kernel_rfl) (by kernel_rfl) (by kernel_rfl) (fun _ _ _ h => h) hGcur (Or.inl ⟨by rfl, ?_⟩) ?_
    rotate_left
    · intro w_ hSw_; go_simp; try with_reducible rfl
    try simp only [Act.put, List.setIfInBounds_toArray, List.set_cons_zero, List.set_cons_succ]
    refine take_N (i := 16) (v := .string (strOf hash)) (some 26) #[true, true, true, false, false, true, true, false, false, true, true, true, false, false, true, true, true, false, false, false, false] rfl rfl (by kernel_rfl) (by kernel_rfl) (by kernel_rfl) (by kernel_rfl) (fun _ _ _ h => h) hGcur (Or.inl ⟨by rfl, ?_⟩) ?_
    · intro w_ hSw_; exact exec_conv rfl rfl (conv_hash (pre := [.int .u32 (size : Int), .int .u64 (gen : Int), .int .u32 (table : Int)]) _ hash hl32 (by rw [← Hcsh.out]; exact hSw_))
    try simp only [Act.put, List.setIfInBounds_toArray, List.set_cons_zero, List.set_cons_succ]
    refine step_N (i := 3) #[true, true, true, true, false, true, true, false, false, true, true, true, false, false, true, true, true, false, false, false, false] rfl (by kernel_rfl) (by kernel_rfl) (fun K hK => ?_)
    rw [if_pos (by rfl)]
    go_simp
    refine (hn1 _).mono ?_
    rintro e wa ⟨rfl, hqwa⟩
    have hGwa := hGcur.below hqwa hGcur.lt
    replace hbcur := hbcur.trans (hqwa.mono hbcur.size)
    clear hGcur hqwa
    have hGcur := hGwa
    clear hGwa
    refine hK.out _ _ hGcur ?_
    clear hK K
    refine take_N (i := 4) (v := ?_) (some 14) #[true, true, true, true, true, true, true, false, false, true, true, true, false, false, true, true, true, false, false, false, false] rfl rfl (by kernel_rfl) (by kernel_rfl) (by kernel_rfl) (by kernel_rfl) (fun _ _ _ h => h) hGcur (Or.inl ⟨by rfl, ?_⟩) ?_
    rotate_left
    · intro w_ hSw_; go_simp; try with_reducible rfl
    try simp only [Act.put, List.setIfInBounds_toArray, List.set_cons_zero, List.set_cons_succ]
    refine step_N (i := 7) #[true, true, true, true, true, true, true, true, false, true, true, true, false, false, true, true, true, false, false, false, false] rfl (by kernel_rfl) (by kernel_rfl) (fun K hK => ?_)
    rw [if_pos (by rfl)]
    go_simp
    refine (hn2 _).mono ?_
    rintro e wb2 ⟨rfl, hqwb2⟩
    have hGwb2 := hGcur.below hqwb2 hGcur.lt
    replace hbcur := hbcur.trans (hqwb2.mono hbcur.size)
    clear hGcur hqwb2
    have hGcur := hGwb2
    clear hGwb2
    refine hK.out _ _ hGcur ?_
    clear hK K
    refine take_N (i := 8) (v := ?_) (some 18) #[true, true, true, true, true, true, true, true, true, true, true, true, false, false, true, true, true, false, false, false, false] rfl rfl (by kernel_rfl) (by kernel_rfl) (by kernel_rfl) (by kernel_rfl) (fun _ _ _ h => h) hGcur (Or.inl ⟨by rfl, ?_⟩) ?_
    rotate_left
    · intro w_ hSw_; go_simp; try with_reducible rfl
    try simp only [Act.put, List.setIfInBounds_toArray, List.set_cons_zero, List.set_cons_succ]
    refine step_N (i := 12) #[true, true, true, true, true, true, true, true, true, true, true, true, true, false, true, true, true, false, false, false, false] rfl (by kernel_rfl) (by kernel_rfl) (fun K hK => ?_)
    rw [if_pos (by rfl)]
    go_simp
    refine (hn3 _).mono ?_
    rintro e wc ⟨rfl, hqwc⟩
    have hGwc := hGcur.below hqwc hGcur.lt
    replace hbcur := hbcur.trans (hqwc.mono hbcur.size)
    clear hGcur hqwc
    have hGcur := hGwc
    clear hGwc
    refine hK.out _ _ hGcur ?_
    clear hK K
    refine take_N (i := 13) (v := ?_) (some 23) #[true, true, true, true, true, true, true, true, true, true, true, true, true, true, true, true, true, false, false, false, false] rfl rfl (by kernel_rfl) (by kernel_rfl) (by kernel_rfl) (by kernel_rfl) (fun _ _ _ h => h) hGcur (Or.inl ⟨by rfl, ?_⟩) ?_
    rotate_left
    · intro w_ hSw_; go_simp; try with_reducible rfl
    try simp only [Act.put, List.setIfInBounds_toArray, List.set_cons_zero, List.set_cons_succ]
    refine take_N (i := 17) (v := ?_) (some 27) #[true, true, true, true, true, true, true, true, true, true, true, true, true, true, true, true, true, true, false, false, false] rfl rfl (by kernel_rfl) (by kernel_rfl) (by kernel_rfl) (by kernel_rfl) (fun _ _ _ h => h) hGcur (Or.inl ⟨by rfl, ?_⟩) ?_
    rotate_left
    · intro w_ hSw_; go_simp; try with_reducible rfl
    try simp only [Act.put, List.setIfInBounds_toArray, List.set_cons_zero, List.set_cons_succ]
    refine step_N (i := 18) #[true, true, true, true, true, true, true, true, true, true, true, true, true, true, true, true, true, true, true, false, false] rfl (by kernel_rfl) (by kernel_rfl) (fun K hK => ?_)
    rw [if_pos (by rfl)]
    go_simp
    refine (hwh _).mono ?_
    rintro e wd ⟨rfl, hqwd⟩
    have hGwd := hGcur.below hqwd hGcur.lt
    replace hbcur := hbcur.trans (hqwd.mono hbcur.size)
    clear hGcur hqwd
    have hGcur := hGwd
    clear hGwd
    refine hK.out _ _ hGcur ?_
    clear hK K
    refine take_N (i := 19) (v := ?_) (some 2) #[true, true, true, true, true, true, true, true, true, true, true, true, true, true, true, true, true, true, true, true, false] rfl rfl (by kernel_rfl) (by kernel_rfl) (by kernel_rfl) (by kernel_rfl) (fun _ _ _ h => h) hGcur (Or.inl ⟨by rfl, ?_⟩) ?_
    rotate_left
    · intro w_ hSw_; go_simp; try with_reducible rfl
    try simp only [Act.put, List.setIfInBounds_toArray, List.set_cons_zero, List.set_cons_succ]
    refine take_N (i := 20) (v := ?_) (some 3) #[true, true, true, true, true, true, true, true, true, true, true, true, true, true, true, true, true, true, true, true, true] rfl rfl (by kernel_rfl) (by kernel_rfl) (by kernel_rfl) (by kernel_rfl) (fun _ _ _ h => h) hGcur (Or.inl ⟨by rfl, ?_⟩) ?_
    rotate_left
    · intro w_ hSw_; go_simp; try with_reducible rfl
    try simp only [Act.put, List.setIfInBounds_toArray, List.set_cons_zero, List.set_cons_succ]
    refine wpAnyH_done (by kernel_rfl) ?_ _
    clear hHeld
    go_wp2_with fail
    go_ret2
    exact ⟨rfl, hbcur⟩

end Go.Proofs.YtgjaoofgmdijdaaGreatDoor
