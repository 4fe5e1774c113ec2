/- The reference's superblocks: Check, Slot, Encode, Decode: walked. -/
import Derived.Test.YtgjaoofgmdijdaaGreatDoorSuper3
import Derived.Test.YtgjaoofgmdijdaaGreatDoorRefBag
namespace Go.Proofs.YtgjaoofgmdijdaaGreatDoor
open Go.RowKit

theorem bg_some_in (t : TkD) (n : Nat) (h : t.bad = false) (hl : n ≤ t.left.length) : bgSome t n = tkSome t n := by
  have ho : tkOut t n = false := by rw [tkOut, h, decide_eq_false (by omega)]; rfl
  rw [bgSome, tkSome, ho]; rfl
theorem rbytes_calls (n k : Nat) (w : World) (hn : n < 18446744073709551616) (hk : k ≤ 8) :
    Calls Tryz.prog 23 #[.int .u64 (n : Int), .int .i64 (k : Int)] w fun e w' => e = .returned (.string (strOf (beL n k))) ∧ Below w.heap.size w w' := refbytes_calls n k w hn hk

set_option maxRecDepth 100000 in
set_option maxHeartbeats 6400000 in
theorem rslot_calls (s : SupD) (w : World) : Calls Tryz.prog 16 #[.agg (supV s).toArray] w fun e w' => e = .returned (.int .i64 ((s.gen % 2 : Nat) : Int)) ∧ Below w.heap.size w w' := by
  have hG := RowIs.new w 26 (supV s).toArray
  have hb : Below w.heap.size w (w.alloc (.cells (supV s).toArray 26)) := (Below.refl _ _).alloc (Nat.le_refl _) _
  obtain ⟨W, hW⟩ : ∃ W, W = w.alloc (.cells (supV s).toArray 26) := ⟨_, rfl⟩
  rw [← hW] at hG hb
  have c1 : W.cell? ⟨w.heap.size, 1, none⟩ = some (.int .u64 (s.gen : Int)) := by rw [hG.cell]; rfl
  have HW := Lib.hid hW
  clear hW hG
  generalize (supV s).toArray = cs at *
  have i1 : (s.gen : Int) % 2 < 2 := by omega
  have i2 : 0 ≤ (s.gen : Int) % 2 := by omega
  have i0 : 0 ≤ (s.gen : Int) := by omega
  go_enter Tryz.func16, Tryz.ntmps16
  go_wp2_with (refine wpList_world HW.out ?_)
  go_ret
  exact ⟨by first | rfl | exact ret_int (by omega), hb⟩

set_option maxRecDepth 100000 in
set_option maxHeartbeats 6400000 in
theorem rcheckS_calls (s : SupD) (w : World) : Calls Tryz.prog 14 #[.agg (supV s).toArray] w fun e w' => e = .returned (.int .i64 (checkS s)) ∧ Below w.heap.size w w' := by
  have hG := RowIs.new w 26 (supV s).toArray
  have hb : Below w.heap.size w (w.alloc (.cells (supV s).toArray 26)) := (Below.refl _ _).alloc (Nat.le_refl _) _
  have hX : checkS s = (if okS s then 0 else 4) := rfl
  have hnot : ∀ (x : Bool) (w : World), (Op.unary .not (.bool x)).run Tryz.prog w = .ok (.bool (!x)) w := fun _ _ => rfl
  have hok : okS s = (decide (16 ≤ s.size) && (decide (s.size ≤ 65536) && (decide (1 ≤ s.gen) && (decide (s.gen ≤ 4611686018427387904) && (decide (2 ≤ s.table) && decide (s.table < s.size)))))) := rfl
  obtain ⟨W, hW⟩ : ∃ W, W = w.alloc (.cells (supV s).toArray 26) := ⟨_, rfl⟩
  rw [← hW] at hG hb
  have c0 : W.cell? ⟨w.heap.size, 0, none⟩ = some (.int .u32 (s.size : Int)) := by rw [hG.cell]; rfl
  have c1 : W.cell? ⟨w.heap.size, 1, none⟩ = some (.int .u64 (s.gen : Int)) := by rw [hG.cell]; rfl
  have c2 : W.cell? ⟨w.heap.size, 2, none⟩ = some (.int .u32 (s.table : Int)) := by rw [hG.cell]; rfl
  generalize checkS s = X at *
  generalize okS s = K at *
  have HW := Lib.hid hW
  have HX := Lib.hid hX
  have HK := Lib.hid hok
  clear hW hX hok hG
  generalize (supV s).toArray = cs at *
  obtain ⟨size, gen, table, hash⟩ := s
  simp only [] at c0 c1 c2 HK
  have no : K = false → X = 4 := fun h => by rw [HX.out, h]; rfl
  go_enter Tryz.func14, Tryz.ntmps14
  by_cases h1 : size < 16
  · have i1 : (size : Int) < 16 := by omega
    have hX := no (by rw [HK.out, decide_eq_false (show ¬ 16 ≤ size by omega)]; rfl)
    clear no
    have HXf := Lib.hid hX
    clear hX
    go_wp2_with (refine wpList_world HW.out ?_)
    go_ret
    exact ⟨by rw [HXf.out]; rfl, hb⟩
  have i1 : ¬ (size : Int) < 16 := by omega
  by_cases h2 : 65536 < size
  · have i2 : (65536 : Int) < (size : Int) := by omega
    have hX := no (by rw [HK.out, decide_eq_false (show ¬ size ≤ 65536 by omega)]; simp)
    clear no
    have HXf := Lib.hid hX
    clear hX
    go_wp2_with (refine wpList_world HW.out ?_)
    go_ret
    exact ⟨by rw [HXf.out]; rfl, hb⟩
  have i2 : ¬ (65536 : Int) < (size : Int) := by omega
  by_cases h3 : gen < 1
  · have i3 : (gen : Int) < 1 := by omega
    have hX := no (by rw [HK.out, decide_eq_false (show ¬ 1 ≤ gen by omega)]; simp)
    clear no
    have HXf := Lib.hid hX
    clear hX
    go_wp2_with (refine wpList_world HW.out ?_)
    go_ret
    exact ⟨by rw [HXf.out]; rfl, hb⟩
  have i3 : ¬ (gen : Int) < 1 := by omega
  by_cases h4 : 4611686018427387904 < gen
  · have i4 : (4611686018427387904 : Int) < (gen : Int) := by omega
    have hX := no (by rw [HK.out, decide_eq_false (show ¬ gen ≤ 4611686018427387904 by omega)]; simp)
    clear no
    have HXf := Lib.hid hX
    clear hX
    go_wp2_with (refine wpList_world HW.out ?_)
    go_ret
    exact ⟨by rw [HXf.out]; rfl, hb⟩
  have i4 : ¬ (4611686018427387904 : Int) < (gen : Int) := by omega
  by_cases h6 : table < 2
  · have i6 : (table : Int) < 2 := by omega
    have hX := no (by rw [HK.out, decide_eq_false (show ¬ 2 ≤ table by omega)]; simp)
    clear no
    have HXf := Lib.hid hX
    clear hX
    go_wp2_with (refine wpList_world HW.out ?_)
    go_ret
    exact ⟨by rw [HXf.out]; rfl, hb⟩
  have i6 : ¬ (table : Int) < 2 := by omega
  by_cases h5 : size ≤ table
  · have i5 : (size : Int) ≤ (table : Int) := by omega
    have hX := no (by rw [HK.out, decide_eq_false (show ¬ table < size by omega)]; simp)
    clear no
    have HXf := Lib.hid hX
    clear hX
    go_wp2_with (refine wpList_world HW.out ?_)
    go_ret
    exact ⟨by rw [HXf.out]; rfl, hb⟩
  · have i5 : ¬ (size : Int) ≤ (table : Int) := by omega
    have hX : X = 0 := by
      rw [HX.out, HK.out, decide_eq_true (show 16 ≤ size by omega), decide_eq_true (show size ≤ 65536 by omega), decide_eq_true (show 1 ≤ gen by omega), decide_eq_true (show gen ≤ 4611686018427387904 by omega), decide_eq_true (show 2 ≤ table by omega), decide_eq_true (show table < size by omega)]; rfl
    have HXf := Lib.hid hX
    clear hX no
    go_wp2_with (refine wpList_world HW.out ?_)
    go_ret
    exact ⟨by rw [HXf.out]; rfl, hb⟩

set_option maxRecDepth 100000 in
set_option maxHeartbeats 6400000 in
theorem rencodeS_calls (s : SupD) (hw : s.wf) (w : World) : Calls Tryz.prog 9 #[.agg (supV s).toArray] w fun e w' => e = .returned (.tuple #[.string (strOf (encS s)), .int .i64 (checkS s)]) ∧ Below w.heap.size w w' := by
  have hchk := fun w' => rcheckS_calls s w'
  have hsz : (Tryz.prog.info? 26).map (·.size) = some (supV s).toArray.size := by rw [List.size_toArray, supV_length hw.2.2.2]; kernel_rfl
  have hbl := bytesS_length s hw
  have hE : okS s = true → encS s = wholeL (bytesS s) := fun h => by rw [encS, if_pos h]
  have hN : okS s = false → encS s = [] := fun h => by rw [encS, if_neg (by rw [h]; decide)]
  have hC : checkS s = (if okS s then 0 else 4) := rfl
  have hcs0 : (supV s).toArray[0]? = some (.int .u32 (s.size : Int)) := rfl
  have hcs1 : (supV s).toArray[1]? = some (.int .u64 (s.gen : Int)) := rfl
  have hcs2 : (supV s).toArray[2]? = some (.int .u32 (s.table : Int)) := rfl
  obtain ⟨W1, hW1⟩ : ∃ W1, W1 = w.alloc (.cells (supV s).toArray 26) := ⟨_, rfl⟩
  have hG1 : RowIs W1 w.heap.size 26 (supV s).toArray := by rw [hW1]; exact RowIs.new w _ _
  have hb1 : Below w.heap.size w W1 := by rw [hW1]; exact (Below.refl _ _).alloc (Nat.le_refl _) _
  have hby : bytesS s = [67, 66] ++ (beL s.size 4 ++ (beL s.gen 8 ++ (beL s.table 4 ++ s.hash))) := rfl
  have hcsh : (supV s).toArray = (([.int .u32 (s.size : Int), .int .u64 (s.gen : Int), .int .u32 (s.table : Int)] : List Value) ++ bytesV s.hash).toArray := rfl
  obtain ⟨hz, hg, ht, hl32⟩ := hw
  generalize checkS s = C at *
  generalize okS s = K at *
  generalize encS s = E at *
  generalize bytesS s = Bs at *
  obtain ⟨size, gen, table, hash⟩ := s
  simp only [] at hz hg ht hl32 hcs0 hcs1 hcs2 hby hcsh
  generalize (supV ⟨size, gen, table, hash⟩).toArray = cs at *
  have HW1 := Lib.hid hW1
  have HC := Lib.hid hC
  have HE := Lib.hid hE
  have HN := Lib.hid hN
  have Hby := Lib.hid hby
  have Hbl := Lib.hid hbl
  have Hcsh := Lib.hid hcsh
  have Hc0 := Lib.hid hcs0
  have Hc1 := Lib.hid hcs1
  have Hc2 := Lib.hid hcs2
  clear hW1 hC hE hN hby hbl hcsh hcs0 hcs1 hcs2
  go_enter Tryz.func9, Tryz.ntmps9
  go_wp2_with (first | (refine wpList_world HW1.out ?_) | (refine wpList_load_row rfl 26 _ rfl w.heap.size rfl 26 cs (0, 0) _ hG1 Tryz.underlying26 rfl hsz ?_))
  refine (hchk W1).mono ?_
  rintro e wb ⟨rfl, hq⟩
  have hG := hG1.below hq hG1.lt
  have hb := hb1.trans (hq.mono hb1.size)
  clear hq hG1 hb1 hchk
  cases K with
  | false =>
    have hC : C = 4 := HC.out
    subst hC
    obtain rfl := HN.out rfl
    go_wp2_with fail
    go_ret2
    exact ⟨rfl, hb⟩
  | true =>
    have hC : C = 0 := HC.out
    subst hC
    obtain rfl := HE.out rfl
    have hn1 := fun w => rbytes_calls size 4 w (by omega) (by decide)
    have hn2 := fun w => rbytes_calls gen 8 w hg (by decide)
    have hn3 := fun w => rbytes_calls table 4 w (by omega) (by decide)
    rw [show ((4 : Nat) : Int) = 4 from rfl] at hn1 hn3
    rw [show ((8 : Nat) : Int) = 8 from rfl] at hn2
    have s1 := strOf_size (beL size 4)
    have s2 := strOf_size (beL gen 8)
    have s3 := strOf_size (beL table 4)
    have s4 := strOf_size hash
    rw [beL_length] at s1 s2 s3
    rw [hl32] at s4
    have hX : (⟨#[67, 66]⟩ : ByteArray) ++ strOf (beL size 4) ++ strOf (beL gen 8) ++ strOf (beL table 4) ++ strOf hash = strOf Bs := by
      rw [Hby.out]
      apply ByteArray.ext
      apply Array.ext'
      simp [strOf, List.append_assoc]
    have hwh := fun w => rwhole_calls (strOf Bs) w (by rw [strOf_size, Hbl.out]; decide)
    have hBd : (strOf Bs).data.toList = Bs := rfl
    rw [hBd] at hwh
    have hcs0 := Hc0.out
    have hcs1 := Hc1.out
    have hcs2 := Hc2.out
    clear hBd HC HE HN
    go_wp2_with fail
    refine wp_region_held_drew (S := fun w' => RowIs w' w.heap.size 26 cs) (by kernel_rfl) hG.drew (fun hHeld => ?_)
    have hGcur := hG.drew
    have hbcur : Below w.heap.size w wb.drew := Below.drew hb
    clear hG hb
    generalize wb.drew = wv at *
    refine take_N (i := 0) (v := ?_) (some 10) #[true, false, false, false, false, false, false, false, false, false, false, false, false, false, false, false, false, false, false, false, false] rfl rfl (by kernel_rfl) (by kernel_rfl) (by kernel_rfl) (by kernel_rfl) (fun _ _ _ h => h) hGcur (Or.inl ⟨by rfl, ?_⟩) ?_
    rotate_left
    · intro w_ hSw_; go_simp; try with_reducible rfl
    try simp only [Act.put, List.setIfInBounds_toArray, List.set_cons_zero, List.set_cons_succ]
    refine take_N (i := 1) (v := .int .u32 (size : Int)) (some 11) #[true, true, false, false, false, false, false, false, false, false, false, false, false, false, false, false, false, false, false, false, false] rfl rfl (by kernel_rfl) (by kernel_rfl) (by kernel_rfl) (by kernel_rfl) (fun _ _ _ h => h) hGcur (Or.inl ⟨by rfl, ?_⟩) ?_
    · intro w_ hSw_; exact (by have hcc : w_.cell? ⟨w.heap.size, 0, none⟩ = some (.int .u32 (size : Int)) := (by rw [RowIs.cell hSw_]; exact hcs0); go_simp)
    try simp only [Act.put, List.setIfInBounds_toArray, List.set_cons_zero, List.set_cons_succ]
    refine take_N (i := 2) (v := .int .u64 (size : Int)) (some 12) #[true, true, true, false, false, false, false, false, false, false, false, false, false, false, false, false, false, false, false, false, false] rfl rfl (by kernel_rfl) (by kernel_rfl) (by kernel_rfl) (by kernel_rfl) (fun _ _ _ h => h) hGcur (Or.inl ⟨by rfl, ?_⟩) ?_
    · intro w_ hSw_; exact exec_conv rfl rfl (cast_u32_u64 _ _ hz)
    try simp only [Act.put, List.setIfInBounds_toArray, List.set_cons_zero, List.set_cons_succ]
    refine take_N (i := 5) (v := ?_) (some 15) #[true, true, true, false, false, true, false, false, false, false, false, false, false, false, false, false, false, false, false, false, false] rfl rfl (by kernel_rfl) (by kernel_rfl) (by kernel_rfl) (by kernel_rfl) (fun _ _ _ h => h) hGcur (Or.inl ⟨by rfl, ?_⟩) ?_
    rotate_left
    · intro w_ hSw_; go_simp; try with_reducible rfl
    try simp only [Act.put, List.setIfInBounds_toArray, List.set_cons_zero, List.set_cons_succ]
    refine take_N (i := 6) (v := .int .u64 (gen : Int)) (some 16) #[true, true, true, false, false, true, true, false, false, false, false, false, false, false, false, false, false, false, false, false, false] rfl rfl (by kernel_rfl) (by kernel_rfl) (by kernel_rfl) (by kernel_rfl) (fun _ _ _ h => h) hGcur (Or.inl ⟨by rfl, ?_⟩) ?_
    · intro w_ hSw_; exact (by have hcc : w_.cell? ⟨w.heap.size, 1, none⟩ = some (.int .u64 (gen : Int)) := (by rw [RowIs.cell hSw_]; exact hcs1); go_simp)
    try simp only [Act.put, List.setIfInBounds_toArray, List.set_cons_zero, List.set_cons_succ]
    refine take_N (i := 9) (v := ?_) (some 19) #[true, true, true, false, false, true, true, false, false, true, false, false, false, false, false, false, false, false, false, false, false] rfl rfl (by kernel_rfl) (by kernel_rfl) (by kernel_rfl) (by kernel_rfl) (fun _ _ _ h => h) hGcur (Or.inl ⟨by rfl, ?_⟩) ?_
    rotate_left
    · intro w_ hSw_; go_simp; try with_reducible rfl
    try simp only [Act.put, List.setIfInBounds_toArray, List.set_cons_zero, List.set_cons_succ]
    refine take_N (i := 10) (v := .int .u32 (table : Int)) (some 20) #[true, true, true, false, false, true, true, false, false, true, true, false, false, false, false, false, false, false, false, false, false] rfl rfl (by kernel_rfl) (by kernel_rfl) (by kernel_rfl) (by kernel_rfl) (fun _ _ _ h => h) hGcur (Or.inl ⟨by rfl, ?_⟩) ?_
    · intro w_ hSw_; exact (by have hcc : w_.cell? ⟨w.heap.size, 2, none⟩ = some (.int .u32 (table : Int)) := (by rw [RowIs.cell hSw_]; exact hcs2); go_simp)
    try simp only [Act.put, List.setIfInBounds_toArray, List.set_cons_zero, List.set_cons_succ]
    refine take_N (i := 11) (v := .int .u64 (table : Int)) (some 21) #[true, true, true, false, false, true, true, false, false, true, true, true, false, false, false, false, false, false, false, false, false] rfl rfl (by kernel_rfl) (by kernel_rfl) (by kernel_rfl) (by kernel_rfl) (fun _ _ _ h => h) hGcur (Or.inl ⟨by rfl, ?_⟩) ?_
    · intro w_ hSw_; exact exec_conv rfl rfl (cast_u32_u64 _ _ ht)
    try simp only [Act.put, List.setIfInBounds_toArray, List.set_cons_zero, List.set_cons_succ]
    refine take_N (i := 14) (v := ?_) (some 24) #[true, true, true, false, false, true, true, false, false, true, true, true, false, false, true, false, false, false, false, false, false] rfl rfl (by kernel_rfl) (by kernel_rfl) (by kernel_rfl) (by kernel_rfl) (fun _ _ _ h => h) hGcur (Or.inl ⟨by rfl, ?_⟩) ?_
    rotate_left
    · intro w_ hSw_; go_simp; try with_reducible rfl
    try simp only [Act.put, List.setIfInBounds_toArray, List.set_cons_zero, List.set_cons_succ]
    refine take_N (i := 15) (v := ?_) (some 25) #[true, true, true, false, false, true, true, false, false, true, true, true, false, false, true, true, false, false, false, false, false] rfl rfl (by kernel_rfl) (by kernel_rfl) (by kernel_rfl) (by kernel_rfl) (fun _ _ _ h => h) hGcur (Or.inl ⟨by rfl, ?_⟩) ?_
    rotate_left
    · intro w_ hSw_; go_simp; try with_reducible rfl
    try simp only [Act.put, List.setIfInBounds_toArray, List.set_cons_zero, List.set_cons_succ]
    refine take_N (i := 16) (v := .string (strOf hash)) (some 26) #[true, true, true, false, false, true, true, false, false, true, true, true, false, false, true, true, true, false, false, false, false] rfl rfl (by kernel_rfl) (by kernel_rfl) (by kernel_rfl) (by kernel_rfl) (fun _ _ _ h => h) hGcur (Or.inl ⟨by rfl, ?_⟩) ?_
    · intro w_ hSw_; exact exec_conv rfl rfl (conv_hash (pre := [.int .u32 (size : Int), .int .u64 (gen : Int), .int .u32 (table : Int)]) _ hash hl32 (by rw [← Hcsh.out]; exact hSw_))
    try simp only [Act.put, List.setIfInBounds_toArray, List.set_cons_zero, List.set_cons_succ]
    refine step_N (i := 3) #[true, true, true, true, false, true, true, false, false, true, true, true, false, false, true, true, true, false, false, false, false] rfl (by kernel_rfl) (by kernel_rfl) (fun K hK => ?_)
    rw [if_pos (by rfl)]
    go_simp
    refine (hn1 _).mono ?_
    rintro e wa ⟨rfl, hqwa⟩
    have hGwa := hGcur.below hqwa hGcur.lt
    replace hbcur := hbcur.trans (hqwa.mono hbcur.size)
    clear hGcur hqwa
    have hGcur := hGwa
    clear hGwa
    refine hK.out _ _ hGcur ?_
    clear hK K
    refine take_N (i := 4) (v := ?_) (some 14) #[true, true, true, true, true, true, true, false, false, true, true, true, false, false, true, true, true, false, false, false, false] rfl rfl (by kernel_rfl) (by kernel_rfl) (by kernel_rfl) (by kernel_rfl) (fun _ _ _ h => h) hGcur (Or.inl ⟨by rfl, ?_⟩) ?_
    rotate_left
    · intro w_ hSw_; go_simp; try with_reducible rfl
    try simp only [Act.put, List.setIfInBounds_toArray, List.set_cons_zero, List.set_cons_succ]
    refine step_N (i := 7) #[true, true, true, true, true, true, true, true, false, true, true, true, false, false, true, true, true, false, false, false, false] rfl (by kernel_rfl) (by kernel_rfl) (fun K hK => ?_)
    rw [if_pos (by rfl)]
    go_simp
    refine (hn2 _).mono ?_
    rintro e wb2 ⟨rfl, hqwb2⟩
    have hGwb2 := hGcur.below hqwb2 hGcur.lt
    replace hbcur := hbcur.trans (hqwb2.mono hbcur.size)
    clear hGcur hqwb2
    have hGcur := hGwb2
    clear hGwb2
    refine hK.out _ _ hGcur ?_
    clear hK K
    refine take_N (i := 8) (v := ?_) (some 18) #[true, true, true, true, true, true, true, true, true, true, true, true, false, false, true, true, true, false, false, false, false] rfl rfl (by kernel_rfl) (by kernel_rfl) (by kernel_rfl) (by kernel_rfl) (fun _ _ _ h => h) hGcur (Or.inl ⟨by rfl, ?_⟩) ?_
    rotate_left
    · intro w_ hSw_; go_simp; try with_reducible rfl
    try simp only [Act.put, List.setIfInBounds_toArray, List.set_cons_zero, List.set_cons_succ]
    refine step_N (i := 12) #[true, true, true, true, true, true, true, true, true, true, true, true, true, false, true, true, true, false, false, false, false] rfl (by kernel_rfl) (by kernel_rfl) (fun K hK => ?_)
    rw [if_pos (by rfl)]
    go_simp
    refine (hn3 _).mono ?_
    rintro e wc ⟨rfl, hqwc⟩
    have hGwc := hGcur.below hqwc hGcur.lt
    replace hbcur := hbcur.trans (hqwc.mono hbcur.size)
    clear hGcur hqwc
    have hGcur := hGwc
    clear hGwc
    refine hK.out _ _ hGcur ?_
    clear hK K
    refine take_N (i := 13) (v := ?_) (some 23) #[true, true, true, true, true, true, true, true, true, true, true, true, true, true, true, true, true, false, false, false, false] rfl rfl (by kernel_rfl) (by kernel_rfl) (by kernel_rfl) (by kernel_rfl) (fun _ _ _ h => h) hGcur (Or.inl ⟨by rfl, ?_⟩) ?_
    rotate_left
    · intro w_ hSw_; go_simp; try with_reducible rfl
    try simp only [Act.put, List.setIfInBounds_toArray, List.set_cons_zero, List.set_cons_succ]
    refine take_N (i := 17) (v := ?_) (some 27) #[true, true, true, true, true, true, true, true, true, true, true, true, true, true, true, true, true, true, false, false, false] rfl rfl (by kernel_rfl) (by kernel_rfl) (by kernel_rfl) (by kernel_rfl) (fun _ _ _ h => h) hGcur (Or.inl ⟨by rfl, ?_⟩) ?_
    rotate_left
    · intro w_ hSw_; go_simp; try with_reducible rfl
    try simp only [Act.put, List.setIfInBounds_toArray, List.set_cons_zero, List.set_cons_succ]
    refine step_N (i := 18) #[true, true, true, true, true, true, true, true, true, true, true, true, true, true, true, true, true, true, true, false, false] rfl (by kernel_rfl) (by kernel_rfl) (fun K hK => ?_)
    rw [if_pos (by rfl)]
    go_simp
    refine (hwh _).mono ?_
    rintro e wd ⟨rfl, hqwd⟩
    have hGwd := hGcur.below hqwd hGcur.lt
    replace hbcur := hbcur.trans (hqwd.mono hbcur.size)
    clear hGcur hqwd
    have hGcur := hGwd
    clear hGwd
    refine hK.out _ _ hGcur ?_
    clear hK K
    refine take_N (i := 19) (v := ?_) (some 2) #[true, true, true, true, true, true, true, true, true, true, true, true, true, true, true, true, true, true, true, true, false] rfl rfl (by kernel_rfl) (by kernel_rfl) (by kernel_rfl) (by kernel_rfl) (fun _ _ _ h => h) hGcur (Or.inl ⟨by rfl, ?_⟩) ?_
    rotate_left
    · intro w_ hSw_; go_simp; try with_reducible rfl
    try simp only [Act.put, List.setIfInBounds_toArray, List.set_cons_zero, List.set_cons_succ]
    refine take_N (i := 20) (v := ?_) (some 3) #[true, true, true, true, true, true, true, true, true, true, true, true, true, true, true, true, true, true, true, true, true] rfl rfl (by kernel_rfl) (by kernel_rfl) (by kernel_rfl) (by kernel_rfl) (fun _ _ _ h => h) hGcur (Or.inl ⟨by rfl, ?_⟩) ?_
    rotate_left
    · intro w_ hSw_; go_simp; try with_reducible rfl
    try simp only [Act.put, List.setIfInBounds_toArray, List.set_cons_zero, List.set_cons_succ]
    refine wpAnyH_done (by kernel_rfl) ?_ _
    clear hHeld
    go_wp2_with fail
    go_ret2
    exact ⟨rfl, hbcur⟩

set_option maxRecDepth 100000 in
set_option maxHeartbeats 6400000 in
theorem rdecodeS_calls (s : ByteArray) (w : World) (hs : s.size ≤ 140737488351232) :
    Calls Tryz.prog 11 #[.string s] w fun e w' => e = .returned (.tuple #[.agg (supV (supL s.data.toList)).toArray, .int .i64 (decES s.data.toList)]) ∧ Below w.heap.size w w' := by
  have hlen : s.data.toList.length = s.size := Array.length_toList
  have hno : ¬ decOkS s.data.toList → ∀ (e : Ending) (w' : World), e = Ending.returned (.tuple #[.agg supZ, .int .i64 9]) → Below w.heap.size w w' → (e = Ending.returned (.tuple #[.agg (supV (supL s.data.toList)).toArray, .int .i64 (decES s.data.toList)]) ∧ Below w.heap.size w w') := by
    intro h e w' he hb
    exact ⟨by rw [he, decES, if_neg h, supL, if_neg h]; rfl, hb⟩
  have hszZ : (Tryz.prog.info? 26).map (·.size) = some supZ.size := by kernel_rfl
  obtain ⟨W1, hW1⟩ : ∃ W1, W1 = w.alloc (.cells supZ 26) := ⟨_, rfl⟩
  have hP : RowIs W1 w.heap.size 26 supZ := by rw [hW1]; exact RowIs.new w _ _
  have hb1 : Below w.heap.size w W1 := by rw [hW1]; exact (Below.refl _ _).alloc (Nat.le_refl _) _
  have hZ35 : supZ.size = 35 := rfl
  have HW1 := Lib.hid hW1
  have Hno := Lib.hid hno
  clear hW1 hno
  generalize hPP : w.heap.size = PB at *
  by_cases hl : 512 < s.size
  · have i1 : (512 : Int) < (s.size : Int) := by omega
    have hbad : ¬ decOkS s.data.toList := fun h => by have := h.1; omega
    have HN := Lib.hid hbad
    have hthere7 := hP.there 0 supZ.size (by omega)
    have hst1 := store_row hP (D := supZ) rfl
    have hsb1 := setCells_below PB PB (Nat.le_refl _) supZ.toList 0 _ _ hb1
    have HH := Lib.hid (And.intro hst1 hsb1)
    clear hlen hbad hst1 hsb1 hP hZ35
    go_enter Tryz.func11, Tryz.ntmps11
    go_wp2_with (first | (refine wpList_world HW1.out ?_) | (refine wpList_build_eqS rfl 26 [] rfl supZ built_sup0 ?_) | (refine wpList_store_mid rfl 26 _ _ rfl PB 0 supZ rfl rfl hthere7 hszZ (supV_one zeroS) ?_))
    refine bodyPost_ret (v := .tuple #[.agg supZ, .int .i64 9]) (results_cell_tmp (p := 2) (q := 3) (ty := 26) (by rfl) _ _ PB 26 supZ (0, 0) _ (by rfl) HH.out.1 Tryz.underlying26 (by rfl) hszZ) (by rfl) ?_
    exact Hno.out HN.out _ _ rfl HH.out.2
  · have i1 : ¬ (512 : Int) < (s.size : Int) := by omega
    have hfil := fun w' => rfilled_calls s w' (by omega)
    have hpl := padTo_length 512 s.data.toList (by omega)
    have hfs := strOf_size (padTo 512 s.data.toList)
    rw [hpl] at hfs
    have hext : strOf (startS s.data.toList).left = (strOf (padTo 512 s.data.toList)).extract 6 512 := by
      have := strOf_drop (padTo 512 s.data.toList) 6
      rw [hfs] at this
      exact this.symm
    have hll := startS_left s.data.toList (by omega)
    have hbf : (startS s.data.toList).bad = false := rfl
    have hdec : decOkS s.data.toList ↔ okS (takeS (startS s.data.toList)) = true ∧ encS (takeS (startS s.data.toList)) = s.data.toList := ⟨fun h => h.2, fun h => ⟨by omega, h⟩⟩
    have hyes : decOkS s.data.toList → ∀ (e : Ending) (w' : World), e = Ending.returned (.tuple #[.agg (supV (takeS (startS s.data.toList))).toArray, .int .i64 0]) → Below PB w w' → (e = Ending.returned (.tuple #[.agg (supV (supL s.data.toList)).toArray, .int .i64 (decES s.data.toList)]) ∧ Below PB w w') := by
      intro h e w' he hb
      exact ⟨by rw [he, decES, if_pos h, supL, if_pos h], hb⟩
    have hTk : ∀ w b, BgAt w b (startS s.data.toList) ↔ RowIs w b 59 #[.string (strOf (startS s.data.toList).left), .bool false] := fun w b => Iff.rfl
    generalize startS s.data.toList = T0 at *
    generalize strOf (padTo 512 s.data.toList) = F at *
    have k1 := tk_left T0 4 hbf (by omega)
    have k2 := tk_left (tkNext T0 4) 8 k1.1 (by omega)
    have k3 := tk_left (tkNext (tkNext T0 4) 8) 4 k2.1 (by omega)
    have k4 := tk_left (tkNext (tkNext (tkNext T0 4) 8) 4) 32 k3.1 (by omega)
    have hts : takeS T0 = ⟨numT T0 4, numT (tkNext T0 4) 8, numT (tkNext (tkNext T0 4) 8) 4, tkSome (tkNext (tkNext (tkNext T0 4) 8) 4) 32⟩ := by
      rw [takeS]
      congr 1
      rw [hashT, padTo, k4.2.2]; simp
    have hn1 := fun b w h => bgnumber_calls b T0 4 w h (by decide) (by decide)
    have hn2 := fun b w h => bgnumber_calls b (tkNext T0 4) 8 w h (by decide) (by decide)
    have hn3 := fun b w h => bgnumber_calls b (tkNext (tkNext T0 4) 8) 4 w h (by decide) (by decide)
    have hso := fun b w h => bgsome_calls b (tkNext (tkNext (tkNext T0 4) 8) 4) 32 w h (by decide)
    rw [bg_some_in _ _ k3.1 (by omega)] at hso
    rw [show ((4 : Nat) : Int) = 4 from rfl] at hn1 hn3
    rw [show ((8 : Nat) : Int) = 8 from rfl] at hn2
    rw [show ((32 : Nat) : Int) = 32 from rfl] at hso
    have lt1 := numT_lt T0 4
    have lt3 := numT_lt (tkNext (tkNext T0 4) 8) 4
    have hH32 := k4.2.2
    have hwfS := takeS_wf T0
    rw [hts] at hwfS hdec hyes
    have hen := fun w => rencodeS_calls ⟨numT T0 4, numT (tkNext T0 4) 8, numT (tkNext (tkNext T0 4) 8) 4, tkSome (tkNext (tkNext (tkNext T0 4) 8) 4) 32⟩ hwfS w
    have hck : checkS ⟨numT T0 4, numT (tkNext T0 4) 8, numT (tkNext (tkNext T0 4) 8) 4, tkSome (tkNext (tkNext (tkNext T0 4) 8) 4) 32⟩ = (if okS ⟨numT T0 4, numT (tkNext T0 4) 8, numT (tkNext (tkNext T0 4) 8) 4, tkSome (tkNext (tkNext (tkNext T0 4) 8) 4) 32⟩ then 0 else 4) := rfl
    generalize numT T0 4 = na at *
    generalize numT (tkNext T0 4) 8 = ng at *
    generalize numT (tkNext (tkNext T0 4) 8) 4 = nt at *
    generalize tkNext (tkNext (tkNext T0 4) 8) 4 = T3 at *
    generalize tkNext (tkNext T0 4) 8 = T2 at *
    generalize tkNext T0 4 = T1 at *
    have hHl : (strOf (tkSome T3 32)).size = 32 := by rw [strOf_size, hH32]
    have hHd : (strOf (tkSome T3 32)).data.toList = tkSome T3 32 := rfl
    generalize tkSome T3 32 = hh at *
    generalize tkNext T3 32 = T4 at *
    have Hhd := Lib.hid hHd
    have HH32 := Lib.hid hH32
    generalize strOf hh = HS at *
    have Hyes := Lib.hid hyes
    have Hdec := Lib.hid hdec
    have Hck := Lib.hid hck
    have Hext := Lib.hid hext
    have hwa : IntKind.u32.wrap (na : Int) = (na : Int) := by rw [IntKind.wrap_u32]; omega
    have hwt : IntKind.u32.wrap (nt : Int) = (nt : Int) := by rw [IntKind.wrap_u32]; omega
    clear hyes hdec hpl hlen hts hext hck k1 k2 k3 k4 hll hbf lt1 lt3 hHd hH32 hwfS
    go_enter Tryz.func11, Tryz.ntmps11
    go_wp2_with (refine wpList_world HW1.out ?_)
    refine (hfil W1).mono ?_
    rintro e w2 ⟨rfl, hb2⟩
    have hP2 := hP.below hb2 hP.lt
    have hbw2 := hb1.trans (hb2.mono (Nat.le_of_lt hP.lt))
    clear hb2 hfil hP hb1
    obtain ⟨W3, hW3⟩ : ∃ W3, W3 = w2.alloc (.cells #[.string (F.extract 6 512), .bool false] 59) := ⟨_, rfl⟩
    have hT3 : BgAt W3 w2.heap.size T0 := by rw [hTk, hW3, Hext.out]; exact RowIs.new w2 _ _
    have hP3 := hP2.alloc (.cells #[.string (F.extract 6 512), .bool false] 59)
    have hb3 : Below PB w W3 := by rw [hW3]; exact hbw2.alloc (Nat.le_of_lt hP2.lt) _
    rw [← hW3] at hP3
    have hPB : PB < w2.heap.size := hP2.lt
    have HW3 := Lib.hid hW3
    clear hW3 hbw2 hP2
    go_wp2_with fail
    rw [← HW3.out]
    generalize w2.heap.size = TB at *
    have hPT : PB ≠ TB := Nat.ne_of_lt hPB
    refine (hn1 TB W3 hT3).mono ?_
    rintro e w4 ⟨rfl, hT4, hq⟩
    have hP4 := hP3.but hq hPT
    have hb4 := hb3.trans (hq.below (Nat.le_of_lt hPB) (Nat.le_of_lt hP3.lt))
    clear hq hn1 hT3 hP3 hb3
    go_wp2_with fail
    refine (hn2 TB w4 hT4).mono ?_
    rintro e w5 ⟨rfl, hT5, hq⟩
    have hP5 := hP4.but hq hPT
    have hb5 := hb4.trans (hq.below (Nat.le_of_lt hPB) (Nat.le_of_lt hP4.lt))
    clear hq hn2 hT4 hP4 hb4
    go_wp2_with fail
    refine (hn3 TB w5 hT5).mono ?_
    rintro e w6 ⟨rfl, hT6, hq⟩
    have hP6 := hP5.but hq hPT
    have hb6 := hb5.trans (hq.below (Nat.le_of_lt hPB) (Nat.le_of_lt hP5.lt))
    have hs6 : PB ≤ w6.heap.size := Nat.le_of_lt hP6.lt
    clear hq hn3 hT5 hP5 hb5
    obtain ⟨W7, W8, hW7, hW8, hN8, hb8, hthere8⟩ := alloc_fill w6 supZ (supV ⟨na, ng, nt, List.replicate 32 0⟩).toArray 26 (by rw [List.size_toArray, supV_length rfl]; rfl)
    have hP8 := hP6.below hb8 hP6.lt
    have hT8 : BgAt W8 TB T3 := RowIs.below hT6 hb8 (RowIs.lt hT6)
    have hbt8 := hb6.trans (hb8.mono hs6)
    have hPN : PB ≠ w6.heap.size := Nat.ne_of_lt hP6.lt
    have hTN : TB ≠ w6.heap.size := Nat.ne_of_lt (RowIs.lt hT6)
    have hsz8 : (Tryz.prog.info? 26).map (·.size) = some (supV ⟨na, ng, nt, List.replicate 32 0⟩).toArray.size := by rw [List.size_toArray, supV_length rfl]; kernel_rfl
    have hone8 := supV_one ⟨na, ng, nt, List.replicate 32 0⟩
    have hb0 := built_sup (na : Int) (ng : Int) (nt : Int)
    have hb0' : Tryz.prog.built 26 [(0, .int .u32 (na : Int)), (1, .int .u64 (ng : Int)), (2, .int .u32 (nt : Int))] = some (supV ⟨na, ng, nt, List.replicate 32 0⟩).toArray := hb0
    have HW7 := Lib.hid hW7
    have HW8 := Lib.hid hW8
    have HB0 := Lib.hid hb0'
    have hcopied := fun w' (h : RowIs w' w6.heap.size 26 (supV ⟨na, ng, nt, List.replicate 32 0⟩).toArray) => sup_copied (h := hh) h HH32.out
    have hsup3 : (supV ⟨na, ng, nt, List.replicate 32 0⟩).toArray.size = 35 := by rw [List.size_toArray, supV_length rfl]
    have hby8 : ∀ j, j < 32 → ((supV ⟨na, ng, nt, List.replicate 32 0⟩).toArray[3 + j]?).isSome = true := fun j hj => by rw [Array.getElem?_eq_getElem (by rw [hsup3]; omega)]; rfl
    clear hW7 hW8 hb0 hb0' hT6 hP6 hb6 hb8
    generalize (supV ⟨na, ng, nt, List.replicate 32 0⟩).toArray = C8 at *
    go_wp2_with (first | (refine wpList_world HW7.out ?_) | (refine wpList_build_eqS rfl 26 [(0, .tmp 19), (1, .tmp 21), (2, .tmp 24)] rfl C8 (by exact HB0.out) ?_) | (refine wpList_store_mid rfl 26 _ _ rfl w6.heap.size 0 C8 rfl rfl hthere8 hsz8 hone8 ?_; refine wpList_world HW8.out ?_))
    try rw [← HW8.out]
    generalize w6.heap.size = NB at *
    refine wp_region_held_drew (S := fun _ => True) (by kernel_rfl) trivial (fun hHeld => ?_)
    have hTv := RowIs.drew hT8
    have hNv := RowIs.drew hN8
    have hPv := RowIs.drew hP8
    have hBv : Below PB w W8.drew := Below.drew hbt8
    clear hT8 hN8 hP8 hbt8
    generalize W8.drew = wv at *
    refine take_N (i := 0) (v := ?_) (some 26) #[true, false, false, false, false] rfl rfl (by kernel_rfl) (by kernel_rfl) (by kernel_rfl) (by kernel_rfl) (fun _ _ _ h => h) trivial (Or.inl ⟨by rfl, ?_⟩) ?_
    rotate_left
    · intro w_ hSw_; go_simp; try with_reducible rfl
    try simp only [Act.put, List.setIfInBounds_toArray, List.set_cons_zero, List.set_cons_succ]
    refine take_N (i := 1) (v := ?_) (some 27) #[true, true, false, false, false] rfl rfl (by kernel_rfl) (by kernel_rfl) (by kernel_rfl) (by kernel_rfl) (fun _ _ _ h => h) trivial (Or.inl ⟨by rfl, ?_⟩) ?_
    rotate_left
    · intro w_ hSw_; go_simp; try with_reducible rfl
    try simp only [Act.put, List.setIfInBounds_toArray, List.set_cons_zero, List.set_cons_succ]
    refine take_N (i := 2) (v := ?_) (some 28) #[true, true, true, false, false] rfl rfl (by kernel_rfl) (by kernel_rfl) (by kernel_rfl) (by kernel_rfl) (fun _ _ _ h => h) trivial (Or.inl ⟨by rfl, ?_⟩) ?_
    rotate_left
    · intro w_ hSw_; go_simp; try with_reducible rfl
    try simp only [Act.put, List.setIfInBounds_toArray, List.set_cons_zero, List.set_cons_succ]
    refine step_N (i := 3) #[true, true, true, true, false] rfl (by kernel_rfl) (by kernel_rfl) (fun K hK => ?_)
    rw [if_pos (by rfl)]
    go_simp
    refine (hso TB wv hTv).mono ?_
    rintro e w9 ⟨rfl, hT9, hq⟩
    have hN9 := hNv.but hq hTN.symm
    have hP9 := hPv.but hq hPT
    have hb9 := hBv.trans (hq.below (Nat.le_of_lt hPB) (Nat.le_of_lt hPv.lt))
    clear hq hTv hNv hPv hBv hso
    refine hK.out _ _ trivial ?_
    clear hK K
    refine step_N (i := 4) #[true, true, true, true, true] rfl (by kernel_rfl) (by kernel_rfl) (fun K hK => ?_)
    refine step_copy_string rfl _ _ 48 9 rfl 5 Tryz.underlying48 Tryz.sizeOf5 NB 3 32 32 (by rfl) HS (by rfl) (by omega) (fun j hj => by rw [hN9.cell]; exact hby8 j (by omega)) (fun j _ => hN9.free _) ?_
    have hN10 := hcopied w9 hN9
    rw [← Hhd.out] at hN10
    have hP10 : RowIs (w9.setCells NB 3 (HS.data.toList.map fun x => Value.int .u8 (x.toNat : Int))) PB 26 supZ := (setCells_other NB PB hPN _ 3 w9).trans hP9
    have hb10 := setCells_below NB PB (by omega) (HS.data.toList.map fun x => Value.int .u8 (x.toNat : Int)) 3 _ _ hb9
    generalize w9.setCells NB 3 (HS.data.toList.map fun x => Value.int .u8 (x.toNat : Int)) = w10 at *
    rw [Hhd.out] at hN10
    clear hcopied hN9 hP9 hb9 hT9
    refine hK.out _ _ trivial ?_
    clear hK K
    refine wpAnyH_done (by kernel_rfl) ?_ _
    clear hHeld
    have hszS : (Tryz.prog.info? 26).map (·.size) = some (supV ⟨na, ng, nt, hh⟩).toArray.size := by rw [List.size_toArray, supV_length HH32.out]; kernel_rfl
    have honeS := supV_one ⟨na, ng, nt, hh⟩
    have hsizeS : (supV ⟨na, ng, nt, hh⟩).toArray.size = 35 := by rw [List.size_toArray, supV_length HH32.out]
    generalize hokg : okS ⟨na, ng, nt, hh⟩ = OK at *
    generalize hckg : checkS ⟨na, ng, nt, hh⟩ = CK at *
    generalize heng : encS ⟨na, ng, nt, hh⟩ = EN at *
    generalize (supV ⟨na, ng, nt, hh⟩).toArray = CS at *
    go_wp2_with (refine wpList_load_row rfl 26 _ rfl NB rfl 26 CS (0, 0) _ hN10 Tryz.underlying26 rfl hszS ?_)
    refine (hen w10).mono ?_
    rintro e w11 ⟨rfl, hq⟩
    have hP11 := hP10.below hq hP10.lt
    have hN11 := hN10.below hq hN10.lt
    have hb11 := hb10.trans (hq.mono (Nat.le_of_lt hP10.lt))
    have hthere7 := hP11.there 0 supZ.size (by omega)
    have htherS := hP11.there 0 CS.size (by omega)
    have hst9 := store_row hP11 (D := supZ) rfl
    have hsb9 := setCells_below PB PB (Nat.le_refl _) supZ.toList 0 _ _ hb11
    have hstN := store_row hP11 (D := CS) (by rw [hsizeS, hZ35])
    have hsbN := setCells_below PB PB (Nat.le_refl _) CS.toList 0 _ _ hb11
    clear hq hN10 hP10 hb10 hen hP11 hb11 hsizeS
    have e2 : (strOf EN).data.toList = EN := rfl
    have hE : ((strOf EN).toList == s.toList) = decide (EN = s.data.toList) := by
      rw [ByteArray.toList_eq, ByteArray.toList_eq]
      rw [Bool.eq_iff_iff]; simp [e2]
    clear e2
    generalize strOf EN = ES at *
    cases OK with
    | false =>
      have HN := Lib.hid (show ¬ decOkS s.data.toList from fun h => by have := (Hdec.out.1 h).1; cases this)
      have hC : CK = 4 := Hck.out
      subst hC
      have HH := Lib.hid (And.intro hst9 hsb9)
      clear hE hstN hsbN hst9 hsb9 htherS
      go_wp2_with (first | (refine wpList_build_eqS rfl 26 [] rfl supZ built_sup0 ?_) | (refine wpList_store_mid rfl 26 _ _ rfl PB 0 supZ rfl rfl hthere7 hszZ (supV_one zeroS) ?_))
      refine bodyPost_ret (v := .tuple #[.agg supZ, .int .i64 9]) (results_cell_tmp (p := 2) (q := 3) (ty := 26) (by rfl) _ _ PB 26 supZ (0, 0) _ (by rfl) HH.out.1 Tryz.underlying26 (by rfl) hszZ) (by rfl) ?_
      exact Hno.out HN.out _ _ rfl HH.out.2
    | true =>
      have hC : CK = 0 := Hck.out
      subst hC
      by_cases hq : EN = s.data.toList
      · rw [decide_eq_true hq] at hE
        have hne : (ES.toList != s.toList) = false := by rw [bne, hE]; rfl
        have HN := Lib.hid (Hdec.out.2 ⟨rfl, hq⟩)
        have HH := Lib.hid (And.intro hstN hsbN)
        clear hq hst9 hsb9 hstN hsbN hthere7
        go_wp2_with (first | (refine wpList_store_mid rfl 26 _ _ rfl PB 0 CS rfl rfl htherS hszS honeS ?_) | (refine wpList_load_row rfl 26 _ rfl NB rfl 26 CS (0, 0) _ hN11 Tryz.underlying26 rfl hszS ?_))
        refine bodyPost_ret (v := .tuple #[.agg CS, .int .i64 0]) (results_cell_tmp (p := 2) (q := 3) (ty := 26) (by rfl) _ _ PB 26 CS (0, 0) _ (by rfl) HH.out.1 Tryz.underlying26 (by rfl) hszS) (by rfl) ?_
        exact Hyes.out HN.out _ _ rfl HH.out.2
      · rw [decide_eq_false hq] at hE
        have hne : (ES.toList != s.toList) = true := by rw [bne, hE]; rfl
        have HN := Lib.hid (show ¬ decOkS s.data.toList from fun h => hq (Hdec.out.1 h).2)
        have HH := Lib.hid (And.intro hst9 hsb9)
        clear hq hstN hsbN hst9 hsb9 htherS
        go_wp2_with (first | (refine wpList_build_eqS rfl 26 [] rfl supZ built_sup0 ?_) | (refine wpList_store_mid rfl 26 _ _ rfl PB 0 supZ rfl rfl hthere7 hszZ (supV_one zeroS) ?_))
        refine bodyPost_ret (v := .tuple #[.agg supZ, .int .i64 9]) (results_cell_tmp (p := 2) (q := 3) (ty := 26) (by rfl) _ _ PB 26 supZ (0, 0) _ (by rfl) HH.out.1 Tryz.underlying26 (by rfl) hszZ) (by rfl) ?_
        exact Hno.out HN.out _ _ rfl HH.out.2

end Go.Proofs.YtgjaoofgmdijdaaGreatDoor
