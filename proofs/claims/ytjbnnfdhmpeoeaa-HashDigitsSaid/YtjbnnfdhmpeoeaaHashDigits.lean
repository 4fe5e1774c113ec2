/- HashDigits: digits are 64, each of 0 to 9 and a to f; with one that is none they are no hash's: walked. -/
import Derived.Test.YtjbnnfdhmpeoeaaHashOrder
import Derived.Test.YtjbnnfdhmpeoeaaRegion2
namespace Go.Proofs.Ytjbnnfdhmpeoeaa
open Go.RowKit

theorem hexS_digit (l : List UInt8) (t : Nat) (h : t < (hexS l).size) : isDig (hexS l)[t] = true := by
  have := hexL_digits l
  rw [List.all_eq_true] at this
  exact this _ (List.getElem_mem (by simpa [hexS_size, hexL_length] using h))

theorem isDig_cases (c : UInt8) : (isDig c = true ∧ ((48 ≤ (c.toNat : Int) ∧ (c.toNat : Int) ≤ 57) ∨ (97 ≤ (c.toNat : Int) ∧ (c.toNat : Int) ≤ 102))) ∨ (isDig c = false ∧ (((c.toNat : Int) < 48) ∨ (57 < (c.toNat : Int) ∧ (c.toNat : Int) < 97) ∨ (102 < (c.toNat : Int)))) := by
  unfold isDig
  by_cases h : (48 ≤ c.toNat ∧ c.toNat ≤ 57) ∨ (97 ≤ c.toNat ∧ c.toNat ≤ 102)
  · left
    refine ⟨?_, by omega⟩
    simpa using h
  · right
    refine ⟨?_, by omega⟩
    rw [Bool.or_eq_false_iff, Bool.and_eq_false_iff, Bool.and_eq_false_iff]
    simp only [decide_eq_false_iff_not]
    omega

theorem swapped_parse (l : List UInt8) (hl : l.length = 32) (a : Nat) (ha : a < 64) (b : UInt8) (T : ByteArray) (hT : T = (hexS l).extract 0 a ++ ⟨#[b]⟩ ++ (hexS l).extract (a + 1) (hexS l).size) : parseE T = if isDig b then 0 else 4 := by
  have hs : (hexS l).size = 64 := by rw [hexS_size, hl]
  have hd : T.data.toList = (hexL l).take a ++ b :: (hexL l).drop (a + 1) := by
    rw [hT]
    simp [ByteArray.data_append, hexS]
    rw [List.take_of_length_le]
    rw [List.length_drop, hexL_length, hl]
    have : (⟨(hexL l).toArray⟩ : ByteArray).size = 64 := hs
    rw [this]; omega
  have hlen : T.data.toList.length = 64 := by
    rw [hd]; simp [hexL_length, hl]; omega
  have hsz : T.size = 64 := by rw [← size_data]; exact hlen
  have hall := hexL_digits l
  rw [List.all_eq_true] at hall
  unfold parseE
  cases hb : isDig b with
  | true =>
    have ho : parseOk T = true := by
      unfold parseOk
      rw [Bool.and_eq_true, beq_iff_eq, List.all_eq_true, hd]
      refine ⟨hsz, fun x hx => ?_⟩
      rw [List.mem_append, List.mem_cons] at hx
      rcases hx with h | rfl | h
      · exact hall x (List.mem_of_mem_take h)
      · exact hb
      · exact hall x (List.mem_of_mem_drop h)
    rw [if_pos ho]; rfl
  | false =>
    have ho : ¬ parseOk T = true := by
      unfold parseOk
      rw [Bool.and_eq_true, List.all_eq_true, hd]
      rintro ⟨_, h⟩
      have := h b (by simp)
      rw [hb] at this
      exact absurd this (by simp)
    rw [if_neg ho]; rfl

theorem conv_byte (w : World) {X : Nat} (b : UInt8) (h : RowIs w X 5 #[.int .u8 (b.toNat : Int)]) :
    (convert 26 9 (.slice (some ⟨X, 0, none⟩) 1 1)).run Try.prog w = .ok (.string ⟨#[b]⟩) w :=
  conv_back w X 1 1 [b] rfl ⟨fun j hj => by
    have : j = 0 := by simpa using hj
    subst this
    rw [h.cell]; rfl, fun j _ => h.free j⟩

theorem RowIs.otherCells {w : World} {b q : Nat} {t : TypeId} {C : Array Value} (h : RowIs w b t C) (vs : List Value) (hne : b ≠ q) {o : Nat} : RowIs (w.setCells q o vs) b t C := (setCells_other q b hne vs o w).trans h

set_option maxRecDepth 20000 in
set_option maxHeartbeats 3200000 in
theorem hashDigits_calls (l : List UInt8) (a : Int) (b : UInt8) (w : World) (hl : l.length = 32) (haw : (Lit.int .i64 a).wf = true) :
    Calls Try.prog 19 #[.agg (byteCells l), .int .i64 a, .int .u8 (b.toNat : Int)] w fun e w' => e = .returned (.bool true) ∧ Below w.heap.size w w' := by
  have hhex := fun w => hex_calls l w hl
  have hlsz := load_row_32 hl
  have hnot := run_not'
  have hSs : (hexS l).size = 64 := by rw [hexS_size, hl]
  have hSd := hexS_digit l
  have hsw := swapped_parse l hl
  have hbd := bounds_i64 haw
  have hbc := isDig_cases b
  generalize hexS l = S at *
  have hR0 : RowIs (w.alloc (.cells (byteCells l) 45)) w.heap.size 45 (byteCells l) := RowIs.new w _ _
  have hB0 : Below w.heap.size w (w.alloc (.cells (byteCells l) 45)) := (Below.refl _ _).alloc (Nat.le_refl _) _
  generalize byteCells l = L at *
  go_enter Try.func19, Try.ntmps19
  go_wp2_with fail
  generalize w.alloc (.cells L 45) = w1 at *
  generalize hB : w.heap.size = B at *
  have HB := Lib.hid hB
  clear hB
  refine (codes_calls w1).mono ?_
  rintro e w2 ⟨rfl, hb2⟩
  have hR2 := hR0.below hb2 hR0.lt
  have hB2 := hB0.trans (hb2.mono (Nat.le_of_lt hR0.lt))
  clear hR0 hB0 hb2
  go_wp2_with (refine wpList_load_rowG 45 _ rfl B rfl rfl 45 L (0, 0) _ hR2 Try.underlying45 rfl hlsz ?_)
  refine (hhex w2).mono ?_
  rintro e w3 ⟨rfl, hb3⟩
  have hR3 := hR2.below hb3 hR2.lt
  have hB3 := hB2.trans (hb3.mono (Nat.le_of_lt hR2.lt))
  have hle3 : B ≤ w3.heap.size := Nat.le_of_lt hR3.lt
  have Hsw := Lib.hid hsw
  have HSd := Lib.hid hSd
  have Hbc := Lib.hid hbc
  have Hbd := Lib.hid hbd
  clear hR2 hB2 hb3 hR3 hsw hSd hbc hbd
  go_wp2_with fail
  go_loopw [8, 20] (fun _ v wr => ∃ t : Nat, t ≤ 64 ∧ v = .int .i64 t ∧ Below B w wr ∧ B ≤ wr.heap.size) (fun _ v _ => 64 - (intOf v).toNat)
  case atStart => exact ⟨0, by omega, rfl, hB3, hle3⟩
  case round =>
    clear hB3 hle3
    obtain ⟨t, ht, rfl, hb, hle⟩ := hrel
    by_cases hlt : t < 64
    · have hts : (t : Int) < (S.size : Int) := by omega
      have hdg := HSd.out t (by omega)
      have hcase := isDig_cases (S[t]'(by omega))
      rcases hcase with ⟨_, hc⟩ | ⟨h, _⟩
      · rcases hc with ⟨h1, h2⟩ | ⟨h1, h2⟩
        · have n1 : ¬ (((S[t]'(by omega)).toNat : Int) < 48) := by omega
          have n2 : ¬ (57 < ((S[t]'(by omega)).toNat : Int)) := by omega
          clear hdg h1 h2
          go_wp2_with fail
          go_roundw
          case rel => exact ⟨t + 1, by omega, by go_num, hb, hle⟩
          case measure => simp [intOf]; omega
        · have n1 : ¬ (((S[t]'(by omega)).toNat : Int) < 97) := by omega
          have n2 : ¬ (102 < ((S[t]'(by omega)).toNat : Int)) := by omega
          have n3 : ¬ (((S[t]'(by omega)).toNat : Int) < 48) := by omega
          have n4 : (57 < ((S[t]'(by omega)).toNat : Int)) := by omega
          clear hdg h1 h2
          go_wp2_with fail
          go_roundw
          case rel => exact ⟨t + 1, by omega, by go_num, hb, hle⟩
          case measure => simp [intOf]; omega
      · rw [hdg] at h; exact absurd h (by simp)
    · have ht64 : t = 64 := by omega
      subst ht64
      by_cases h0 : a < 0
      · go_wp2_with fail
        go_ret
        exact ⟨rfl, by rw [HB.out]; exact hb⟩
      · by_cases h1 : 64 ≤ a
        · go_wp2_with fail
          go_ret
          exact ⟨rfl, by rw [HB.out]; exact hb⟩
        · obtain ⟨n, rfl⟩ : ∃ n : Nat, a = (n : Int) := ⟨a.toNat, by omega⟩
          have hn : n < 64 := by omega
          have hnS : (n : Int) ≤ (S.size : Int) := by omega
          have hnS1 : (n : Int) + 1 ≤ (S.size : Int) := by omega
          go_wp2_with fail
          obtain ⟨T, hT⟩ : ∃ T, T = S.extract 0 n ++ ⟨#[b]⟩ ++ S.extract (n + 1) S.size := ⟨_, rfl⟩
          have hpe := Hsw.out n hn b T hT
          have hal := parseH_length T
          have hasz := load_row_32 hal
          have haone := byteCells_one (parseH T)
          have hAz : (byteCells (parseH T)).size = (byteCells (List.replicate 32 0)).size := by rw [byteCells_size, hal]; rfl
          have hpar := fun w => parse_calls T w
          generalize byteCells (parseH T) = A at *
          generalize parseE T = E at *
          rw [hT] at hpar
          clear hT
          have x1 : (S.extract 0 n).size = n := by rw [ByteArray.size_extract]; omega
          have x2 : (S.extract (n + 1) S.size).size = 63 - n := by rw [ByteArray.size_extract]; omega
          rw [hSs] at hpar x2
          have hi1 : (n : Int) ≤ 64 := by omega
          have hi2 : IntKind.i64.wrap ((n : Int) + 1) = (n : Int) + 1 := by rw [IntKind.wrap_i64]; omega
          have hi3 : (0 : Int) ≤ (n : Int) + 1 := by omega
          have hi4 : (n : Int) + 1 ≤ 64 := by omega
          have hi5 : ((n : Int) + 1).toNat = n + 1 := by omega
          have hbc := Hbc.out
          have hi6 : ¬ (9223372036854775807 < n + 1) := by omega
          have hi7 : ¬ (9223372036854775807 < n + 1 + (63 - n)) := by omega
          replace hb := Below.drew hb
          replace hle : B ≤ wr.drew.heap.size := hle
          refine wp_region_held_drew (S := fun w' => Below B w w' ∧ B ≤ w'.heap.size) (by kernel_rfl) ⟨hb, hle⟩ (fun hHeld => ?_)
          generalize wr.drew = wv at *
          refine take_N (i := 0) (v := ?_) (some 53) #[true, false, false, false, false, false, false, false, false, false, false, false, false, false, false, false, false, false, false] rfl rfl (by kernel_rfl) (by kernel_rfl) (by kernel_rfl) (by kernel_rfl) (fun _ _ _ h => h) ⟨hb, hle⟩ (Or.inl ⟨by rfl, ?_⟩) ?_
          rotate_left
          · intro w_ hSw_; go_simp; try with_reducible rfl
          try simp only [Act.put, List.setIfInBounds_toArray, List.set_cons_zero, List.set_cons_succ]
          refine take_N (i := 1) (v := ?_) (some 54) #[true, true, false, false, false, false, false, false, false, false, false, false, false, false, false, false, false, false, false] rfl rfl (by kernel_rfl) (by kernel_rfl) (by kernel_rfl) (by kernel_rfl) (fun _ _ _ h => h) ⟨hb, hle⟩ (Or.inl ⟨by rfl, ?_⟩) ?_
          rotate_left
          · intro w_ hSw_; go_simp; try with_reducible rfl
          try simp only [Act.put, List.setIfInBounds_toArray, List.set_cons_zero, List.set_cons_succ]
          refine take_N (i := 2) (v := ?_) (some 55) #[true, true, true, false, false, false, false, false, false, false, false, false, false, false, false, false, false, false, false] rfl rfl (by kernel_rfl) (by kernel_rfl) (by kernel_rfl) (by kernel_rfl) (fun _ _ _ h => h) ⟨hb, hle⟩ (Or.inl ⟨by rfl, ?_⟩) ?_
          rotate_left
          · intro w_ hSw_; go_simp; try with_reducible rfl
          try simp only [Act.put, List.setIfInBounds_toArray, List.set_cons_zero, List.set_cons_succ]
          refine take_N (i := 3) (v := ?_) (some 56) #[true, true, true, true, false, false, false, false, false, false, false, false, false, false, false, false, false, false, false] rfl rfl (by kernel_rfl) (by kernel_rfl) (by kernel_rfl) (by kernel_rfl) (fun _ _ _ h => h) ⟨hb, hle⟩ (Or.inl ⟨by rfl, ?_⟩) ?_
          rotate_left
          · intro w_ hSw_; go_simp; try with_reducible rfl
          try simp only [Act.put, List.setIfInBounds_toArray, List.set_cons_zero, List.set_cons_succ]
          refine take_N (i := 7) (v := ?_) (some 60) #[true, true, true, true, false, false, false, true, false, false, false, false, false, false, false, false, false, false, false] rfl rfl (by kernel_rfl) (by kernel_rfl) (by kernel_rfl) (by kernel_rfl) (fun _ _ _ h => h) ⟨hb, hle⟩ (Or.inl ⟨by rfl, ?_⟩) ?_
          rotate_left
          · intro w_ hSw_; go_simp; try with_reducible rfl
          try simp only [Act.put, List.setIfInBounds_toArray, List.set_cons_zero, List.set_cons_succ]
          refine take_N (i := 8) (v := ?_) (some 61) #[true, true, true, true, false, false, false, true, true, false, false, false, false, false, false, false, false, false, false] rfl rfl (by kernel_rfl) (by kernel_rfl) (by kernel_rfl) (by kernel_rfl) (fun _ _ _ h => h) ⟨hb, hle⟩ (Or.inl ⟨by rfl, ?_⟩) ?_
          rotate_left
          · intro w_ hSw_; go_simp; try with_reducible rfl
          try simp only [Act.put, List.setIfInBounds_toArray, List.set_cons_zero, List.set_cons_succ]
          refine take_N (i := 9) (v := ?_) (some 62) #[true, true, true, true, false, false, false, true, true, true, false, false, false, false, false, false, false, false, false] rfl rfl (by kernel_rfl) (by kernel_rfl) (by kernel_rfl) (by kernel_rfl) (fun _ _ _ h => h) ⟨hb, hle⟩ (Or.inl ⟨by rfl, ?_⟩) ?_
          rotate_left
          · intro w_ hSw_; go_simp; try with_reducible rfl
          try simp only [Act.put, List.setIfInBounds_toArray, List.set_cons_zero, List.set_cons_succ]
          refine take_N (i := 10) (v := ?_) (some 63) #[true, true, true, true, false, false, false, true, true, true, true, false, false, false, false, false, false, false, false] rfl rfl (by kernel_rfl) (by kernel_rfl) (by kernel_rfl) (by kernel_rfl) (fun _ _ _ h => h) ⟨hb, hle⟩ (Or.inl ⟨by rfl, ?_⟩) ?_
          rotate_left
          · intro w_ hSw_; go_simp; try with_reducible rfl
          try simp only [Act.put, List.setIfInBounds_toArray, List.set_cons_zero, List.set_cons_succ]
          refine step2_N (i := 4) (j := 16) #[true, true, true, true, true, false, false, true, true, true, true, false, false, false, false, false, false, false, false] #[true, true, true, true, false, false, false, true, true, true, true, false, false, false, false, false, true, false, false] rfl rfl (by kernel_rfl) (by kernel_rfl) (by kernel_rfl) (fun K hK => ?_) (fun K hK => ?_)
          · rw [if_pos (by rfl)]
            go_simp
            have hrow := RowIs.new wv 5 #[.int .u8 (b.toNat : Int)]
            have hX : B ≤ wv.heap.size := hle
            replace hb := Below.alloc hb hle (.cells #[.int .u8 (b.toNat : Int)] 5)
            generalize wv.heap.size = X at *
            have hle2 := Nat.le_trans hX (Nat.le_of_lt hrow.lt)
            clear hle
            generalize wv.alloc (.cells #[.int .u8 (b.toNat : Int)] 5) = wv2 at *
            refine hK.out _ _ ⟨hb, hle2⟩ ?_
            clear hK K
            try simp only [Act.put, List.setIfInBounds_toArray, List.set_cons_zero, List.set_cons_succ]
            refine wpAnyH_stronger (S' := fun w' => (Below B w w' ∧ B ≤ w'.heap.size) ∧ RowIs w' X 5 #[.int .u8 (b.toNat : Int)]) (fun _ h => h.1) ?_
            refine take_N (i := 5) (v := (.string ⟨#[b]⟩)) (some 58) #[true, true, true, true, true, true, false, true, true, true, true, false, false, false, false, false, false, false, false] rfl rfl (by kernel_rfl) (by kernel_rfl) (by kernel_rfl) (by kernel_rfl) (fun _ _ _ h => h) ⟨⟨hb, hle2⟩, hrow⟩ (Or.inl ⟨by rfl, ?_⟩) ?_
            · intro w_ hSw_; exact exec_conv (by rfl) (by rfl) (conv_byte _ b hSw_.2)
            try simp only [Act.put, List.setIfInBounds_toArray, List.set_cons_zero, List.set_cons_succ]
            refine take_N (i := 6) (v := ?_) (some 59) #[true, true, true, true, true, true, true, true, true, true, true, false, false, false, false, false, false, false, false] rfl rfl (by kernel_rfl) (by kernel_rfl) (by kernel_rfl) (by kernel_rfl) (fun _ _ _ h => h) ⟨⟨hb, hle2⟩, hrow⟩ (Or.inl ⟨by rfl, ?_⟩) ?_
            rotate_left
            · intro w_ hSw_; go_simp; try with_reducible rfl
            try simp only [Act.put, List.setIfInBounds_toArray, List.set_cons_zero, List.set_cons_succ]
            refine take_N (i := 11) (v := ?_) (some 64) #[true, true, true, true, true, true, true, true, true, true, true, true, false, false, false, false, false, false, false] rfl rfl (by kernel_rfl) (by kernel_rfl) (by kernel_rfl) (by kernel_rfl) (fun _ _ _ h => h) ⟨⟨hb, hle2⟩, hrow⟩ (Or.inl ⟨by rfl, ?_⟩) ?_
            rotate_left
            · intro w_ hSw_; go_simp; try with_reducible rfl
            try simp only [Act.put, List.setIfInBounds_toArray, List.set_cons_zero, List.set_cons_succ]
            refine step2_N (i := 12) (j := 16) #[true, true, true, true, true, true, true, true, true, true, true, true, true, false, false, false, false, false, false] #[true, true, true, true, true, true, true, true, true, true, true, true, false, false, false, false, true, false, false] rfl rfl (by kernel_rfl) (by kernel_rfl) (by kernel_rfl) (fun K hK => ?_) (fun K hK => ?_)
            · rw [if_pos (by rfl)]
              go_simp
              refine (hpar _).mono ?_
              rintro e w5 ⟨rfl, hbn⟩
              replace hrow := RowIs.below hrow hbn hrow.lt
              replace hb := Below.trans hb (hbn.mono hle2)
              replace hle2 := Nat.le_trans hle2 hbn.size
              clear hbn
              refine hK.out _ _ ⟨⟨hb, hle2⟩, hrow⟩ ?_
              clear hK K
              try simp only [Act.put, List.setIfInBounds_toArray, List.set_cons_zero, List.set_cons_succ]
              refine take_N (i := 13) (v := ?_) (some 52) #[true, true, true, true, true, true, true, true, true, true, true, true, true, true, false, false, false, false, false] rfl rfl (by kernel_rfl) (by kernel_rfl) (by kernel_rfl) (by kernel_rfl) (fun _ _ _ h => h) ⟨⟨hb, hle2⟩, hrow⟩ (Or.inl ⟨by rfl, ?_⟩) ?_
              rotate_left
              · intro w_ hSw_; go_simp; try with_reducible rfl
              try simp only [Act.put, List.setIfInBounds_toArray, List.set_cons_zero, List.set_cons_succ]
              refine take_N (i := 14) (v := ?_) (some 66) #[true, true, true, true, true, true, true, true, true, true, true, true, true, true, true, false, false, false, false] rfl rfl (by kernel_rfl) (by kernel_rfl) (by kernel_rfl) (by kernel_rfl) (fun _ _ _ h => h) ⟨⟨hb, hle2⟩, hrow⟩ (Or.inl ⟨by rfl, ?_⟩) ?_
              rotate_left
              · intro w_ hSw_; go_simp; try with_reducible rfl
              try simp only [Act.put, List.setIfInBounds_toArray, List.set_cons_zero, List.set_cons_succ]
              refine take_N (i := 15) (v := ?_) (some 67) #[true, true, true, true, true, true, true, true, true, true, true, true, true, true, true, true, false, false, false] rfl rfl (by kernel_rfl) (by kernel_rfl) (by kernel_rfl) (by kernel_rfl) (fun _ _ _ h => h) ⟨⟨hb, hle2⟩, hrow⟩ (Or.inl ⟨by rfl, ?_⟩) ?_
              rotate_left
              · intro w_ hSw_; go_simp; try with_reducible rfl
              try simp only [Act.put, List.setIfInBounds_toArray, List.set_cons_zero, List.set_cons_succ]
              refine step_N (i := 16) #[true, true, true, true, true, true, true, true, true, true, true, true, true, true, true, true, true, false, false] rfl (by kernel_rfl) (by kernel_rfl) (fun K hK => ?_)
              rw [if_pos (by rfl)]
              go_simp
              have hz := RowIs.new w5 45 (byteCells (List.replicate 32 0))
              have hqB : B ≤ w5.heap.size := hle2
              have hne : X ≠ w5.heap.size := Nat.ne_of_lt hrow.lt
              replace hrow := hrow.alloc (.cells (byteCells (List.replicate 32 0)) 45)
              replace hb := Below.alloc hb hle2 (.cells (byteCells (List.replicate 32 0)) 45)
              replace hle2 : B ≤ (w5.alloc (.cells (byteCells (List.replicate 32 0)) 45)).heap.size := Nat.le_trans hle2 (by simp)
              change K _ (w5.alloc (.cells (byteCells (List.replicate 32 0)) 45))
              generalize w5.heap.size = q at *
              generalize w5.alloc (.cells (byteCells (List.replicate 32 0)) 45) = w6 at *
              refine hK.out _ _ ⟨⟨hb, hle2⟩, hrow⟩ ?_
              clear hK K
              try simp only [Act.put, List.setIfInBounds_toArray, List.set_cons_zero, List.set_cons_succ]
              refine step_N (i := 17) #[true, true, true, true, true, true, true, true, true, true, true, true, true, true, true, true, true, true, false] rfl (by kernel_rfl) (by kernel_rfl) (fun K hK => ?_)
              rw [if_pos (by rfl)]
              have hst := store_row hz hAz
              have hthere := hz.there 0 A.size (by rw [hAz]; exact Nat.le_refl 32)
              refine wp_store_mid 45 _ _ rfl _ 0 A rfl rfl hthere hasz haone ?_
              replace hrow := RowIs.otherCells hrow (q := q) (o := 0) A.toList hne
              replace hb := setCells_below _ B hqB A.toList 0 w _ hb
              refine hK.out _ _ ⟨⟨hb, by rw [setCells_size]; exact hle2⟩, hrow⟩ ?_
              clear hK K
              try simp only [Act.put]
              refine step_N (i := 18) #[true, true, true, true, true, true, true, true, true, true, true, true, true, true, true, true, true, true, true] rfl (by kernel_rfl) (by kernel_rfl) (fun K hK => ?_)
              go_simp
              refine hK.out _ _ ⟨⟨hb, by rw [setCells_size]; exact hle2⟩, hrow⟩ ?_
              clear hK K
              try simp only [Act.put, List.setIfInBounds_toArray, List.set_cons_zero, List.set_cons_succ]
              refine wpAnyH_done (by kernel_rfl) ?_ _
              clear hHeld
              rcases hbc with ⟨hi, hc⟩ | ⟨hi, hc⟩
              · rw [hi, if_pos rfl] at hpe
                subst hpe
                rcases hc with ⟨c1, c2⟩ | ⟨c1, c2⟩
                · go_wp2_with fail
                  go_ret
                  exact ⟨rfl, by rw [HB.out]; exact hb⟩
                · have c3 : ¬ ((b.toNat : Int) ≤ 57) := by omega
                  go_wp2_with fail
                  go_ret
                  exact ⟨rfl, by rw [HB.out]; exact hb⟩
              · rw [hi, if_neg (by simp)] at hpe
                subst hpe
                rcases hc with c1 | ⟨c1, c2⟩ | c1
                · go_wp2_with fail
                  go_ret
                  exact ⟨rfl, by rw [HB.out]; exact hb⟩
                · have c3 : ¬ ((b.toNat : Int) ≤ 57) := by omega
                  go_wp2_with fail
                  go_ret
                  exact ⟨rfl, by rw [HB.out]; exact hb⟩
                · have c3 : ¬ ((b.toNat : Int) ≤ 57) := by omega
                  have c4 : ¬ ((b.toNat : Int) ≤ 102) := by omega
                  go_wp2_with fail
                  go_ret
                  exact ⟨rfl, by rw [HB.out]; exact hb⟩
            · rw [if_pos (by rfl)]
              go_simp
              have hz := RowIs.new wv2 45 (byteCells (List.replicate 32 0))
              have hqB : B ≤ wv2.heap.size := hle2
              have hne : X ≠ wv2.heap.size := Nat.ne_of_lt hrow.lt
              replace hrow := hrow.alloc (.cells (byteCells (List.replicate 32 0)) 45)
              replace hb := Below.alloc hb hle2 (.cells (byteCells (List.replicate 32 0)) 45)
              replace hle2 : B ≤ (wv2.alloc (.cells (byteCells (List.replicate 32 0)) 45)).heap.size := Nat.le_trans hle2 (by simp)
              change K _ (wv2.alloc (.cells (byteCells (List.replicate 32 0)) 45))
              generalize wv2.heap.size = q at *
              generalize wv2.alloc (.cells (byteCells (List.replicate 32 0)) 45) = w6 at *
              refine hK.out _ _ ⟨⟨hb, hle2⟩, hrow⟩ ?_
              clear hK K
              try simp only [Act.put, List.setIfInBounds_toArray, List.set_cons_zero, List.set_cons_succ]
              refine step_N (i := 12) #[true, true, true, true, true, true, true, true, true, true, true, true, true, false, false, false, true, false, false] rfl (by kernel_rfl) (by kernel_rfl) (fun K hK => ?_)
              rw [if_pos (by rfl)]
              go_simp
              refine (hpar _).mono ?_
              rintro e w5 ⟨rfl, hbn⟩
              replace hrow := RowIs.below hrow hbn hrow.lt
              replace hb := Below.trans hb (hbn.mono hle2)
              replace hle2 := Nat.le_trans hle2 hbn.size
              replace hz := RowIs.below hz hbn hz.lt
              clear hbn
              refine hK.out _ _ ⟨⟨hb, hle2⟩, hrow⟩ ?_
              clear hK K
              try simp only [Act.put, List.setIfInBounds_toArray, List.set_cons_zero, List.set_cons_succ]
              refine take_N (i := 13) (v := ?_) (some 52) #[true, true, true, true, true, true, true, true, true, true, true, true, true, true, false, false, true, false, false] rfl rfl (by kernel_rfl) (by kernel_rfl) (by kernel_rfl) (by kernel_rfl) (fun _ _ _ h => h) ⟨⟨hb, hle2⟩, hrow⟩ (Or.inl ⟨by rfl, ?_⟩) ?_
              rotate_left
              · intro w_ hSw_; go_simp; try with_reducible rfl
              try simp only [Act.put, List.setIfInBounds_toArray, List.set_cons_zero, List.set_cons_succ]
              refine take_N (i := 14) (v := ?_) (some 66) #[true, true, true, true, true, true, true, true, true, true, true, true, true, true, true, false, true, false, false] rfl rfl (by kernel_rfl) (by kernel_rfl) (by kernel_rfl) (by kernel_rfl) (fun _ _ _ h => h) ⟨⟨hb, hle2⟩, hrow⟩ (Or.inl ⟨by rfl, ?_⟩) ?_
              rotate_left
              · intro w_ hSw_; go_simp; try with_reducible rfl
              try simp only [Act.put, List.setIfInBounds_toArray, List.set_cons_zero, List.set_cons_succ]
              refine take_N (i := 15) (v := ?_) (some 67) #[true, true, true, true, true, true, true, true, true, true, true, true, true, true, true, true, true, false, false] rfl rfl (by kernel_rfl) (by kernel_rfl) (by kernel_rfl) (by kernel_rfl) (fun _ _ _ h => h) ⟨⟨hb, hle2⟩, hrow⟩ (Or.inl ⟨by rfl, ?_⟩) ?_
              rotate_left
              · intro w_ hSw_; go_simp; try with_reducible rfl
              try simp only [Act.put, List.setIfInBounds_toArray, List.set_cons_zero, List.set_cons_succ]
              refine step_N (i := 17) #[true, true, true, true, true, true, true, true, true, true, true, true, true, true, true, true, true, true, false] rfl (by kernel_rfl) (by kernel_rfl) (fun K hK => ?_)
              rw [if_pos (by rfl)]
              have hst := store_row hz hAz
              have hthere := hz.there 0 A.size (by rw [hAz]; exact Nat.le_refl 32)
              refine wp_store_mid 45 _ _ rfl _ 0 A rfl rfl hthere hasz haone ?_
              replace hrow := RowIs.otherCells hrow (q := q) (o := 0) A.toList hne
              replace hb := setCells_below _ B hqB A.toList 0 w _ hb
              refine hK.out _ _ ⟨⟨hb, by rw [setCells_size]; exact hle2⟩, hrow⟩ ?_
              clear hK K
              try simp only [Act.put]
              refine step_N (i := 18) #[true, true, true, true, true, true, true, true, true, true, true, true, true, true, true, true, true, true, true] rfl (by kernel_rfl) (by kernel_rfl) (fun K hK => ?_)
              go_simp
              refine hK.out _ _ ⟨⟨hb, by rw [setCells_size]; exact hle2⟩, hrow⟩ ?_
              clear hK K
              try simp only [Act.put, List.setIfInBounds_toArray, List.set_cons_zero, List.set_cons_succ]
              refine wpAnyH_done (by kernel_rfl) ?_ _
              clear hHeld
              rcases hbc with ⟨hi, hc⟩ | ⟨hi, hc⟩
              · rw [hi, if_pos rfl] at hpe
                subst hpe
                rcases hc with ⟨c1, c2⟩ | ⟨c1, c2⟩
                · go_wp2_with fail
                  go_ret
                  exact ⟨rfl, by rw [HB.out]; exact hb⟩
                · have c3 : ¬ ((b.toNat : Int) ≤ 57) := by omega
                  go_wp2_with fail
                  go_ret
                  exact ⟨rfl, by rw [HB.out]; exact hb⟩
              · rw [hi, if_neg (by simp)] at hpe
                subst hpe
                rcases hc with c1 | ⟨c1, c2⟩ | c1
                · go_wp2_with fail
                  go_ret
                  exact ⟨rfl, by rw [HB.out]; exact hb⟩
                · have c3 : ¬ ((b.toNat : Int) ≤ 57) := by omega
                  go_wp2_with fail
                  go_ret
                  exact ⟨rfl, by rw [HB.out]; exact hb⟩
                · have c3 : ¬ ((b.toNat : Int) ≤ 57) := by omega
                  have c4 : ¬ ((b.toNat : Int) ≤ 102) := by omega
                  go_wp2_with fail
                  go_ret
                  exact ⟨rfl, by rw [HB.out]; exact hb⟩
          · rw [if_pos (by rfl)]
            go_simp
            have hz0 := RowIs.new wv 45 (byteCells (List.replicate 32 0))
            have hqB : B ≤ wv.heap.size := hle
            replace hb := Below.alloc hb hle (.cells (byteCells (List.replicate 32 0)) 45)
            replace hle : B ≤ (wv.alloc (.cells (byteCells (List.replicate 32 0)) 45)).heap.size := Nat.le_trans hle (by simp)
            change K _ (wv.alloc (.cells (byteCells (List.replicate 32 0)) 45))
            generalize wv.heap.size = q at *
            generalize wv.alloc (.cells (byteCells (List.replicate 32 0)) 45) = wv at *
            refine hK.out _ _ ⟨hb, hle⟩ ?_
            clear hK K
            try simp only [Act.put, List.setIfInBounds_toArray, List.set_cons_zero, List.set_cons_succ]
            refine step_N (i := 4) #[true, true, true, true, true, false, false, true, true, true, true, false, false, false, false, false, true, false, false] rfl (by kernel_rfl) (by kernel_rfl) (fun K hK => ?_)
            rw [if_pos (by rfl)]
            go_simp
            have hrow := RowIs.new wv 5 #[.int .u8 (b.toNat : Int)]
            have hX : B ≤ wv.heap.size := hle
            have hz := hz0.alloc (.cells #[.int .u8 (b.toNat : Int)] 5)
            have hqlt := hz0.lt
            replace hb := Below.alloc hb hle (.cells #[.int .u8 (b.toNat : Int)] 5)
            generalize wv.heap.size = X at *
            have hle2 := Nat.le_trans hX (Nat.le_of_lt hrow.lt)
            clear hle
            generalize wv.alloc (.cells #[.int .u8 (b.toNat : Int)] 5) = wv2 at *
            refine hK.out _ _ ⟨hb, hle2⟩ ?_
            clear hK K
            try simp only [Act.put, List.setIfInBounds_toArray, List.set_cons_zero, List.set_cons_succ]
            have hne : X ≠ q := (Nat.ne_of_lt hqlt).symm
            refine wpAnyH_stronger (S' := fun w' => (Below B w w' ∧ B ≤ w'.heap.size) ∧ RowIs w' X 5 #[.int .u8 (b.toNat : Int)]) (fun _ h => h.1) ?_
            refine take_N (i := 5) (v := (.string ⟨#[b]⟩)) (some 58) #[true, true, true, true, true, true, false, true, true, true, true, false, false, false, false, false, true, false, false] rfl rfl (by kernel_rfl) (by kernel_rfl) (by kernel_rfl) (by kernel_rfl) (fun _ _ _ h => h) ⟨⟨hb, hle2⟩, hrow⟩ (Or.inl ⟨by rfl, ?_⟩) ?_
            · intro w_ hSw_; exact exec_conv (by rfl) (by rfl) (conv_byte _ b hSw_.2)
            try simp only [Act.put, List.setIfInBounds_toArray, List.set_cons_zero, List.set_cons_succ]
            refine take_N (i := 6) (v := ?_) (some 59) #[true, true, true, true, true, true, true, true, true, true, true, false, false, false, false, false, true, false, false] rfl rfl (by kernel_rfl) (by kernel_rfl) (by kernel_rfl) (by kernel_rfl) (fun _ _ _ h => h) ⟨⟨hb, hle2⟩, hrow⟩ (Or.inl ⟨by rfl, ?_⟩) ?_
            rotate_left
            · intro w_ hSw_; go_simp; try with_reducible rfl
            try simp only [Act.put, List.setIfInBounds_toArray, List.set_cons_zero, List.set_cons_succ]
            refine take_N (i := 11) (v := ?_) (some 64) #[true, true, true, true, true, true, true, true, true, true, true, true, false, false, false, false, true, false, false] rfl rfl (by kernel_rfl) (by kernel_rfl) (by kernel_rfl) (by kernel_rfl) (fun _ _ _ h => h) ⟨⟨hb, hle2⟩, hrow⟩ (Or.inl ⟨by rfl, ?_⟩) ?_
            rotate_left
            · intro w_ hSw_; go_simp; try with_reducible rfl
            try simp only [Act.put, List.setIfInBounds_toArray, List.set_cons_zero, List.set_cons_succ]
            refine step_N (i := 12) #[true, true, true, true, true, true, true, true, true, true, true, true, true, false, false, false, true, false, false] rfl (by kernel_rfl) (by kernel_rfl) (fun K hK => ?_)
            rw [if_pos (by rfl)]
            go_simp
            refine (hpar _).mono ?_
            rintro e w5 ⟨rfl, hbn⟩
            replace hrow := RowIs.below hrow hbn hrow.lt
            replace hb := Below.trans hb (hbn.mono hle2)
            replace hle2 := Nat.le_trans hle2 hbn.size
            replace hz := RowIs.below hz hbn hz.lt
            clear hbn
            refine hK.out _ _ ⟨⟨hb, hle2⟩, hrow⟩ ?_
            clear hK K
            try simp only [Act.put, List.setIfInBounds_toArray, List.set_cons_zero, List.set_cons_succ]
            refine take_N (i := 13) (v := ?_) (some 52) #[true, true, true, true, true, true, true, true, true, true, true, true, true, true, false, false, true, false, false] rfl rfl (by kernel_rfl) (by kernel_rfl) (by kernel_rfl) (by kernel_rfl) (fun _ _ _ h => h) ⟨⟨hb, hle2⟩, hrow⟩ (Or.inl ⟨by rfl, ?_⟩) ?_
            rotate_left
            · intro w_ hSw_; go_simp; try with_reducible rfl
            try simp only [Act.put, List.setIfInBounds_toArray, List.set_cons_zero, List.set_cons_succ]
            refine take_N (i := 14) (v := ?_) (some 66) #[true, true, true, true, true, true, true, true, true, true, true, true, true, true, true, false, true, false, false] rfl rfl (by kernel_rfl) (by kernel_rfl) (by kernel_rfl) (by kernel_rfl) (fun _ _ _ h => h) ⟨⟨hb, hle2⟩, hrow⟩ (Or.inl ⟨by rfl, ?_⟩) ?_
            rotate_left
            · intro w_ hSw_; go_simp; try with_reducible rfl
            try simp only [Act.put, List.setIfInBounds_toArray, List.set_cons_zero, List.set_cons_succ]
            refine take_N (i := 15) (v := ?_) (some 67) #[true, true, true, true, true, true, true, true, true, true, true, true, true, true, true, true, true, false, false] rfl rfl (by kernel_rfl) (by kernel_rfl) (by kernel_rfl) (by kernel_rfl) (fun _ _ _ h => h) ⟨⟨hb, hle2⟩, hrow⟩ (Or.inl ⟨by rfl, ?_⟩) ?_
            rotate_left
            · intro w_ hSw_; go_simp; try with_reducible rfl
            try simp only [Act.put, List.setIfInBounds_toArray, List.set_cons_zero, List.set_cons_succ]
            refine step_N (i := 17) #[true, true, true, true, true, true, true, true, true, true, true, true, true, true, true, true, true, true, false] rfl (by kernel_rfl) (by kernel_rfl) (fun K hK => ?_)
            rw [if_pos (by rfl)]
            have hst := store_row hz hAz
            have hthere := hz.there 0 A.size (by rw [hAz]; exact Nat.le_refl 32)
            refine wp_store_mid 45 _ _ rfl _ 0 A rfl rfl hthere hasz haone ?_
            replace hrow := RowIs.otherCells hrow (q := q) (o := 0) A.toList hne
            replace hb := setCells_below _ B hqB A.toList 0 w _ hb
            refine hK.out _ _ ⟨⟨hb, by rw [setCells_size]; exact hle2⟩, hrow⟩ ?_
            clear hK K
            try simp only [Act.put]
            refine step_N (i := 18) #[true, true, true, true, true, true, true, true, true, true, true, true, true, true, true, true, true, true, true] rfl (by kernel_rfl) (by kernel_rfl) (fun K hK => ?_)
            go_simp
            refine hK.out _ _ ⟨⟨hb, by rw [setCells_size]; exact hle2⟩, hrow⟩ ?_
            clear hK K
            try simp only [Act.put, List.setIfInBounds_toArray, List.set_cons_zero, List.set_cons_succ]
            refine wpAnyH_done (by kernel_rfl) ?_ _
            clear hHeld
            rcases hbc with ⟨hi, hc⟩ | ⟨hi, hc⟩
            · rw [hi, if_pos rfl] at hpe
              subst hpe
              rcases hc with ⟨c1, c2⟩ | ⟨c1, c2⟩
              · go_wp2_with fail
                go_ret
                exact ⟨rfl, by rw [HB.out]; exact hb⟩
              · have c3 : ¬ ((b.toNat : Int) ≤ 57) := by omega
                go_wp2_with fail
                go_ret
                exact ⟨rfl, by rw [HB.out]; exact hb⟩
            · rw [hi, if_neg (by simp)] at hpe
              subst hpe
              rcases hc with c1 | ⟨c1, c2⟩ | c1
              · go_wp2_with fail
                go_ret
                exact ⟨rfl, by rw [HB.out]; exact hb⟩
              · have c3 : ¬ ((b.toNat : Int) ≤ 57) := by omega
                go_wp2_with fail
                go_ret
                exact ⟨rfl, by rw [HB.out]; exact hb⟩
              · have c3 : ¬ ((b.toNat : Int) ≤ 57) := by omega
                have c4 : ¬ ((b.toNat : Int) ≤ 102) := by omega
                go_wp2_with fail
                go_ret
                exact ⟨rfl, by rw [HB.out]; exact hb⟩


end Go.Proofs.Ytjbnnfdhmpeoeaa
