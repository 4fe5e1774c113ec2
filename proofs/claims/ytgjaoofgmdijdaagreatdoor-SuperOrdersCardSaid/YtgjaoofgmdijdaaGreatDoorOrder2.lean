/- Which of two blocks' data are superblocks, the newer one first: walked. -/
import Derived.Test.YtgjaoofgmdijdaaGreatDoorOrder1
import Derived.Test.YtgjaoofgmdijdaaGreatDoorOnceZ
import Derived.Test.YtgjaoofgmdijdaaGreatDoorGate2
namespace Go.Proofs.YtgjaoofgmdijdaaGreatDoor
open Go.RowKit Go.Sort

def pairC (a b : ByteArray) (d st : Int) (o : Value) : Array Value := #[.string a, .string b, .int .u32 d, .int .i32 st, .int .u32 0, o]
def partS (a b : List UInt8) : Nat → List SupD
  | 0 => []
  | 1 => atSlot a 0
  | _ => atSlot a 0 ++ atSlot b 1
theorem info_sup : (Tryz.prog.info? 26).map (fun i => (i.zero, i.size, i.bytes)) = some (some (.agg supZ), 35, 56) := by kernel_rfl
set_option maxRecDepth 100000 in
set_option maxHeartbeats 6400000 in
theorem fillS_calls (a b : ByteArray) (PB pr : Nat) (w : World) (ha : a.size ≤ 140737488351232) (hb : b.size ≤ 140737488351232) (hne : pr ≠ PB) (hp : RowIs w pr 61 #[.pointer (some ⟨PB, 0, none⟩)]) (h : RowIs w PB 75 (pairC a b 0 1 (.slice none 0 0))) :
    Calls Tryz.prog 42 #[.pointer (some ⟨pr, 0, none⟩)] w fun e w' => e = .returned (.tuple #[]) ∧ ∃ v, ∃ l : List SupW, l.map (·.1) = orderS a.data.toList b.data.toList ∧ RowIs w' PB 75 (pairC a b 0 1 v) ∧ w'.ownsRow w.heap.size 26 35 v l.length (l.flatMap supE) ∧ But PB w w' := by
  have hda := fun W => decodeS_calls a W ha
  have hdb := fun W => decodeS_calls b W hb
  have c0 : w.cell? ⟨pr, 0, none⟩ = some (.pointer (some ⟨PB, 0, none⟩)) := by rw [hp.cell]; rfl
  have hrng : w.rangeAt PB 0 [.string a, .string b] := fun j v hj => by
    rw [Nat.zero_add, h.cell]
    match j, hj with
    | 0, hj => exact hj
    | 1, hj => exact hj
  have hsz2 : (Tryz.prog.info? 62).map (·.size) = some [Value.string a, Value.string b].length := by kernel_rfl
  have hwlt := h.lt
  have hplt := hp.lt
  obtain ⟨iS0, hI, hIz0, hIz1, hIz2⟩ := info_parts info_sup
  generalize hB : w.heap.size = BS at *
  go_enter Tryz.func42, Tryz.ntmps42
  go_wp2_with (refine wpList_load_mid rfl 62 _ rfl PB 0 rfl [.string a, .string b] _ hrng Tryz.underlying62 rfl hsz2 ?_)
  go_loopw [9] (fun x wr => ∃ t : Nat, ∃ v, ∃ L : List SupW, t ≤ 2 ∧ x = .int .i64 t ∧ L.length ≤ t ∧ L.map (·.1) = partS a.data.toList b.data.toList t ∧ RowIs wr PB 75 (pairC a b 0 1 v) ∧ wr.ownsRow BS 26 35 v L.length (L.flatMap supE) ∧ But PB w wr) (fun x _ => 2 - (intOf x).toNat)
  case atStart => exact ⟨0, .slice none 0 0, [], by omega, rfl, Nat.le_refl _, rfl, h, ⟨rfl, .inl ⟨rfl, rfl⟩⟩, But.refl PB w⟩
  case round =>
    clear h hrng c0
    obtain ⟨t, v, L, ht, rfl, hL, hLm, hPr, hown, hbw⟩ := hrel
    have hp1 := hp.but hbw hne
    have hbs : BS ≤ wr.heap.size := by rw [← hB]; exact hbw.size
    by_cases h2 : t = 2
    · subst h2
      have c0 : wr.cell? ⟨pr, 0, none⟩ = some (.pointer (some ⟨PB, 0, none⟩)) := by rw [hp1.cell]; rfl
      have c5 : wr.cell? ⟨PB, 5, none⟩ = some v := by rw [hPr.cell]; rfl
      have hsort := sort_calls L hL hown
      have hot := fun g hg => own_type hown (g := g) hg
      have hot2 : ∀ k, some k = v.ownBlock → BS ≤ k := fun k q => (hown.lt k q.symm).1
      have HM := Lib.hid hLm
      clear hown hLm
      go_wp2_with fail
      refine hsort.mono ?_
      rintro e w2 ⟨rfl, l', hm, hlen, hown2, hgr⟩
      have hP2 := row_grown hPr hgr (fun q => by obtain ⟨cc, hcc⟩ := hot PB q.symm; have := hPr; unfold RowIs at this; rw [this] at hcc; injection hcc with hcc; injection hcc with _ q2 _; exact absurd q2 (by decide))
      have hb2 : But PB w w2 := ⟨hgr.os.trans hbw.os, hgr.tape.trans hbw.tape, hgr.output.trans hbw.output, Nat.le_trans hbw.size hgr.size, fun k hk hkn => (hgr.block k (Nat.lt_of_lt_of_le hk hbw.size) (fun q => by have := hot2 k q; omega)).trans (hbw.block k hk hkn)⟩
      have HH := Lib.hid (And.intro hP2 (And.intro hown2 hb2))
      have HL := Lib.hid (And.intro hm hlen)
      clear hm hlen hown2 hgr hP2 hb2 hPr hsort hot
      go_wp2_with fail
      go_end0
      exact ⟨rfl, v, l', by rw [HL.out.1, HM.out]; rfl, HH.out.1, by rw [HL.out.2]; exact HH.out.2.1, HH.out.2.2⟩
    · by_cases h0 : t = 0
      · subst h0
        have hde := hda wr
        have hwfS := supL_wf a.data.toList
        have hpart : partS a.data.toList b.data.toList 1 = partS a.data.toList b.data.toList 0 ++ atSlot a.data.toList 0 := by first | rfl | exact (List.nil_append _).symm
        have hat : atSlot a.data.toList 0 = if decOkS a.data.toList ∧ (supL a.data.toList).gen % 2 = 0 then [supL a.data.toList] else [] := rfl
        have hdE : decES a.data.toList = if decOkS a.data.toList then 0 else 9 := rfl
        rw [hat] at hpart
        generalize supL a.data.toList = s at *
        generalize decES a.data.toList = dE at *
        have HP := Lib.hid hpart
        have HM := Lib.hid hLm
        have HD := Lib.hid hdE
        clear hpart hat hLm hdE hda hdb
        have hCs : (supV s).toArray.size = 35 := by rw [List.size_toArray, supV_length hwfS.2.2.2]
        have hC35 : (supV s).length = 35 := supV_length hwfS.2.2.2
        have hone : ∀ u ∈ supV s, u.oneCell' = true := fun u hu => by have := supV_one s; rw [Array.all_eq_true'] at this; exact this u (by simpa using hu)
        have hoa := supV_one s
        have hszC : (Tryz.prog.info? 26).map (·.size) = some (supV s).toArray.size := by rw [hCs]; kernel_rfl
        have hsl := fun W => slot_calls s W
        have hix : ∀ W, (Instr.index 62 (.agg #[.string a, .string b]) (.int .i64 0)).run Tryz.prog W = .ok (.string a) W := fun W => by simp [Instr.index, asIntOf, run_underlying Tryz.underlying62, part, Tryz.isAgg9, Tryz.sizeOf9]
        go_wp2_with fail
        refine hde.mono ?_
        rintro e w1 ⟨rfl, hq⟩
        have hP1 := hPr.below hq hPr.lt
        have hp2 := hp1.below hq hp1.lt
        have hown1 := ownsRow_below hown hq
        have hbw1 := hbw.thenBelow (hq.mono hbw.size)
        have hbs1 : BS ≤ w1.heap.size := Nat.le_trans hbs hq.size
        clear hde hq hPr hp1 hown hbw hbs
        obtain ⟨W3, W4, hW3, hW4, hX4, hq, hthere⟩ := alloc_fill w1 supZ (supV s).toArray 26 (by rw [hCs]; rfl)
        have hP4 := hP1.below hq hP1.lt
        have hp4 := hp2.below hq hp2.lt
        have hown4 := ownsRow_below hown1 hq
        have hbw4 := hbw1.thenBelow (hq.mono hbw1.size)
        have hXv : v.ownBlock ≠ some w1.heap.size := fun q => by have := (hown1.lt _ q).2; omega
        have hbs4 : BS ≤ W4.heap.size := Nat.le_trans hbs1 hq.size
        have HW3 := Lib.hid hW3
        have HW4 := Lib.hid hW4
        clear hW3 hW4 hq hP1 hp2 hown1 hbw1 hbs1
        generalize hCC : (supV s).toArray = C at *
        have hnext : ∀ (wq : World), dE = 9 ∨ s.gen % 2 ≠ 0 → RowIs wq PB 75 (pairC a b 0 1 v) → wq.ownsRow BS 26 35 v L.length (L.flatMap supE) → But PB w wq → ∃ t : Nat, ∃ v, ∃ L : List SupW, t ≤ 2 ∧ Value.int .i64 (1 : Int) = .int .i64 t ∧ L.length ≤ t ∧ L.map (·.1) = partS a.data.toList b.data.toList t ∧ RowIs wq PB 75 (pairC a b 0 1 v) ∧ wq.ownsRow BS 26 35 v L.length (L.flatMap supE) ∧ But PB w wq := by
          intro wq hno h1 h2 h3
          refine ⟨1, v, L, by omega, rfl, by omega, ?_, h1, h2, h3⟩
          rw [HP.out, if_neg (fun q => hno.elim (fun h => by rw [HD.out, if_pos q.1] at h; cases h) (fun h => h q.2)), List.append_nil, HM.out]
        have HN := Lib.hid hnext
        clear hnext
        by_cases hok : decOkS a.data.toList
        · have hd0 : dE = 0 := by rw [HD.out, if_pos hok]
          subst hd0
          go_wp2_with (first | (refine wpList_world HW3.out ?_) | (refine wpList_store_mid rfl 26 _ _ rfl w1.heap.size 0 C rfl rfl hthere hszC hoa ?_; refine wpList_world HW4.out ?_) | (refine wpList_load_rowG 26 _ rfl w1.heap.size rfl (by rfl) 26 C (0, 0) _ hX4 Tryz.underlying26 rfl hszC ?_))
          try rw [← HW4.out]
          refine (hsl W4).mono ?_
          generalize w1.heap.size = X at *
          rintro e wv ⟨rfl, hq⟩
          replace hP4 := hP4.below hq hP4.lt
          replace hp4 := hp4.below hq hp4.lt
          replace hX4 := hX4.below hq hX4.lt
          replace hown4 := ownsRow_below hown4 hq
          replace hbw4 := hbw4.thenBelow (hq.mono hbw4.size)
          replace hbs4 : BS ≤ wv.heap.size := Nat.le_trans hbs4 hq.size
          clear hq hsl
          by_cases hsg : s.gen % 2 = 0
          · have i1 : ((s.gen % 2 : Nat) : Int) = 0 := by omega
            go_wp2_with fail
            refine wp_region_gate 10 (S := fun w' => RowIs w' PB 75 (pairC a b 0 1 v) ∧ RowIs w' pr 61 #[.pointer (some ⟨PB, 0, none⟩)] ∧ RowIs w' X 26 C) (by kernel_rfl) ⟨hP4.drew, hp4.drew, hX4.drew⟩ (fun hS0 => ?_)
            replace hP4 := hP4.drew
            replace hp4 := hp4.drew
            replace hX4 := hX4.drew
            replace hown4 := ownsRow_below hown4 (Below.drew (Below.refl _ _))
            replace hbw4 := hbw4.drew
            replace hbs4 : BS ≤ wv.drew.heap.size := hbs4
            generalize wv.drew = wu at *
            refine take_B (i := 0) (v := (.pointer (some ⟨PB, 0, none⟩))) [8, 9, 10] (some 26) #[true, false, false, false, false, false, false, false, false, false, false] rfl rfl (by kernel_rfl) (by kernel_rfl) (by kernel_rfl) (by kernel_rfl) (by kernel_rfl) (fun _ _ _ h => h) (by kernel_rfl) hS0 (Or.inl ⟨by rfl, ?_⟩) ?_
            · intro w_ hSw_; exact (by have hcc : w_.cell? ⟨pr, 0, none⟩ = some (.pointer (some ⟨PB, 0, none⟩)) := (by rw [RowIs.cell hSw_.2.1]; rfl); go_simp)
            try simp only [Act.put, List.setIfInBounds_toArray, List.set_cons_zero, List.set_cons_succ]
            refine take_B (i := 1) (v := (.pointer (some ⟨PB, 0, none⟩))) [2, 3, 4, 7, 10] (some 27) #[true, true, false, false, false, false, false, false, false, false, false] rfl rfl (by kernel_rfl) (by kernel_rfl) (by kernel_rfl) (by kernel_rfl) (by kernel_rfl) (fun _ _ _ h => h) (by kernel_rfl) hS0 (Or.inl ⟨by rfl, ?_⟩) ?_
            · intro w_ hSw_; exact (by have hcc : w_.cell? ⟨pr, 0, none⟩ = some (.pointer (some ⟨PB, 0, none⟩)) := (by rw [RowIs.cell hSw_.2.1]; rfl); go_simp)
            try simp only [Act.put, List.setIfInBounds_toArray, List.set_cons_zero, List.set_cons_succ]
            refine takep_G (i := 2) (v := ?_) (some 28) #[true, true, true, false, false, false, false, false, false, false, false] rfl rfl (by kernel_rfl) (by kernel_rfl) (by kernel_rfl) (by kernel_rfl) (fun _ _ _ h => h) (by kernel_rfl) hS0 (Or.inl ⟨by rfl, ?_⟩) ?_
            rotate_left
            · intro w_ hSw_; go_simp; try with_reducible rfl
            try simp only [Act.put, List.setIfInBounds_toArray, List.set_cons_zero, List.set_cons_succ]
            refine takep_G (i := 3) (v := ?_) (some 29) #[true, true, true, true, false, false, false, false, false, false, false] rfl rfl (by kernel_rfl) (by kernel_rfl) (by kernel_rfl) (by kernel_rfl) (fun _ _ _ h => h) (by kernel_rfl) hS0 (Or.inl ⟨by rfl, ?_⟩) ?_
            rotate_left
            · intro w_ hSw_; go_simp; try with_reducible rfl
            try simp only [Act.put, List.setIfInBounds_toArray, List.set_cons_zero, List.set_cons_succ]
            refine take_B (i := 4) (v := v) [7, 10] (some 30) #[true, true, true, true, true, false, false, false, false, false, false] rfl rfl (by kernel_rfl) (by kernel_rfl) (by kernel_rfl) (by kernel_rfl) (by kernel_rfl) (fun _ _ _ h => h) (by kernel_rfl) hS0 (Or.inl ⟨by rfl, ?_⟩) ?_
            · intro w_ hSw_; exact (by have hcc : w_.cell? ⟨PB, 5, none⟩ = some v := (by rw [RowIs.cell hSw_.1]; rfl); go_simp)
            try simp only [Act.put, List.setIfInBounds_toArray, List.set_cons_zero, List.set_cons_succ]
            refine take_B (i := 5) (v := (.agg C)) [6, 7, 10] (some 31) #[true, true, true, true, true, true, false, false, false, false, false] rfl rfl (by kernel_rfl) (by kernel_rfl) (by kernel_rfl) (by kernel_rfl) (by kernel_rfl) (fun _ _ _ h => h) (by kernel_rfl) hS0 (Or.inl ⟨by rfl, ?_⟩) ?_
            · intro w_ hSw_; exact exec_load_row 26 _ (by rfl) X (by rfl) 26 C (0, 0) _ hSw_.2.2 Tryz.underlying26 rfl hszC
            try simp only [Act.put, List.setIfInBounds_toArray, List.set_cons_zero, List.set_cons_succ]
            refine step_G (i := 6) #[true, true, true, true, true, true, true, false, false, false, false] rfl (by kernel_rfl) (by kernel_rfl) (fun K hK => ?_)
            rw [if_pos (by rfl)]
            refine wp_buildSlice_one 36 26 _ rfl Tryz.underlying36 iS0 hI _ hIz0 35 hIz1 _ rfl hCs (by omega) (by omega) ?_
            have hP7 := hP4.alloc (.cells C 26)
            have hp7 := hp4.alloc (.cells C 26)
            have hX7 := hX4.alloc (.cells C 26)
            have ho7 := ownsRow_below hown4 ((Below.refl _ _).alloc (Nat.le_refl _) (.cells C 26))
            have hb7 := hbw4.alloc (.cells C 26)
            have hrow7 := RowIs.new wu 26 C
            have hbs7 : BS ≤ (wu.alloc (.cells C 26)).heap.size := by rw [World.size_alloc]; omega
            change K _ (wu.alloc (.cells C 26))
            generalize wu.alloc (.cells C 26) = wz at *
            generalize wu.heap.size = Y at *
            refine hK.out _ _ ⟨hP7, hp7, hX7⟩ ?_
            clear hK K hP4 hp4 hX4 hown4 hbw4
            refine step_G (i := 7) #[true, true, true, true, true, true, true, true, false, false, false] rfl (by kernel_rfl) (by kernel_rfl) (fun K hK => ?_)
            rw [if_pos (by rfl)]
            refine wp_append_own _ _ _ 36 rfl BS 26 iS0 (.agg supZ) 35 56 Tryz.underlying36 hI hIz0 hIz1 hIz2 rfl (by decide) v L.length (L.flatMap supE) rfl ho7 ⟨Y, 0, none⟩ 1 1 (supV s) rfl (by rw [hC35]) (fun j u hj => by rw [Addr.add_mid, Nat.zero_add, RowIs.cell hrow7]; rw [← hCC]; simpa using hj) hone (by unfold maxLen; omega) (by omega) hbs7 ?_
            intro v' wd hown' hgrow _
            obtain ⟨p', c', rfl⟩ := own_shape hown'
            have hot := fun g hg => own_type ho7 (g := g) hg
            have hot2 : ∀ k, some k = v.ownBlock → BS ≤ k := fun k q => (ho7.lt k q.symm).1
            have hPd := row_grown hP7 hgrow (fun q => by obtain ⟨cc, hcc⟩ := hot PB q.symm; have := hP7; unfold RowIs at this; rw [this] at hcc; injection hcc with hcc; injection hcc with _ q2 _; exact absurd q2 (by decide))
            have hpd := row_grown hp7 hgrow (fun q => by obtain ⟨cc, hcc⟩ := hot pr q.symm; have := hp7; unfold RowIs at this; rw [this] at hcc; injection hcc with hcc; injection hcc with _ q2 _; exact absurd q2 (by decide))
            have hbd : But PB w wd := ⟨hgrow.os.trans hb7.os, hgrow.tape.trans hb7.tape, hgrow.output.trans hb7.output, Nat.le_trans hb7.size hgrow.size, fun k hk hkn => (hgrow.block k (Nat.lt_of_lt_of_le hk hb7.size) (fun q => by have := hot2 k q; omega)).trans (hb7.block k hk hkn)⟩
            have hXd := row_grown hX7 hgrow (fun q => hXv q.symm)
            refine hK.out _ _ ⟨hPd, hpd, hXd⟩ ?_
            clear hK K hP7 hp7 hX7 ho7 hb7 hrow7 hgrow hot hot2 hbs7
            have hS1 := And.intro hPd (And.intro hpd hXd)
            refine takep_G (i := 8) (v := ?_) (some 34) #[true, true, true, true, true, true, true, true, true, false, false] rfl rfl (by kernel_rfl) (by kernel_rfl) (by kernel_rfl) (by kernel_rfl) (fun _ _ _ h => h) (by kernel_rfl) hS1 (Or.inl ⟨by rfl, ?_⟩) ?_
            rotate_left
            · intro w_ hSw_; go_simp; try with_reducible rfl
            try simp only [Act.put, List.setIfInBounds_toArray]
            refine takep_G (i := 9) (v := ?_) (some 35) #[true, true, true, true, true, true, true, true, true, true, false] rfl rfl (by kernel_rfl) (by kernel_rfl) (by kernel_rfl) (by kernel_rfl) (fun _ _ _ h => h) (by kernel_rfl) hS1 (Or.inl ⟨by rfl, ?_⟩) ?_
            rotate_left
            · intro w_ hSw_; go_simp; try with_reducible rfl
            try simp only [Act.put]
            refine gate_G (i := 10) #[true, true, true, true, true, true, true, true, true, true, true] rfl (by kernel_rfl) (by kernel_rfl) (fun K hK => ?_)
            rw [if_pos (by rfl)]
            have hcd : wd.cell? ⟨PB, 5, none⟩ = some v := by rw [hPd.cell]; rfl
            have hfd := hPd.free 5
            go_simp
            have hPe : RowIs (wd.setCell ⟨PB, 5, none⟩ (.slice p' (L.length + 1) c')) PB 75 (pairC a b 0 1 (.slice p' (L.length + 1) c')) := hPd.set 5 (.slice p' (L.length + 1) c')
            have hqP : ∀ (e : TypeId) cc, e ≠ 75 → wd.heap[PB]? ≠ some (.cells cc e (0, 0)) := fun e cc he hx => by have := hPd; unfold RowIs at this; rw [hx] at this; injection this with this; injection this with _ q2 _; exact he q2
            have howne := ownsRow_but hown' ((But.refl PB wd).setCell 5 (.slice p' (L.length + 1) c')) (fun cc => hqP _ cc (by decide))
            have hbe : But PB w (wd.setCell ⟨PB, 5, none⟩ (.slice p' (L.length + 1) c')) := hbd.setCell 5 (.slice p' (L.length + 1) c')
            generalize wd.setCell ⟨PB, 5, none⟩ (.slice p' (L.length + 1) c') = we at *
            clear hPd hpd hXd hbd hcd hfd hqP hown'
            refine hK.out _ _ trivial ?_
            clear hK K
            refine wpAnyH_done (by kernel_rfl) ?_ _
            clear hS0 hS1
            have HE := Lib.hid (And.intro hPe (And.intro howne hbe))
            clear hPe howne hbe
            go_wp2_with fail
            go_roundw
            case rel => exact ⟨1, (.slice p' (L.length + 1) c'), L ++ [⟨s, hwfS.2.2.2⟩], by omega, rfl, by rw [List.length_append, List.length_singleton]; omega, by rw [List.map_append, HM.out, HP.out, if_pos ⟨hok, hsg⟩]; rfl, HE.out.1, by rw [List.length_append, List.length_singleton, List.flatMap_append]; simpa [supE] using HE.out.2.1, HE.out.2.2⟩
            case measure => simp [intOf]
          · have i1 : ¬ ((s.gen % 2 : Nat) : Int) = 0 := by omega
            have HR := Lib.hid (HN.out _ (.inr hsg) hP4 hown4 hbw4)
            clear hP4 hown4 hbw4
            go_wp2_with fail
            go_roundw
            case rel => exact HR.out
            case measure => simp [intOf]
        · have hd9 : dE = 9 := by rw [HD.out, if_neg hok]
          subst hd9
          have HR := Lib.hid (HN.out _ (.inl rfl) hP4 hown4 hbw4)
          clear hP4 hown4 hbw4
          go_wp2_with (first | (refine wpList_world HW3.out ?_) | (refine wpList_store_mid rfl 26 _ _ rfl w1.heap.size 0 C rfl rfl hthere hszC hoa ?_; refine wpList_world HW4.out ?_) | (refine wpList_load_rowG 26 _ rfl w1.heap.size rfl (by rfl) 26 C (0, 0) _ hX4 Tryz.underlying26 rfl hszC ?_))
          try rw [← HW4.out]
          go_roundw
          case rel => exact HR.out
          case measure => simp [intOf]
      · have h1 : t = 1 := by omega
        subst h1
        have hde := hdb wr
        have hwfS := supL_wf b.data.toList
        have hpart : partS a.data.toList b.data.toList 2 = partS a.data.toList b.data.toList 1 ++ atSlot b.data.toList 1 := by first | rfl | exact (List.nil_append _).symm
        have hat : atSlot b.data.toList 1 = if decOkS b.data.toList ∧ (supL b.data.toList).gen % 2 = 1 then [supL b.data.toList] else [] := rfl
        have hdE : decES b.data.toList = if decOkS b.data.toList then 0 else 9 := rfl
        rw [hat] at hpart
        generalize supL b.data.toList = s at *
        generalize decES b.data.toList = dE at *
        have HP := Lib.hid hpart
        have HM := Lib.hid hLm
        have HD := Lib.hid hdE
        clear hpart hat hLm hdE hda hdb
        have hCs : (supV s).toArray.size = 35 := by rw [List.size_toArray, supV_length hwfS.2.2.2]
        have hC35 : (supV s).length = 35 := supV_length hwfS.2.2.2
        have hone : ∀ u ∈ supV s, u.oneCell' = true := fun u hu => by have := supV_one s; rw [Array.all_eq_true'] at this; exact this u (by simpa using hu)
        have hoa := supV_one s
        have hszC : (Tryz.prog.info? 26).map (·.size) = some (supV s).toArray.size := by rw [hCs]; kernel_rfl
        have hsl := fun W => slot_calls s W
        have hix : ∀ W, (Instr.index 62 (.agg #[.string a, .string b]) (.int .i64 1)).run Tryz.prog W = .ok (.string b) W := fun W => by simp [Instr.index, asIntOf, run_underlying Tryz.underlying62, part, Tryz.isAgg9, Tryz.sizeOf9]
        go_wp2_with fail
        refine hde.mono ?_
        rintro e w1 ⟨rfl, hq⟩
        have hP1 := hPr.below hq hPr.lt
        have hp2 := hp1.below hq hp1.lt
        have hown1 := ownsRow_below hown hq
        have hbw1 := hbw.thenBelow (hq.mono hbw.size)
        have hbs1 : BS ≤ w1.heap.size := Nat.le_trans hbs hq.size
        clear hde hq hPr hp1 hown hbw hbs
        obtain ⟨W3, W4, hW3, hW4, hX4, hq, hthere⟩ := alloc_fill w1 supZ (supV s).toArray 26 (by rw [hCs]; rfl)
        have hP4 := hP1.below hq hP1.lt
        have hp4 := hp2.below hq hp2.lt
        have hown4 := ownsRow_below hown1 hq
        have hbw4 := hbw1.thenBelow (hq.mono hbw1.size)
        have hXv : v.ownBlock ≠ some w1.heap.size := fun q => by have := (hown1.lt _ q).2; omega
        have hbs4 : BS ≤ W4.heap.size := Nat.le_trans hbs1 hq.size
        have HW3 := Lib.hid hW3
        have HW4 := Lib.hid hW4
        clear hW3 hW4 hq hP1 hp2 hown1 hbw1 hbs1
        generalize hCC : (supV s).toArray = C at *
        have hnext : ∀ (wq : World), dE = 9 ∨ s.gen % 2 ≠ 1 → RowIs wq PB 75 (pairC a b 0 1 v) → wq.ownsRow BS 26 35 v L.length (L.flatMap supE) → But PB w wq → ∃ t : Nat, ∃ v, ∃ L : List SupW, t ≤ 2 ∧ Value.int .i64 (2 : Int) = .int .i64 t ∧ L.length ≤ t ∧ L.map (·.1) = partS a.data.toList b.data.toList t ∧ RowIs wq PB 75 (pairC a b 0 1 v) ∧ wq.ownsRow BS 26 35 v L.length (L.flatMap supE) ∧ But PB w wq := by
          intro wq hno h1 h2 h3
          refine ⟨2, v, L, by omega, rfl, by omega, ?_, h1, h2, h3⟩
          rw [HP.out, if_neg (fun q => hno.elim (fun h => by rw [HD.out, if_pos q.1] at h; cases h) (fun h => h q.2)), List.append_nil, HM.out]
        have HN := Lib.hid hnext
        clear hnext
        by_cases hok : decOkS b.data.toList
        · have hd0 : dE = 0 := by rw [HD.out, if_pos hok]
          subst hd0
          go_wp2_with (first | (refine wpList_world HW3.out ?_) | (refine wpList_store_mid rfl 26 _ _ rfl w1.heap.size 0 C rfl rfl hthere hszC hoa ?_; refine wpList_world HW4.out ?_) | (refine wpList_load_rowG 26 _ rfl w1.heap.size rfl (by rfl) 26 C (0, 0) _ hX4 Tryz.underlying26 rfl hszC ?_))
          try rw [← HW4.out]
          refine (hsl W4).mono ?_
          generalize w1.heap.size = X at *
          rintro e wv ⟨rfl, hq⟩
          replace hP4 := hP4.below hq hP4.lt
          replace hp4 := hp4.below hq hp4.lt
          replace hX4 := hX4.below hq hX4.lt
          replace hown4 := ownsRow_below hown4 hq
          replace hbw4 := hbw4.thenBelow (hq.mono hbw4.size)
          replace hbs4 : BS ≤ wv.heap.size := Nat.le_trans hbs4 hq.size
          clear hq hsl
          by_cases hsg : s.gen % 2 = 1
          · have i1 : ((s.gen % 2 : Nat) : Int) = 1 := by omega
            go_wp2_with fail
            refine wp_region_gate 10 (S := fun w' => RowIs w' PB 75 (pairC a b 0 1 v) ∧ RowIs w' pr 61 #[.pointer (some ⟨PB, 0, none⟩)] ∧ RowIs w' X 26 C) (by kernel_rfl) ⟨hP4.drew, hp4.drew, hX4.drew⟩ (fun hS0 => ?_)
            replace hP4 := hP4.drew
            replace hp4 := hp4.drew
            replace hX4 := hX4.drew
            replace hown4 := ownsRow_below hown4 (Below.drew (Below.refl _ _))
            replace hbw4 := hbw4.drew
            replace hbs4 : BS ≤ wv.drew.heap.size := hbs4
            generalize wv.drew = wu at *
            refine take_B (i := 0) (v := (.pointer (some ⟨PB, 0, none⟩))) [8, 9, 10] (some 26) #[true, false, false, false, false, false, false, false, false, false, false] rfl rfl (by kernel_rfl) (by kernel_rfl) (by kernel_rfl) (by kernel_rfl) (by kernel_rfl) (fun _ _ _ h => h) (by kernel_rfl) hS0 (Or.inl ⟨by rfl, ?_⟩) ?_
            · intro w_ hSw_; exact (by have hcc : w_.cell? ⟨pr, 0, none⟩ = some (.pointer (some ⟨PB, 0, none⟩)) := (by rw [RowIs.cell hSw_.2.1]; rfl); go_simp)
            try simp only [Act.put, List.setIfInBounds_toArray, List.set_cons_zero, List.set_cons_succ]
            refine take_B (i := 1) (v := (.pointer (some ⟨PB, 0, none⟩))) [2, 3, 4, 7, 10] (some 27) #[true, true, false, false, false, false, false, false, false, false, false] rfl rfl (by kernel_rfl) (by kernel_rfl) (by kernel_rfl) (by kernel_rfl) (by kernel_rfl) (fun _ _ _ h => h) (by kernel_rfl) hS0 (Or.inl ⟨by rfl, ?_⟩) ?_
            · intro w_ hSw_; exact (by have hcc : w_.cell? ⟨pr, 0, none⟩ = some (.pointer (some ⟨PB, 0, none⟩)) := (by rw [RowIs.cell hSw_.2.1]; rfl); go_simp)
            try simp only [Act.put, List.setIfInBounds_toArray, List.set_cons_zero, List.set_cons_succ]
            refine takep_G (i := 2) (v := ?_) (some 28) #[true, true, true, false, false, false, false, false, false, false, false] rfl rfl (by kernel_rfl) (by kernel_rfl) (by kernel_rfl) (by kernel_rfl) (fun _ _ _ h => h) (by kernel_rfl) hS0 (Or.inl ⟨by rfl, ?_⟩) ?_
            rotate_left
            · intro w_ hSw_; go_simp; try with_reducible rfl
            try simp only [Act.put, List.setIfInBounds_toArray, List.set_cons_zero, List.set_cons_succ]
            refine takep_G (i := 3) (v := ?_) (some 29) #[true, true, true, true, false, false, false, false, false, false, false] rfl rfl (by kernel_rfl) (by kernel_rfl) (by kernel_rfl) (by kernel_rfl) (fun _ _ _ h => h) (by kernel_rfl) hS0 (Or.inl ⟨by rfl, ?_⟩) ?_
            rotate_left
            · intro w_ hSw_; go_simp; try with_reducible rfl
            try simp only [Act.put, List.setIfInBounds_toArray, List.set_cons_zero, List.set_cons_succ]
            refine take_B (i := 4) (v := v) [7, 10] (some 30) #[true, true, true, true, true, false, false, false, false, false, false] rfl rfl (by kernel_rfl) (by kernel_rfl) (by kernel_rfl) (by kernel_rfl) (by kernel_rfl) (fun _ _ _ h => h) (by kernel_rfl) hS0 (Or.inl ⟨by rfl, ?_⟩) ?_
            · intro w_ hSw_; exact (by have hcc : w_.cell? ⟨PB, 5, none⟩ = some v := (by rw [RowIs.cell hSw_.1]; rfl); go_simp)
            try simp only [Act.put, List.setIfInBounds_toArray, List.set_cons_zero, List.set_cons_succ]
            refine take_B (i := 5) (v := (.agg C)) [6, 7, 10] (some 31) #[true, true, true, true, true, true, false, false, false, false, false] rfl rfl (by kernel_rfl) (by kernel_rfl) (by kernel_rfl) (by kernel_rfl) (by kernel_rfl) (fun _ _ _ h => h) (by kernel_rfl) hS0 (Or.inl ⟨by rfl, ?_⟩) ?_
            · intro w_ hSw_; exact exec_load_row 26 _ (by rfl) X (by rfl) 26 C (0, 0) _ hSw_.2.2 Tryz.underlying26 rfl hszC
            try simp only [Act.put, List.setIfInBounds_toArray, List.set_cons_zero, List.set_cons_succ]
            refine step_G (i := 6) #[true, true, true, true, true, true, true, false, false, false, false] rfl (by kernel_rfl) (by kernel_rfl) (fun K hK => ?_)
            rw [if_pos (by rfl)]
            refine wp_buildSlice_one 36 26 _ rfl Tryz.underlying36 iS0 hI _ hIz0 35 hIz1 _ rfl hCs (by omega) (by omega) ?_
            have hP7 := hP4.alloc (.cells C 26)
            have hp7 := hp4.alloc (.cells C 26)
            have hX7 := hX4.alloc (.cells C 26)
            have ho7 := ownsRow_below hown4 ((Below.refl _ _).alloc (Nat.le_refl _) (.cells C 26))
            have hb7 := hbw4.alloc (.cells C 26)
            have hrow7 := RowIs.new wu 26 C
            have hbs7 : BS ≤ (wu.alloc (.cells C 26)).heap.size := by rw [World.size_alloc]; omega
            change K _ (wu.alloc (.cells C 26))
            generalize wu.alloc (.cells C 26) = wz at *
            generalize wu.heap.size = Y at *
            refine hK.out _ _ ⟨hP7, hp7, hX7⟩ ?_
            clear hK K hP4 hp4 hX4 hown4 hbw4
            refine step_G (i := 7) #[true, true, true, true, true, true, true, true, false, false, false] rfl (by kernel_rfl) (by kernel_rfl) (fun K hK => ?_)
            rw [if_pos (by rfl)]
            refine wp_append_own _ _ _ 36 rfl BS 26 iS0 (.agg supZ) 35 56 Tryz.underlying36 hI hIz0 hIz1 hIz2 rfl (by decide) v L.length (L.flatMap supE) rfl ho7 ⟨Y, 0, none⟩ 1 1 (supV s) rfl (by rw [hC35]) (fun j u hj => by rw [Addr.add_mid, Nat.zero_add, RowIs.cell hrow7]; rw [← hCC]; simpa using hj) hone (by unfold maxLen; omega) (by omega) hbs7 ?_
            intro v' wd hown' hgrow _
            obtain ⟨p', c', rfl⟩ := own_shape hown'
            have hot := fun g hg => own_type ho7 (g := g) hg
            have hot2 : ∀ k, some k = v.ownBlock → BS ≤ k := fun k q => (ho7.lt k q.symm).1
            have hPd := row_grown hP7 hgrow (fun q => by obtain ⟨cc, hcc⟩ := hot PB q.symm; have := hP7; unfold RowIs at this; rw [this] at hcc; injection hcc with hcc; injection hcc with _ q2 _; exact absurd q2 (by decide))
            have hpd := row_grown hp7 hgrow (fun q => by obtain ⟨cc, hcc⟩ := hot pr q.symm; have := hp7; unfold RowIs at this; rw [this] at hcc; injection hcc with hcc; injection hcc with _ q2 _; exact absurd q2 (by decide))
            have hbd : But PB w wd := ⟨hgrow.os.trans hb7.os, hgrow.tape.trans hb7.tape, hgrow.output.trans hb7.output, Nat.le_trans hb7.size hgrow.size, fun k hk hkn => (hgrow.block k (Nat.lt_of_lt_of_le hk hb7.size) (fun q => by have := hot2 k q; omega)).trans (hb7.block k hk hkn)⟩
            have hXd := row_grown hX7 hgrow (fun q => hXv q.symm)
            refine hK.out _ _ ⟨hPd, hpd, hXd⟩ ?_
            clear hK K hP7 hp7 hX7 ho7 hb7 hrow7 hgrow hot hot2 hbs7
            have hS1 := And.intro hPd (And.intro hpd hXd)
            refine takep_G (i := 8) (v := ?_) (some 34) #[true, true, true, true, true, true, true, true, true, false, false] rfl rfl (by kernel_rfl) (by kernel_rfl) (by kernel_rfl) (by kernel_rfl) (fun _ _ _ h => h) (by kernel_rfl) hS1 (Or.inl ⟨by rfl, ?_⟩) ?_
            rotate_left
            · intro w_ hSw_; go_simp; try with_reducible rfl
            try simp only [Act.put, List.setIfInBounds_toArray]
            refine takep_G (i := 9) (v := ?_) (some 35) #[true, true, true, true, true, true, true, true, true, true, false] rfl rfl (by kernel_rfl) (by kernel_rfl) (by kernel_rfl) (by kernel_rfl) (fun _ _ _ h => h) (by kernel_rfl) hS1 (Or.inl ⟨by rfl, ?_⟩) ?_
            rotate_left
            · intro w_ hSw_; go_simp; try with_reducible rfl
            try simp only [Act.put]
            refine gate_G (i := 10) #[true, true, true, true, true, true, true, true, true, true, true] rfl (by kernel_rfl) (by kernel_rfl) (fun K hK => ?_)
            rw [if_pos (by rfl)]
            have hcd : wd.cell? ⟨PB, 5, none⟩ = some v := by rw [hPd.cell]; rfl
            have hfd := hPd.free 5
            go_simp
            have hPe : RowIs (wd.setCell ⟨PB, 5, none⟩ (.slice p' (L.length + 1) c')) PB 75 (pairC a b 0 1 (.slice p' (L.length + 1) c')) := hPd.set 5 (.slice p' (L.length + 1) c')
            have hqP : ∀ (e : TypeId) cc, e ≠ 75 → wd.heap[PB]? ≠ some (.cells cc e (0, 0)) := fun e cc he hx => by have := hPd; unfold RowIs at this; rw [hx] at this; injection this with this; injection this with _ q2 _; exact he q2
            have howne := ownsRow_but hown' ((But.refl PB wd).setCell 5 (.slice p' (L.length + 1) c')) (fun cc => hqP _ cc (by decide))
            have hbe : But PB w (wd.setCell ⟨PB, 5, none⟩ (.slice p' (L.length + 1) c')) := hbd.setCell 5 (.slice p' (L.length + 1) c')
            generalize wd.setCell ⟨PB, 5, none⟩ (.slice p' (L.length + 1) c') = we at *
            clear hPd hpd hXd hbd hcd hfd hqP hown'
            refine hK.out _ _ trivial ?_
            clear hK K
            refine wpAnyH_done (by kernel_rfl) ?_ _
            clear hS0 hS1
            have HE := Lib.hid (And.intro hPe (And.intro howne hbe))
            clear hPe howne hbe
            go_wp2_with fail
            go_roundw
            case rel => exact ⟨2, (.slice p' (L.length + 1) c'), L ++ [⟨s, hwfS.2.2.2⟩], by omega, rfl, by rw [List.length_append, List.length_singleton]; omega, by rw [List.map_append, HM.out, HP.out, if_pos ⟨hok, hsg⟩]; rfl, HE.out.1, by rw [List.length_append, List.length_singleton, List.flatMap_append]; simpa [supE] using HE.out.2.1, HE.out.2.2⟩
            case measure => simp [intOf]
          · have i1 : ¬ ((s.gen % 2 : Nat) : Int) = 1 := by omega
            have HR := Lib.hid (HN.out _ (.inr hsg) hP4 hown4 hbw4)
            clear hP4 hown4 hbw4
            go_wp2_with fail
            go_roundw
            case rel => exact HR.out
            case measure => simp [intOf]
        · have hd9 : dE = 9 := by rw [HD.out, if_neg hok]
          subst hd9
          have HR := Lib.hid (HN.out _ (.inl rfl) hP4 hown4 hbw4)
          clear hP4 hown4 hbw4
          go_wp2_with (first | (refine wpList_world HW3.out ?_) | (refine wpList_store_mid rfl 26 _ _ rfl w1.heap.size 0 C rfl rfl hthere hszC hoa ?_; refine wpList_world HW4.out ?_) | (refine wpList_load_rowG 26 _ rfl w1.heap.size rfl (by rfl) 26 C (0, 0) _ hX4 Tryz.underlying26 rfl hszC ?_))
          try rw [← HW4.out]
          go_roundw
          case rel => exact HR.out
          case measure => simp [intOf]
end Go.Proofs.YtgjaoofgmdijdaaGreatDoor
