/- super.Decode: walked. -/
import Derived.Test.YtgjaoofgmdijdaaGreatDoorSuper2
import Derived.Lib.LazyBuf
namespace Go.Proofs.YtgjaoofgmdijdaaGreatDoor
open Go.RowKit

def supZ : Array Value := (supV zeroS).toArray
theorem built_sup0 : Tryz.prog.built 26 [] = some supZ := by kernel_rfl
theorem built_sup (a g t : Int) : Tryz.prog.built 26 [(0, .int .u32 a), (1, .int .u64 g), (2, .int .u32 t)] = some ((Value.int .u32 a :: Value.int .u64 g :: Value.int .u32 t :: bytesV (List.replicate 32 0)).toArray) := by kernel_rfl
theorem wpList_build_eqS {P : Program} {ops : Array Oper} {rest : List Oper} {o : Oper} {a : Act} {w : World} {Q : Exit → Act → World → Prop} (hgd : o.guard = none) (t : TypeId) (parts : List (Nat × Operand)) (ho : o.op = .build t parts.toArray) (cells : Array Value)
    (hf : P.built t (parts.map fun (i, x) => (i, a.eval x)) = some cells) (k : wpList P ops Q rest (a.put o.dst (.agg cells)) w) : wpList P ops Q (o :: rest) a w :=
  wpList_plain hgd fun _ hK => wp_build_eq t parts ho cells hf (hK _ _ k)
/-- The hash's bytes go into the row. -/
theorem sup_copied {w : World} {b : Nat} {a g t : Nat} {h : List UInt8} (hr : RowIs w b 26 (supV ⟨a, g, t, List.replicate 32 0⟩).toArray) (hl : h.length = 32) :
    RowIs (w.setCells b 3 (h.map fun x => Value.int .u8 (x.toNat : Int))) b 26 (supV ⟨a, g, t, h⟩).toArray := by
  have := setCells_row b 26 (h.map fun x => Value.int .u8 (x.toNat : Int)) 3 w _ hr (by rw [List.length_map, hl, List.size_toArray, supV_length rfl]; decide)
  have e : ((supV ⟨a, g, t, List.replicate 32 0⟩).toArray.toList.take 3 ++ (h.map fun x => Value.int .u8 (x.toNat : Int)) ++ (supV ⟨a, g, t, List.replicate 32 0⟩).toArray.toList.drop (3 + (h.map fun x => Value.int .u8 (x.toNat : Int)).length)).toArray = (supV ⟨a, g, t, h⟩).toArray := by
    rw [List.length_map, hl, List.drop_eq_nil_of_le (by rw [show (supV ⟨a, g, t, List.replicate 32 0⟩).toArray.toList = supV ⟨a, g, t, List.replicate 32 0⟩ from rfl, supV_length rfl]; decide), List.append_nil]
    rfl
  rwa [e] at this
theorem startS_left (d : List UInt8) (h : d.length ≤ 512) : (startS d).left.length = 506 := by
  rw [startS, List.length_drop, padTo_length 512 d h]
theorem tk_left (t : TkD) (n : Nat) (h : t.bad = false) (hl : n ≤ t.left.length) : (tkNext t n).bad = false ∧ (tkNext t n).left.length = t.left.length - n ∧ (tkSome t n).length = n := by
  have ho : tkOut t n = false := by rw [tkOut, h, decide_eq_false (by omega)]; rfl
  rw [tkNext, tkSome, ho]
  simp only [Bool.false_eq_true, if_false]
  exact ⟨trivial, by rw [List.length_drop], by rw [List.length_take]; omega⟩

set_option maxRecDepth 100000 in
set_option maxHeartbeats 6400000 in
theorem decodeS_calls (s : ByteArray) (w : World) (hs : s.size ≤ 140737488351232) :
    Calls Tryz.prog 10 #[.string s] w fun e w' => e = .returned (.tuple #[.agg (supV (supL s.data.toList)).toArray, .int .i64 (decES s.data.toList)]) ∧ Below w.heap.size w w' := by
  have hlen : s.data.toList.length = s.size := Array.length_toList
  have hno : ¬ decOkS s.data.toList → ∀ (e : Ending) (w' : World), e = Ending.returned (.tuple #[.agg supZ, .int .i64 9]) → Below w.heap.size w w' → (e = Ending.returned (.tuple #[.agg (supV (supL s.data.toList)).toArray, .int .i64 (decES s.data.toList)]) ∧ Below w.heap.size w w') := by
    intro h e w' he hb
    exact ⟨by rw [he, decES, if_neg h, supL, if_neg h]; rfl, hb⟩
  have hszZ : (Tryz.prog.info? 26).map (·.size) = some supZ.size := by kernel_rfl
  obtain ⟨W1, hW1⟩ : ∃ W1, W1 = w.alloc (.cells supZ 26) := ⟨_, rfl⟩
  have hP : RowIs W1 w.heap.size 26 supZ := by rw [hW1]; exact RowIs.new w _ _
  have hb1 : Below w.heap.size w W1 := by rw [hW1]; exact (Below.refl _ _).alloc (Nat.le_refl _) _
  have hZ35 : supZ.size = 35 := rfl
  have HW1 := Lib.hid hW1
  have Hno := Lib.hid hno
  clear hW1 hno
  generalize hPP : w.heap.size = PB at *
  by_cases hl : 512 < s.size
  · have i1 : (512 : Int) < (s.size : Int) := by omega
    have hbad : ¬ decOkS s.data.toList := fun h => by have := h.1; omega
    have HN := Lib.hid hbad
    have hthere7 := hP.there 0 supZ.size (by omega)
    have hst1 := store_row hP (D := supZ) rfl
    have hsb1 := setCells_below PB PB (Nat.le_refl _) supZ.toList 0 _ _ hb1
    have HH := Lib.hid (And.intro hst1 hsb1)
    clear hlen hbad hst1 hsb1 hP hZ35
    go_enter Tryz.func10, Tryz.ntmps10
    go_wp2_with (first | (refine wpList_world HW1.out ?_) | (refine wpList_build_eqS rfl 26 [] rfl supZ built_sup0 ?_) | (refine wpList_store_mid rfl 26 _ _ rfl PB 0 supZ rfl rfl hthere7 hszZ (supV_one zeroS) ?_))
    refine bodyPost_ret (v := .tuple #[.agg supZ, .int .i64 9]) (results_cell_tmp (p := 2) (q := 3) (ty := 26) (by rfl) _ _ PB 26 supZ (0, 0) _ (by rfl) HH.out.1 Tryz.underlying26 (by rfl) hszZ) (by rfl) ?_
    exact Hno.out HN.out _ _ rfl HH.out.2
  · have i1 : ¬ (512 : Int) < (s.size : Int) := by omega
    have hfil := fun w' => filled_calls s w' (by omega)
    have hpl := padTo_length 512 s.data.toList (by omega)
    have hfs := strOf_size (padTo 512 s.data.toList)
    rw [hpl] at hfs
    have hext : strOf (startS s.data.toList).left = (strOf (padTo 512 s.data.toList)).extract 6 512 := by
      have := strOf_drop (padTo 512 s.data.toList) 6
      rw [hfs] at this
      exact this.symm
    have hll := startS_left s.data.toList (by omega)
    have hbf : (startS s.data.toList).bad = false := rfl
    have hdec : decOkS s.data.toList ↔ okS (takeS (startS s.data.toList)) = true ∧ encS (takeS (startS s.data.toList)) = s.data.toList := ⟨fun h => h.2, fun h => ⟨by omega, h⟩⟩
    have hyes : decOkS s.data.toList → ∀ (e : Ending) (w' : World), e = Ending.returned (.tuple #[.agg (supV (takeS (startS s.data.toList))).toArray, .int .i64 0]) → Below PB w w' → (e = Ending.returned (.tuple #[.agg (supV (supL s.data.toList)).toArray, .int .i64 (decES s.data.toList)]) ∧ Below PB w w') := by
      intro h e w' he hb
      exact ⟨by rw [he, decES, if_pos h, supL, if_pos h], hb⟩
    have hTk : ∀ w b, TkAt w b (startS s.data.toList) ↔ RowIs w b 54 #[.string (strOf (startS s.data.toList).left), .bool false] := fun w b => Iff.rfl
    generalize startS s.data.toList = T0 at *
    generalize strOf (padTo 512 s.data.toList) = F at *
    have k1 := tk_left T0 4 hbf (by omega)
    have k2 := tk_left (tkNext T0 4) 8 k1.1 (by omega)
    have k3 := tk_left (tkNext (tkNext T0 4) 8) 4 k2.1 (by omega)
    have k4 := tk_left (tkNext (tkNext (tkNext T0 4) 8) 4) 32 k3.1 (by omega)
    have hts : takeS T0 = ⟨numT T0 4, numT (tkNext T0 4) 8, numT (tkNext (tkNext T0 4) 8) 4, tkSome (tkNext (tkNext (tkNext T0 4) 8) 4) 32⟩ := by
      rw [takeS]
      congr 1
      rw [hashT, padTo, k4.2.2]; simp
    have hn1 := fun b w h => tnumber_calls b T0 4 w h (by omega) (by decide) (by decide)
    have hn2 := fun b w h => tnumber_calls b (tkNext T0 4) 8 w h (by omega) (by decide) (by decide)
    have hn3 := fun b w h => tnumber_calls b (tkNext (tkNext T0 4) 8) 4 w h (by omega) (by decide) (by decide)
    have hso := fun b w h => some_calls b (tkNext (tkNext (tkNext T0 4) 8) 4) 32 w h (by omega)
    rw [show ((4 : Nat) : Int) = 4 from rfl] at hn1 hn3
    rw [show ((8 : Nat) : Int) = 8 from rfl] at hn2
    rw [show ((32 : Nat) : Int) = 32 from rfl] at hso
    have lt1 := numT_lt T0 4
    have lt3 := numT_lt (tkNext (tkNext T0 4) 8) 4
    have hH32 := k4.2.2
    have hwfS := takeS_wf T0
    rw [hts] at hwfS hdec hyes
    have hen := fun w => encodeS_calls ⟨numT T0 4, numT (tkNext T0 4) 8, numT (tkNext (tkNext T0 4) 8) 4, tkSome (tkNext (tkNext (tkNext T0 4) 8) 4) 32⟩ hwfS w
    have hck : checkS ⟨numT T0 4, numT (tkNext T0 4) 8, numT (tkNext (tkNext T0 4) 8) 4, tkSome (tkNext (tkNext (tkNext T0 4) 8) 4) 32⟩ = (if okS ⟨numT T0 4, numT (tkNext T0 4) 8, numT (tkNext (tkNext T0 4) 8) 4, tkSome (tkNext (tkNext (tkNext T0 4) 8) 4) 32⟩ then 0 else 4) := rfl
    generalize numT T0 4 = na at *
    generalize numT (tkNext T0 4) 8 = ng at *
    generalize numT (tkNext (tkNext T0 4) 8) 4 = nt at *
    generalize tkNext (tkNext (tkNext T0 4) 8) 4 = T3 at *
    generalize tkNext (tkNext T0 4) 8 = T2 at *
    generalize tkNext T0 4 = T1 at *
    have hHl : (strOf (tkSome T3 32)).size = 32 := by rw [strOf_size, hH32]
    have hHd : (strOf (tkSome T3 32)).data.toList = tkSome T3 32 := rfl
    generalize tkSome T3 32 = hh at *
    generalize tkNext T3 32 = T4 at *
    have Hhd := Lib.hid hHd
    have HH32 := Lib.hid hH32
    generalize strOf hh = HS at *
    have Hyes := Lib.hid hyes
    have Hdec := Lib.hid hdec
    have Hck := Lib.hid hck
    have Hext := Lib.hid hext
    have hwa : IntKind.u32.wrap (na : Int) = (na : Int) := by rw [IntKind.wrap_u32]; omega
    have hwt : IntKind.u32.wrap (nt : Int) = (nt : Int) := by rw [IntKind.wrap_u32]; omega
    clear hyes hdec hpl hlen hts hext hck k1 k2 k3 k4 hll hbf lt1 lt3 hHd hH32 hwfS
    go_enter Tryz.func10, Tryz.ntmps10
    go_wp2_with (refine wpList_world HW1.out ?_)
    refine (hfil W1).mono ?_
    rintro e w2 ⟨rfl, hb2⟩
    have hP2 := hP.below hb2 hP.lt
    have hbw2 := hb1.trans (hb2.mono (Nat.le_of_lt hP.lt))
    clear hb2 hfil hP hb1
    obtain ⟨W3, hW3⟩ : ∃ W3, W3 = w2.alloc (.cells #[.string (F.extract 6 512), .bool false] 54) := ⟨_, rfl⟩
    have hT3 : TkAt W3 w2.heap.size T0 := by rw [hTk, hW3, Hext.out]; exact RowIs.new w2 _ _
    have hP3 := hP2.alloc (.cells #[.string (F.extract 6 512), .bool false] 54)
    have hb3 : Below PB w W3 := by rw [hW3]; exact hbw2.alloc (Nat.le_of_lt hP2.lt) _
    rw [← hW3] at hP3
    have hPB : PB < w2.heap.size := hP2.lt
    have HW3 := Lib.hid hW3
    clear hW3 hbw2 hP2
    go_wp2_with fail
    rw [← HW3.out]
    generalize w2.heap.size = TB at *
    have hPT : PB ≠ TB := Nat.ne_of_lt hPB
    refine (hn1 TB W3 hT3).mono ?_
    rintro e w4 ⟨rfl, hT4, hq⟩
    have hP4 := hP3.but hq hPT
    have hb4 := hb3.trans (hq.below (Nat.le_of_lt hPB) (Nat.le_of_lt hP3.lt))
    clear hq hn1 hT3 hP3 hb3
    go_wp2_with fail
    refine (hn2 TB w4 hT4).mono ?_
    rintro e w5 ⟨rfl, hT5, hq⟩
    have hP5 := hP4.but hq hPT
    have hb5 := hb4.trans (hq.below (Nat.le_of_lt hPB) (Nat.le_of_lt hP4.lt))
    clear hq hn2 hT4 hP4 hb4
    go_wp2_with fail
    refine (hn3 TB w5 hT5).mono ?_
    rintro e w6 ⟨rfl, hT6, hq⟩
    have hP6 := hP5.but hq hPT
    have hb6 := hb5.trans (hq.below (Nat.le_of_lt hPB) (Nat.le_of_lt hP5.lt))
    have hs6 : PB ≤ w6.heap.size := Nat.le_of_lt hP6.lt
    clear hq hn3 hT5 hP5 hb5
    obtain ⟨W7, W8, hW7, hW8, hN8, hb8, hthere8⟩ := alloc_fill w6 supZ (supV ⟨na, ng, nt, List.replicate 32 0⟩).toArray 26 (by rw [List.size_toArray, supV_length rfl]; rfl)
    have hP8 := hP6.below hb8 hP6.lt
    have hT8 : TkAt W8 TB T3 := RowIs.below hT6 hb8 (RowIs.lt hT6)
    have hbt8 := hb6.trans (hb8.mono hs6)
    have hPN : PB ≠ w6.heap.size := Nat.ne_of_lt hP6.lt
    have hTN : TB ≠ w6.heap.size := Nat.ne_of_lt (RowIs.lt hT6)
    have hsz8 : (Tryz.prog.info? 26).map (·.size) = some (supV ⟨na, ng, nt, List.replicate 32 0⟩).toArray.size := by rw [List.size_toArray, supV_length rfl]; kernel_rfl
    have hone8 := supV_one ⟨na, ng, nt, List.replicate 32 0⟩
    have hb0 := built_sup (na : Int) (ng : Int) (nt : Int)
    have hb0' : Tryz.prog.built 26 [(0, .int .u32 (na : Int)), (1, .int .u64 (ng : Int)), (2, .int .u32 (nt : Int))] = some (supV ⟨na, ng, nt, List.replicate 32 0⟩).toArray := hb0
    have HW7 := Lib.hid hW7
    have HW8 := Lib.hid hW8
    have HB0 := Lib.hid hb0'
    have hcopied := fun w' (h : RowIs w' w6.heap.size 26 (supV ⟨na, ng, nt, List.replicate 32 0⟩).toArray) => sup_copied (h := hh) h HH32.out
    have hsup3 : (supV ⟨na, ng, nt, List.replicate 32 0⟩).toArray.size = 35 := by rw [List.size_toArray, supV_length rfl]
    have hby8 : ∀ j, j < 32 → ((supV ⟨na, ng, nt, List.replicate 32 0⟩).toArray[3 + j]?).isSome = true := fun j hj => by rw [Array.getElem?_eq_getElem (by rw [hsup3]; omega)]; rfl
    clear hW7 hW8 hb0 hb0' hT6 hP6 hb6 hb8
    generalize (supV ⟨na, ng, nt, List.replicate 32 0⟩).toArray = C8 at *
    go_wp2_with (first | (refine wpList_world HW7.out ?_) | (refine wpList_build_eqS rfl 26 [(0, .tmp 19), (1, .tmp 21), (2, .tmp 24)] rfl C8 (by exact HB0.out) ?_) | (refine wpList_store_mid rfl 26 _ _ rfl w6.heap.size 0 C8 rfl rfl hthere8 hsz8 hone8 ?_; refine wpList_world HW8.out ?_))
    try rw [← HW8.out]
    generalize w6.heap.size = NB at *
    refine wp_region_held_drew (S := fun _ => True) (by kernel_rfl) trivial (fun hHeld => ?_)
    have hTv := RowIs.drew hT8
    have hNv := RowIs.drew hN8
    have hPv := RowIs.drew hP8
    have hBv : Below PB w W8.drew := Below.drew hbt8
    clear hT8 hN8 hP8 hbt8
    generalize W8.drew = wv at *
    refine take_N (i := 0) (v := ?_) (some 26) #[true, false, false, false, false] rfl rfl (by kernel_rfl) (by kernel_rfl) (by kernel_rfl) (by kernel_rfl) (fun _ _ _ h => h) trivial (Or.inl ⟨by rfl, ?_⟩) ?_
    rotate_left
    · intro w_ hSw_; go_simp; try with_reducible rfl
    try simp only [Act.put, List.setIfInBounds_toArray, List.set_cons_zero, List.set_cons_succ]
    refine take_N (i := 1) (v := ?_) (some 27) #[true, true, false, false, false] rfl rfl (by kernel_rfl) (by kernel_rfl) (by kernel_rfl) (by kernel_rfl) (fun _ _ _ h => h) trivial (Or.inl ⟨by rfl, ?_⟩) ?_
    rotate_left
    · intro w_ hSw_; go_simp; try with_reducible rfl
    try simp only [Act.put, List.setIfInBounds_toArray, List.set_cons_zero, List.set_cons_succ]
    refine take_N (i := 2) (v := ?_) (some 28) #[true, true, true, false, false] rfl rfl (by kernel_rfl) (by kernel_rfl) (by kernel_rfl) (by kernel_rfl) (fun _ _ _ h => h) trivial (Or.inl ⟨by rfl, ?_⟩) ?_
    rotate_left
    · intro w_ hSw_; go_simp; try with_reducible rfl
    try simp only [Act.put, List.setIfInBounds_toArray, List.set_cons_zero, List.set_cons_succ]
    refine step_N (i := 3) #[true, true, true, true, false] rfl (by kernel_rfl) (by kernel_rfl) (fun K hK => ?_)
    rw [if_pos (by rfl)]
    go_simp
    refine (hso TB wv hTv).mono ?_
    rintro e w9 ⟨rfl, hT9, hq⟩
    have hN9 := hNv.but hq hTN.symm
    have hP9 := hPv.but hq hPT
    have hb9 := hBv.trans (hq.below (Nat.le_of_lt hPB) (Nat.le_of_lt hPv.lt))
    clear hq hTv hNv hPv hBv hso
    refine hK.out _ _ trivial ?_
    clear hK K
    refine step_N (i := 4) #[true, true, true, true, true] rfl (by kernel_rfl) (by kernel_rfl) (fun K hK => ?_)
    refine step_copy_string rfl _ _ 48 9 rfl 5 Tryz.underlying48 Tryz.sizeOf5 NB 3 32 32 (by rfl) HS (by rfl) (by omega) (fun j hj => by rw [hN9.cell]; exact hby8 j (by omega)) (fun j _ => hN9.free _) ?_
    have hN10 := hcopied w9 hN9
    rw [← Hhd.out] at hN10
    have hP10 : RowIs (w9.setCells NB 3 (HS.data.toList.map fun x => Value.int .u8 (x.toNat : Int))) PB 26 supZ := (setCells_other NB PB hPN _ 3 w9).trans hP9
    have hb10 := setCells_below NB PB (by omega) (HS.data.toList.map fun x => Value.int .u8 (x.toNat : Int)) 3 _ _ hb9
    generalize w9.setCells NB 3 (HS.data.toList.map fun x => Value.int .u8 (x.toNat : Int)) = w10 at *
    rw [Hhd.out] at hN10
    clear hcopied hN9 hP9 hb9 hT9
    refine hK.out _ _ trivial ?_
    clear hK K
    refine wpAnyH_done (by kernel_rfl) ?_ _
    clear hHeld
    have hszS : (Tryz.prog.info? 26).map (·.size) = some (supV ⟨na, ng, nt, hh⟩).toArray.size := by rw [List.size_toArray, supV_length HH32.out]; kernel_rfl
    have honeS := supV_one ⟨na, ng, nt, hh⟩
    have hsizeS : (supV ⟨na, ng, nt, hh⟩).toArray.size = 35 := by rw [List.size_toArray, supV_length HH32.out]
    generalize hokg : okS ⟨na, ng, nt, hh⟩ = OK at *
    generalize hckg : checkS ⟨na, ng, nt, hh⟩ = CK at *
    generalize heng : encS ⟨na, ng, nt, hh⟩ = EN at *
    generalize (supV ⟨na, ng, nt, hh⟩).toArray = CS at *
    go_wp2_with (refine wpList_load_row rfl 26 _ rfl NB rfl 26 CS (0, 0) _ hN10 Tryz.underlying26 rfl hszS ?_)
    refine (hen w10).mono ?_
    rintro e w11 ⟨rfl, hq⟩
    have hP11 := hP10.below hq hP10.lt
    have hN11 := hN10.below hq hN10.lt
    have hb11 := hb10.trans (hq.mono (Nat.le_of_lt hP10.lt))
    have hthere7 := hP11.there 0 supZ.size (by omega)
    have htherS := hP11.there 0 CS.size (by omega)
    have hst9 := store_row hP11 (D := supZ) rfl
    have hsb9 := setCells_below PB PB (Nat.le_refl _) supZ.toList 0 _ _ hb11
    have hstN := store_row hP11 (D := CS) (by rw [hsizeS, hZ35])
    have hsbN := setCells_below PB PB (Nat.le_refl _) CS.toList 0 _ _ hb11
    clear hq hN10 hP10 hb10 hen hP11 hb11 hsizeS
    have e2 : (strOf EN).data.toList = EN := rfl
    have hE : ((strOf EN).toList == s.toList) = decide (EN = s.data.toList) := by
      rw [ByteArray.toList_eq, ByteArray.toList_eq]
      rw [Bool.eq_iff_iff]; simp [e2]
    clear e2
    generalize strOf EN = ES at *
    cases OK with
    | false =>
      have HN := Lib.hid (show ¬ decOkS s.data.toList from fun h => by have := (Hdec.out.1 h).1; cases this)
      have hC : CK = 4 := Hck.out
      subst hC
      have HH := Lib.hid (And.intro hst9 hsb9)
      clear hE hstN hsbN hst9 hsb9 htherS
      go_wp2_with (first | (refine wpList_build_eqS rfl 26 [] rfl supZ built_sup0 ?_) | (refine wpList_store_mid rfl 26 _ _ rfl PB 0 supZ rfl rfl hthere7 hszZ (supV_one zeroS) ?_))
      refine bodyPost_ret (v := .tuple #[.agg supZ, .int .i64 9]) (results_cell_tmp (p := 2) (q := 3) (ty := 26) (by rfl) _ _ PB 26 supZ (0, 0) _ (by rfl) HH.out.1 Tryz.underlying26 (by rfl) hszZ) (by rfl) ?_
      exact Hno.out HN.out _ _ rfl HH.out.2
    | true =>
      have hC : CK = 0 := Hck.out
      subst hC
      by_cases hq : EN = s.data.toList
      · rw [decide_eq_true hq] at hE
        have hne : (ES.toList != s.toList) = false := by rw [bne, hE]; rfl
        have HN := Lib.hid (Hdec.out.2 ⟨rfl, hq⟩)
        have HH := Lib.hid (And.intro hstN hsbN)
        clear hq hst9 hsb9 hstN hsbN hthere7
        go_wp2_with (first | (refine wpList_store_mid rfl 26 _ _ rfl PB 0 CS rfl rfl htherS hszS honeS ?_) | (refine wpList_load_row rfl 26 _ rfl NB rfl 26 CS (0, 0) _ hN11 Tryz.underlying26 rfl hszS ?_))
        refine bodyPost_ret (v := .tuple #[.agg CS, .int .i64 0]) (results_cell_tmp (p := 2) (q := 3) (ty := 26) (by rfl) _ _ PB 26 CS (0, 0) _ (by rfl) HH.out.1 Tryz.underlying26 (by rfl) hszS) (by rfl) ?_
        exact Hyes.out HN.out _ _ rfl HH.out.2
      · rw [decide_eq_false hq] at hE
        have hne : (ES.toList != s.toList) = true := by rw [bne, hE]; rfl
        have HN := Lib.hid (show ¬ decOkS s.data.toList from fun h => hq (Hdec.out.1 h).2)
        have HH := Lib.hid (And.intro hst9 hsb9)
        clear hq hstN hsbN hst9 hsb9 htherS
        go_wp2_with (first | (refine wpList_build_eqS rfl 26 [] rfl supZ built_sup0 ?_) | (refine wpList_store_mid rfl 26 _ _ rfl PB 0 supZ rfl rfl hthere7 hszZ (supV_one zeroS) ?_))
        refine bodyPost_ret (v := .tuple #[.agg supZ, .int .i64 9]) (results_cell_tmp (p := 2) (q := 3) (ty := 26) (by rfl) _ _ PB 26 supZ (0, 0) _ (by rfl) HH.out.1 Tryz.underlying26 (by rfl) hszZ) (by rfl) ?_
        exact Hno.out HN.out _ _ rfl HH.out.2

end Go.Proofs.YtgjaoofgmdijdaaGreatDoor
