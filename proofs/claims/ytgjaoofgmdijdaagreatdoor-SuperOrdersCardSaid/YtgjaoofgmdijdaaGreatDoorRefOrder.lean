/- The reference's Order: walked. -/
import Derived.Test.YtgjaoofgmdijdaaGreatDoorRefSuper
import Derived.Test.YtgjaoofgmdijdaaGreatDoorSuperRng
import Derived.Great.BuildSlice
import Derived.BigQuiet
namespace Go.Proofs.YtgjaoofgmdijdaaGreatDoor
open Go.RowKit Go.Sort

def partR (a b : List UInt8) : Nat → List SupD
  | 0 => []
  | 1 => atSlot a 0
  | _ => orderS a b
theorem sortS_one {l : List SupD} (h : l.length ≤ 1) : sortS l = l := by
  match l, h with
  | [], _ => rfl
  | [_], _ => rfl
theorem fill_two {size : Nat} (C D Z : Array Value) (hC : C.size = size) (hD : D.size = size) (hZ : Z.size = 2 * size) :
    Instr.fill (fun k => some (k * size, size)) Z [(0, .agg C), (1, .agg D)] = some (C ++ D) := by
  rw [fill_cons (off := 0) (size := size) (v := .agg C) (by simp) hC (by omega), fill_cons (off := size) (size := size) (v := .agg D) (by simp) hD (by simp [Value.cells]; omega), Instr.fill]
  simp only [Value.cells]
  congr 1
  apply Array.ext'
  simp
  rw [List.take_append_of_le_length (by simp; omega), List.take_of_length_le (by simp; omega), List.drop_of_length_le (by simp; omega)]
  simp
theorem wp_buildSlice_two {P : Program} {o : Oper} {a : Act} {w : World} {K : Act → World → Prop} {Q : Exit → Act → World → Prop} (t e : TypeId) (x y : Operand) (ho : o.op = .buildSlice t 2 #[(0, x), (1, y)]) (hu : P.underlying t = some (.slice e)) (i : TypeInfo) (hi : P.info? e = some i) (z : Value) (hz : i.zero = some z) (size : Nat) (his : i.size = size) (C D : Array Value) (hx : a.eval x = .agg C) (hy : a.eval y = .agg D) (hC : C.size = size) (hD : D.size = size) (hp : 0 < size) (hm : size ≤ 65536)
    (h : K (a.put o.dst (.slice (some ⟨w.heap.size, 0, none⟩) 2 2)) (w.alloc (.cells (C ++ D) e))) : o.wp P a w K Q := by
  subst his
  refine wp_buildSlice t e 2 #[(0, x), (1, y)] ho (C ++ D) i z hu hi hz (by omega) (by omega) ?_ h
  simp only [List.map_toArray, List.map_cons, List.map_nil, hx, hy]
  exact fill_two C D _ hC hD (by simp)
theorem wpList_buildSlice_oneS {P : Program} {ops : Array Oper} {rest : List Oper} {o : Oper} {a : Act} {w : World} {Q : Exit → Act → World → Prop} (hgd : o.guard = none) (t e : TypeId) (x : Operand) (ho : o.op = .buildSlice t 1 #[(0, x)]) (hu : P.underlying t = some (.slice e)) (i : TypeInfo) (hi : P.info? e = some i) (z : Value) (hz : i.zero = some z) (size : Nat) (his : i.size = size) (C : Array Value) (hx : a.eval x = .agg C) (hC : C.size = size) (hp : 0 < size) (hm : size ≤ 65536)
    (k : wpList P ops Q rest (a.put o.dst (.slice (some ⟨w.heap.size, 0, none⟩) 1 1)) (w.alloc (.cells C e))) : wpList P ops Q (o :: rest) a w :=
  wpList_plain hgd fun _ hK => wp_buildSlice_one t e x ho hu i hi z hz size his C hx hC hp hm (hK _ _ k)
theorem own_two {w : World} {B : Nat} (s r : SupW) (hB : B ≤ w.heap.size) : (w.alloc (.cells ((supV s.1).toArray ++ (supV r.1).toArray) 26)).ownsRow B 26 35 (.slice (some ⟨w.heap.size, 0, none⟩) 2 2) 2 ([s, r].flatMap supE) := by
  have h1 := supV_length s.2
  have h2 := supV_length r.2
  refine ⟨by simp [supE, h1, h2], .inr ⟨w.heap.size, 2, _, rfl, hB, heap_alloc_new _ _, by omega, by unfold maxLen; omega, by simp [h1, h2], ?_⟩⟩
  simp only [Array.toList_append, List.flatMap_cons, List.flatMap_nil, List.append_nil, supE]
  rw [List.take_of_length_le (by simp [h1, h2])]

theorem below_drewR (B : Nat) (w : World) (n : Nat) : Below B w (w.drewN n) := ⟨rfl, rfl, rfl, Nat.le_refl _, fun _ _ => rfl⟩

set_option maxRecDepth 100000 in
set_option maxHeartbeats 6400000 in
theorem rorder_calls (a b : ByteArray) (w : World) (ha : a.size ≤ 140737488351232) (hb : b.size ≤ 140737488351232) :
    Calls Tryz.prog 18 #[.string a, .string b] w fun e w' => ∃ v, ∃ l : List SupW, e = .returned v ∧ l.map (·.1) = orderS a.data.toList b.data.toList ∧ w'.ownsRow w.heap.size 26 35 v l.length (l.flatMap supE) ∧ Below w.heap.size w w' := by
  have hda := fun W => rdecodeS_calls a W ha
  have hdb := fun W => rdecodeS_calls b W hb
  obtain ⟨iS0, hI, hIz0, hIz1, hIz2⟩ := info_parts info_sup
  obtain ⟨W1, hW1⟩ : ∃ W1, W1 = w.alloc (.cells #[.string a, .string b] 9) := ⟨_, rfl⟩
  have hR1 : RowIs W1 w.heap.size 9 #[.string a, .string b] := by rw [hW1]; exact RowIs.new w _ _
  have hb1 : Below w.heap.size w W1 := by rw [hW1]; exact (Below.refl _ _).alloc (Nat.le_refl _) _
  have HW1 := Lib.hid hW1
  have hlt1 := hR1.lt
  clear hW1
  generalize hBS : w.heap.size = BS at *
  go_enter Tryz.func18, Tryz.ntmps18
  go_wp2_with (refine wpList_world HW1.out ?_)
  try rw [← HW1.out]
  try rw [hBS]
  generalize hB1 : W1.heap.size = B1 at *
  go_loopw [5, 14] (fun vo x wr => ∃ t : Nat, ∃ L : List SupW, t ≤ 2 ∧ x = .int .i64 t ∧ L.length ≤ t ∧ L.map (·.1) = partR a.data.toList b.data.toList t ∧ wr.ownsRow B1 26 35 vo L.length (L.flatMap supE) ∧ Below B1 W1 wr) (fun _ x _ => 2 - (intOf x).toNat)
  case atStart => exact ⟨0, [], by omega, rfl, Nat.le_refl _, rfl, ⟨rfl, .inl ⟨rfl, rfl⟩⟩, by rw [← hB1]; exact Below.refl _ _⟩
  case round =>
    obtain ⟨t, L, ht, rfl, hL, hLm, hown, hbw⟩ := hrel
    have hbs : B1 ≤ wr.heap.size := by have := hbw.size; omega
    have hRr := hR1.below hbw hlt1
    by_cases h2 : t = 2
    · subst h2
      have HH := Lib.hid (And.intro hLm (And.intro (own_mono hown (show BS ≤ B1 by omega)) (hb1.trans (hbw.mono (show BS ≤ B1 by omega)))))
      clear hLm hown hbw hR1 hRr hb1
      go_wp2_with fail
      go_ret
      exact ⟨_, L, rfl, HH.out⟩
    · by_cases h0 : t = 0
      · subst h0
        have hde := hda wr
        have hwfS := supL_wf a.data.toList
        have hpart : partR a.data.toList b.data.toList 1 = atSlot a.data.toList 0 := rfl
        have hat : atSlot a.data.toList 0 = if decOkS a.data.toList ∧ (supL a.data.toList).gen % 2 = 0 then [supL a.data.toList] else [] := rfl
        have hdE : decES a.data.toList = if decOkS a.data.toList then 0 else 9 := rfl
        rw [hat] at hpart
        generalize supL a.data.toList = s at *
        generalize decES a.data.toList = dE at *
        have HP := Lib.hid hpart
        have HM := Lib.hid hLm
        have HD := Lib.hid hdE
        clear hpart hat hLm hdE hda hdb
        have cr : wr.cell? ⟨BS, 0, none⟩ = some (.string a) := by rw [hRr.cell]; rfl
        have hCs : (supV s).toArray.size = 35 := by rw [List.size_toArray, supV_length hwfS.2.2.2]
        have hC35 : (supV s).length = 35 := supV_length hwfS.2.2.2
        have hone : ∀ u ∈ supV s, u.oneCell' = true := fun u hu => by have := supV_one s; rw [Array.all_eq_true'] at this; exact this u (by simpa using hu)
        have hoa := supV_one s
        have hszC : (Tryz.prog.info? 26).map (·.size) = some (supV s).toArray.size := by rw [hCs]; kernel_rfl
        have hsl := fun W => rslot_calls s W
        go_wp2_with fail
        refine hde.mono ?_
        rintro e w1 ⟨rfl, hq⟩
        have hown1 := ownsRow_below hown hq
        have hbw1 := hbw.trans (hq.mono hbs)
        have hbs1 : B1 ≤ w1.heap.size := Nat.le_trans hbs hq.size
        clear hde hq hown hbw hbs hRr cr
        obtain ⟨W3, W4, hW3, hW4, hX4, hq, hthere⟩ := alloc_fill w1 supZ (supV s).toArray 26 (by rw [hCs]; rfl)
        have hown4 := ownsRow_below hown1 hq
        have hbw4 := hbw1.trans (hq.mono hbs1)
        have hbs4 : B1 ≤ W4.heap.size := Nat.le_trans hbs1 hq.size
        have HW3 := Lib.hid hW3
        have HW4 := Lib.hid hW4
        clear hW3 hW4 hq hown1 hbw1
        generalize hCC : (supV s).toArray = C at *
        have hno : ¬ (decOkS a.data.toList ∧ s.gen % 2 = 0) → L.map (·.1) = partR a.data.toList b.data.toList 1 := fun h => by
          rw [HP.out, if_neg h]
          rw [HM.out]; rfl
        have HN := Lib.hid hno
        clear hno
        generalize hX : w1.heap.size = X at *
        by_cases hok : decOkS a.data.toList
        · have hd0 : dE = 0 := by rw [HD.out, if_pos hok]
          subst hd0
          go_wp2_with (first | (refine wpList_world HW3.out ?_) | (refine wpList_store_mid rfl 26 _ _ rfl X 0 C rfl rfl hthere hszC hoa ?_; refine wpList_world HW4.out ?_) | (refine wpList_load_rowG 26 _ rfl X rfl (by rfl) 26 C (0, 0) _ hX4 Tryz.underlying26 rfl hszC ?_))
          try rw [← HW4.out]
          refine (hsl W4).mono ?_
          rintro e wv ⟨rfl, hq⟩
          replace hX4 := hX4.below hq hX4.lt
          replace hown4 := ownsRow_below hown4 hq
          replace hbw4 := hbw4.trans (hq.mono hbs4)
          replace hbs4 : B1 ≤ wv.heap.size := Nat.le_trans hbs4 hq.size
          clear hq hsl
          by_cases hsg : s.gen % 2 = 0
          · have i1 : ((s.gen % 2 : Nat) : Int) = 0 := by omega
            obtain rfl : L = [] := List.eq_nil_of_length_eq_zero (by omega)
            obtain ⟨pv, cv, rfl⟩ := own_shape hown4
            have cX : wv.cell? ⟨X, 1, none⟩ = some (.int .u64 (s.gen : Int)) := by rw [hX4.cell, ← hCC]; rfl
            go_wp2_with fail
            go_quiet (fail)
            replace hX4 : RowIs (wv.drewN nq) X 26 C := hX4
            replace hown4 := ownsRow_below hown4 (below_drewR _ wv nq)
            replace hbw4 := hbw4.trans (below_drewR B1 wv nq)
            replace hbs4 : B1 ≤ (wv.drewN nq).heap.size := hbs4
            generalize wv.drewN nq = wv at *
            have hY := RowIs.new wv 26 C
            have halY := (Below.refl _ wv).alloc (Nat.le_refl _) (.cells C 26)
            obtain ⟨W5, hW5⟩ : ∃ W5, W5 = wv.alloc (.cells C 26) := ⟨_, rfl⟩
            rw [← hW5] at hY halY
            have hown5 := ownsRow_below hown4 halY
            have hb5 := hbw4.trans (halY.mono hbs4)
            have hs5 : B1 ≤ W5.heap.size := Nat.le_trans hbs4 halY.size
            have HW5 := Lib.hid hW5
            clear hW5 halY hown4 hbw4
            go_wp2_with (first | (refine wpList_load_rowG 26 _ rfl X rfl (by rfl) 26 C (0, 0) _ hX4 Tryz.underlying26 rfl hszC ?_) | (refine wpList_buildSlice_oneS rfl 36 26 _ rfl Tryz.underlying36 iS0 hI _ hIz0 35 hIz1 C rfl hCs (by omega) (by omega) ?_; refine wpList_world HW5.out ?_) |
              (at_builtin; refine wpList_append_own _ rfl _ _ 36 rfl B1 26 iS0 (.agg supZ) 35 56 Tryz.underlying36 hI hIz0 hIz1 hIz2 rfl (by decide) (.slice pv 0 cv) 0 [] rfl hown5 ⟨wv.heap.size, 0, none⟩ 1 1 (supV s) rfl (by rw [hC35]) (fun j u hj => by rw [Addr.add_mid, Nat.zero_add, RowIs.cell hY]; rw [← hCC]; simpa using hj) hone (by unfold maxLen; omega) (by omega) hs5 ?_))
            intro v6 w6 hown6 hgrow _
            have hb6 : Below B1 W1 w6 := hb5.grown hgrow hs5 (fun k hk => hown5.lt k hk |>.1)
            go_wp2_with fail
            go_roundw
            case rel => exact ⟨1, [⟨s, hwfS.2.2.2⟩], by omega, rfl, by simp, by rw [HP.out, if_pos ⟨hok, hsg⟩]; rfl, by simpa [supE] using hown6, hb6⟩
            case measure => simp [intOf]
          · have i1 : ¬ ((s.gen % 2 : Nat) : Int) = 0 := by omega
            have HH := Lib.hid (And.intro hown4 hbw4)
            clear hown4 hbw4
            go_wp2_with fail
            go_roundw
            case rel => exact ⟨1, L, by omega, rfl, by omega, HN.out (fun h => hsg h.2), HH.out⟩
            case measure => simp [intOf]
        · have hd0 : dE = 9 := by rw [HD.out, if_neg hok]
          subst hd0
          have HH := Lib.hid (And.intro hown4 hbw4)
          clear hown4 hbw4
          go_wp2_with (first | (refine wpList_world HW3.out ?_) | (refine wpList_store_mid rfl 26 _ _ rfl X 0 C rfl rfl hthere hszC hoa ?_; refine wpList_world HW4.out ?_))
          try rw [← HW4.out]
          go_roundw
          case rel => exact ⟨1, L, by omega, rfl, by omega, HN.out (fun h => hok h.1), HH.out⟩
          case measure => simp [intOf]
      · obtain rfl : t = 1 := by omega
        have hde := hdb wr
        have hwfS := supL_wf b.data.toList
        have hpart : partR a.data.toList b.data.toList 2 = sortS (partR a.data.toList b.data.toList 1 ++ atSlot b.data.toList 1) := rfl
        have hat : atSlot b.data.toList 1 = if decOkS b.data.toList ∧ (supL b.data.toList).gen % 2 = 1 then [supL b.data.toList] else [] := rfl
        have hdE : decES b.data.toList = if decOkS b.data.toList then 0 else 9 := rfl
        rw [hat] at hpart
        generalize supL b.data.toList = s at *
        generalize decES b.data.toList = dE at *
        have HP := Lib.hid hpart
        have HM := Lib.hid hLm
        have HD := Lib.hid hdE
        clear hpart hat hLm hdE hda hdb
        have cr : wr.cell? ⟨BS, 1, none⟩ = some (.string b) := by rw [hRr.cell]; rfl
        have hCs : (supV s).toArray.size = 35 := by rw [List.size_toArray, supV_length hwfS.2.2.2]
        have hC35 : (supV s).length = 35 := supV_length hwfS.2.2.2
        have hone : ∀ u ∈ supV s, u.oneCell' = true := fun u hu => by have := supV_one s; rw [Array.all_eq_true'] at this; exact this u (by simpa using hu)
        have hoa := supV_one s
        have hszC : (Tryz.prog.info? 26).map (·.size) = some (supV s).toArray.size := by rw [hCs]; kernel_rfl
        have hsl := fun W => rslot_calls s W
        go_wp2_with fail
        refine hde.mono ?_
        rintro e w1 ⟨rfl, hq⟩
        have hown1 := ownsRow_below hown hq
        have hbw1 := hbw.trans (hq.mono hbs)
        have hbs1 : B1 ≤ w1.heap.size := Nat.le_trans hbs hq.size
        clear hde hq hown hbw hbs hRr cr
        obtain ⟨W3, W4, hW3, hW4, hX4, hq, hthere⟩ := alloc_fill w1 supZ (supV s).toArray 26 (by rw [hCs]; rfl)
        have hown4 := ownsRow_below hown1 hq
        have hbw4 := hbw1.trans (hq.mono hbs1)
        have hbs4 : B1 ≤ W4.heap.size := Nat.le_trans hbs1 hq.size
        have HW3 := Lib.hid hW3
        have HW4 := Lib.hid hW4
        clear hW3 hW4 hq hown1 hbw1
        generalize hCC : (supV s).toArray = C at *
        have hno : ¬ (decOkS b.data.toList ∧ s.gen % 2 = 1) → L.map (·.1) = partR a.data.toList b.data.toList 2 := fun h => by
          rw [HP.out, if_neg h, List.append_nil, sortS_one (by rw [← HM.out, List.length_map]; omega)]
          exact HM.out
        have HN := Lib.hid hno
        clear hno
        generalize hX : w1.heap.size = X at *
        by_cases hok : decOkS b.data.toList
        · have hd0 : dE = 0 := by rw [HD.out, if_pos hok]
          subst hd0
          go_wp2_with (first | (refine wpList_world HW3.out ?_) | (refine wpList_store_mid rfl 26 _ _ rfl X 0 C rfl rfl hthere hszC hoa ?_; refine wpList_world HW4.out ?_) | (refine wpList_load_rowG 26 _ rfl X rfl (by rfl) 26 C (0, 0) _ hX4 Tryz.underlying26 rfl hszC ?_))
          try rw [← HW4.out]
          refine (hsl W4).mono ?_
          rintro e wv ⟨rfl, hq⟩
          replace hX4 := hX4.below hq hX4.lt
          replace hown4 := ownsRow_below hown4 hq
          replace hbw4 := hbw4.trans (hq.mono hbs4)
          replace hbs4 : B1 ≤ wv.heap.size := Nat.le_trans hbs4 hq.size
          clear hq hsl
          by_cases hsg : s.gen % 2 = 1
          · have i1 : ((s.gen % 2 : Nat) : Int) = 1 := by omega
            match L, hL with
            | [], _ =>
              obtain ⟨pv, cv, rfl⟩ := own_shape hown4
              have cX : wv.cell? ⟨X, 1, none⟩ = some (.int .u64 (s.gen : Int)) := by rw [hX4.cell, ← hCC]; rfl
              go_wp2_with fail
              go_quiet (fail)
              replace hX4 : RowIs (wv.drewN nq) X 26 C := hX4
              replace hown4 := ownsRow_below hown4 (below_drewR _ wv nq)
              replace hbw4 := hbw4.trans (below_drewR B1 wv nq)
              replace hbs4 : B1 ≤ (wv.drewN nq).heap.size := hbs4
              generalize wv.drewN nq = wv at *
              have hY := RowIs.new wv 26 C
              have halY := (Below.refl _ wv).alloc (Nat.le_refl _) (.cells C 26)
              obtain ⟨W5, hW5⟩ : ∃ W5, W5 = wv.alloc (.cells C 26) := ⟨_, rfl⟩
              rw [← hW5] at hY halY
              have hown5 := ownsRow_below hown4 halY
              have hb5 := hbw4.trans (halY.mono hbs4)
              have hs5 : B1 ≤ W5.heap.size := Nat.le_trans hbs4 halY.size
              have HW5 := Lib.hid hW5
              clear hW5 halY hown4 hbw4
              go_wp2_with (first | (refine wpList_load_rowG 26 _ rfl X rfl (by rfl) 26 C (0, 0) _ hX4 Tryz.underlying26 rfl hszC ?_) | (refine wpList_buildSlice_oneS rfl 36 26 _ rfl Tryz.underlying36 iS0 hI _ hIz0 35 hIz1 C rfl hCs (by omega) (by omega) ?_; refine wpList_world HW5.out ?_) |
                (at_builtin; refine wpList_append_own _ rfl _ _ 36 rfl B1 26 iS0 (.agg supZ) 35 56 Tryz.underlying36 hI hIz0 hIz1 hIz2 rfl (by decide) (.slice pv 0 cv) 0 [] rfl hown5 ⟨wv.heap.size, 0, none⟩ 1 1 (supV s) rfl (by rw [hC35]) (fun j u hj => by rw [Addr.add_mid, Nat.zero_add, RowIs.cell hY]; rw [← hCC]; simpa using hj) hone (by unfold maxLen; omega) (by omega) hs5 ?_))
              intro v6 w6 hown6 hgrow _
              have hb6 : Below B1 W1 w6 := hb5.grown hgrow hs5 (fun k hk => hown5.lt k hk |>.1)
              go_wp2_with fail
              go_roundw
              case rel => exact ⟨2, [⟨s, hwfS.2.2.2⟩], by omega, rfl, by simp, by rw [HP.out, if_pos ⟨hok, hsg⟩, ← HM.out]; rfl, by simpa [supE] using hown6, hb6⟩
              case measure => simp [intOf]
            | [r], _ =>
              have hrng := own_rng hown4
              obtain ⟨pv, cv, rfl, hr⟩ := hrng
              obtain ⟨g, rfl, hg1, hg2, hr0⟩ := hr 0 (by simp)
              rw [Nat.zero_mul] at hr0
              have hr0' : wv.rangeAt g 0 (supV r.1) := hr0
              have cX : wv.cell? ⟨X, 1, none⟩ = some (.int .u64 (s.gen : Int)) := by rw [hX4.cell, ← hCC]; rfl
              have cg : wv.cell? ⟨g, 1, none⟩ = some (.int .u64 (r.1.gen : Int)) := hr0' 1 _ rfl
              clear hr hr0
              have hrs : (supV r.1).toArray.size = 35 := by rw [List.size_toArray, supV_length r.2]
              have hrl : (Tryz.prog.info? 26).map (·.size) = some (supV r.1).length := by rw [supV_length r.2]; kernel_rfl
              by_cases hgt : r.1.gen < s.gen
              · have i2 : (r.1.gen : Int) < (s.gen : Int) := by omega
                go_wp2_with fail
                go_quiet (fail)
                replace hX4 : RowIs (wv.drewN nq) X 26 C := hX4
                replace hown4 := ownsRow_below hown4 (below_drewR _ wv nq)
                replace hbw4 := hbw4.trans (below_drewR B1 wv nq)
                replace hbs4 : B1 ≤ (wv.drewN nq).heap.size := hbs4
                replace hr0' : (wv.drewN nq).rangeAt g 0 (supV r.1) := hr0'
                replace hg2 : g < (wv.drewN nq).heap.size := hg2
                clear cX cg
                generalize wv.drewN nq = wv at *
                go_wp2_with fail
                refine wp_region_held_drew (S := fun w' => RowIs w' X 26 C ∧ w'.rangeAt g 0 (supV r.1)) (by kernel_rfl) (And.intro hX4.drew hr0') (fun hHeld => ?_)
                have hGcur := And.intro hX4.drew (show wv.drew.rangeAt g 0 (supV r.1) from hr0')
                have hb3 : Below B1 W1 wv.drew := hbw4.drew
                have hs3 : B1 ≤ wv.drew.heap.size := hbs4
                have hg3 : g < wv.drew.heap.size := hg2
                clear hX4 hr0' hbw4 hbs4 hg2 hown4
                generalize wv.drew = wq at *
                refine take_N (i := 1) (v := ?_) (some 45) #[false, true, false, false, false, false] rfl rfl (by kernel_rfl) (by kernel_rfl) (by kernel_rfl) (by kernel_rfl) (fun _ _ _ h => h) hGcur (Or.inl ⟨by rfl, ?_⟩) ?_
                rotate_left
                · intro w_ hSw_; go_simp; try with_reducible rfl
                try simp only [Act.put, List.setIfInBounds_toArray, List.set_cons_zero, List.set_cons_succ]
                refine take_N (i := 2) (v := ?_) (some 46) #[false, true, true, false, false, false] rfl rfl (by kernel_rfl) (by kernel_rfl) (by kernel_rfl) (by kernel_rfl) (fun _ _ _ h => h) hGcur (Or.inl ⟨by rfl, ?_⟩) ?_
                rotate_left
                · intro w_ hSw_; go_simp; try with_reducible rfl
                try simp only [Act.put, List.setIfInBounds_toArray, List.set_cons_zero, List.set_cons_succ]
                refine take_N (i := 0) (v := .agg C) (some 44) #[true, true, true, false, false, false] rfl rfl (by kernel_rfl) (by kernel_rfl) (by kernel_rfl) (by kernel_rfl) (fun _ _ _ h => h) hGcur (Or.inl ⟨by rfl, ?_⟩) ?_
                · intro w_ hSw_; exact exec_load_row 26 _ rfl X (by rfl) 26 C (0, 0) _ hSw_.1 Tryz.underlying26 rfl hszC
                try simp only [Act.put, List.setIfInBounds_toArray, List.set_cons_zero, List.set_cons_succ]
                refine take_N (i := 3) (v := .agg (supV r.1).toArray) (some 47) #[true, true, true, true, false, false] rfl rfl (by kernel_rfl) (by kernel_rfl) (by kernel_rfl) (by kernel_rfl) (fun _ _ _ h => h) hGcur (Or.inl ⟨by rfl, ?_⟩) ?_
                · intro w_ hSw_; exact exec_load_mid 26 _ rfl g 0 (by rfl) (supV r.1) _ hSw_.2 Tryz.underlying26 rfl hrl
                try simp only [Act.put, List.setIfInBounds_toArray, List.set_cons_zero, List.set_cons_succ]
                refine step_N (i := 4) #[true, true, true, true, true, false] rfl (by kernel_rfl) (by kernel_rfl) (fun K hK => ?_)
                rw [if_pos (by rfl)]
                refine wp_buildSlice_two 36 26 _ _ rfl Tryz.underlying36 iS0 hI _ hIz0 35 hIz1 C (supV r.1).toArray rfl rfl hCs hrs (by omega) (by omega) ?_
                have hXa := hGcur.1.alloc (.cells (C ++ (supV r.1).toArray) 26)
                have hra : (wq.alloc (.cells (C ++ (supV r.1).toArray) 26)).rangeAt g 0 (supV r.1) := rangeAt_below hGcur.2 ((Below.refl _ wq).alloc (Nat.le_refl _) _) hg3
                have howq := own_two (w := wq) (B := B1) ⟨s, hwfS.2.2.2⟩ r hs3
                rw [hCC] at howq
                have hbq := hb3.alloc hs3 (.cells (C ++ (supV r.1).toArray) 26)
                change K _ (wq.alloc (.cells (C ++ (supV r.1).toArray) 26))
                generalize wq.alloc (.cells (C ++ (supV r.1).toArray) 26) = wz at *
                clear hGcur hb3 hs3 hg3
                generalize wq.heap.size = Y at *
                refine hK.out _ _ ⟨hXa, hra⟩ ?_
                clear hK K
                simp only [Act.put, List.setIfInBounds_toArray]
                refine take_N (i := 5) (v := ?_) (some 5) #[true, true, true, true, true, true] rfl rfl (by kernel_rfl) (by kernel_rfl) (by kernel_rfl) (by kernel_rfl) (fun _ _ _ h => h) ⟨hXa, hra⟩ (Or.inl ⟨by rfl, ?_⟩) ?_
                rotate_left
                · intro w_ hSw_; go_simp; try with_reducible rfl
                simp only [Act.put]
                refine wpAnyH_done (by kernel_rfl) ?_ _
                clear hHeld
                go_wp2_with fail
                go_roundw
                case rel => exact ⟨2, [⟨s, hwfS.2.2.2⟩, r], by omega, rfl, by simp, by rw [HP.out, if_pos ⟨hok, hsg⟩, ← HM.out]; exact (if_pos hgt).symm, howq, hbq⟩
                case measure => simp [intOf]
              · have i2 : ¬ (r.1.gen : Int) < (s.gen : Int) := by omega
                go_wp2_with fail
                go_quiet (fail)
                replace hX4 : RowIs (wv.drewN nq) X 26 C := hX4
                replace hown4 := ownsRow_below hown4 (below_drewR _ wv nq)
                replace hbw4 := hbw4.trans (below_drewR B1 wv nq)
                replace hbs4 : B1 ≤ (wv.drewN nq).heap.size := hbs4
                generalize wv.drewN nq = wv at *
                have hY := RowIs.new wv 26 C
                have halY := (Below.refl _ wv).alloc (Nat.le_refl _) (.cells C 26)
                obtain ⟨W5, hW5⟩ : ∃ W5, W5 = wv.alloc (.cells C 26) := ⟨_, rfl⟩
                rw [← hW5] at hY halY
                have hown5 := ownsRow_below hown4 halY
                have hb5 := hbw4.trans (halY.mono hbs4)
                have hs5 : B1 ≤ W5.heap.size := Nat.le_trans hbs4 halY.size
                have HW5 := Lib.hid hW5
                clear hW5 halY hown4 hbw4
                go_wp2_with (first | (refine wpList_load_rowG 26 _ rfl X rfl (by rfl) 26 C (0, 0) _ hX4 Tryz.underlying26 rfl hszC ?_) | (refine wpList_buildSlice_oneS rfl 36 26 _ rfl Tryz.underlying36 iS0 hI _ hIz0 35 hIz1 C rfl hCs (by omega) (by omega) ?_; refine wpList_world HW5.out ?_) |
                  (at_builtin; refine wpList_append_own _ rfl _ _ 36 rfl B1 26 iS0 (.agg supZ) 35 56 Tryz.underlying36 hI hIz0 hIz1 hIz2 rfl (by decide) (.slice (some ⟨g, 0, none⟩) 1 cv) 1 ([r].flatMap supE) rfl hown5 ⟨wv.heap.size, 0, none⟩ 1 1 (supV s) rfl (by rw [hC35]) (fun j u hj => by rw [Addr.add_mid, Nat.zero_add, RowIs.cell hY]; rw [← hCC]; simpa using hj) hone (by unfold maxLen; omega) (by omega) hs5 ?_))
                intro v6 w6 hown6 hgrow _
                have hb6 : Below B1 W1 w6 := hb5.grown hgrow hs5 (fun k hk => hown5.lt k hk |>.1)
                go_wp2_with fail
                go_roundw
                case rel => exact ⟨2, [r, ⟨s, hwfS.2.2.2⟩], by omega, rfl, by simp, by rw [HP.out, if_pos ⟨hok, hsg⟩, ← HM.out]; exact (if_neg hgt).symm, by simpa [supE] using hown6, hb6⟩
                case measure => simp [intOf]
          · have i1 : ¬ ((s.gen % 2 : Nat) : Int) = 1 := by omega
            have HH := Lib.hid (And.intro hown4 hbw4)
            clear hown4 hbw4
            go_wp2_with fail
            go_roundw
            case rel => exact ⟨2, L, by omega, rfl, by omega, HN.out (fun h => hsg h.2), HH.out⟩
            case measure => simp [intOf]
        · have hd0 : dE = 9 := by rw [HD.out, if_neg hok]
          subst hd0
          have HH := Lib.hid (And.intro hown4 hbw4)
          clear hown4 hbw4
          go_wp2_with (first | (refine wpList_world HW3.out ?_) | (refine wpList_store_mid rfl 26 _ _ rfl X 0 C rfl rfl hthere hszC hoa ?_; refine wpList_world HW4.out ?_))
          try rw [← HW4.out]
          go_roundw
          case rel => exact ⟨2, L, by omega, rfl, by omega, HN.out (fun h => hok h.1), HH.out⟩
          case measure => simp [intOf]

end Go.Proofs.YtgjaoofgmdijdaaGreatDoor
