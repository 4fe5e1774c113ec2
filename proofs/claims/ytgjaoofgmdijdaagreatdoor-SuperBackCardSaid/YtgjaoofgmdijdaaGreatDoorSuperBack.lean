/- cambiumlaw09.SuperBack: walked. -/
import Derived.Test.YtgjaoofgmdijdaaGreatDoorSuperApart
import Derived.Test.YtgjaoofgmdijdaaGreatDoorTurn
namespace Go.Proofs.YtgjaoofgmdijdaaGreatDoor
open Go.RowKit

theorem own_shapeS {w : World} {B n z : Nat} {e : TypeId} {v : Value} {xs : List Value} (h : w.ownsRow B e z v n xs) : ∃ p c, v = .slice p n c := by
  obtain ⟨_, ⟨hv, hn⟩ | ⟨g, cap, cur, hv, _⟩⟩ := h
  · exact ⟨none, 0, by rw [hv, hn]⟩
  · exact ⟨_, cap, hv⟩
theorem OwnAt.shapeS {B : Nat} {w : World} {v : Value} {n : NodeD} (h : OwnAt B w v n) : ∃ p1 c1 p2 c2 p3 c3, v = .agg #[.int .u8 (n.kind : Int), .slice p1 n.items.length c1, .slice p2 n.kids.length c2, .slice p3 n.vols.length c3] := by
  obtain ⟨_, vi, vk, vv, rfl, a, b, c⟩ := h
  obtain ⟨p1, c1, rfl⟩ := own_shapeS a
  obtain ⟨p2, c2, rfl⟩ := own_shapeS b
  obtain ⟨p3, c3, rfl⟩ := own_shapeS c
  exact ⟨p1, c1, p2, c2, p3, c3, rfl⟩
theorem exec_neqS {P : Program} {o : Oper} {ev : Operand → Value} {w : World} {t t' : TypeId} {x y : Operand} {va vb : Array Value} {r : Bool} (ho : o.op = .binOp .neq t x y t') (hx : ev x = .agg va) (hy : ev y = .agg vb)
    (hg : P.eqGuardType P.depth t = false) (h : (binOp .neq t (.agg va) (.agg vb)).run P w = .ok (.bool r) w) : (execOp ev o).run P w = .ok (.value (.bool r)) w := by
  unfold execOp
  simp only [ho, hx, hy, Sem.run_bind, run_eqGuard_agg w .neq t x y va vb hg, Result.andThen_ok, h, Sem.run_pure]
theorem neq_self (a : SupD) (ha : a.wf) (w : World) : (binOp .neq 26 (.agg (supV a).toArray) (.agg (supV a).toArray)).run Tryz.prog w = .ok (.bool false) w := by
  rw [run_neq_struct, equal_sup a a ha ha w, (supEq_iff a a).2 rfl]; rfl

set_option maxRecDepth 20000 in
set_option maxHeartbeats 6400000 in
theorem backS_calls (a : SupD) (s : ByteArray) (at_ : Int) (bit : UInt8) (w : World) (ha : a.wf) (hs : s.size ≤ 140737488351232) :
    Calls Tryz.prog 7 #[.agg (supV a).toArray, .string s, .int .i64 at_, .int .u8 (bit.toNat : Int)] w fun e w' => e = .returned (.bool true) ∧ Below w.heap.size w w' := by
  have hea := fun w' => encodeS_calls a ha w'
  have hdn : okS a = true → ∀ w', Calls Tryz.prog 10 #[.string (strOf (encS a))] w' fun e w'' => e = .returned (.tuple #[.agg (supV a).toArray, .int .i64 0]) ∧ Below w'.heap.size w' w'' := fun h w' => by
    have hd := dec_encS a ha h
    have hl := encS_length a ha
    have := decodeS_calls (strOf (encS a)) w' (by rw [strOf_size]; exact Nat.le_trans hl (by decide))
    rw [show (strOf (encS a)).data.toList = encS a from rfl, hd.2, decES, if_pos hd.1] at this
    exact this
  have hcA : checkS a = if okS a then 0 else 4 := rfl
  have hneq := fun w' => neq_self a ha w'
  have hsA : (Tryz.prog.info? 26).map (·.size) = some (supV a).toArray.size := by rw [List.size_toArray, supV_length ha.2.2.2]; kernel_rfl
  have hoA := supV_one a
  have hcs : (supV a).toArray.size = 35 := by rw [List.size_toArray, supV_length ha.2.2.2]
  have hlen : s.data.toList.length = s.size := Array.length_toList
  -- the data that came in
  have hdc := fun w' => decodeS_calls s w' hs
  have hde1 : decOkS s.data.toList → decES s.data.toList = 0 := fun h => by rw [decES, if_pos h]
  have hde2 : ¬ decOkS s.data.toList → decES s.data.toList = 9 := fun h => by rw [decES, if_neg h]
  have hwt := supL_wf s.data.toList
  have hsT : (Tryz.prog.info? 26).map (·.size) = some (supV (supL s.data.toList)).toArray.size := by rw [List.size_toArray, supV_length hwt.2.2.2]; kernel_rfl
  have hoT := supV_one (supL s.data.toList)
  have hcT : (supV (supL s.data.toList)).toArray.size = 35 := by rw [List.size_toArray, supV_length hwt.2.2.2]
  have het : decOkS s.data.toList → ∀ w', Calls Tryz.prog 8 #[.agg (supV (supL s.data.toList)).toArray] w' fun e w'' => e = .returned (.tuple #[.string s, .int .i64 0]) ∧ Below w'.heap.size w' w'' := fun h w' => by
    have h2 := decS_enc h
    have := encodeS_calls (supL s.data.toList) hwt w'
    rw [h2.2, strOf_data, checkS, if_pos h2.1] at this
    exact this
  have hnd : decOkS s.data.toList → ∀ w', Calls Tryz.prog 19 #[.string s] w' fun e w'' => ∃ v, e = .returned (.tuple #[v, .int .i64 9]) ∧ OwnAt w'.heap.size w'' v (nodeL s.data.toList) ∧ Below w'.heap.size w' w'' := fun h w' =>
    (decode_calls s w' hs).mono fun e w'' ⟨v, h1, h2, h3⟩ => ⟨v, by rw [h1, decE, if_neg (decS_noNode h)], h2, h3⟩
  have hturn : decOkS s.data.toList → ∀ (k : Nat) (d : UInt8), k < 512 → (∀ h : k < (padTo 512 s.data.toList).length, d ≠ (padTo 512 s.data.toList)[k]) → ¬ decOkS (trimR ((padTo 512 s.data.toList).set k d)) := fun h k d h1 h2 => decS_turned h k d h1 h2
  have hle : decOkS s.data.toList → s.data.toList.length ≤ 512 := fun h => h.1
  generalize decES s.data.toList = DE at *
  generalize decOkS s.data.toList = OK at *
  generalize (nodeL s.data.toList) = ND at *
  generalize (supV (supL s.data.toList)).toArray = csT at *
  generalize checkS a = C1 at *
  generalize okS a = K1 at *
  generalize (supV a).toArray = csA at *
  generalize strOf (encS a) = SE at *
  clear ha hwt
  have Hde1 := Lib.hid hde1
  have Hde2 := Lib.hid hde2
  have Het := Lib.hid het
  have Hnd := Lib.hid hnd
  have Hturn := Lib.hid hturn
  have Hle := Lib.hid hle
  have Hlen := Lib.hid hlen
  have HcA := Lib.hid hcA
  have Hdn := Lib.hid hdn
  clear hde1 hde2 het hnd hturn hle hlen hcA hdn
  obtain ⟨W1, hW1⟩ : ∃ W1, W1 = w.alloc (.cells csA 26) := ⟨_, rfl⟩
  have hA1 : RowIs W1 w.heap.size 26 csA := by rw [hW1]; exact RowIs.new w _ _
  have hb1 : Below w.heap.size w W1 := by rw [hW1]; exact (Below.refl _ _).alloc (Nat.le_refl _) _
  have HW1 := Lib.hid hW1
  have hnot : ∀ (x : Bool) (w : World), (Op.unary .not (.bool x)).run Tryz.prog w = .ok (.bool (!x)) w := fun _ _ => rfl
  clear hW1
  go_enter Tryz.func7, Tryz.ntmps7
  go_wp2_with (refine wpList_world HW1.out ?_)
  refine (livesS_calls W1).mono ?_
  rintro e w3 ⟨rfl, hq⟩
  have hA3 := hA1.below hq hA1.lt
  have hb3 := hb1.trans (hq.mono hb1.size)
  clear hq hA1 hb1
  go_wp2_with (refine wpList_load_row rfl 26 _ rfl w.heap.size rfl 26 csA (0, 0) _ hA3 Tryz.underlying26 rfl hsA ?_)
  refine (hea w3).mono ?_
  rintro e w4 ⟨rfl, hq⟩
  have hA4 := hA3.below hq hA3.lt
  have hb4 := hb3.trans (hq.mono hb3.size)
  clear hq hA3 hb3 hea
  cases K1 with
  | true =>
    have hC := HcA.out
    rw [if_pos rfl] at hC
    subst hC
    have hdn := Hdn.out rfl
    go_wp2_with fail
    refine (hdn w4).mono ?_
    rintro e w5 ⟨rfl, hq⟩
    have hA5 := hA4.below hq hA4.lt
    have hb5 := hb4.trans (hq.mono hb4.size)
    clear hq hA4 hb4 hdn
    obtain ⟨W6, W7, hW6, hW7, hM7, hq7, hthere7⟩ := alloc_fill w5 supZ csA 26 (by rw [hcs]; rfl)
    have hA7 := hA5.below hq7 hA5.lt
    have hb7 := hb5.trans (hq7.mono hb5.size)
    have HW6 := Lib.hid hW6
    have HW7 := Lib.hid hW7
    clear hW6 hW7 hq7 hA5 hb5
    generalize hG5 : w5.heap.size = G5 at *
    go_wp2_with (first | (refine wpList_world HW6.out ?_) | (refine wpList_store_mid rfl 26 _ _ rfl G5 0 csA rfl rfl hthere7 hsA hoA ?_; refine wpList_world HW7.out ?_) | (refine wpList_load_rowG 26 _ rfl w.heap.size rfl (by rfl) 26 csA (0, 0) _ hA7 Tryz.underlying26 rfl hsA ?_) | (refine wpList_load_rowG 26 _ rfl G5 rfl (by rfl) 26 csA (0, 0) _ hM7 Tryz.underlying26 rfl hsA ?_) | (refine wpList_exec (v := .bool false) (by rfl) (exec_neqS rfl (by rfl) (by rfl) guard_sup (hneq _)) ?_; simp only [Act.put, List.setIfInBounds_toArray, List.set_cons_zero, List.set_cons_succ]))
    clear hA7 hM7 hG5 hthere7 HW6 HW7
    refine (hdc W7).mono ?_
    rintro e x1 ⟨rfl, hq⟩
    have hx1 := hb7.trans (hq.mono hb7.size)
    clear hq hb7
    obtain ⟨X2, X3, hX2, hX3, hT3, hq3, hthere3⟩ := alloc_fill x1 supZ csT 26 (by rw [hcT]; rfl)
    have hx3 := hx1.trans (hq3.mono hx1.size)
    have HX2 := Lib.hid hX2
    have HX3 := Lib.hid hX3
    clear hX2 hX3 hq3 hx1
    generalize hG1 : x1.heap.size = G1 at *
    by_cases hok : OK
    · rw [Hde1.out hok]
      have het := Het.out hok
      have hnd := Hnd.out hok
      have iS : s.size ≤ 512 := by have := Hle.out hok; have := Hlen.out; omega
      have hturn := Hturn.out hok
      have Hturn2 := Lib.hid hturn
      clear hturn
      go_wp2_with (first | (refine wpList_world HX2.out ?_) | (refine wpList_store_mid rfl 26 _ _ rfl G1 0 csT rfl rfl hthere3 hsT hoT ?_; refine wpList_world HX3.out ?_) | (refine wpList_load_rowG 26 _ rfl G1 rfl (by rfl) 26 csT (0, 0) _ hT3 Tryz.underlying26 rfl hsT ?_))
      refine (het X3).mono ?_
      rintro e x4 ⟨rfl, hq⟩
      have hx4 := hx3.trans (hq.mono hx3.size)
      clear hq hx3 hT3 het hthere3
      go_wp2_with fail
      refine (hnd x4).mono ?_
      rintro e x5 ⟨v5, rfl, ho, hq⟩
      obtain ⟨q1, k1, q2, k2, q3, k3, rfl⟩ := ho.shapeS
      have hx5 := hx4.trans (hq.mono hx4.size)
      have hx6 := hx5.alloc hx5.size (.cells #[.int .u8 (ND.kind : Int), .slice q1 ND.items.length k1, .slice q2 ND.kids.length k2, .slice q3 ND.vols.length k3] 45)
      clear hq hx5 hx4 ho hnd
      obtain ⟨w4, hw4⟩ : ∃ w4, w4 = x5.alloc (.cells #[.int .u8 (ND.kind : Int), .slice q1 ND.items.length k1, .slice q2 ND.kids.length k2, .slice q3 ND.vols.length k3] 45) := ⟨_, rfl⟩
      rw [← hw4] at hx6
      have Hw4 := Lib.hid hw4
      clear hw4
      have hself : (s.toList != s.toList) = false := by simp
      by_cases h0 : at_ < 0
      · go_wp2_with (refine wpList_world Hw4.out ?_)
        go_ret
        exact ⟨rfl, hx6⟩
      · obtain ⟨k, rfl⟩ := Int.eq_ofNat_of_zero_le (show 0 ≤ at_ by omega)
        by_cases hk : 512 ≤ k
        · have i2 : (512 : Int) ≤ (k : Int) := by omega
          go_wp2_with (refine wpList_world Hw4.out ?_)
          go_ret
          exact ⟨rfl, hx6⟩
        · have i2 : ¬ (512 : Int) ≤ (k : Int) := by omega
          have i3 : (k : Int) < 512 := by omega
          obtain ⟨W2, hmk, hrow, hb2, hz2⟩ := make_bytes w4 .i64 512 (by decide)
          rw [show ((512 : Nat) : Int) = 512 from rfl] at hmk
          have hsl : s.data.toList.length ≤ 512 := by have := Hlen.out; omega
          have hpad := hrow.pad s.data.toList hsl
          have hcop : ∀ j, j < s.size → (W2.cell? ⟨w4.heap.size, 0 + j, none⟩).isSome = true := fun j hj => by rw [Nat.zero_add, hrow.cell j (by rw [List.length_replicate]; omega)]; rfl
          have hfr : ∀ j, j < s.size → W2.frozen? ⟨w4.heap.size, 0 + j, none⟩ = false := fun j hj => by rw [Nat.zero_add]; exact hrow.free j (by rw [List.length_replicate]; omega)
          obtain ⟨W3, hW3⟩ : ∃ W3, W3 = W2.setCells w4.heap.size 0 (s.data.toList.map fun x => Value.int .u8 (x.toNat : Int)) := ⟨_, rfl⟩
          have hrow3 : ByteRow W3 w4.heap.size (padTo 512 s.data.toList) := by rw [hW3]; exact hpad
          have hb3 : Below w4.heap.size w4 W3 := by rw [hW3]; exact setCells_below _ _ (Nat.le_refl _) _ 0 _ _ hb2
          have hpl : (padTo 512 s.data.toList).length = 512 := padTo_length 512 _ hsl
          have hbit0 : 0 ≤ (bit.toNat : Int) % 8 := by omega
          have hbit1 : (bit.toNat : Int) % 8 ≤ 7 := by omega
          obtain ⟨d, hd, hne⟩ := turned_u8 ((padTo 512 s.data.toList)[k]'(by omega)) (bit.toNat % 8) (by omega)
          have hbad := Hturn2.out k d (by omega) (fun _ => hne)
          have hcell := hrow3.cell k (by omega)
          have hfree := hrow3.free k (by omega)
          have hrow4 := hrow3.set k d _ rfl (by omega)
          have hl4 : ((padTo 512 s.data.toList).set k d).length = 512 := by rw [List.length_set]; exact hpl
          have hb5 : Below w4.heap.size w4 (W3.setCell ⟨w4.heap.size, k, none⟩ (.int .u8 (d.toNat : Int))) := hb3.setCell (p := ⟨w4.heap.size, k, none⟩) (Nat.le_refl _) _
          generalize (padTo 512 s.data.toList)[k]'(by omega) = ck at *
          generalize (padTo 512 s.data.toList).set k d = L at *
          have HW3 := Lib.hid hW3
          have Hbad := Lib.hid hbad
          have Hl4 := Lib.hid hl4
          clear hW3 hbad hpad hrow hrow3 hb2 hb3 hl4 hpl hne hz2 Hturn2 Hturn
          generalize hG : w4.heap.size = G at *
          go_wp2_with (first | (refine wpList_world Hw4.out ?_) | (refine wpList_world HW3.out ?_) | (refine wpList_copy_str rfl _ _ 48 9 rfl 5 Tryz.underlying48 Tryz.sizeOf5 G 0 512 512 rfl s rfl iS hcop hfr ?_))
          try rw [hd]
          generalize W3.setCell ⟨G, k, none⟩ (.int .u8 (d.toNat : Int)) = W at *
          clear hd hmk hcell hfree hcop hfr hbit0 hbit1 i2 i3 HW3
          go_loop [20] (fun v => ∃ e : Nat, e ≤ 512 ∧ v = .int .i64 e ∧ ∀ j (h : j < L.length), e ≤ j → L[j] = 0) (fun v => (intOf v).toNat)
          case atStart => exact ⟨512, Nat.le_refl _, rfl, fun j h hj => by have := Hl4.out; omega⟩
          case round =>
            obtain ⟨e, he, rfl, hz⟩ := hrel
            have hfin : (e = 0 ∨ ∃ h : e - 1 < L.length, L[e - 1] ≠ 0) → (L.take e) = trimR L := trimR_take L e (by rw [Hl4.out]; exact he) hz
            have hback : (e = 0 ∨ ∃ h : e - 1 < L.length, L[e - 1] ≠ 0) → (convert 48 9 (.slice (some ⟨G, 0, none⟩) e 512)).run Tryz.prog W = .ok (.string (strOf (trimR L))) W := fun h => by
              rw [← hfin h]
              exact conv_back W G e 512 (L.take e) (by rw [List.length_take, Hl4.out]; omega) (hrow4.takes e)
            have hdz : (strOf (trimR L)).size ≤ 140737488351232 := by
              have := trimR_length L
              rw [strOf_size]; have := Hl4.out; omega
            have hdc : ∀ w', Calls Tryz.prog 10 #[.string (strOf (trimR L))] w' fun e w'' => e = .returned (.tuple #[.agg (supV zeroS).toArray, .int .i64 9]) ∧ Below w'.heap.size w' w'' := fun w' => by
              have := decodeS_calls (strOf (trimR L)) w' hdz
              rw [show (strOf (trimR L)).data.toList = trimR L from rfl, decES, if_neg Hbad.out, supL, if_neg Hbad.out] at this
              exact this
            have HZ := Lib.hid hz
            have hi1 : (e : Int) ≤ 512 := by omega
            have hbW : Below w.heap.size w W := hx6.trans (hb5.mono (by rw [← hG]; exact hx6.size))
            have hsZ : (Tryz.prog.info? 26).map (·.size) = some (supV zeroS).toArray.size := by kernel_rfl
            have hoZ := supV_one zeroS
            have hcZ : (supV zeroS).toArray.size = 35 := rfl
            by_cases h0 : e = 0
            · have hb := hback (.inl h0)
              subst h0
              generalize strOf (trimR L) = X at *
              clear hz hfin hback hdz HZ hx6
              generalize (supV zeroS).toArray = csZ at *
              go_wp2_with fail
              refine (hdc W).mono ?_
              rintro e w6 ⟨rfl, hq⟩
              have hb6 := hbW.trans (hq.mono hbW.size)
              clear hq
              obtain ⟨Y2, Y3, hY2, hY3, _, hqy, hthereY⟩ := alloc_fill w6 supZ csZ 26 (by rw [hcZ]; rfl)
              have hby := hb6.trans (hqy.mono hb6.size)
              have HY2 := Lib.hid hY2
              have HY3 := Lib.hid hY3
              clear hY2 hY3 hqy hb6 hbW
              go_wp2_with (first | (refine wpList_world HY2.out ?_) | (refine wpList_store_mid rfl 26 _ _ rfl w6.heap.size 0 csZ rfl rfl hthereY hsZ hoZ ?_; refine wpList_world HY3.out ?_))
              go_ret
              exact ⟨rfl, hby⟩
            · have hlt : e - 1 < L.length := by have := Hl4.out; omega
              have hc1 := hrow4.cell (e - 1) hlt
              have hpos : (0 : Int) < (e : Int) := by omega
              have hm1 : ((e : Int) - 1).toNat = e - 1 := by omega
              have hm2 : (0 : Int) ≤ (e : Int) - 1 := by omega
              have hm3 : (e : Int) - 1 < 512 := by omega
              by_cases hzz : L[e - 1] = 0
              · have hc0 : W.cell? ⟨G, e - 1, none⟩ = some (.int .u8 0) := by rw [hc1, hzz]; rfl
                clear hz hfin hback hdz hdc hc1
                go_wp2_with fail
                go_round
                case rel => exact ⟨e - 1, by omega, by congr 1; omega, fun j h hj => by
                  by_cases hje : j = e - 1
                  · subst hje; exact hzz
                  · exact HZ.out j h (by omega)⟩
                case measure => simp [intOf]; omega
              · have hb := hback (.inr ⟨hlt, hzz⟩)
                have hne0 : ((L[e - 1].toNat : Int) == 0) = false := by
                  rw [Bool.eq_false_iff]
                  intro q
                  have q2 : (L[e - 1].toNat : Int) = 0 := by simpa using q
                  exact hzz (UInt8.toNat_inj.1 (by simpa using q2))
                have hne1 : ¬ (L[e - 1].toNat : Int) = 0 := by simpa using hne0
                generalize (L[e - 1].toNat : Int) = cz at *
                generalize strOf (trimR L) = X at *
                clear hz hfin hback hdz HZ hzz hx6
                generalize (supV zeroS).toArray = csZ at *
                go_wp2_with fail
                refine (hdc W).mono ?_
                rintro e w6 ⟨rfl, hq⟩
                have hb6 := hbW.trans (hq.mono hbW.size)
                clear hq
                obtain ⟨Y2, Y3, hY2, hY3, _, hqy, hthereY⟩ := alloc_fill w6 supZ csZ 26 (by rw [hcZ]; rfl)
                have hby := hb6.trans (hqy.mono hb6.size)
                have HY2 := Lib.hid hY2
                have HY3 := Lib.hid hY3
                clear hY2 hY3 hqy hb6 hbW
                go_wp2_with (first | (refine wpList_world HY2.out ?_) | (refine wpList_store_mid rfl 26 _ _ rfl w6.heap.size 0 csZ rfl rfl hthereY hsZ hoZ ?_; refine wpList_world HY3.out ?_))
                go_ret
                exact ⟨rfl, hby⟩
    · rw [Hde2.out hok]
      go_wp2_with (first | (refine wpList_world HX2.out ?_) | (refine wpList_store_mid rfl 26 _ _ rfl G1 0 csT rfl rfl hthere3 hsT hoT ?_; refine wpList_world HX3.out ?_))
      go_ret
      exact ⟨rfl, hx3⟩
  | false =>
    have hC := HcA.out
    rw [if_neg (by decide)] at hC
    subst hC
    go_wp2_with fail
    clear hA4
    refine (hdc w4).mono ?_
    rintro e x1 ⟨rfl, hq⟩
    have hx1 := hb4.trans (hq.mono hb4.size)
    clear hq hb4
    obtain ⟨X2, X3, hX2, hX3, hT3, hq3, hthere3⟩ := alloc_fill x1 supZ csT 26 (by rw [hcT]; rfl)
    have hx3 := hx1.trans (hq3.mono hx1.size)
    have HX2 := Lib.hid hX2
    have HX3 := Lib.hid hX3
    clear hX2 hX3 hq3 hx1
    generalize hG1 : x1.heap.size = G1 at *
    by_cases hok : OK
    · rw [Hde1.out hok]
      have het := Het.out hok
      have hnd := Hnd.out hok
      have iS : s.size ≤ 512 := by have := Hle.out hok; have := Hlen.out; omega
      have hturn := Hturn.out hok
      have Hturn2 := Lib.hid hturn
      clear hturn
      go_wp2_with (first | (refine wpList_world HX2.out ?_) | (refine wpList_store_mid rfl 26 _ _ rfl G1 0 csT rfl rfl hthere3 hsT hoT ?_; refine wpList_world HX3.out ?_) | (refine wpList_load_rowG 26 _ rfl G1 rfl (by rfl) 26 csT (0, 0) _ hT3 Tryz.underlying26 rfl hsT ?_))
      refine (het X3).mono ?_
      rintro e x4 ⟨rfl, hq⟩
      have hx4 := hx3.trans (hq.mono hx3.size)
      clear hq hx3 hT3 het hthere3
      go_wp2_with fail
      refine (hnd x4).mono ?_
      rintro e x5 ⟨v5, rfl, ho, hq⟩
      obtain ⟨q1, k1, q2, k2, q3, k3, rfl⟩ := ho.shapeS
      have hx5 := hx4.trans (hq.mono hx4.size)
      have hx6 := hx5.alloc hx5.size (.cells #[.int .u8 (ND.kind : Int), .slice q1 ND.items.length k1, .slice q2 ND.kids.length k2, .slice q3 ND.vols.length k3] 45)
      clear hq hx5 hx4 ho hnd
      obtain ⟨w4, hw4⟩ : ∃ w4, w4 = x5.alloc (.cells #[.int .u8 (ND.kind : Int), .slice q1 ND.items.length k1, .slice q2 ND.kids.length k2, .slice q3 ND.vols.length k3] 45) := ⟨_, rfl⟩
      rw [← hw4] at hx6
      have Hw4 := Lib.hid hw4
      clear hw4
      have hself : (s.toList != s.toList) = false := by simp
      by_cases h0 : at_ < 0
      · go_wp2_with (refine wpList_world Hw4.out ?_)
        go_ret
        exact ⟨rfl, hx6⟩
      · obtain ⟨k, rfl⟩ := Int.eq_ofNat_of_zero_le (show 0 ≤ at_ by omega)
        by_cases hk : 512 ≤ k
        · have i2 : (512 : Int) ≤ (k : Int) := by omega
          go_wp2_with (refine wpList_world Hw4.out ?_)
          go_ret
          exact ⟨rfl, hx6⟩
        · have i2 : ¬ (512 : Int) ≤ (k : Int) := by omega
          have i3 : (k : Int) < 512 := by omega
          obtain ⟨W2, hmk, hrow, hb2, hz2⟩ := make_bytes w4 .i64 512 (by decide)
          rw [show ((512 : Nat) : Int) = 512 from rfl] at hmk
          have hsl : s.data.toList.length ≤ 512 := by have := Hlen.out; omega
          have hpad := hrow.pad s.data.toList hsl
          have hcop : ∀ j, j < s.size → (W2.cell? ⟨w4.heap.size, 0 + j, none⟩).isSome = true := fun j hj => by rw [Nat.zero_add, hrow.cell j (by rw [List.length_replicate]; omega)]; rfl
          have hfr : ∀ j, j < s.size → W2.frozen? ⟨w4.heap.size, 0 + j, none⟩ = false := fun j hj => by rw [Nat.zero_add]; exact hrow.free j (by rw [List.length_replicate]; omega)
          obtain ⟨W3, hW3⟩ : ∃ W3, W3 = W2.setCells w4.heap.size 0 (s.data.toList.map fun x => Value.int .u8 (x.toNat : Int)) := ⟨_, rfl⟩
          have hrow3 : ByteRow W3 w4.heap.size (padTo 512 s.data.toList) := by rw [hW3]; exact hpad
          have hb3 : Below w4.heap.size w4 W3 := by rw [hW3]; exact setCells_below _ _ (Nat.le_refl _) _ 0 _ _ hb2
          have hpl : (padTo 512 s.data.toList).length = 512 := padTo_length 512 _ hsl
          have hbit0 : 0 ≤ (bit.toNat : Int) % 8 := by omega
          have hbit1 : (bit.toNat : Int) % 8 ≤ 7 := by omega
          obtain ⟨d, hd, hne⟩ := turned_u8 ((padTo 512 s.data.toList)[k]'(by omega)) (bit.toNat % 8) (by omega)
          have hbad := Hturn2.out k d (by omega) (fun _ => hne)
          have hcell := hrow3.cell k (by omega)
          have hfree := hrow3.free k (by omega)
          have hrow4 := hrow3.set k d _ rfl (by omega)
          have hl4 : ((padTo 512 s.data.toList).set k d).length = 512 := by rw [List.length_set]; exact hpl
          have hb5 : Below w4.heap.size w4 (W3.setCell ⟨w4.heap.size, k, none⟩ (.int .u8 (d.toNat : Int))) := hb3.setCell (p := ⟨w4.heap.size, k, none⟩) (Nat.le_refl _) _
          generalize (padTo 512 s.data.toList)[k]'(by omega) = ck at *
          generalize (padTo 512 s.data.toList).set k d = L at *
          have HW3 := Lib.hid hW3
          have Hbad := Lib.hid hbad
          have Hl4 := Lib.hid hl4
          clear hW3 hbad hpad hrow hrow3 hb2 hb3 hl4 hpl hne hz2 Hturn2 Hturn
          generalize hG : w4.heap.size = G at *
          go_wp2_with (first | (refine wpList_world Hw4.out ?_) | (refine wpList_world HW3.out ?_) | (refine wpList_copy_str rfl _ _ 48 9 rfl 5 Tryz.underlying48 Tryz.sizeOf5 G 0 512 512 rfl s rfl iS hcop hfr ?_))
          try rw [hd]
          generalize W3.setCell ⟨G, k, none⟩ (.int .u8 (d.toNat : Int)) = W at *
          clear hd hmk hcell hfree hcop hfr hbit0 hbit1 i2 i3 HW3
          go_loop [20] (fun v => ∃ e : Nat, e ≤ 512 ∧ v = .int .i64 e ∧ ∀ j (h : j < L.length), e ≤ j → L[j] = 0) (fun v => (intOf v).toNat)
          case atStart => exact ⟨512, Nat.le_refl _, rfl, fun j h hj => by have := Hl4.out; omega⟩
          case round =>
            obtain ⟨e, he, rfl, hz⟩ := hrel
            have hfin : (e = 0 ∨ ∃ h : e - 1 < L.length, L[e - 1] ≠ 0) → (L.take e) = trimR L := trimR_take L e (by rw [Hl4.out]; exact he) hz
            have hback : (e = 0 ∨ ∃ h : e - 1 < L.length, L[e - 1] ≠ 0) → (convert 48 9 (.slice (some ⟨G, 0, none⟩) e 512)).run Tryz.prog W = .ok (.string (strOf (trimR L))) W := fun h => by
              rw [← hfin h]
              exact conv_back W G e 512 (L.take e) (by rw [List.length_take, Hl4.out]; omega) (hrow4.takes e)
            have hdz : (strOf (trimR L)).size ≤ 140737488351232 := by
              have := trimR_length L
              rw [strOf_size]; have := Hl4.out; omega
            have hdc : ∀ w', Calls Tryz.prog 10 #[.string (strOf (trimR L))] w' fun e w'' => e = .returned (.tuple #[.agg (supV zeroS).toArray, .int .i64 9]) ∧ Below w'.heap.size w' w'' := fun w' => by
              have := decodeS_calls (strOf (trimR L)) w' hdz
              rw [show (strOf (trimR L)).data.toList = trimR L from rfl, decES, if_neg Hbad.out, supL, if_neg Hbad.out] at this
              exact this
            have HZ := Lib.hid hz
            have hi1 : (e : Int) ≤ 512 := by omega
            have hbW : Below w.heap.size w W := hx6.trans (hb5.mono (by rw [← hG]; exact hx6.size))
            have hsZ : (Tryz.prog.info? 26).map (·.size) = some (supV zeroS).toArray.size := by kernel_rfl
            have hoZ := supV_one zeroS
            have hcZ : (supV zeroS).toArray.size = 35 := rfl
            by_cases h0 : e = 0
            · have hb := hback (.inl h0)
              subst h0
              generalize strOf (trimR L) = X at *
              clear hz hfin hback hdz HZ hx6
              generalize (supV zeroS).toArray = csZ at *
              go_wp2_with fail
              refine (hdc W).mono ?_
              rintro e w6 ⟨rfl, hq⟩
              have hb6 := hbW.trans (hq.mono hbW.size)
              clear hq
              obtain ⟨Y2, Y3, hY2, hY3, _, hqy, hthereY⟩ := alloc_fill w6 supZ csZ 26 (by rw [hcZ]; rfl)
              have hby := hb6.trans (hqy.mono hb6.size)
              have HY2 := Lib.hid hY2
              have HY3 := Lib.hid hY3
              clear hY2 hY3 hqy hb6 hbW
              go_wp2_with (first | (refine wpList_world HY2.out ?_) | (refine wpList_store_mid rfl 26 _ _ rfl w6.heap.size 0 csZ rfl rfl hthereY hsZ hoZ ?_; refine wpList_world HY3.out ?_))
              go_ret
              exact ⟨rfl, hby⟩
            · have hlt : e - 1 < L.length := by have := Hl4.out; omega
              have hc1 := hrow4.cell (e - 1) hlt
              have hpos : (0 : Int) < (e : Int) := by omega
              have hm1 : ((e : Int) - 1).toNat = e - 1 := by omega
              have hm2 : (0 : Int) ≤ (e : Int) - 1 := by omega
              have hm3 : (e : Int) - 1 < 512 := by omega
              by_cases hzz : L[e - 1] = 0
              · have hc0 : W.cell? ⟨G, e - 1, none⟩ = some (.int .u8 0) := by rw [hc1, hzz]; rfl
                clear hz hfin hback hdz hdc hc1
                go_wp2_with fail
                go_round
                case rel => exact ⟨e - 1, by omega, by congr 1; omega, fun j h hj => by
                  by_cases hje : j = e - 1
                  · subst hje; exact hzz
                  · exact HZ.out j h (by omega)⟩
                case measure => simp [intOf]; omega
              · have hb := hback (.inr ⟨hlt, hzz⟩)
                have hne0 : ((L[e - 1].toNat : Int) == 0) = false := by
                  rw [Bool.eq_false_iff]
                  intro q
                  have q2 : (L[e - 1].toNat : Int) = 0 := by simpa using q
                  exact hzz (UInt8.toNat_inj.1 (by simpa using q2))
                have hne1 : ¬ (L[e - 1].toNat : Int) = 0 := by simpa using hne0
                generalize (L[e - 1].toNat : Int) = cz at *
                generalize strOf (trimR L) = X at *
                clear hz hfin hback hdz HZ hzz hx6
                generalize (supV zeroS).toArray = csZ at *
                go_wp2_with fail
                refine (hdc W).mono ?_
                rintro e w6 ⟨rfl, hq⟩
                have hb6 := hbW.trans (hq.mono hbW.size)
                clear hq
                obtain ⟨Y2, Y3, hY2, hY3, _, hqy, hthereY⟩ := alloc_fill w6 supZ csZ 26 (by rw [hcZ]; rfl)
                have hby := hb6.trans (hqy.mono hb6.size)
                have HY2 := Lib.hid hY2
                have HY3 := Lib.hid hY3
                clear hY2 hY3 hqy hb6 hbW
                go_wp2_with (first | (refine wpList_world HY2.out ?_) | (refine wpList_store_mid rfl 26 _ _ rfl w6.heap.size 0 csZ rfl rfl hthereY hsZ hoZ ?_; refine wpList_world HY3.out ?_))
                go_ret
                exact ⟨rfl, hby⟩
    · rw [Hde2.out hok]
      go_wp2_with (first | (refine wpList_world HX2.out ?_) | (refine wpList_store_mid rfl 26 _ _ rfl G1 0 csT rfl rfl hthere3 hsT hoT ?_; refine wpList_world HX3.out ?_))
      go_ret
      exact ⟨rfl, hx3⟩

end Go.Proofs.YtgjaoofgmdijdaaGreatDoor
