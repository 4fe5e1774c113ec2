/- NodeTurned: walked. -/
import Derived.Test.YtgjaoofgmdijdaaDoorNodeSizes
import Derived.Test.YtgjaoofgmdijdaaDoorTurn
namespace Go.Proofs.YtgjaoofgmdijdaaDoor
open Go.RowKit

set_option maxRecDepth 20000 in
set_option maxHeartbeats 6400000 in
theorem turned_calls (va : Value) (at_ : Int) (bit : UInt8) (a : NodeD) (w : World) (ha : NodeAt w.heap.size w va a) (fa : fitN a) :
    Calls Tryd.prog 5 #[va, .int .i64 at_, .int .u8 (bit.toNat : Int)] w fun e w' => e = .returned (.bool true) ∧ Below w.heap.size w w' := by
  have hea := fun w' (h : Below w.heap.size w w') => encode_calls _ va a w' (ha.below h (Nat.le_refl _)) h.size fa
  have hlen := enc_length a ha.wf
  have hss := strOf_size (encN a)
  have hturn := dec_turned a ha.wf
  obtain ⟨p1, c1, p2, c2, p3, c3, rfl⟩ := boxed ha
  have hsd : (strOf (encN a)).data.toList = encN a := rfl
  generalize encN a = Ea at *
  generalize hSg : strOf Ea = S at *
  generalize checkN a = C1 at *
  clear ha fa
  have Hturn := Lib.hid hturn
  have Hss := Lib.hid hss
  have Hsd := Lib.hid hsd
  have iS : S.size ≤ 512 := by rw [hss]; exact hlen
  clear hturn hss hsd hSg
  generalize (a.kind : Int) = ka at *
  generalize a.items.length = a1 at *
  generalize a.kids.length = a2 at *
  generalize a.vols.length = a3 at *
  obtain ⟨W1, hW1⟩ : ∃ W1, W1 = w.alloc (.cells #[.int .u8 ka, .slice p1 a1 c1, .slice p2 a2 c2, .slice p3 a3 c3] 27) := ⟨_, rfl⟩
  have hA1 : RowIs W1 w.heap.size 27 #[.int .u8 ka, .slice p1 a1 c1, .slice p2 a2 c2, .slice p3 a3 c3] := by rw [hW1]; exact RowIs.new w _ _
  have hb1 : Below w.heap.size w W1 := by rw [hW1]; exact (Below.refl _ _).alloc (Nat.le_refl _) _
  have HW1 := Lib.hid hW1
  have hsA := node_size4 (.int .u8 ka) (.slice p1 a1 c1) (.slice p2 a2 c2) (.slice p3 a3 c3)
  have hnot : ∀ (x : Bool) (w : World), (Op.unary .not (.bool x)).run Tryd.prog w = .ok (.bool (!x)) w := fun _ _ => rfl
  clear hW1
  go_enter Tryd.func5, Tryd.ntmps5
  go_wp2_with (refine wpList_world HW1.out ?_)
  refine (lives_calls W1).mono ?_
  rintro e w3 ⟨rfl, hq⟩
  have hA3 := hA1.below hq hA1.lt
  have hb3 := hb1.trans (hq.mono hb1.size)
  clear hq hA1 hb1
  go_wp2_with (refine wpList_load_row rfl 27 _ rfl w.heap.size rfl 27 #[.int .u8 ka, .slice p1 a1 c1, .slice p2 a2 c2, .slice p3 a3 c3] (0, 0) _ hA3 Tryd.underlying27 rfl hsA ?_)
  refine (hea w3 hb3).mono ?_
  rintro e w4 ⟨rfl, hq⟩
  have hb4 := hb3.trans (hq.mono hb3.size)
  clear hq hA3 hb3 hea
  by_cases h1 : C1 = 0
  · subst h1
    by_cases h0 : at_ < 0
    · go_wp2_with fail
      go_ret
      exact ⟨rfl, hb4⟩
    · obtain ⟨k, rfl⟩ := Int.eq_ofNat_of_zero_le (show 0 ≤ at_ by omega)
      by_cases hk : 512 ≤ k
      · have i2 : (512 : Int) ≤ (k : Int) := by omega
        go_wp2_with fail
        go_ret
        exact ⟨rfl, hb4⟩
      · have i2 : ¬ (512 : Int) ≤ (k : Int) := by omega
        have i3 : (k : Int) < 512 := by omega
        obtain ⟨W2, hmk, hrow, hb2, hz2⟩ := make_bytes w4 .i64 512 (by decide)
        rw [show ((512 : Nat) : Int) = 512 from rfl] at hmk
        have hpad := hrow.pad Ea hlen
        have hcop : ∀ j, j < S.size → (W2.cell? ⟨w4.heap.size, 0 + j, none⟩).isSome = true := fun j hj => by rw [Nat.zero_add, hrow.cell j (by rw [List.length_replicate]; omega)]; rfl
        have hfr : ∀ j, j < S.size → W2.frozen? ⟨w4.heap.size, 0 + j, none⟩ = false := fun j hj => by rw [Nat.zero_add]; exact hrow.free j (by rw [List.length_replicate]; omega)
        obtain ⟨W3, hW3⟩ : ∃ W3, W3 = W2.setCells w4.heap.size 0 (S.data.toList.map fun x => Value.int .u8 (x.toNat : Int)) := ⟨_, rfl⟩
        have hrow3 : ByteRow W3 w4.heap.size (padTo 512 Ea) := by rw [hW3, Hsd.out]; exact hpad
        have hb3 : Below w4.heap.size w4 W3 := by rw [hW3]; exact setCells_below _ _ (Nat.le_refl _) _ 0 _ _ hb2
        have hpl : (padTo 512 Ea).length = 512 := padTo_length 512 Ea hlen
        have hbit0 : 0 ≤ (bit.toNat : Int) % 8 := by omega
        have hbit1 : (bit.toNat : Int) % 8 ≤ 7 := by omega
        obtain ⟨d, hd, hne⟩ := turned_u8 ((padTo 512 Ea)[k]'(by omega)) (bit.toNat % 8) (by omega)
        have hbad := Hturn.out rfl k d (by omega) (fun _ => hne)
        have hcell := hrow3.cell k (by omega)
        have hfree := hrow3.free k (by omega)
        have hrow4 := hrow3.set k d _ rfl (by omega)
        have hl4 : ((padTo 512 Ea).set k d).length = 512 := by rw [List.length_set]; exact hpl
        have hb5 : Below w4.heap.size w4 (W3.setCell ⟨w4.heap.size, k, none⟩ (.int .u8 (d.toNat : Int))) := hb3.setCell (p := ⟨w4.heap.size, k, none⟩) (Nat.le_refl _) _
        generalize (padTo 512 Ea)[k]'(by omega) = ck at *
        generalize (padTo 512 Ea).set k d = L at *
        have HW3 := Lib.hid hW3
        have Hbad := Lib.hid hbad
        have Hl4 := Lib.hid hl4
        clear hW3 hbad hpad hrow hrow3 hb2 hb3 hl4 hpl hne hz2 Hturn
        generalize hG : w4.heap.size = G at *
        go_wp2_with (first | (refine wpList_world HW3.out ?_) | (refine wpList_copy_str rfl _ _ 41 9 rfl 5 Tryd.underlying41 Tryd.sizeOf5 G 0 512 512 rfl S rfl iS hcop hfr ?_))
        try rw [hd]
        generalize W3.setCell ⟨G, k, none⟩ (.int .u8 (d.toNat : Int)) = W at *
        clear hd hmk hcell hfree hcop hfr hbit0 hbit1 i2 i3 HW3
        go_loop [10] (fun v => ∃ e : Nat, e ≤ 512 ∧ v = .int .i64 e ∧ ∀ j (h : j < L.length), e ≤ j → L[j] = 0) (fun v => (intOf v).toNat)
        case atStart => exact ⟨512, Nat.le_refl _, rfl, fun j h hj => by have := Hl4.out; omega⟩
        case round =>
          obtain ⟨e, he, rfl, hz⟩ := hrel
          have hfin : (e = 0 ∨ ∃ h : e - 1 < L.length, L[e - 1] ≠ 0) → (L.take e) = trimR L := trimR_take L e (by rw [Hl4.out]; exact he) hz
          have hback : (e = 0 ∨ ∃ h : e - 1 < L.length, L[e - 1] ≠ 0) → (convert 41 9 (.slice (some ⟨G, 0, none⟩) e 512)).run Tryd.prog W = .ok (.string (strOf (trimR L))) W := fun h => by
            rw [← hfin h]
            exact conv_back W G e 512 (L.take e) (by rw [List.length_take, Hl4.out]; omega) (hrow4.takes e)
          have hdz : (strOf (trimR L)).size ≤ 140737488351232 := by
            have := trimR_length L
            rw [strOf_size]; have := Hl4.out; omega
          have hdec := fun w' => decode_calls (strOf (trimR L)) w' hdz
          have hdd : (strOf (trimR L)).data.toList = trimR L := rfl
          have hde : decE (trimR L) = 9 := by rw [decE, if_neg Hbad.out]
          have hdc : ∀ w', Calls Tryd.prog 11 #[.string (strOf (trimR L))] w' fun e w'' => ∃ v, e = .returned (.tuple #[v, .int .i64 9]) ∧ OwnAt w'.heap.size w'' v (nodeL (trimR L)) ∧ Below w'.heap.size w' w'' := fun w' => (hdec w').mono fun e w'' ⟨v, h1, h2, h3⟩ => ⟨v, by rw [h1, hdd, hde], by rw [hdd] at h2; exact h2, h3⟩
          have HZ := Lib.hid hz
          have hi1 : (e : Int) ≤ 512 := by omega
          by_cases h0 : e = 0
          · have hb := hback (.inl h0)
            subst h0
            generalize strOf (trimR L) = X at *
            clear hz hfin hback hdz hdec hdd hde HZ
            go_wp2_with fail
            refine (hdc W).mono ?_
            rintro e w6 ⟨v, rfl, ho, hq⟩
            obtain ⟨q1, k1, q2, k2, q3, k3, rfl⟩ := ho.shape
            have hb6 : Below w.heap.size w w6 := (hb4.trans (hb5.mono (by rw [← hG]; exact hb4.size))).trans (hq.mono (by have := hb5.size; have := hb4.size; omega))
            have hb7 := hb6.alloc hb6.size (.cells #[.int .u8 ((nodeL (trimR L)).kind : Int), .slice q1 (nodeL (trimR L)).items.length k1, .slice q2 (nodeL (trimR L)).kids.length k2, .slice q3 (nodeL (trimR L)).vols.length k3] 27)
            clear ho hq
            go_wp2_with fail
            go_ret
            exact ⟨rfl, hb7⟩
          · have hlt : e - 1 < L.length := by have := Hl4.out; omega
            have hc1 := hrow4.cell (e - 1) hlt
            have hpos : (0 : Int) < (e : Int) := by omega
            have hm1 : ((e : Int) - 1).toNat = e - 1 := by omega
            have hm2 : (0 : Int) ≤ (e : Int) - 1 := by omega
            have hm3 : (e : Int) - 1 < 512 := by omega
            by_cases hzz : L[e - 1] = 0
            · have hc0 : W.cell? ⟨G, e - 1, none⟩ = some (.int .u8 0) := by rw [hc1, hzz]; rfl
              clear hz hfin hback hdz hdec hdd hde hdc hc1
              go_wp2_with fail
              go_round
              case rel => exact ⟨e - 1, by omega, by congr 1; omega, fun j h hj => by
                by_cases hje : j = e - 1
                · subst hje; exact hzz
                · exact HZ.out j h (by omega)⟩
              case measure => simp [intOf]; omega
            · have hb := hback (.inr ⟨hlt, hzz⟩)
              have hne0 : ((L[e - 1].toNat : Int) == 0) = false := by
                rw [Bool.eq_false_iff]
                intro q
                have q2 : (L[e - 1].toNat : Int) = 0 := by simpa using q
                exact hzz (UInt8.toNat_inj.1 (by simpa using q2))
              have hne1 : ¬ (L[e - 1].toNat : Int) = 0 := by simpa using hne0
              generalize (L[e - 1].toNat : Int) = cz at *
              generalize strOf (trimR L) = X at *
              clear hz hfin hback hdz hdec hdd hde HZ hzz
              go_wp2_with fail
              refine (hdc W).mono ?_
              rintro e w6 ⟨v, rfl, ho, hq⟩
              obtain ⟨q1, k1, q2, k2, q3, k3, rfl⟩ := ho.shape
              have hb6 : Below w.heap.size w w6 := (hb4.trans (hb5.mono (by rw [← hG]; exact hb4.size))).trans (hq.mono (by have := hb5.size; have := hb4.size; omega))
              have hb7 := hb6.alloc hb6.size (.cells #[.int .u8 ((nodeL (trimR L)).kind : Int), .slice q1 (nodeL (trimR L)).items.length k1, .slice q2 (nodeL (trimR L)).kids.length k2, .slice q3 (nodeL (trimR L)).vols.length k3] 27)
              clear ho hq
              go_wp2_with fail
              go_ret
              exact ⟨rfl, hb7⟩
  · have hC1 : (C1 == 0) = false := by simpa using h1
    have hC2 : (C1 != 0) = true := by simpa using h1
    go_wp2_with fail
    go_ret
    exact ⟨rfl, hb4⟩

end Go.Proofs.YtgjaoofgmdijdaaDoor
