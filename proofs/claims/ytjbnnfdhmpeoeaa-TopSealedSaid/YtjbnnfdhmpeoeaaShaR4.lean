/- The reference's Sum, walked. -/
import Derived.Test.YtjbnnfdhmpeoeaaSha4
import Derived.Test.YtjbnnfdhmpeoeaaShaR2
import Derived.Test.YtjbnnfdhmpeoeaaShaR3
import Derived.Test.YtjbnnfdhmpeoeaaRegion
namespace Go.Proofs.Ytjbnnfdhmpeoeaa
open Go.RowKit

theorem wordCells_eight (s : St) : (wordCells s.list).size = 8 := rfl

set_option maxRecDepth 20000 in
set_option maxHeartbeats 3200000 in
theorem refshasum_calls (s : ByteArray) (w : World) (hs : s.size ≤ 140737488351232) :
    Calls Try.prog 38 #[.string s] w fun e w' => e = .returned (.agg (byteCells (sha s.data.toList))) ∧ Below w.heap.size w w' := by
  have hpl : (padL s.data.toList).length ≤ 140737488351232 + 73 := by
    rw [padL, List.length_append, padding_length, size_data]; omega
  have hmod := padL_mod s.data.toList
  have hpad := fun w => refpadded_calls s w hs
  have hsha : sha s.data.toList = digest (blocks (padL s.data.toList) ((padL s.data.toList).length / 64)) := rfl
  generalize sha s.data.toList = R at *
  generalize hPL : padL s.data.toList = P at *
  clear hPL
  have Hsha := Lib.hid hsha
  clear hsha
  go_enter Try.func38, Try.ntmps38
  go_wp2_with fail
  obtain ⟨W1, hW1, hO, hH, hB1, hz1⟩ := two_rows w (byteCells (List.replicate 32 0)) (wordCells shaH.list) 45 74
  change Calls _ _ _ ((w.alloc (.cells (byteCells (List.replicate 32 0)) 45)).alloc (.cells (wordCells shaH.list) 74)) _
  rw [← hW1]
  clear hW1
  generalize hB : w.heap.size = B at *
  have HB := Lib.hid hB
  clear hB
  refine (hpad W1).mono ?_
  rintro e w2 ⟨rfl, hb2⟩
  have hO2 := hO.below hb2 (by omega)
  have hH2 := hH.below hb2 (by omega)
  have hB2 := hB1.trans (hb2.mono (by omega))
  clear hO hH hb2 hB1 hz1 hpad
  obtain ⟨x, hx⟩ : ∃ x : ByteArray, x = ⟨P.toArray⟩ := ⟨_, rfl⟩
  rw [← hx]
  have hx0 : x.data.toList = P.drop (64 * 0) := by rw [hx]; rfl
  clear hx
  go_wp2_with fail
  go_loopw [0] (fun v0 wr => ∃ i : Nat, ∃ y : ByteArray, 64 * i ≤ P.length ∧ v0 = .string y ∧ y.data.toList = P.drop (64 * i) ∧ RowIs wr (B + 1) 74 (wordCells (blocks P i).list) ∧
    RowIs wr B 45 (byteCells (List.replicate 32 0)) ∧ Below B w wr) (fun v0 _ => match v0 with | .string y => y.size | _ => 0)
  case atStart => exact ⟨0, x, by omega, rfl, hx0, hH2, hO2, hB2⟩
  case round =>
    clear hx0 hH2 hO2 hB2
    obtain ⟨i, y, hi, rfl, hy, hH, hO, hb⟩ := hrel
    have hys : y.size = P.length - 64 * i := by rw [← size_data, hy, List.length_drop]
    by_cases hlt : 64 * i < P.length
    · have h64 : 64 ≤ y.size := by omega
      have hpos : (0 : Int) < y.size := by omega
      have h64i : (64 : Int) ≤ ((P.length - 64 * i : Nat) : Int) := by omega
      have hxs : (y.extract 0 64).size = 64 := by simp [ByteArray.size_extract]; omega
      have hxl : (y.extract 0 64).data.toList = (P.drop (64 * i)).take 64 := by rw [← hy]; simp
      have hyl : (y.extract 64 y.size).data.toList = P.drop (64 * (i + 1)) := by
        have e : 64 * (i + 1) = 64 * i + 64 := by omega
        rw [e, ← List.drop_drop, ← hy]
        simp
        rw [List.take_of_length_le]
        simp
      have hblk : compress (blocks P i) (y.extract 0 64).data.toList = blocks P (i + 1) := by rw [hxl, blocks]
      have hp := fun w => refpart_calls (blocks P i) (y.extract 0 64) w hxs
      rw [hblk] at hp
      have hsz1 : (Try.prog.info? 74).map (·.size) = some (wordCells (blocks P i).list).size := by rw [wordCells_eight]; kernel_rfl
      have hsz2 : (Try.prog.info? 74).map (·.size) = some (wordCells (blocks P (i + 1)).list).size := by rw [wordCells_eight]; kernel_rfl
      have hs12 : (wordCells (blocks P (i + 1)).list).size = (wordCells (blocks P i).list).size := by rw [wordCells_eight, wordCells_eight]
      have hone := wordCells_one (blocks P (i + 1)).list
      have hrel2 : ∀ w, RowIs w (B + 1) 74 (wordCells (blocks P (i + 1)).list) → RowIs w (B + 1) 74 (wordCells (blocks P (i + 1)).list) := fun _ h => h
      generalize wordCells (blocks P i).list = C at *
      generalize hD : wordCells (blocks P (i + 1)).list = D at *
      have HD := Lib.hid hD
      have Hyl := Lib.hid hyl
      have Hpl := Lib.hid hpl
      have Hp := Lib.hid hp
      have HH := Lib.hid hH
      have HO := Lib.hid hO
      have Hb := Lib.hid hb
      clear hyl hxl hy hpl hmod hp hblk hrel2 hD hH hO hb
      go_wp2_with fail
      refine wp_region_held_drew (S := fun _ => True) (by kernel_rfl) trivial (fun hHeld => ?_)
      refine take_N (i := 1) (v := ?_) (some 13) #[false, true, false, false, false] rfl rfl (by kernel_rfl) (by kernel_rfl) (by kernel_rfl) (by kernel_rfl) (fun _ _ _ h => h) (by assumption) (Or.inl ⟨by rfl, ?_⟩) ?_
      rotate_left
      · intro w_ hSw_; go_simp; try with_reducible rfl
      simp only [Act.put, List.setIfInBounds_toArray, List.set_cons_zero, List.set_cons_succ]
      refine take_N (i := 2) (v := ?_) (some 14) #[false, true, true, false, false] rfl rfl (by kernel_rfl) (by kernel_rfl) (by kernel_rfl) (by kernel_rfl) (fun _ _ _ h => h) (by assumption) (Or.inl ⟨by rfl, ?_⟩) ?_
      rotate_left
      · intro w_ hSw_; go_simp; try with_reducible rfl
      simp only [Act.put, List.setIfInBounds_toArray, List.set_cons_zero, List.set_cons_succ]
      refine step_N (i := 0) #[true, true, true, false, false] rfl (by kernel_rfl) (by kernel_rfl) (fun K hK => ?_)
      rw [if_pos (by rfl)]
      refine wp_load_row 74 _ rfl (B + 1) rfl 74 C (0, 0) _ HH.out Try.underlying74 rfl hsz1 ?_
      refine hK.out _ _ trivial ?_
      clear hK K
      refine step_N (i := 3) #[true, true, true, true, false] rfl (by kernel_rfl) (by kernel_rfl) (fun K hK => ?_)
      rw [if_pos (by rfl)]
      go_simp
      have hlt1 : (B + 1) < wr.heap.size := HH.out.lt
      refine (Hp.out _).mono ?_
      rintro e w5 ⟨rfl, hb5⟩
      have hH5 := HH.out.drew.below hb5 hlt1
      have hthere := hH5.there 0 D.size (by rw [hs12]; omega)
      have hst : RowIs (w5.setCells (B + 1) 0 D.toList) (B + 1) 74 D := store_row hH5 hs12
      have hO5 : RowIs (w5.setCells (B + 1) 0 D.toList) B 45 (byteCells (List.replicate 32 0)) := (setCells_other (B + 1) B (by omega) D.toList 0 w5).trans (HO.out.drew.below hb5 (by show B < wr.heap.size; omega))
      have hbl : Below B w (w5.setCells (B + 1) 0 D.toList) := setCells_below (B + 1) B (by omega) D.toList 0 w w5 (Hb.out.drew.trans (hb5.mono (by show B ≤ wr.heap.size; omega)))
      have Hst := Lib.hid hst
      have HO5 := Lib.hid hO5
      have Hbl := Lib.hid hbl
      clear hst hO5 hbl hH5 hb5
      refine hK.out _ _ trivial ?_
      clear hK K
      refine step_N (i := 4) #[true, true, true, true, true] rfl (by kernel_rfl) (by kernel_rfl) (fun K hK => ?_)
      rw [if_pos (by rfl)]
      refine wp_store_mid 74 _ _ rfl (B + 1) 0 D rfl rfl hthere hsz2 hone ?_
      refine hK.out _ _ trivial ?_
      clear hK K
      refine wpAnyH_done (by kernel_rfl) ?_ _
      generalize w5.setCells (B + 1) 0 D.toList = w6 at *
      clear hthere
      go_wp2_with fail
      go_roundw
      case rel =>
        refine ⟨i + 1, _, by omega, rfl, ?_, ?_, HO5.out, Hbl.out⟩
        · rw [← hys]; exact Hyl.out
        · rw [HD.out]; exact Hst.out
      case measure =>
        show (y.extract 64 (P.length - 64 * i)).size < y.size
        rw [ByteArray.size_extract]
        omega
    · have hy0 : y.size = 0 := by omega
      have hin : i = P.length / 64 := by omega
      rw [← hin] at Hsha
      generalize blocks P i = st at *
      have hng : ¬ ((y.size : Int) > 0) := by omega
      clear hy hys hi hlt hpl hmod hin
      have HH := Lib.hid hH
      have HO := Lib.hid hO
      have Hb := Lib.hid hb
      clear hH hO hb
      go_wp2_with fail
      have hG := HO.out.lt
      have hH1 : RowIs (wr.alloc (.cells (byteCells (List.replicate 32 0)) 45)) (B + 1) 74 (wordCells st.list) := HH.out.alloc _
      have hO1 : RowIs (wr.alloc (.cells (byteCells (List.replicate 32 0)) 45)) B 45 (byteCells (List.replicate 32 0)) := HO.out.alloc _
      have hN1 : RowIs (wr.alloc (.cells (byteCells (List.replicate 32 0)) 45)) wr.heap.size 45 (byteCells (digRow st 0)) := by
        have := RowIs.new wr 45 (byteCells (List.replicate 32 0))
        simpa [digRow, digestTo] using this
      have hb1 : Below B w (wr.alloc (.cells (byteCells (List.replicate 32 0)) 45)) := Hb.out.alloc (by omega) _
      have hBG : B + 1 < wr.heap.size := HH.out.lt
      change Code.wp _ _ _ _ (wr.alloc (.cells (byteCells (List.replicate 32 0)) 45))
      generalize wr.alloc (.cells (byteCells (List.replicate 32 0)) 45) = w7 at *
      generalize wr.heap.size = G at *
      clear HO HH Hb hG hng hy0
      go_loopw [5, 18] (fun _ v wr => ∃ t : Nat, t ≤ 32 ∧ v = .int .i64 t ∧ RowIs wr G 45 (byteCells (digRow st t)) ∧ RowIs wr (B + 1) 74 (wordCells st.list) ∧ RowIs wr B 45 (byteCells (List.replicate 32 0)) ∧ Below B w wr) (fun _ v _ => 32 - (intOf v).toNat)
      case atStart => exact ⟨0, by omega, rfl, hN1, hH1, hO1, hb1⟩
      case round =>
        clear hN1 hH1 hO1 hb1
        obtain ⟨t, ht, rfl, hN, hH, hO, hb⟩ := hrel
        by_cases hlt : t < 32
        · have hsl : st.list.length = 8 := rfl
          have hdl := digRow_length st t ht
          have hc : wr.cell? ⟨B + 1, t / 4, none⟩ = some (.int .u32 (uw (st.list.getD (t / 4) 0#32))) := by
            rw [hH.word (t / 4) (by omega), List.getD_eq_getElem?_getD, List.getElem?_eq_getElem (by omega)]; rfl
          generalize hX : st.list.getD (t / 4) 0#32 = X at *
          have hset := digRow_set st t hlt
          rw [hX] at hset
          have hv := digest_int X (24 - 8 * (t % 4)) _ rfl
          have hN2 := hN.setByte t (UInt8.ofNat (X.toNat / 2 ^ (24 - 8 * (t % 4)))) _ hv
          rw [hset] at hN2
          have hex : ∃ old : Int, wr.cell? ⟨G, t, none⟩ = some (.int .u8 old) := ⟨_, hN.byte t (by omega)⟩
          obtain ⟨old, hcO⟩ := hex
          have hfO := hN.free t
          have HN2 := Lib.hid hN2
          have HH := Lib.hid (hH.other ⟨G, t, none⟩ (.int .u8 (uw X / 2 ^ (24 - 8 * (t % 4)) % 256)) (by show B + 1 ≠ G; omega))
          have HO := Lib.hid (hO.other ⟨G, t, none⟩ (.int .u8 (uw X / 2 ^ (24 - 8 * (t % 4)) % 256)) (by show B ≠ G; omega))
          have Hb := Lib.hid (hb.setCell (p := ⟨G, t, none⟩) (by show B ≤ G; omega) (.int .u8 (uw X / 2 ^ (24 - 8 * (t % 4)) % 256)))
          clear hN hO hH hb hN2 hset hv hX hdl hsl
          have q1 : (t : Int) / 4 < 8 := by omega
          have q0 : 0 ≤ (t : Int) / 4 := by omega
          have qn : ((t : Int) / 4).toNat = t / 4 := by omega
          have s0 : 0 ≤ 24 - 8 * ((t : Int) % 4) := by omega
          have sn : (24 - 8 * ((t : Int) % 4)).toNat = 24 - 8 * (t % 4) := by omega
          have r0 : 0 ≤ (t : Int) % 4 := by omega
          have r1 : (t : Int) % 4 < 4 := by omega
          go_wp2_with fail
          go_roundw
          case rel => exact ⟨t + 1, by omega, by go_num, HN2.out, HH.out, HO.out, Hb.out⟩
          case measure => simp [intOf]; omega
        · have ht32 : t = 32 := by omega
          subst ht32
          have hR : digRow st 32 = R := by rw [Hsha.out]; simp [digRow, digest]
          rw [hR] at hN
          have hlen : (byteCells R).size = 32 := by rw [← hR, byteCells_size, digRow_length st 32 (by omega)]
          have hone := byteCells_one R
          clear hR Hsha hH
          generalize hC : byteCells R = C at *
          have HC := Lib.hid hC
          clear hC
          have hsz : (Try.prog.info? 45).map (·.size) = some C.size := by rw [hlen]; kernel_rfl
          have hs0 : C.size = (byteCells (List.replicate 32 0)).size := by rw [hlen]; rfl
          have hst : RowIs (wr.setCells B 0 C.toList) B 45 C := store_row hO hs0
          have hthere := hO.there 0 C.size (by rw [hs0]; omega)
          have hbel2 := setCells_below B B (Nat.le_refl B) C.toList 0 w wr hb
          have Hlen := Lib.hid hlen
          have Hst := Lib.hid hst
          have Hbel := Lib.hid hbel2
          clear hlen hst hbel2 hs0
          go_wp2_with (first | (refine wpList_load_row rfl 45 _ rfl G rfl 45 C (0, 0) _ hN Try.underlying45 rfl hsz ?_) | (refine wpList_store_mid rfl 45 _ _ rfl B 0 C rfl rfl hthere hsz hone ?_))
          refine bodyPost_ret (v := .agg C) (results_cell_row (p := 2) (ty := 45) (by rfl) _ _ B 45 C (0, 0) _ (by rfl) Hst.out Try.underlying45 (by rfl) hsz) (by rfl) ?_
          exact ⟨by rw [HC.out], by rw [HB.out]; exact Hbel.out⟩

end Go.Proofs.Ytjbnnfdhmpeoeaa
