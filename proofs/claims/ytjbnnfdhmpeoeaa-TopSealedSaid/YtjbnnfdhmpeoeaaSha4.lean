/- hash.Sum, walked. -/
import Derived.Test.YtjbnnfdhmpeoeaaSha3
namespace Go.Proofs.Ytjbnnfdhmpeoeaa
open Go.RowKit

theorem digest_int (x : BitVec 32) (k : Nat) (m : Int) (hm : m = 2 ^ k) : uw x / m % 256 = ((UInt8.ofNat (x.toNat / 2 ^ k)).toNat : Int) := by
  subst hm
  rw [byte_toNat, uw]
  have : (2 : Int) ^ k = ((2 ^ k : Nat) : Int) := by simp
  rw [this]
  omega

def digRow (s : St) (i : Nat) : List UInt8 := digestTo s i ++ List.replicate (32 - i) 0
theorem digRow_length (s : St) (i : Nat) (h : i ≤ 32) : (digRow s i).length = 32 := by simp [digRow, digestTo_length]; omega
theorem digRow_set (s : St) (i : Nat) (h : i < 32) : (digRow s i).set i (UInt8.ofNat ((s.list.getD (i / 4) 0#32).toNat / 2 ^ (24 - 8 * (i % 4)))) = digRow s (i + 1) := by
  simp only [digRow]
  rw [List.set_append_right _ _ (by rw [digestTo_length]; exact Nat.le_refl _), digestTo_length, Nat.sub_self]
  have e1 : 32 - i = (32 - (i + 1)) + 1 := by omega
  rw [e1, List.replicate_succ, List.set_cons_zero, digestTo, List.append_assoc]
  rfl

theorem two_rows (w : World) (C D : Array Value) (t u : TypeId) : ∃ W, W = (w.alloc (.cells C t)).alloc (.cells D u) ∧ RowIs W w.heap.size t C ∧ RowIs W (w.heap.size + 1) u D ∧ Below w.heap.size w W ∧ W.heap.size = w.heap.size + 2 := by
  refine ⟨_, rfl, (RowIs.new w _ _).alloc _, ?_, ((Below.refl _ _).alloc (Nat.le_refl _) _).alloc (by simp) _, by simp⟩
  have := RowIs.new (w.alloc (.cells C t)) u D
  simpa using this

set_option maxRecDepth 20000 in
set_option maxHeartbeats 3200000 in
theorem shasum_calls (s : ByteArray) (w : World) (hs : s.size ≤ 140737488351232) :
    Calls Try.prog 35 #[.string s] w fun e w' => e = .returned (.agg (byteCells (sha s.data.toList))) ∧ Below w.heap.size w w' := by
  have hpl : (padL s.data.toList).length ≤ 140737488351232 + 73 := by
    rw [padL, List.length_append, padding_length, size_data]; omega
  have hP : s ++ ⟨(padding s.size).toArray⟩ = ⟨(padL s.data.toList).toArray⟩ := by
    apply ByteArray.ext
    apply Array.ext'
    simp [padL]
  have hmod := padL_mod s.data.toList
  have hsha : sha s.data.toList = digest (blocks (padL s.data.toList) ((padL s.data.toList).length / 64)) := rfl
  generalize sha s.data.toList = R at *
  generalize hPL : padL s.data.toList = P at *
  clear hPL
  have HP := Lib.hid hP
  have Hsha := Lib.hid hsha
  clear hP hsha
  go_enter Try.func35, Try.ntmps35
  go_wp2_with fail
  change Calls _ _ _ ((w.alloc (.cells (byteCells (List.replicate 32 0)) 45)).alloc (.cells (wordCells shaH.list) 75)) _
  obtain ⟨W1, hW1, hO, hH, hB1, hz1⟩ := two_rows w (byteCells (List.replicate 32 0)) (wordCells shaH.list) 45 75
  rw [← hW1]
  clear hW1
  generalize hB : w.heap.size = B at *
  have HB := Lib.hid hB
  clear hB
  refine (rounds_calls W1).mono ?_
  rintro e w2 ⟨rfl, hK, hb2, hz2⟩
  rw [hz1] at hK hb2 hz2 ⊢
  have hO2 := hO.below hb2 (by omega)
  have hH2 := hH.below hb2 (by omega)
  have hB2 := hB1.trans (hb2.mono (by omega))
  clear hO hH hb2 hB1 hz1
  have hsz : (B + 3) ≤ w2.heap.size := by omega
  clear hz2
  go_wp2_with fail
  refine (tail_calls s.size w2 (by omega)).mono ?_
  rintro e w3 ⟨rfl, hb3⟩
  have hO3 := hO2.below hb3 (by omega)
  have hH3 := hH2.below hb3 (by omega)
  have hK3 := hK.below hb3 (by omega)
  have hB3 := hB2.trans (hb3.mono (by omega))
  clear hO2 hH2 hB2 hb3 hsz hK
  have htl : (⟨(padding s.size).toArray⟩ : ByteArray).size ≤ 73 := by
    rw [ByteArray.size, List.size_toArray, padding_length]; omega
  have hcat := HP.out
  obtain ⟨x, hx⟩ : ∃ x : ByteArray, x = ⟨P.toArray⟩ := ⟨_, rfl⟩
  rw [← hx] at hcat
  have hxl : x.data.toList = P := by rw [hx]
  generalize (⟨(padding s.size).toArray⟩ : ByteArray) = tl at *
  have Hx := Lib.hid hx
  have hcap : ¬ ((s.size + tl.size : Nat) : Int) > IntKind.i64.max := by
    have : IntKind.i64.max = 9223372036854775807 := rfl
    rw [this]; omega
  clear hx
  go_wp2_with fail
  have hx0 : x.data.toList = P.drop (64 * 0) := by rw [hxl]; rfl
  clear hcap htl hcat hxl Hx HP
  go_loopw [0] (fun v0 wr => ∃ i : Nat, ∃ y : ByteArray, 64 * i ≤ P.length ∧ v0 = .string y ∧ y.data.toList = P.drop (64 * i) ∧ RowIs wr (B + 1) 75 (wordCells (blocks P i).list) ∧
    RowIs wr (B + 2) 101 (wordCells shaK) ∧ RowIs wr B 45 (byteCells (List.replicate 32 0)) ∧ Below B w wr) (fun v0 _ => match v0 with | .string y => y.size | _ => 0)
  case atStart => exact ⟨0, x, by omega, rfl, hx0, hH3, hK3, hO3, hB3⟩
  case round =>
    clear hx0 hH3 hK3 hO3 hB3
    obtain ⟨i, y, hi, rfl, hy, hH, hK, hO, hb⟩ := hrel
    have hys : y.size = P.length - 64 * i := by rw [← size_data, hy, List.length_drop]
    by_cases hlt : 64 * i < P.length
    · have h64 : 64 ≤ y.size := by omega
      have HH := Lib.hid hH
      have HK := Lib.hid hK
      have HO := Lib.hid hO
      have Hb := Lib.hid hb
      clear hH hK hO hb
      have hb1 : (y.toList == ByteArray.toList ⟨#[]⟩) = false := by
        rw [ByteArray.toList_eq, ByteArray.toList_eq, beq_eq_false_iff_ne]
        intro h
        have : y.data.toList.length = 0 := by rw [h]; rfl
        rw [size_data] at this
        omega
      have hb2 : (y.toList == []) = false := by
        rw [ByteArray.toList_eq, beq_eq_false_iff_ne]
        intro h
        have : y.data.toList.length = 0 := by rw [h]; rfl
        rw [size_data] at this
        omega
      have hxs : (y.extract 0 64).size = 64 := by simp [ByteArray.size_extract]; omega
      have hxl : (y.extract 0 64).data.toList = (P.drop (64 * i)).take 64 := by rw [← hy]; simp
      have hyl : (y.extract 64 y.size).data.toList = P.drop (64 * (i + 1)) := by
        have e : 64 * (i + 1) = 64 * i + 64 := by omega
        rw [e, ← List.drop_drop, ← hy]
        simp
        rw [List.take_of_length_le]
        simp
      have Hyl := Lib.hid hyl
      have Hxl := Lib.hid hxl
      have Hpl := Lib.hid hpl
      clear hyl hxl hy hpl hmod
      go_wp2_with (go_at_call 48; refine (statetake_calls (blocks P i) (y.extract 0 64) wr (B + 1) (B + 2) hxs HH.out HK.out).mono ?_; rintro e w4 ⟨rfl, hH4, hb4⟩; have HH4 := Lib.hid hH4; have HB4 := Lib.hid hb4; clear hH4 hb4)
      go_roundw
      case rel =>
        refine ⟨i + 1, _, by omega, rfl, ?_, ?_, HK.out.but HB4.out (by omega), HO.out.but HB4.out (by omega), Hb.out.trans (HB4.out.below (by omega) ?_)⟩
        · rw [← hys]; exact Hyl.out
        · have := HH4.out
          rw [Hxl.out] at this
          exact this
        · have := HO.out.lt
          omega
      case measure =>
        show (y.extract 64 (P.length - 64 * i)).size < y.size
        rw [ByteArray.size_extract]
        omega
    · have hy0 : y = ⟨#[]⟩ := by
        apply ByteArray.ext
        apply Array.ext'
        rw [hy, List.drop_eq_nil_of_le (by omega)]
      have hin : i = P.length / 64 := by omega
      subst hy0
      rw [← hin] at Hsha
      have hb1 : (ByteArray.toList ⟨#[]⟩ == ByteArray.toList ⟨#[]⟩) = true := by simp
      have hb2 : (ByteArray.toList ⟨#[]⟩ == []) = true := by rw [ByteArray.toList_eq]; rfl
      generalize blocks P i = st at *
      clear hy hys hi hlt hK hpl hmod hin
      have HH := Lib.hid hH
      have HO := Lib.hid hO
      have Hb := Lib.hid hb
      clear hH hO hb
      go_wp2_with fail
      have h0 : RowIs wr B 45 (byteCells (digRow st 0)) := by simpa [digRow, digestTo] using HO.out
      have hH := HH.out
      have hb := Hb.out
      clear HO HH Hb hb1 hb2
      go_loopw [6, 23] (fun _ v wr => ∃ t : Nat, t ≤ 32 ∧ v = .int .i64 t ∧ RowIs wr B 45 (byteCells (digRow st t)) ∧ RowIs wr (B + 1) 75 (wordCells st.list) ∧ Below B w wr) (fun _ v _ => 32 - (intOf v).toNat)
      case atStart => exact ⟨0, by omega, rfl, h0, hH, hb⟩
      case round =>
        clear h0 hH hb
        obtain ⟨t, ht, rfl, hO, hH, hb⟩ := hrel
        by_cases hlt : t < 32
        · have hsl : st.list.length = 8 := rfl
          have hdl := digRow_length st t ht
          have hc : wr.cell? ⟨B + 1, t / 4, none⟩ = some (.int .u32 (uw (st.list.getD (t / 4) 0#32))) := by
            rw [hH.word (t / 4) (by omega), List.getD_eq_getElem?_getD, List.getElem?_eq_getElem (by omega)]; rfl
          generalize hX : st.list.getD (t / 4) 0#32 = X at *
          have hset := digRow_set st t hlt
          rw [hX] at hset
          have hv := digest_int X (24 - 8 * (t % 4)) _ rfl
          have hO2 := hO.setByte t (UInt8.ofNat (X.toNat / 2 ^ (24 - 8 * (t % 4)))) _ hv
          rw [hset] at hO2
          have hex : ∃ old : Int, wr.cell? ⟨B, t, none⟩ = some (.int .u8 old) := ⟨_, hO.byte t (by omega)⟩
          obtain ⟨old, hcO⟩ := hex
          have hfO := hO.free t
          have HO2 := Lib.hid hO2
          have HH := Lib.hid (hH.other ⟨B, t, none⟩ (.int .u8 (uw X / 2 ^ (24 - 8 * (t % 4)) % 256)) (by show B + 1 ≠ B; omega))
          have Hb := Lib.hid (hb.setCell (p := ⟨B, t, none⟩) (Nat.le_refl B) (.int .u8 (uw X / 2 ^ (24 - 8 * (t % 4)) % 256)))
          clear hO hH hb hO2 hset hv hX hdl hsl
          have q1 : (t : Int) / 4 < 8 := by omega
          have q0 : 0 ≤ (t : Int) / 4 := by omega
          have qn : ((t : Int) / 4).toNat = t / 4 := by omega
          have s0 : 0 ≤ 24 - 8 * ((t : Int) % 4) := by omega
          have sn : (24 - 8 * ((t : Int) % 4)).toNat = 24 - 8 * (t % 4) := by omega
          go_wp2_with fail
          go_roundw
          case rel => exact ⟨t + 1, by omega, by go_num, HO2.out, HH.out, Hb.out⟩
          case measure => simp [intOf]; omega
        · have ht32 : t = 32 := by omega
          subst ht32
          have hR : digRow st 32 = R := by rw [Hsha.out]; simp [digRow, digest]
          rw [hR] at hO
          have hlen : (byteCells R).size = 32 := by rw [← hR, byteCells_size, digRow_length st 32 (by omega)]
          have hone := byteCells_one R
          clear hR Hsha hH
          generalize hC : byteCells R = C at *
          have HC := Lib.hid hC
          clear hC
          have hsz : (Try.prog.info? 45).map (·.size) = some C.size := by rw [hlen]; kernel_rfl
          have hst : RowIs (wr.setCells B 0 C.toList) B 45 C := store_row hO rfl
          have hthere := hO.there 0 C.size (by omega)
          have hbel2 := setCells_below B B (Nat.le_refl B) C.toList 0 w wr hb
          have Hlen := Lib.hid hlen
          have Hst := Lib.hid hst
          have Hbel := Lib.hid hbel2
          clear hlen hst hbel2
          go_wp2_with (first | (refine wpList_load_row rfl 45 _ rfl B rfl 45 C (0, 0) _ hO Try.underlying45 rfl hsz ?_) | (refine wpList_store_mid rfl 45 _ _ rfl B 0 C rfl rfl hthere hsz hone ?_))
          refine bodyPost_ret (v := .agg C) (results_cell_row (p := 2) (ty := 45) (by rfl) _ _ B 45 C (0, 0) _ (by rfl) Hst.out Try.underlying45 (by rfl) hsz) (by rfl) ?_
          exact ⟨by rw [HC.out], by rw [HB.out]; exact Hbel.out⟩

end Go.Proofs.Ytjbnnfdhmpeoeaa
