/- The document's Parse, walked. -/
import Derived.Test.YtjbnnfdhmpeoeaaParse
namespace Go.Proofs.Ytjbnnfdhmpeoeaa
open Go.RowKit

def pairRow (l : List UInt8) : Nat → List UInt8
  | 0 => List.replicate 32 0
  | m + 1 => (pairRow l m).set m (pairV l m)
theorem pairRow_length (l : List UInt8) (i : Nat) : (pairRow l i).length = 32 := by
  induction i with
  | zero => simp [pairRow]
  | succ i ih => simp [pairRow, ih]
theorem pairRow_get (l : List UInt8) : ∀ m, m ≤ 32 → ∀ k, k < m → (pairRow l m).getD k 0 = pairV l k := by
  intro m
  induction m with
  | zero => intro _ k hk; omega
  | succ m ih =>
    intro hm k hk
    rw [pairRow, getD_set _ _ _ _ (by rw [pairRow_length]; omega)]
    by_cases h : k = m
    · rw [if_pos h, h]
    · rw [if_neg h, ih (by omega) k (by omega)]
theorem pairRow_all (l : List UInt8) (hl : l.length = 64) : pairRow l 32 = unhex l := by
  have hu := unhex_length 32 l (by omega)
  have hr := pairRow_length l 32
  apply List.ext_getElem (by omega)
  intro k h1 h2
  have a := pairRow_get l 32 (by omega) k (by omega)
  have b := unhex_get 32 l k (by omega) (by omega)
  rw [← b] at a
  simpa [List.getD_eq_getElem?_getD, List.getElem?_eq_getElem h1, List.getElem?_eq_getElem h2] using a

/-- What the document's digit says. -/
def refV (c : UInt8) : Int := if isDig c then (digV c : Int) else 0

theorem parse_fin2 (s : ByteArray) (hs : s.size = 64) (hd : ∀ j, j < 64 → isDig (s.data.toList.getD j 0) = true) : parseH s = pairRow s.data.toList 32 ∧ parseE s = 0 := by
  have hl : s.data.toList.length = 64 := by rw [Array.length_toList]; exact hs
  have := parse_fin s hs hd
  rw [rowTo_all _ hl hd, ← pairRow_all _ hl] at this
  exact this

set_option maxRecDepth 20000 in
theorem digit_calls (c : UInt8) (w : World) : Calls Try.prog 53 #[.int .u8 (c.toNat : Int)] w fun e w' => e = .returned (.tuple #[.int .u8 (refV c), .bool (isDig c)]) ∧ w' = w := by
  have hc := c.toNat_lt
  have hcase : (48 ≤ c.toNat ∧ c.toNat ≤ 57 ∧ isDig c = true ∧ refV c = (c.toNat : Int) - 48) ∨ (97 ≤ c.toNat ∧ c.toNat ≤ 102 ∧ isDig c = true ∧ refV c = (c.toNat : Int) - 87) ∨ ((c.toNat < 48 ∨ 57 < c.toNat) ∧ (c.toNat < 97 ∨ 102 < c.toNat) ∧ isDig c = false ∧ refV c = 0) := by
    unfold refV isDig digV
    by_cases h1 : 48 ≤ c.toNat ∧ c.toNat ≤ 57
    · left; refine ⟨h1.1, h1.2, by simp [h1.1, h1.2], ?_⟩
      rw [if_pos (by simp [h1.1, h1.2]), if_pos h1.2]; omega
    · by_cases h2 : 97 ≤ c.toNat ∧ c.toNat ≤ 102
      · right; left; refine ⟨h2.1, h2.2, by simp [h2.1, h2.2], ?_⟩
        rw [if_pos (by simp [h2.1, h2.2]), if_neg (by omega)]; omega
      · right; right
        have e : ((decide (48 ≤ c.toNat) && decide (c.toNat ≤ 57)) || (decide (97 ≤ c.toNat) && decide (c.toNat ≤ 102))) = false := by
          rw [Bool.or_eq_false_iff, Bool.and_eq_false_iff, Bool.and_eq_false_iff]
          simp only [decide_eq_false_iff_not]
          omega
        exact ⟨by omega, by omega, e, by rw [if_neg (by simp [e])]⟩
  generalize refV c = V at *
  generalize isDig c = I at *
  generalize c.toNat = n at *
  rcases hcase with ⟨h1, h2, rfl, rfl⟩ | ⟨h1, h2, rfl, rfl⟩ | ⟨h1, h2, rfl, rfl⟩
  · have e1 : (48 : Int) ≤ (n : Int) := by omega
    have e2 : (n : Int) ≤ 57 := by omega
    go_enter Try.func53, Try.ntmps53
    go_wp2_with fail
    go_ret2
    exact ⟨by go_num, rfl⟩
  · have e1 : ¬ ((n : Int) ≤ 57) := by omega
    have e2 : (97 : Int) ≤ (n : Int) := by omega
    have e3 : (n : Int) ≤ 102 := by omega
    have e4 : (48 : Int) ≤ (n : Int) := by omega
    go_enter Try.func53, Try.ntmps53
    go_wp2_with fail
    go_ret2
    exact ⟨by go_num, rfl⟩
  · go_enter Try.func53, Try.ntmps53
    go_wp2_with fail
    all_goals (go_ret2; exact ⟨rfl, rfl⟩)

theorem pair_int (a b : Nat) (_ha : a < 16) (_hb : b < 16) : (a : Int) * 16 + (b : Int) = ((UInt8.ofNat (a * 16 + b)).toNat : Int) := by
  rw [UInt8.toNat_ofNat']; omega

set_option maxRecDepth 100000 in
set_option maxHeartbeats 3200000 in
theorem refparse_calls (s : ByteArray) (w : World) :
    Calls Try.prog 39 #[.string s] w fun e w' => e = .returned (.tuple #[.agg (byteCells (parseH s)), .int .i64 (parseE s)]) ∧ Below w.heap.size w w' := by
  have hsz : (Try.prog.info? 45).map (·.size) = some (byteCells (List.replicate 32 0)).size := by kernel_rfl
  have hone := byteCells_one (List.replicate 32 0)
  by_cases hs : s.size = 64
  · have hfin := parse_fin2 s hs
    have hbad := parse_bad s hs
    generalize parseH s = H at *
    generalize parseE s = E at *
    have hD : ∀ t (h : t < s.size), s[t] = s.data.toList.getD t 0 := fun t h => by
      rw [data_getElem s t (by rw [size_data]; exact h)]; rfl
    have hl : s.data.toList.length = 64 := by rw [size_data, hs]
    generalize s.data.toList = l at *
    have Hfin := Lib.hid hfin
    have Hbad := Lib.hid hbad
    clear hfin hbad
    go_enter Try.func39, Try.ntmps39
    go_wp2_with fail
    obtain ⟨W1, hW1, hO, hV, hB1, hz1⟩ := two_rows w (byteCells (List.replicate 32 0)) (byteCells (pairRow l 0)) 45 45
    change Code.wp _ _ _ _ ((w.alloc (.cells (byteCells (List.replicate 32 0)) 45)).alloc (.cells (byteCells (pairRow l 0)) 45))
    rw [← hW1]
    clear hW1
    generalize hB : w.heap.size = B at *
    have HB := Lib.hid hB
    clear hB
    go_loopw [14] (fun v wr => ∃ t : Nat, t ≤ 32 ∧ v = .int .i64 t ∧ RowIs wr B 45 (byteCells (List.replicate 32 0)) ∧ RowIs wr (B + 1) 45 (byteCells (pairRow l t)) ∧ Below B w wr ∧ ∀ j, j < 2 * t → isDig (l.getD j 0) = true) (fun v _ => 32 - (intOf v).toNat)
    case atStart => exact ⟨0, by omega, rfl, hO, hV, hB1, fun j hj => absurd hj (by omega)⟩
    case round =>
      clear hO hV hB1 hz1
      obtain ⟨t, ht, rfl, hO, hV, hb, hdig⟩ := hrel
      by_cases hlt : t < 32
      · have hts0 : (2 : Int) * (t : Int) < (s.size : Int) := by omega
        have hts1 : (2 : Int) * (t : Int) + 1 < (s.size : Int) := by omega
        have e0 : ((2 : Int) * (t : Int)).toNat = 2 * t := by omega
        have e1 : ((2 : Int) * (t : Int) + 1).toNat = 2 * t + 1 := by omega
        have p0 : (0 : Int) ≤ (2 : Int) * (t : Int) := by omega
        have p1 : (0 : Int) ≤ (2 : Int) * (t : Int) + 1 := by omega
        have hrl := pairRow_length l t
        obtain ⟨c0, hc0⟩ : ∃ c, c = l.getD (2 * t) 0 := ⟨_, rfl⟩
        obtain ⟨c1, hc1⟩ : ∃ c, c = l.getD (2 * t + 1) 0 := ⟨_, rfl⟩
        have hD0 := hD (2 * t) (by omega)
        have hD1 := hD (2 * t + 1) (by omega)
        have hrow : pairRow l (t + 1) = (pairRow l t).set t (UInt8.ofNat (digV (l.getD (2 * t) 0) * 16 + digV (l.getD (2 * t + 1) 0))) := rfl
        rw [← hc0] at hD0 hrow
        rw [← hc1] at hD1 hrow
        have Hc0 := Lib.hid hc0
        have Hc1 := Lib.hid hc1
        clear hc0 hc1
        have hex : ∃ old : Int, wr.cell? ⟨B + 1, t, none⟩ = some (.int .u8 old) := ⟨_, hV.byte t (by omega)⟩
        obtain ⟨old, hcO⟩ := hex
        have hfO := hV.free t
        have HO := Lib.hid hO
        have HV := Lib.hid hV
        have Hdig := Lib.hid hdig
        have Hb := Lib.hid hb
        have HD := Lib.hid hD
        have Hrow := Lib.hid hrow
        clear hO hdig hb hD hV hrow
        go_wp2_with fail
        refine (digit_calls c0 wr).mono ?_
        rintro e wr ⟨rfl, rfl⟩
        go_wp2_with fail
        refine (digit_calls c1 wr).mono ?_
        rintro e wr ⟨rfl, rfl⟩
        by_cases hdg : isDig c0 = true ∧ isDig c1 = true
        · have v0 : refV c0 = (digV c0 : Int) := by rw [refV, hdg.1]; rfl
          have v1 : refV c1 = (digV c1 : Int) := by rw [refV, hdg.2]; rfl
          have l0 := digV_lt c0 hdg.1
          have l1 := digV_lt c1 hdg.2
          have hpi := pair_int (digV c0) (digV c1) l0 l1
          have hpr := Hrow.out
          rw [hdg.1, hdg.2, v0, v1]
          have Hdg := Lib.hid hdg
          generalize digV c0 = n0 at *
          generalize digV c1 = n1 at *
          have HN := Lib.hid hpi
          have Hpr := Lib.hid hpr
          clear hdg v0 v1 hpi hpr Hrow
          go_wp2_with fail
          have hrel1 : RowIs (wr.setCell ⟨B + 1, t, none⟩ (.int .u8 ((n0 : Int) * 16 + (n1 : Int)))) (B + 1) 45 (byteCells (pairRow l (t + 1))) := by
            rw [Hpr.out]
            exact HV.out.setByte t _ _ HN.out
          have hrel2 := HO.out.other ⟨B + 1, t, none⟩ (.int .u8 ((n0 : Int) * 16 + (n1 : Int))) (by show B ≠ B + 1; omega)
          have hrel3 := Hb.out.setCell (p := ⟨B + 1, t, none⟩) (show B ≤ B + 1 by omega) (.int .u8 ((n0 : Int) * 16 + (n1 : Int)))
          generalize wr.setCell ⟨B + 1, t, none⟩ (.int .u8 ((n0 : Int) * 16 + (n1 : Int))) = w3 at *
          go_roundw
          case rel =>
            refine ⟨t + 1, by omega, by go_num, hrel2, hrel1, hrel3, fun j hj => ?_⟩
            by_cases e : j = 2 * t
            · rw [e, ← Hc0.out]; exact Hdg.out.1
            · by_cases e2 : j = 2 * t + 1
              · rw [e2, ← Hc1.out]; exact Hdg.out.2
              · exact Hdig.out j (by omega)
          case measure => simp [intOf]; omega
        · have hbad := hdg
          clear hbad
          have hst : RowIs (wr.setCells B 0 (byteCells (List.replicate 32 0)).toList) B 45 (byteCells (List.replicate 32 0)) := store_row HO.out rfl
          have hthere := HO.out.there 0 (byteCells (List.replicate 32 0)).size (Nat.le_refl 32)
          have hbel2 := setCells_below B B (Nat.le_refl B) (byteCells (List.replicate 32 0)).toList 0 w wr Hb.out
          obtain ⟨W, hW⟩ : ∃ W, W = wr.setCells B 0 (byteCells (List.replicate 32 0)).toList := ⟨_, rfl⟩
          rw [← hW] at hst hbel2
          have HW := Lib.hid hW
          have Hst := Lib.hid hst
          have Hbel := Lib.hid hbel2
          clear hW hst hbel2 Hrow hcO hfO hD0 hD1
          have hH : H = List.replicate 32 0 ∧ E = 4 := by
            rcases Bool.eq_false_or_eq_true (isDig c0) with h0 | h0
            · rcases Bool.eq_false_or_eq_true (isDig c1) with h1 | h1
              · exact absurd ⟨h0, h1⟩ hdg
              · exact Hbad.out (2 * t + 1) (by omega) (by rw [← Hc1.out]; exact h1)
            · exact Hbad.out (2 * t) (by omega) (by rw [← Hc0.out]; exact h0)
          have HH := Lib.hid hH
          clear hH Hbad Hfin
          generalize refV c0 = V0 at *
          generalize refV c1 = V1 at *
          generalize isDig c0 = I0 at *
          generalize isDig c1 = I1 at *
          cases I0 <;> cases I1
          case true.true => exact absurd ⟨rfl, rfl⟩ hdg
          all_goals
            clear hdg
            go_wp2_with (refine wpList_store_mid rfl 45 _ _ rfl B 0 (byteCells (List.replicate 32 0)) rfl rfl hthere hsz hone ?_; go_must (generalize hWW : World.setCells _ _ _ _ = W2; obtain rfl : W = W2 := (by rw [← hWW]; exact HW.out); clear hWW))
            refine bodyPost_ret (v := .tuple #[.agg (byteCells (List.replicate 32 0)), .int .i64 4]) (results_cell_tmp (p := 2) (q := 3) (ty := 45) (by rfl) _ _ B 45 (byteCells (List.replicate 32 0)) (0, 0) _ (by rfl) Hst.out Try.underlying45 (by rfl) hsz) (by rfl) ?_
            exact ⟨by rw [HH.out.1, HH.out.2], by rw [HB.out]; exact Hbel.out⟩
      · have ht32 : t = 32 := by omega
        subst ht32
        have hH := Hfin.out hdig
        rw [← hH.1] at hV
        have hlen : (byteCells H).size = 32 := by rw [hH.1, byteCells_size, pairRow_length]
        have hone := byteCells_one H
        have hE0 := hH.2
        clear hH Hfin Hbad hdig
        subst hE0
        generalize hC : byteCells H = C at *
        have HC := Lib.hid hC
        clear hC
        have hsz : (Try.prog.info? 45).map (·.size) = some C.size := by rw [hlen]; kernel_rfl
        have hs0 : C.size = (byteCells (List.replicate 32 0)).size := by rw [hlen]; rfl
        have hst : RowIs (wr.setCells B 0 C.toList) B 45 C := store_row hO hs0
        have hthere := hO.there 0 C.size (by rw [hs0]; omega)
        have hbel2 := setCells_below B B (Nat.le_refl B) C.toList 0 w wr hb
        have Hlen := Lib.hid hlen
        have Hst := Lib.hid hst
        have Hbel := Lib.hid hbel2
        clear hlen hst hbel2 hs0
        go_wp2_with (first | (refine wpList_load_row rfl 45 _ rfl (B + 1) rfl 45 C (0, 0) _ hV Try.underlying45 rfl hsz ?_) | (refine wpList_store_mid rfl 45 _ _ rfl B 0 C rfl rfl hthere hsz hone ?_))
        refine bodyPost_ret (v := .tuple #[.agg C, .int .i64 0]) (results_cell_tmp (p := 2) (q := 3) (ty := 45) (by rfl) _ _ B 45 C (0, 0) _ (by rfl) Hst.out Try.underlying45 (by rfl) hsz) (by rfl) ?_
        exact ⟨by rw [HC.out], by rw [HB.out]; exact Hbel.out⟩
  · have hH : parseH s = List.replicate 32 0 := by rw [parseH, parseOk]; simp [hs]
    have hE : parseE s = 4 := by rw [parseE, parseOk]; simp [hs]
    have hs' : ¬ ((s.size : Int) = 64) := by omega
    have hO := ((RowIs.new w 45 (byteCells (List.replicate 32 0)))).alloc (.cells (byteCells (List.replicate 32 0)) 45)
    have hB : Below w.heap.size w ((w.alloc (.cells (byteCells (List.replicate 32 0)) 45)).alloc (.cells (byteCells (List.replicate 32 0)) 45)) := ((Below.refl _ _).alloc (Nat.le_refl _) _).alloc (by simp) _
    have hst := store_row hO (D := byteCells (List.replicate 32 0)) rfl
    have hthere := hO.there 0 (byteCells (List.replicate 32 0)).size (Nat.le_refl 32)
    have hbel := setCells_below w.heap.size w.heap.size (Nat.le_refl _) (byteCells (List.replicate 32 0)).toList 0 w _ hB
    obtain ⟨W, hW⟩ : ∃ W, W = ((w.alloc (.cells (byteCells (List.replicate 32 0)) 45)).alloc (.cells (byteCells (List.replicate 32 0)) 45)).setCells w.heap.size 0 (byteCells (List.replicate 32 0)).toList := ⟨_, rfl⟩
    rw [← hW] at hst hbel
    have HW := Lib.hid hW
    have Hst := Lib.hid hst
    have Hbel := Lib.hid hbel
    clear hW
    generalize hG : parseH s = G at *
    generalize parseE s = E at *
    have HH := Lib.hid hH
    clear hO hB hst hbel hH hG
    subst hE
    go_enter Try.func39, Try.ntmps39
    go_wp2_with (refine wpList_store_mid rfl 45 _ _ rfl w.heap.size 0 (byteCells (List.replicate 32 0)) rfl rfl hthere hsz hone ?_; go_must (generalize hWW : World.setCells _ _ _ _ = W2; obtain rfl : W = W2 := (by rw [← hWW]; exact HW.out); clear hWW))
    refine bodyPost_ret (v := .tuple #[.agg (byteCells (List.replicate 32 0)), .int .i64 4]) (results_cell_tmp (p := 2) (q := 3) (ty := 45) (by rfl) _ _ w.heap.size 45 (byteCells (List.replicate 32 0)) (0, 0) _ (by rfl) Hst.out Try.underlying45 (by rfl) hsz) (by rfl) ?_
    exact ⟨by rw [HH.out], Hbel.out⟩

end Go.Proofs.Ytjbnnfdhmpeoeaa
