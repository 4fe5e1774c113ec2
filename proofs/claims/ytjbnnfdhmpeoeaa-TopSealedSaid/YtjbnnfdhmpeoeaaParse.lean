/- hash.Parse and the document's, walked. -/
import Derived.Test.YtjbnnfdhmpeoeaaOnce2
import Derived.Test.YtjbnnfdhmpeoeaaShaLaws
import Derived.Test.YtjbnnfdhmpeoeaaParsePure
import Derived.BigQuiet
namespace Go.Proofs.Ytjbnnfdhmpeoeaa
open Go.RowKit

/-- What value says of a digit. -/
def valV (c : UInt8) : Int := if isDig c then (digV c : Int) else 255
theorem val_sub (c : UInt8) : ∃ x : UInt8, digTab[c.toNat]? = some x ∧ (((x.toNat : Int) - 1) % 256 = valV c) ∧ (decide (0 < x.toNat) = isDig c) := by
  unfold valV
  have ht := tab_get c
  cases hd : isDig c with
  | true =>
    have hv := digV_lt c hd
    rw [hd, if_pos rfl] at ht
    refine ⟨_, ht, ?_, ?_⟩
    · rw [if_pos rfl, UInt8.toNat_ofNat']; omega
    · rw [UInt8.toNat_ofNat']; simp; omega
  | false =>
    rw [hd, if_neg (by simp)] at ht
    exact ⟨_, ht, by simp, by simp⟩

set_option maxRecDepth 100000 in
set_option maxHeartbeats 1600000 in
theorem value_calls (b : Nat) (d : Int) (tab : List UInt8) (c : UInt8) (w : World) (hbw : b < w.heap.size) (h : RowIs w b 93 (valCells d 0 tab)) (hd : (d = 0 ∧ tab = tabTo 0) ∨ (d = 1 ∧ tab = digTab)) :
    Calls Try.prog 50 #[.pointer (some ⟨b, 0, none⟩), .int .u8 (c.toNat : Int)] w fun e w' => e = .returned (.tuple #[.int .u8 (valV c), .bool (isDig c)]) ∧ RowIs w' b 93 (valCells 1 0 digTab) ∧ But b w w' := by
  have hmf : ∀ (fn : Fn) (first cap : Array Value) (w : World), (Instr.makeFunc fn first cap).run Try.prog w = .ok (.func fn first cap) w := fun _ _ _ _ => rfl
  have hp1 : RowIs (w.alloc (.cells #[.pointer (some ⟨b, 0, none⟩)] 104)) w.heap.size 104 #[.pointer (some ⟨b, 0, none⟩)] := RowIs.new w _ _
  have h1 := h.alloc (.cells #[.pointer (some ⟨b, 0, none⟩)] 104)
  have hb1 : But b w (w.alloc (.cells #[.pointer (some ⟨b, 0, none⟩)] 104)) := (But.refl b w).alloc _
  have hdo := do_calls b w.heap.size d tab _ (by omega) hp1 h1 hd
  have hpc : (w.alloc (.cells #[.pointer (some ⟨b, 0, none⟩)] 104)).cell? ⟨w.heap.size, 0, none⟩ = some (.pointer (some ⟨b, 0, none⟩)) := by rw [hp1.cell]; rfl
  obtain ⟨x, hx, hs, hg⟩ := val_sub c
  have hpb : w.heap.size ≠ b := by omega
  have hrow2 : ∀ w, RowIs w b 93 (valCells 1 0 digTab) → w.cell? ⟨b, 3 + c.toNat, none⟩ = some (.int .u8 (x.toNat : Int)) := fun w2 h2 => by
    have hj : c.toNat < digTab.length := by rw [digTab, tabTo_length]; exact c.toNat_lt
    rw [val_ct h2 c.toNat hj]
    rw [List.getElem?_eq_getElem hj] at hx
    rw [Option.some_inj.1 hx]
  generalize valCells 1 0 digTab = VC at *
  clear hx
  clear h h1 hd
  generalize valV c = V at *
  generalize isDig c = I at *
  go_enter Try.func50, Try.ntmps50
  go_wp2_with fail
  generalize w.alloc (.cells #[.pointer (some ⟨b, 0, none⟩)] 104) = w1 at *
  generalize w.heap.size = p at *
  refine hdo.mono ?_
  rintro e w2 ⟨rfl, h2, hb2⟩
  have hp2 := hp1.but hb2 hpb
  have hpc2 : w2.cell? ⟨p, 0, none⟩ = some (.pointer (some ⟨b, 0, none⟩)) := by rw [hp2.cell]; rfl
  have hct := hrow2 w2 h2
  have hb2' := hb1.trans hb2
  have H2 := Lib.hid h2
  have HB2 := Lib.hid hb2'
  have hcl := c.toNat_lt
  clear h2 hb1 hb2 hb2' hp1 hp2 hdo hpc hrow2
  have hci : (c.toNat : Int) < 256 := by omega
  go_wp2_with fail
  go_quiet (fail)
  go_wp2_with fail
  go_ret2
  exact ⟨by rw [← hg, ← hs]; rfl, H2.out, HB2.out.trans ⟨rfl, rfl, rfl, Nat.le_refl _, fun _ _ _ => rfl⟩⟩

theorem or8 (x n : Nat) (hn : n < 16) : bits .or .u8 ((x : Int) * 16 % 256) (n : Int) = ((UInt8.ofNat (x * 16 % 256 ||| n)).toNat : Int) := by
  have h := Nat.or_lt_two_pow (show x * 16 % 256 < 2 ^ 8 by omega) (show n < 2 ^ 8 by omega)
  have e1 : (x : Int) * 16 % 256 = ((x * 16 % 256 : Nat) : Int) := by omega
  rw [e1, (bits_nat .u8 8 (by decide) (fun n h0 h1 => by rw [IntKind.wrap_u8]; omega) (x * 16 % 256) n (by omega) (by omega)).2, UInt8.toNat_ofNat', Nat.mod_eq_of_lt h]

theorem results_cell_tmp {P : Program} {fn : Func} {p q : Tmp} {ty : TypeId} (h : fn.results = #[.cell p ty, .tmp q]) (tmps : Array Value) (w : World) (g : Nat) (t : TypeId) (cs : Array Value) (fr : Nat × Nat) (d : TypeDesc)
    (hp : tmps.getD p undef = .pointer (some ⟨g, 0, none⟩)) (hg : w.heap[g]? = some (.cells cs t fr))
    (hu : P.underlying ty = some d) (hd : (match d with | .struct _ | .array _ _ => true | _ => false) = true) (hi : (P.info? ty).map (·.size) = some cs.size) :
    (results fn tmps).run P w = .ok (.tuple #[.agg cs, tmps.getD q undef]) w := by
  have hp' : tmps[p]?.getD undef = .pointer (some ⟨g, 0, none⟩) := by simpa using hp
  simp [results, h, hp', asAddr, run_loadVar_row w g t ty cs fr d hg hu hd hi]

theorem zero_row (w : World) : ∃ W, W = w.alloc (.cells (byteCells (List.replicate 32 0)) 45) ∧ RowIs W w.heap.size 45 (byteCells (List.replicate 32 0)) ∧ Below w.heap.size w W ∧ W.heap.size = w.heap.size + 1 :=
  ⟨_, rfl, RowIs.new w _ _, (Below.refl _ _).alloc (Nat.le_refl _) _, by simp⟩

set_option maxRecDepth 100000 in
set_option maxHeartbeats 3200000 in
theorem parse_calls (s : ByteArray) (w : World) :
    Calls Try.prog 36 #[.string s] w fun e w' => e = .returned (.tuple #[.agg (byteCells (parseH s)), .int .i64 (parseE s)]) ∧ Below w.heap.size w w' := by
  by_cases hs : s.size = 64
  · have hfin : (∀ j, j < 64 → isDig (s.data.toList.getD j 0) = true) → parseH s = rowTo s.data.toList 64 ∧ parseE s = 0 := parse_fin s hs
    have hbad : ∀ t, t < 64 → isDig (s.data.toList.getD t 0) = false → parseH s = List.replicate 32 0 ∧ parseE s = 4 := fun t ht hd => parse_bad s hs t ht hd
    generalize parseH s = H at *
    generalize parseE s = E at *
    have hD : ∀ t (h : t < s.size), s[t] = s.data.toList.getD t 0 := fun t h => by
      rw [data_getElem s t (by rw [size_data]; exact h)]; rfl
    have hl : s.data.toList.length = 64 := by rw [size_data, hs]
    generalize s.data.toList = l at *
    have Hfin := Lib.hid hfin
    have Hbad := Lib.hid hbad
    clear hfin hbad
    go_enter Try.func36, Try.ntmps36
    go_wp2_with fail
    obtain ⟨W1, hW1, hO, hV, hB1, hz1⟩ := two_rows w (byteCells (rowTo l 0)) (valCells 0 0 (tabTo 0)) 45 93
    change Code.wp _ _ _ _ ((w.alloc (.cells (byteCells (rowTo l 0)) 45)).alloc (.cells (valCells 0 0 (tabTo 0)) 93))
    rw [← hW1]
    clear hW1
    generalize hB : w.heap.size = B at *
    have HB := Lib.hid hB
    clear hB
    go_loopw [14] (fun v wr => ∃ t : Nat, t ≤ 64 ∧ v = .int .i64 t ∧ RowIs wr B 45 (byteCells (rowTo l t)) ∧ (∃ d tab, RowIs wr (B + 1) 93 (valCells d 0 tab) ∧ ((d = 0 ∧ tab = tabTo 0) ∨ (d = 1 ∧ tab = digTab))) ∧ Below B w wr ∧ ∀ j, j < t → isDig (l.getD j 0) = true) (fun v _ => 64 - (intOf v).toNat)
    case atStart => exact ⟨0, by omega, rfl, hO, ⟨0, _, hV, Or.inl ⟨rfl, rfl⟩⟩, hB1, fun j hj => absurd hj (by omega)⟩
    case round =>
      clear hO hV hB1 hz1
      obtain ⟨t, ht, rfl, hO, ⟨d, tab, hV, hdt⟩, hb, hdig⟩ := hrel
      by_cases hlt : t < 64
      · have hts : (t : Int) < (s.size : Int) := by omega
        have hval := fun c => value_calls (B + 1) d tab c wr hV.lt hV hdt
        have hD2 := hD t (by omega)
        have HO := Lib.hid hO
        have Hdig := Lib.hid hdig
        have Hb := Lib.hid hb
        have HD := Lib.hid hD
        clear hO hdt hdig hb hD hV
        have hcd : l.getD t 0 = l[t] := by rw [List.getD_eq_getElem?_getD, List.getElem?_eq_getElem (by omega)]; rfl
        have hrl := rowTo_length l t
        obtain ⟨x, hx⟩ : ∃ x, x = (rowTo l t).getD (t / 2) 0 := ⟨_, rfl⟩
        have hrow : rowTo l (t + 1) = (rowTo l t).set (t / 2) (UInt8.ofNat (x.toNat * 16 % 256 ||| digV (l.getD t 0))) := by rw [hx]; rfl
        have hcO : wr.cell? ⟨B, t / 2, none⟩ = some (.int .u8 (x.toNat : Int)) := by
          rw [HO.out.byte (t / 2) (by omega), hx, List.getD_eq_getElem?_getD, List.getElem?_eq_getElem (by omega)]; rfl
        have hfO := HO.out.free (t / 2)
        have hBr := HO.out.lt
        go_wp2_with fail
        generalize l[t] = c at *
        have hcc : ∀ c', c' = c → l.getD t 0 = c' := fun c' h => by rw [h]; exact hcd
        refine (hval c).mono ?_
        rintro e w2 ⟨rfl, hV2, hb2⟩
        have hO2 := HO.out.but hb2 (by omega)
        have hcO2 : w2.cell? ⟨B, t / 2, none⟩ = some (.int .u8 (x.toNat : Int)) := by
          rw [hO2.byte (t / 2) (by omega), hx, List.getD_eq_getElem?_getD, List.getElem?_eq_getElem (by omega)]; rfl
        have hfO2 := hO2.free (t / 2)
        have hbel2 : Below B w w2 := Hb.out.trans (hb2.below (by omega) (by omega))
        have HO2 := Lib.hid hO2
        have HV2 := Lib.hid hV2
        have HB2 := Lib.hid hbel2
        clear hO2 hV2 hbel2 hb2 hval hcO hfO HO Hb HD
        cases hdg : isDig c with
        | false =>
          have hH := Hbad.out t hlt (by rw [hcd]; exact hdg)
          have hst : RowIs (w2.setCells B 0 (byteCells (List.replicate 32 0)).toList) B 45 (byteCells (List.replicate 32 0)) := store_row HO2.out (by rw [byteCells_size, byteCells_size, hrl]; rfl)
          have hthere := HO2.out.there 0 (byteCells (List.replicate 32 0)).size (by rw [byteCells_size, byteCells_size, hrl]; exact Nat.le_refl 32)
          have hbel2 := setCells_below B B (Nat.le_refl B) (byteCells (List.replicate 32 0)).toList 0 w w2 HB2.out
          have hsz : (Try.prog.info? 45).map (·.size) = some (byteCells (List.replicate 32 0)).size := by kernel_rfl
          have hone := byteCells_one (List.replicate 32 0)
          have Hst := Lib.hid hst
          have Hbel := Lib.hid hbel2
          have HH := Lib.hid hH
          clear hst hbel2 hH hrow hx hcd hcc hD2 hdg hcO2 hfO2
          go_wp2_with (refine wpList_store_mid rfl 45 _ _ rfl B 0 (byteCells (List.replicate 32 0)) rfl rfl hthere hsz hone ?_; go_must (generalize w2.setCells B 0 (byteCells (List.replicate 32 0)).toList = W2 at *))
          refine bodyPost_ret (v := .tuple #[.agg (byteCells (List.replicate 32 0)), .int .i64 4]) (results_cell_tmp (p := 2) (q := 3) (ty := 45) (by rfl) _ _ B 45 (byteCells (List.replicate 32 0)) (0, 0) _ (by rfl) Hst.out Try.underlying45 (by rfl) hsz) (by rfl) ?_
          exact ⟨by rw [HH.out.1, HH.out.2], by rw [HB.out]; exact Hbel.out⟩
        | true =>
          have hv : valV c = (digV c : Int) := by rw [valV, hdg]; rfl
          have hvl := digV_lt c hdg
          have q0 : 0 ≤ (t : Int) / 2 := by omega
          have q1 : (t : Int) / 2 < 32 := by omega
          have qn : ((t : Int) / 2).toNat = t / 2 := by omega
          have Hrow := Lib.hid hrow
          have Hx := Lib.hid hx
          have Hcd := Lib.hid hcd
          have Hdg := Lib.hid hdg
          clear hrow hx hcd hcc hD2 hdg
          rw [hv]
          generalize hn : digV c = n at *
          have Hn := Lib.hid hn
          clear hn
          clear hv
          go_wp2_with fail
          have hor := or8 x.toNat n hvl
          have hrel1 : RowIs (w2.setCell ⟨B, t / 2, none⟩ (.int .u8 (bits .or .u8 ((x.toNat : Int) * 16 % 256) (n : Int)))) B 45 (byteCells (rowTo l (t + 1))) := by
            rw [Hrow.out, Hcd.out, Hn.out]
            exact HO2.out.setByte (t / 2) _ _ hor
          have hrel2 := HV2.out.other ⟨B, t / 2, none⟩ (.int .u8 (bits .or .u8 ((x.toNat : Int) * 16 % 256) (n : Int))) (by show B + 1 ≠ B; omega)
          have hrel3 := HB2.out.setCell (p := ⟨B, t / 2, none⟩) (Nat.le_refl B) (.int .u8 (bits .or .u8 ((x.toNat : Int) * 16 % 256) (n : Int)))
          generalize w2.setCell ⟨B, t / 2, none⟩ (.int .u8 (bits .or .u8 ((x.toNat : Int) * 16 % 256) (n : Int))) = w3 at *
          go_roundw
          case rel =>
            refine ⟨t + 1, by omega, by go_num, hrel1, ⟨1, _, hrel2, Or.inr ⟨rfl, rfl⟩⟩, hrel3, fun j hj => ?_⟩
            by_cases e : j = t
            · rw [e, Hcd.out]; exact Hdg.out
            · exact Hdig.out j (by omega)
          case measure => simp [intOf]; omega
      · have ht64 : t = 64 := by omega
        subst ht64
        have hH := Hfin.out hdig
        rw [← hH.1] at hO
        have hlen : (byteCells H).size = 32 := by rw [hH.1, byteCells_size, rowTo_length]
        have hone := byteCells_one H
        have hE0 := hH.2
        clear hH Hfin Hbad hdig hV hdt
        subst hE0
        generalize hC : byteCells H = C at *
        have HC := Lib.hid hC
        clear hC
        have hsz : (Try.prog.info? 45).map (·.size) = some C.size := by rw [hlen]; kernel_rfl
        have hst : RowIs (wr.setCells B 0 C.toList) B 45 C := store_row hO rfl
        have hthere := hO.there 0 C.size (by omega)
        have hbel2 := setCells_below B B (Nat.le_refl B) C.toList 0 w wr hb
        have Hlen := Lib.hid hlen
        have Hst := Lib.hid hst
        have Hbel := Lib.hid hbel2
        clear hlen hst hbel2
        go_wp2_with (first | (refine wpList_load_row rfl 45 _ rfl B rfl 45 C (0, 0) _ hO Try.underlying45 rfl hsz ?_) | (refine wpList_store_mid rfl 45 _ _ rfl B 0 C rfl rfl hthere hsz hone ?_))
        refine bodyPost_ret (v := .tuple #[.agg C, .int .i64 0]) (results_cell_tmp (p := 2) (q := 3) (ty := 45) (by rfl) _ _ B 45 C (0, 0) _ (by rfl) Hst.out Try.underlying45 (by rfl) hsz) (by rfl) ?_
        exact ⟨by rw [HC.out], by rw [HB.out]; exact Hbel.out⟩
  · have hH : parseH s = List.replicate 32 0 := by rw [parseH, parseOk]; simp [hs]
    have hE : parseE s = 4 := by rw [parseE, parseOk]; simp [hs]
    rw [hH, hE]
    have hs' : ¬ ((s.size : Int) = 64) := by omega
    obtain ⟨W, hW, hR, hbW⟩ := fresh_row w (byteCells (List.replicate 32 0)) (byteCells (List.replicate 32 0)) 45 rfl
    have hthere := (RowIs.new w 45 (byteCells (List.replicate 32 0))).there 0 (byteCells (List.replicate 32 0)).size (Nat.le_refl 32)
    have hsz : (Try.prog.info? 45).map (·.size) = some (byteCells (List.replicate 32 0)).size := by kernel_rfl
    have hone := byteCells_one (List.replicate 32 0)
    have HW := Lib.hid hW
    have HR := Lib.hid hR
    have HbW := Lib.hid hbW
    clear hW hR hbW hH hE
    obtain ⟨Z, hZ⟩ : ∃ Z, Z = byteCells (List.replicate 32 0) := ⟨_, rfl⟩
    have HZ := Lib.hid hZ
    rw [← hZ]
    clear hZ
    go_enter Try.func36, Try.ntmps36
    go_wp2_with (refine wpList_store_mid rfl 45 _ _ rfl w.heap.size 0 (byteCells (List.replicate 32 0)) rfl rfl hthere hsz hone ?_; go_must (generalize hWW : World.setCells _ _ _ _ = W2; obtain rfl : W = W2 := (by rw [← hWW]; exact HW.out); clear hWW))
    refine bodyPost_ret (v := .tuple #[.agg (byteCells (List.replicate 32 0)), .int .i64 4]) (results_cell_tmp (p := 2) (q := 3) (ty := 45) (by rfl) _ _ w.heap.size 45 (byteCells (List.replicate 32 0)) (0, 0) _ (by rfl) HR.out Try.underlying45 (by rfl) hsz) (by rfl) ?_
    exact ⟨by rw [HZ.out], HbW.out⟩

end Go.Proofs.Ytjbnnfdhmpeoeaa
