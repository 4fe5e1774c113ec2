/- node.Taker: take: any other kind; the whole: walked. -/
import Derived.Test.YtgjaoofgmdijdaaGreatDoorTake2
import Derived.Test.YtgjaoofgmdijdaaGreatDoorTake3
import Derived.Test.YtgjaoofgmdijdaaGreatDoorTake4
namespace Go.Proofs.YtgjaoofgmdijdaaGreatDoor
open Go.RowKit

set_option maxRecDepth 100000 in
set_option maxHeartbeats 6400000 in
theorem take_none_calls (b : Nat) (t : TkD) (w : World) (h : TkAt w b t) (hl : t.left.length ≤ 1048576) (hkk : kindT t ≠ 1 ∧ kindT t ≠ 2 ∧ kindT t ≠ 3) :
    Calls Tryz.prog 32 #[.pointer (some ⟨b, 0, none⟩)] w fun e w' => ∃ v, e = .returned v ∧ OwnAt w.heap.size w' v (takeN t) ∧ TkAt w' b (takeX t) ∧ But b w w' := by
  have hkt := numT_lt t 1
  have hn1 := fun w h => tnumber_calls b t 1 w h hl (by omega) (by omega)
  have hn2 := fun w h => tnumber_calls b (tkNext t 1) 1 w h (Nat.le_trans (next_left _ _) hl) (by omega) (by omega)
  rw [show ((1 : Nat) : Int) = 1 from rfl] at hn1 hn2
  have hct := numT_lt (tkNext t 1) 1
  have hbl : (bodyT t).left.length ≤ 1048576 := Nat.le_trans (next_left _ _) (Nat.le_trans (next_left _ _) hl)
  have hbody : tkNext (tkNext t 1) 1 = bodyT t := rfl
  have hkind : numT t 1 = kindT t := rfl
  have hcount : numT (tkNext t 1) 1 = countT t := rfl
  rw [hbody, hcount] at hn2
  rw [hkind] at hn1 hkt
  rw [hcount] at hct
  have hbw := RowIs.lt h
  clear hbody hkind hcount
  generalize hkd : kindT t = kind at *
  generalize hcd : countT t = cnt at *
  generalize hbd : bodyT t = body at *
  generalize tkNext t 1 = t1 at *
  have hTN : takeN t = (if kind = 1 then ⟨1, manyT itemT itemN cnt body, [], []⟩ else if kind = 2 then ⟨2, [], manyT kidT kidN cnt body, []⟩ else if kind = 3 then ⟨3, [], [], manyT volT volN cnt body⟩ else ⟨kind, [], [], []⟩) := by rw [takeN, hkd, hcd, hbd]
  have hTX : takeX t = (if kind = 1 then manyN itemN cnt body else if kind = 2 then manyN kidN cnt body else if kind = 3 then manyN volN cnt body else if cnt = 0 then body else ⟨body.left, true⟩) := by rw [takeX, hkd, hcd, hbd]
  have hwfT := takeN_wf t
  generalize takeN t = NN at *
  generalize takeX t = TX at *
  have HTN := Lib.hid hTN
  have HTX := Lib.hid hTX
  clear hTN hTX hkd hcd hbd
  have HKK := Lib.hid hkk
  clear hkk
  have hk8 : IntKind.u8.wrap (kind : Int) = (kind : Int) := by rw [IntKind.wrap_u8]; omega
  go_enter Tryz.func32, Tryz.ntmps32
  go_wp2_with fail
  obtain ⟨W1, hW1⟩ : ∃ W1, W1 = w.alloc (.cells #[.int .u8 0, .slice none 0 0, .slice none 0 0, .slice none 0 0] 45) := ⟨_, rfl⟩
  rw [← hW1]
  have hP : RowIs W1 w.heap.size 45 #[.int .u8 0, .slice none 0 0, .slice none 0 0, .slice none 0 0] := by rw [hW1]; exact RowIs.new w _ _
  have hT1 : TkAt W1 b t := by rw [hW1]; exact RowIs.alloc h _
  have hb1 : But b w W1 := by rw [hW1]; exact (But.refl b w).alloc _
  have hPb : w.heap.size ≠ b := by omega
  clear hW1 h
  generalize hPP : w.heap.size = PB at *
  go_step3
  go_wp2_with fail
  refine (hn1 W1 hT1).mono ?_
  rintro e w1 ⟨rfl, hT2, hb2⟩
  have hP2 := hP.but hb2 hPb
  have hb3 := hb1.trans hb2
  have hbw1 := RowIs.lt hT2
  clear hP hT1 hb1 hb2 hn1
  go_wp2_with fail
  go_step3
  go_wp2_with fail
  obtain ⟨W2, hW2⟩ : ∃ W2, W2 = w1.alloc (.cells #[.int .u8 (kind : Int), .slice none 0 0, .slice none 0 0, .slice none 0 0] 45) := ⟨_, rfl⟩
  rw [← hW2]
  have hN3 : RowIs W2 w1.heap.size 45 #[.int .u8 (kind : Int), .slice none 0 0, .slice none 0 0, .slice none 0 0] := by rw [hW2]; exact RowIs.new w1 _ _
  have hP3 := hP2.alloc (.cells #[.int .u8 (kind : Int), .slice none 0 0, .slice none 0 0, .slice none 0 0] 45)
  rw [← hW2] at hP3
  have hT3 : TkAt W2 b t1 := by rw [hW2]; exact RowIs.alloc hT2 _
  have hb4 : But b w W2 := by rw [hW2]; exact hb3.alloc _
  have hNP : PB ≠ w1.heap.size := by have := hP2.lt; omega
  have hNb : w1.heap.size ≠ b := by omega
  have hNge : PB ≤ w1.heap.size := Nat.le_of_lt hP2.lt
  clear hW2 hP2 hT2 hb3 hbw1
  generalize w1.heap.size = N at *
  refine (hn2 W2 hT3).mono ?_
  rintro e w3 ⟨rfl, hT4, hbt⟩
  have hN4 := hN3.but hbt hNb
  have hP4 := hP3.but hbt hPb
  have hb5 := hb4.trans hbt
  have hs5 : PB ≤ w3.heap.size := Nat.le_of_lt hP4.lt
  have hBw : w.heap.size ≤ w3.heap.size := hb5.size
  clear hN3 hP3 hT3 hb4 hbt hn2
  have ho0 : ∀ (e : TypeId) (z : Nat), w3.ownsRow PB e z (.slice none 0 0) 0 [] := fun e z => ⟨by simp, .inl ⟨rfl, rfl⟩⟩
  have hk0 : Taking PB b N w3 body kind (.slice none 0 0) (.slice none 0 0) (.slice none 0 0) [] [] [] := ⟨hT4, hN4, ho0 _ _, ho0 _ _, ho0 _ _⟩
  clear hT4 hN4 ho0
  have hcnt64 : (cnt : Int) < 18446744073709551616 := by omega
  have hkk := HKK.out
  clear HKK
  obtain ⟨n1, n2, n3⟩ := hkk
  have hTX := HTX.out
  have hTN := HTN.out
  rw [if_neg n1, if_neg n2, if_neg n3] at hTX hTN
  clear HTX HTN
  have i1 : ¬ (kind : Int) = 1 := by omega
  have i2 : ¬ (kind : Int) = 2 := by omega
  have i3 : ¬ (kind : Int) = 3 := by omega
  clear n1 n2 n3
  have hwfT' := hwfT
  go_wp2_with fail
  go_loopw [10] (fun v wr => v = .int .u64 0 ∧ Taking PB b N wr body kind (.slice none 0 0) (.slice none 0 0) (.slice none 0 0) [] [] [] ∧ But b w wr ∧ RowIs wr PB 45 #[.int .u8 0, .slice none 0 0, .slice none 0 0, .slice none 0 0]) (fun v _ => 0)
  case atStart => exact ⟨rfl, hk0, hb5, hP4⟩
  case round =>
    clear hk0 hb5 hP4
    obtain ⟨rfl, hk0, hb0, hPr⟩ := hrel
    by_cases hc0 : cnt = 0
    · subst hc0
      rw [if_pos rfl] at hTX
      have HN := Lib.hid hTN
      have HX := Lib.hid hTX
      clear hTN hTX
      have hNN : NN = ⟨kind, [], [], []⟩ := HN.out
      have hTT : TX = body := HX.out
      subst hNN
      have hst := store_row hPr (D := #[.int .u8 (kind : Int), .slice none 0 0, .slice none 0 0, .slice none 0 0]) rfl
      have hthere := hPr.there 0 4 (Nat.le_refl 4)
      have hnd := hk0.nd
      have hone : (#[.int .u8 (kind : Int), .slice none 0 0, .slice none 0 0, .slice none 0 0] : Array Value).all (·.oneCell') = true := by simp [Value.oneCell']
      have hsz4 : (Tryz.prog.info? 45).map (·.size) = some (#[.int .u8 (kind : Int), .slice none 0 0, .slice none 0 0, .slice none 0 0] : Array Value).size := by kernel_rfl
      have hbz := hb0.thenBelow (v := wr.setCells PB 0 (#[.int .u8 (kind : Int), .slice none 0 0, .slice none 0 0, .slice none 0 0] : Array Value).toList) (by rw [hPP]; exact setCells_below PB PB (Nat.le_refl _) _ 0 _ _ (Below.refl PB wr))
      have hkz := (hk0.own hwfT).store hPr (#[.int .u8 (kind : Int), .slice none 0 0, .slice none 0 0, .slice none 0 0] : Array Value).toList 0
      have hTz : TkAt (wr.setCells PB 0 (#[.int .u8 (kind : Int), .slice none 0 0, .slice none 0 0, .slice none 0 0] : Array Value).toList) b TX := by rw [hTT]; exact (setCells_other PB b (fun q => hPb q.symm) _ 0 wr).trans hk0.tk
      have HZ := Lib.hid (And.intro hst (And.intro hbz (And.intro hkz hTz)))
      clear hst hbz hkz hTz
      go_wp2_with (first | (refine wpList_load_row rfl 45 _ rfl N rfl 45 #[.int .u8 (kind : Int), .slice none 0 0, .slice none 0 0, .slice none 0 0] (0, 0) _ hnd Tryz.underlying45 rfl hsz4 ?_) | (refine wpList_store_mid rfl 45 _ _ rfl PB 0 #[.int .u8 (kind : Int), .slice none 0 0, .slice none 0 0, .slice none 0 0] rfl rfl hthere hsz4 hone ?_))
      try rw [Exit.noGoto_ret]
      refine bodyPost_ret (v := .agg #[.int .u8 (kind : Int), .slice none 0 0, .slice none 0 0, .slice none 0 0]) (results_cell_row (p := 2) (ty := 45) (by rfl) _ _ PB 45 #[.int .u8 (kind : Int), .slice none 0 0, .slice none 0 0, .slice none 0 0] (0, 0) _ (by rfl) HZ.out.1 Tryz.underlying45 (by rfl) hsz4) (by rfl) ?_
      exact ⟨_, rfl, by rw [hPP]; exact HZ.out.2.2.1, HZ.out.2.2.2, HZ.out.2.1⟩
    · have hltc : (0 : Int) < (cnt : Int) := by omega
      rw [if_neg hc0] at hTX
      have d0 : wr.cell? ⟨N, 0, none⟩ = some (.int .u8 (kind : Int)) := by rw [hk0.nd.cell]; rfl
      have f1 : wr.frozen? ⟨b, 1, none⟩ = false := RowIs.free hk0.tk 1
      have c1 : wr.cell? ⟨b, 1, none⟩ = some (.bool body.bad) := by rw [RowIs.cell hk0.tk 1]; rfl
      have hTs : TkAt (wr.setCell ⟨b, 1, none⟩ (.bool true)) b ⟨body.left, true⟩ := RowIs.set hk0.tk 1 (.bool true)
      have hbs := (But.refl b wr).setCell 1 (.bool true)
      obtain ⟨W, hW⟩ : ∃ W, W = wr.setCell ⟨b, 1, none⟩ (.bool true) := ⟨_, rfl⟩
      rw [← hW] at hTs hbs
      have hkW := hk0.but hbs hTs hNb
      have hbW := hb0.trans hbs
      have hPW := hPr.but hbs hPb
      have cW : W.cell? ⟨b, 1, none⟩ = some (.bool true) := by rw [RowIs.cell hTs 1]; rfl
      have HW := Lib.hid hW
      clear hW hTs hbs hk0 hb0 hPr hkt hct hk8 hcnt64
      have HN := Lib.hid hTN
      have HX := Lib.hid hTX
      clear hTN hTX
      have hNN : NN = ⟨kind, [], [], []⟩ := HN.out
      have hTT : TX = (⟨body.left, true⟩ : TkD) := HX.out
      subst hNN
      have hst := store_row hPW (D := #[.int .u8 (kind : Int), .slice none 0 0, .slice none 0 0, .slice none 0 0]) rfl
      have hthere := hPW.there 0 4 (Nat.le_refl 4)
      have hnd := hkW.nd
      have hone : (#[.int .u8 (kind : Int), .slice none 0 0, .slice none 0 0, .slice none 0 0] : Array Value).all (·.oneCell') = true := by simp [Value.oneCell']
      have hsz4 : (Tryz.prog.info? 45).map (·.size) = some (#[.int .u8 (kind : Int), .slice none 0 0, .slice none 0 0, .slice none 0 0] : Array Value).size := by kernel_rfl
      have hbz := hbW.thenBelow (v := W.setCells PB 0 (#[.int .u8 (kind : Int), .slice none 0 0, .slice none 0 0, .slice none 0 0] : Array Value).toList) (by rw [hPP]; exact setCells_below PB PB (Nat.le_refl _) _ 0 _ _ (Below.refl PB W))
      have hkz := (hkW.own hwfT).store hPW (#[.int .u8 (kind : Int), .slice none 0 0, .slice none 0 0, .slice none 0 0] : Array Value).toList 0
      have hTz : TkAt (W.setCells PB 0 (#[.int .u8 (kind : Int), .slice none 0 0, .slice none 0 0, .slice none 0 0] : Array Value).toList) b TX := by rw [hTT]; exact (setCells_other PB b (fun q => hPb q.symm) _ 0 W).trans hkW.tk
      have HZ := Lib.hid (And.intro hst (And.intro hbz (And.intro hkz hTz)))
      clear hst hbz hkz hTz
      go_wp2_with (first | (refine wpList_world HW.out ?_) | (refine wpList_load_row rfl 45 _ rfl N rfl 45 #[.int .u8 (kind : Int), .slice none 0 0, .slice none 0 0, .slice none 0 0] (0, 0) _ hnd Tryz.underlying45 rfl hsz4 ?_) | (refine wpList_store_mid rfl 45 _ _ rfl PB 0 #[.int .u8 (kind : Int), .slice none 0 0, .slice none 0 0, .slice none 0 0] rfl rfl hthere hsz4 hone ?_))
      try rw [Exit.noGoto_ret]
      refine bodyPost_ret (v := .agg #[.int .u8 (kind : Int), .slice none 0 0, .slice none 0 0, .slice none 0 0]) (results_cell_row (p := 2) (ty := 45) (by rfl) _ _ PB 45 #[.int .u8 (kind : Int), .slice none 0 0, .slice none 0 0, .slice none 0 0] (0, 0) _ (by rfl) HZ.out.1 Tryz.underlying45 (by rfl) hsz4) (by rfl) ?_
      exact ⟨_, rfl, by rw [hPP]; exact HZ.out.2.2.1, HZ.out.2.2.2, HZ.out.2.1⟩

/-- What take takes. -/
theorem take_node_calls (b : Nat) (t : TkD) (w : World) (h : TkAt w b t) (hl : t.left.length ≤ 1048576) :
    Calls Tryz.prog 32 #[.pointer (some ⟨b, 0, none⟩)] w fun e w' => ∃ v, e = .returned v ∧ OwnAt w.heap.size w' v (takeN t) ∧ TkAt w' b (takeX t) ∧ But b w w' := by
  by_cases h1 : kindT t = 1
  · exact take_items_calls b t w h hl h1
  · by_cases h2 : kindT t = 2
    · exact take_kids_calls b t w h hl h2
    · by_cases h3 : kindT t = 3
      · exact take_vols_calls b t w h hl h3
      · exact take_none_calls b t w h hl ⟨h1, h2, h3⟩

end Go.Proofs.YtgjaoofgmdijdaaGreatDoor
