/- node.Taker: take: items: walked. -/
/- node.Taker: take: kids: walked. -/
/- node.Taker: take: vols: walked. -/
/- node.Taker: take: any other kind; the whole: walked. -/
import Derived.Test.YtimkklaidodkdaaGreatDoorTake1
import Derived.Test.YtimkklaidodkdaaGreatDoorLit
import Derived.WalkMore
namespace Go.Proofs.YtimkklaidodkdaaGreatDoor
open Go.RowKit

set_option maxRecDepth 20000 in
set_option maxHeartbeats 6400000 in
theorem take_items_calls (b : Nat) (t : TkD) (w : World) (h : TkAt w b t) (hl : t.left.length ≤ 1048576) (hkk : kindT t = 1) :
  Calls Tryz.prog 106 #[.pointer (some ⟨b, 0, none⟩)] w fun e w' => ∃ v, e = .returned v ∧ OwnAt w.heap.size w' v (takeN t) ∧ TkAt w' b (takeX t) ∧ But b w w' := by
 obtain ⟨iI0, hI, hIz0, hIz1, hIz2⟩ := info_parts info_item
 have hkt := numT_lt t 1
 have hn1 := fun w h => tnumber_calls b t 1 w h hl (by omega) (by omega)
 have hn2 := fun w h => tnumber_calls b (tkNext t 1) 1 w h (Nat.le_trans (next_left _ _) hl) (by omega) (by omega)
 rw [show ((1 : Nat) : Int) = 1 from rfl] at hn1 hn2
 have hct := numT_lt (tkNext t 1) 1
 have hbl : (bodyT t).left.length ≤ 1048576 := Nat.le_trans (next_left _ _) (Nat.le_trans (next_left _ _) hl)
 have hbody : tkNext (tkNext t 1) 1 = bodyT t := rfl
 have hkind : numT t 1 = kindT t := rfl
 have hcount : numT (tkNext t 1) 1 = countT t := rfl
 rw [hbody, hcount] at hn2
 rw [hkind] at hn1 hkt
 rw [hcount] at hct
 have hbw := RowIs.lt h
 clear hbody hkind hcount
 generalize hkd : kindT t = kind at *
 generalize hcd : countT t = cnt at *
 generalize hbd : bodyT t = body at *
 generalize tkNext t 1 = t1 at *
 have hTN : takeN t = (if kind = 1 then ⟨1, manyT itemT itemN cnt body, [], []⟩ else if kind = 2 then ⟨2, [], manyT kidT kidN cnt body, []⟩ else if kind = 3 then ⟨3, [], [], manyT volT volN cnt body⟩ else ⟨kind, [], [], []⟩) := by rw [takeN, hkd, hcd, hbd]
 have hTX : takeX t = (if kind = 1 then manyN itemN cnt body else if kind = 2 then manyN kidN cnt body else if kind = 3 then manyN volN cnt body else if cnt = 0 then body else ⟨body.left, true⟩) := by rw [takeX, hkd, hcd, hbd]
 have hwfT := takeN_wf t
 generalize takeN t = NN at *
 generalize takeX t = TX at *
 have HTN := Lib.hid hTN
 have HTX := Lib.hid hTX
 clear hTN hTX hkd hcd hbd
 have HKK := Lib.hid hkk
 clear hkk
 have hk8 : IntKind.u8.wrap (kind : Int) = (kind : Int) := by rw [IntKind.wrap_u8]; omega
 go_enter Tryz.func106, Tryz.ntmps106
 go_wp2_with fail
 obtain ⟨W1, hW1⟩ : ∃ W1, W1 = w.alloc (.cells #[.int .u8 0, .slice none 0 0, .slice none 0 0, .slice none 0 0] 28) := ⟨_, rfl⟩
 rw [← hW1]
 have hP : RowIs W1 w.heap.size 28 #[.int .u8 0, .slice none 0 0, .slice none 0 0, .slice none 0 0] := by rw [hW1]; exact RowIs.new w _ _
 have hT1 : TkAt W1 b t := by rw [hW1]; exact RowIs.alloc h _
 have hb1 : But b w W1 := by rw [hW1]; exact (But.refl b w).alloc _
 have hPb : w.heap.size ≠ b := by omega
 clear hW1 h
 generalize hPP : w.heap.size = PB at *
 go_step3
 go_wp2_with fail
 refine (hn1 W1 hT1).mono ?_
 rintro e w1 ⟨rfl, hT2, hb2⟩
 have hP2 := hP.but hb2 hPb
 have hb3 := hb1.trans hb2
 have hbw1 := RowIs.lt hT2
 clear hP hT1 hb1 hb2 hn1
 go_wp2_with fail
 go_step3
 go_wp2_with fail
 obtain ⟨W2, hW2⟩ : ∃ W2, W2 = w1.alloc (.cells #[.int .u8 (kind : Int), .slice none 0 0, .slice none 0 0, .slice none 0 0] 28) := ⟨_, rfl⟩
 rw [← hW2]
 have hN3 : RowIs W2 w1.heap.size 28 #[.int .u8 (kind : Int), .slice none 0 0, .slice none 0 0, .slice none 0 0] := by rw [hW2]; exact RowIs.new w1 _ _
 have hP3 := hP2.alloc (.cells #[.int .u8 (kind : Int), .slice none 0 0, .slice none 0 0, .slice none 0 0] 28)
 rw [← hW2] at hP3
 have hT3 : TkAt W2 b t1 := by rw [hW2]; exact RowIs.alloc hT2 _
 have hb4 : But b w W2 := by rw [hW2]; exact hb3.alloc _
 have hNP : PB ≠ w1.heap.size := by have := hP2.lt; omega
 have hNb : w1.heap.size ≠ b := by omega
 have hNge : PB ≤ w1.heap.size := Nat.le_of_lt hP2.lt
 clear hW2 hP2 hT2 hb3 hbw1
 generalize w1.heap.size = N at *
 refine (hn2 W2 hT3).mono ?_
 rintro e w3 ⟨rfl, hT4, hbt⟩
 have hN4 := hN3.but hbt hNb
 have hP4 := hP3.but hbt hPb
 have hb5 := hb4.trans hbt
 have hs5 : PB ≤ w3.heap.size := Nat.le_of_lt hP4.lt
 have hBw : w.heap.size ≤ w3.heap.size := hb5.size
 clear hN3 hP3 hT3 hb4 hbt hn2
 have ho0 : ∀ (e : TypeId) (z : Nat), w3.ownsRow PB e z (.slice none 0 0) 0 [] := fun e z => ⟨by simp, .inl ⟨rfl, rfl⟩⟩
 have hk0 : Taking PB b N w3 body kind (.slice none 0 0) (.slice none 0 0) (.slice none 0 0) [] [] [] := ⟨hT4, hN4, ho0 _ _, ho0 _ _, ho0 _ _⟩
 clear hT4 hN4 ho0
 have hcnt64 : (cnt : Int) < 18446744073709551616 := by omega
 have hkk := HKK.out
 clear HKK
 subst hkk
 have hTX := HTX.out
 have hTN := HTN.out
 rw [if_pos rfl] at hTX hTN
 clear HTX HTN
 go_wp2_with fail
 go_loopw [10] (fun v wr => ∃ c acc tt vi, c ≤ cnt ∧ v = .int .u64 ((cnt - c : Nat) : Int) ∧ Taking PB b N wr tt 1 vi (.slice none 0 0) (.slice none 0 0) acc [] [] ∧ acc ++ manyT itemT itemN c tt = manyT itemT itemN cnt body ∧ manyN itemN c tt = manyN itemN cnt body ∧ tt.left.length ≤ 1048576 ∧ acc.length + c = cnt ∧
  But b w wr ∧ RowIs wr PB 28 #[.int .u8 0, .slice none 0 0, .slice none 0 0, .slice none 0 0]) (fun v _ => cnt - (intOf v).toNat)
 case atStart => exact ⟨cnt, [], body, _, Nat.le_refl _, by simp, hk0, by simp, rfl, hbl, by simp, hb5, hP4⟩
 case round =>
  clear hk0 hb5 hP4
  obtain ⟨c, acc, tt, vi, hc, rfl, hk0, hacc, hmany, hl1, hal, hb0, hPr⟩ := hrel
  by_cases hc0 : c = 0
  ·subst hc0
   have HN := Lib.hid (show NN = ⟨1, acc, [], []⟩ by rw [hTN, ← hacc, manyT, List.append_nil])
   have HX := Lib.hid (show TX = tt by rw [hTX, ← hmany, manyN])
   clear hacc hmany hTN hTX
   obtain ⟨p3, c3, rfl⟩ : ∃ p c, vi = .slice p acc.length c := own_shape hk0.oi
   have hNN : NN = ⟨1, acc, [], []⟩ := HN.out
   have hTT : TX = tt := HX.out
   subst hNN
   have hst := store_row hPr (D := #[.int .u8 1, .slice p3 acc.length c3, .slice none 0 0, .slice none 0 0]) rfl
   have hthere := hPr.there 0 4 (Nat.le_refl 4)
   have hnd := hk0.nd
   have hone : (#[.int .u8 1, .slice p3 acc.length c3, .slice none 0 0, .slice none 0 0] : Array Value).all (·.oneCell') = true := by simp [Value.oneCell']
   have hsz4 : (Tryz.prog.info? 28).map (·.size) = some (#[.int .u8 1, .slice p3 acc.length c3, .slice none 0 0, .slice none 0 0] : Array Value).size := by kernel_rfl
   have hbz := hb0.thenBelow (v := wr.setCells PB 0 (#[.int .u8 1, .slice p3 acc.length c3, .slice none 0 0, .slice none 0 0] : Array Value).toList) (by rw [hPP]; exact setCells_below PB PB (Nat.le_refl _) _ 0 _ _ (Below.refl PB wr))
   have hkz := (hk0.own hwfT).store hPr (#[.int .u8 1, .slice p3 acc.length c3, .slice none 0 0, .slice none 0 0] : Array Value).toList 0
   have hTz : TkAt (wr.setCells PB 0 (#[.int .u8 1, .slice p3 acc.length c3, .slice none 0 0, .slice none 0 0] : Array Value).toList) b TX := by rw [hTT]; exact (setCells_other PB b (fun q => hPb q.symm) _ 0 wr).trans hk0.tk
   have HZ := Lib.hid (And.intro hst (And.intro hbz (And.intro hkz hTz)))
   clear hst hbz hkz hTz
   go_wp2_with (first | (refine wpList_load_row rfl 28 _ rfl N rfl 28 #[.int .u8 1, .slice p3 acc.length c3, .slice none 0 0, .slice none 0 0] (0, 0) _ hnd Tryz.underlying28 rfl hsz4 ?_) | (refine wpList_store_mid rfl 28 _ _ rfl PB 0 #[.int .u8 1, .slice p3 acc.length c3, .slice none 0 0, .slice none 0 0] rfl rfl hthere hsz4 hone ?_))
   try rw [Exit.noGoto_ret]
   refine bodyPost_ret (v := .agg #[.int .u8 1, .slice p3 acc.length c3, .slice none 0 0, .slice none 0 0]) (results_cell_row (p := 2) (ty := 28) (by rfl) _ _ PB 28 #[.int .u8 1, .slice p3 acc.length c3, .slice none 0 0, .slice none 0 0] (0, 0) _ (by rfl) HZ.out.1 Tryz.underlying28 (by rfl) hsz4) (by rfl) ?_
   exact ⟨_, rfl, by rw [hPP]; exact HZ.out.2.2.1, HZ.out.2.2.2, HZ.out.2.1⟩
  ·have hltc : ((cnt - c : Nat) : Int) < (cnt : Int) := by omega
   have d0 : wr.cell? ⟨N, 0, none⟩ = some (.int .u8 1) := by rw [hk0.nd.cell]; rfl
   have hltn : (txN (txN tt)).left.length ≤ 1048576 := (Nat.le_trans (txN_left _) (Nat.le_trans (txN_left _) hl1))
   go_wp2_with fail
   refine wp_region_gate 8 (S := fun w' => RowIs w' N 28 #[.int .u8 1, vi, .slice none 0 0, .slice none 0 0]) (by kernel_rfl) hk0.nd.drew (fun hHeld => ?_)
   have hk := hk0.below (Below.drew (Below.refl _ _))
   have hb := hb0.drew
   replace hPr := hPr.drew
   clear hk0 hb0
   generalize wr.drew = wv at *
   refine takep_G (i := 0) (v := ?_) (some 19) #[true, false, false, false, false, false, false, false, false, false, false] rfl rfl (by kernel_rfl) (by kernel_rfl) (by kernel_rfl) (by kernel_rfl) (fun _ _ _ h => h) (by kernel_rfl) hk.nd (Or.inl ⟨by rfl, ?_⟩) ?_
   rotate_left
   ·intro w_ hSw_; go_simp; try with_reducible rfl
   try simp only [Act.put, List.setIfInBounds_toArray, List.set_cons_zero, List.set_cons_succ]
   refine take_G (i := 1) (v := vi) (some 20) #[true, true, false, false, false, false, false, false, false, false, false] rfl rfl rfl (by kernel_rfl) (by kernel_rfl) (by kernel_rfl) (by kernel_rfl) (by kernel_rfl) (fun _ _ _ h => h) (by kernel_rfl) hk.nd (Or.inl ⟨by rfl, ?_⟩) ?_
   ·intro w_ hSw_; exact (by have hcc : w_.cell? ⟨N, 1, none⟩ = some vi := (by rw [RowIs.cell hSw_]; rfl); go_simp)
   try simp only [Act.put, List.setIfInBounds_toArray, List.set_cons_zero, List.set_cons_succ]
   refine takep_G (i := 2) (v := ?_) (some 21) #[true, true, true, false, false, false, false, false, false, false, false] rfl rfl (by kernel_rfl) (by kernel_rfl) (by kernel_rfl) (by kernel_rfl) (fun _ _ _ h => h) (by kernel_rfl) hk.nd (Or.inl ⟨by rfl, ?_⟩) ?_
   rotate_left
   ·intro w_ hSw_; go_simp; try with_reducible rfl
   try simp only [Act.put, List.setIfInBounds_toArray, List.set_cons_zero, List.set_cons_succ]
   refine takep_G (i := 4) (v := ?_) (some 23) #[true, true, true, false, true, false, false, false, false, false, false] rfl rfl (by kernel_rfl) (by kernel_rfl) (by kernel_rfl) (by kernel_rfl) (fun _ _ _ h => h) (by kernel_rfl) hk.nd (Or.inl ⟨by rfl, ?_⟩) ?_
   rotate_left
   ·intro w_ hSw_; go_simp; try with_reducible rfl
   try simp only [Act.put, List.setIfInBounds_toArray, List.set_cons_zero, List.set_cons_succ]
   refine step_G (i := 3) #[true, true, true, true, true, false, false, false, false, false, false] rfl (by kernel_rfl) (by kernel_rfl) (fun K hK => ?_)
   rw [if_pos (by rfl)]
   go_simp
   refine (ttext_calls b tt _ hk.tk hl1).mono ?_
   rintro e wa ⟨rfl, hTwa, hbtwa⟩
   have hkwa := hk.but hbtwa hTwa hNb
   replace hb := hb.trans hbtwa
   replace hPr := hPr.but hbtwa hPb
   clear hk hbtwa hTwa
   have hk := hkwa
   clear hkwa
   refine hK.out _ _ hk.nd ?_
   clear hK K
   refine step_G (i := 5) #[true, true, true, true, true, true, false, false, false, false, false] rfl (by kernel_rfl) (by kernel_rfl) (fun K hK => ?_)
   rw [if_pos (by rfl)]
   go_simp
   refine (ttext_calls b (txN tt) _ hk.tk (Nat.le_trans (txN_left _) hl1)).mono ?_
   rintro e wb ⟨rfl, hTwb, hbtwb⟩
   have hkwb := hk.but hbtwb hTwb hNb
   replace hb := hb.trans hbtwb
   replace hPr := hPr.but hbtwb hPb
   clear hk hbtwb hTwb
   have hk := hkwb
   clear hkwb
   refine hK.out _ _ hk.nd ?_
   clear hK K
   refine takep_G (i := 6) (v := ?_) (some 25) #[true, true, true, true, true, true, true, false, false, false, false] rfl rfl (by kernel_rfl) (by kernel_rfl) (by kernel_rfl) (by kernel_rfl) (fun _ _ _ h => h) (by kernel_rfl) hk.nd (Or.inl ⟨by rfl, ?_⟩) ?_
   rotate_left
   ·intro w_ hSw_; go_simp; try with_reducible rfl
   try simp only [Act.put, List.setIfInBounds_toArray, List.set_cons_zero, List.set_cons_succ]
   refine step_G (i := 7) #[true, true, true, true, true, true, true, true, false, false, false] rfl (by kernel_rfl) (by kernel_rfl) (fun K hK => ?_)
   rw [if_pos (by rfl)]
   go_simp
   have hk7 := hk.below ((Below.refl _ _).alloc (Nat.le_refl _) (.cells #[.string (strOf (txT tt)), .string (strOf (txT (txN tt)))] 44))
   have hb7 := hb.alloc (.cells #[.string (strOf (txT tt)), .string (strOf (txT (txN tt)))] 44)
   have hP7 := hPr.alloc (.cells #[.string (strOf (txT tt)), .string (strOf (txT (txN tt)))] 44)
   have hrow7 := RowIs.new wb 44 #[.string (strOf (txT tt)), .string (strOf (txT (txN tt)))]
   change K _ (wb.alloc (.cells #[.string (strOf (txT tt)), .string (strOf (txT (txN tt)))] 44))
   generalize wb.alloc (.cells #[.string (strOf (txT tt)), .string (strOf (txT (txN tt)))] 44) = wz at *
   generalize wb.heap.size = X at *
   clear hk hb hPr
   have hk := hk7
   have hb := hb7
   have hPr := hP7
   clear hk7 hb7 hP7
   refine hK.out _ _ hk.nd ?_
   clear hK K
   refine gate_G (i := 8) #[true, true, true, true, true, true, true, true, true, false, false] rfl (by kernel_rfl) (by kernel_rfl) (fun K hK => ?_)
   rw [if_pos (by rfl)]
   refine wp_append_own _ _ _ 22 rfl PB 44 iI0 (.agg #[.string ⟨#[]⟩, .string ⟨#[]⟩]) 2 32 Tryz.underlying22 hI hIz0 hIz1 hIz2 rfl (by decide) vi acc.length (acc.flatMap itemV) rfl hk.oi ⟨X, 0, none⟩ 1 1 (itemV (itemT tt)) rfl rfl (fun j u hj => by rw [Addr.add_mid, Nat.zero_add, RowIs.cell hrow7, ← hj]; simp [itemV, itemT]) (fun u hu => by simp only [itemV, List.mem_cons, List.not_mem_nil, or_false] at hu; rcases hu with rfl | rfl <;> rfl) (by unfold maxLen; omega) (by omega) (Nat.le_of_lt hPr.lt) ?_
   intro v' wd hown' hgrow _
   have hot := fun g hg => own_type hk.oi (g := g) hg
   have hNd := row_grown hk.nd hgrow (fun q => by obtain ⟨cc, hcc⟩ := hot N q.symm; have := hk.nd; unfold RowIs at this; rw [this] at hcc; injection hcc with hcc; injection hcc with _ q2 _; exact absurd q2 (by decide))
   have hTd : TkAt wd b _ := row_grown hk.tk hgrow (fun q => by obtain ⟨cc, hcc⟩ := hot b q.symm; have := hk.tk; unfold TkAt RowIs at this; rw [this] at hcc; injection hcc with hcc; injection hcc with _ q2 _; exact absurd q2 (by decide))
   have hPd := row_grown hPr hgrow (fun q => by obtain ⟨cc, hcc⟩ := hot PB q.symm; have := hPr; unfold RowIs at this; rw [this] at hcc; injection hcc with hcc; injection hcc with _ q2 _; exact absurd q2 (by decide))
   have hkok := owns_grown hk.ok hgrow (fun g hg cc hcc => by obtain ⟨c2, h2⟩ := hot g hg; rw [h2] at hcc; injection hcc with hcc; injection hcc with _ q2 _; exact absurd q2 (by decide))
   have hkov := owns_grown hk.ov hgrow (fun g hg cc hcc => by obtain ⟨c2, h2⟩ := hot g hg; rw [h2] at hcc; injection hcc with hcc; injection hcc with _ q2 _; exact absurd q2 (by decide))
   have hbd : But b w wd := hb.thenBelow (by rw [hPP]; exact (Below.refl PB wz).grown hgrow (Nat.le_of_lt hPr.lt) (fun k hq => (hk.oi.lt k hq).1))
   have hcd : wd.cell? ⟨N, 1, none⟩ = some vi := by rw [hNd.cell]; rfl
   have hfd := hNd.free 1
   have hsnoc : (acc ++ [itemT tt]).flatMap itemV = acc.flatMap itemV ++ itemV (itemT tt) := by rw [List.flatMap_append]; simp
   have hlen1 : (acc ++ [itemT tt]).length = acc.length + 1 := by simp
   rw [← hsnoc] at hown'
   obtain ⟨p', c', rfl⟩ := own_shape hown'
   refine hK.out _ _ trivial ?_
   clear hK K
   refine take_N (i := 9) (v := ?_) (some 28) #[true, true, true, true, true, true, true, true, true, true, false] rfl rfl (by kernel_rfl) (by kernel_rfl) (by kernel_rfl) (by kernel_rfl) (fun _ _ _ h => h) trivial (Or.inl ⟨by rfl, ?_⟩) ?_
   rotate_left
   ·intro w_ hSw_; go_simp; try with_reducible rfl
   try simp only [Act.put, List.setIfInBounds_toArray]
   refine step_N (i := 10) #[true, true, true, true, true, true, true, true, true, true, true] rfl (by kernel_rfl) (by kernel_rfl) (fun K hK => ?_)
   rw [if_pos (by rfl)]
   go_simp
   have hbe : But b w (wd.setCell ⟨N, 1, none⟩ (.slice p' (acc.length + 1) c')) := hbd.thenBelow (by rw [hPP]; exact (Below.refl PB wd).setCell (p := ⟨N, 1, none⟩) hNge _)
   have hbN := (But.refl N wd).setCell 1 (.slice p' (acc.length + 1) c')
   have hqN : ∀ (e : TypeId) cc, e ≠ 28 → wd.heap[N]? ≠ some (.cells cc e (0, 0)) := fun e cc he hx => by have := hNd; unfold RowIs at this; rw [hx] at this; injection this with this; injection this with _ q2 _; exact he q2
   have hke : Taking PB b N (wd.setCell ⟨N, 1, none⟩ (.slice p' (acc.length + 1) c')) (txN (txN tt)) 1 (.slice p' (acc.length + 1) c') (.slice none 0 0) (.slice none 0 0) (acc ++ [itemT tt]) [] [] := ⟨RowIs.other hTd _ _ (fun q => hNb q.symm), hNd.set 1 _, (by rw [hlen1]; exact ownsRow_but hown' hbN (fun cc => hqN _ cc (by decide))), (ownsRow_but hkok hbN (fun cc => hqN _ cc (by decide))), (ownsRow_but hkov hbN (fun cc => hqN _ cc (by decide)))⟩
   have hPe := RowIs.other hPd ⟨N, 1, none⟩ (.slice p' (acc.length + 1) c') hNP
   generalize wd.setCell ⟨N, 1, none⟩ (.slice p' (acc.length + 1) c') = we at *
   clear hk hb hPr hNd hTd hPd hkok hkov hbd hcd hfd hown' hgrow hot hbN hqN hrow7
   refine hK.out _ _ trivial ?_
   clear hK K
   refine wpAnyH_done (by kernel_rfl) ?_ _
   clear hHeld hsnoc
   have hlc : acc.length + 1 + (c - 1) = cnt := by omega
   have HA := Lib.hid (show acc ++ manyT itemT itemN c tt = manyT itemT itemN cnt body from hacc)
   have HM := Lib.hid hmany
   have HL := Lib.hid (And.intro hlc hlen1)
   have HTT := Lib.hid (And.intro hTN hTX)
   clear hacc hmany hal hlc hlen1 hTN hTX
   cases hbad : (txN (txN tt)).bad
   ·have hB : we.cell? ⟨b, 1, none⟩ = some (.bool false) := by rw [RowIs.cell hke.tk 1]; simp [hbad]
    go_wp2_with fail
    have hst := many_ok (f := itemT) (g := itemN) (t := tt) hc0 hbad
    refine ⟨⟨c - 1, acc ++ [itemT tt], txN (txN tt), _, by omega, by rw [show cnt - (c - 1) = (cnt - c) + 1 by omega]; simp, hke, ?_, ?_, hltn, ?_, hbe, hPe⟩, ?_⟩
    ·rw [← HA.out, hst.1, List.append_assoc]; rfl
    ·rw [← HM.out, hst.2]; rfl
    ·rw [HL.out.2]; exact HL.out.1
    ·simp only [intOf]; omega
   ·have hB : we.cell? ⟨b, 1, none⟩ = some (.bool true) := by rw [RowIs.cell hke.tk 1]; simp [hbad]
    have hst := many_bad (f := itemT) (g := itemN) (t := tt) hc0 hbad
    have HN := Lib.hid (show NN = ⟨1, acc ++ [itemT tt], [], []⟩ by rw [HTT.out.1, ← HA.out, hst.1])
    have HX := Lib.hid (show TX = txN (txN tt) by rw [HTT.out.2, ← HM.out, hst.2]; rfl)
    clear hst
    have hNN : NN = ⟨1, (acc ++ [itemT tt]), [], []⟩ := HN.out
    have hTT : TX = (txN (txN tt)) := HX.out
    subst hNN
    have hst := store_row hPe (D := #[.int .u8 1, (.slice p' (acc.length + 1) c'), .slice none 0 0, .slice none 0 0]) rfl
    have hthere := hPe.there 0 4 (Nat.le_refl 4)
    have hnd := hke.nd
    have hone : (#[.int .u8 1, (.slice p' (acc.length + 1) c'), .slice none 0 0, .slice none 0 0] : Array Value).all (·.oneCell') = true := by simp [Value.oneCell']
    have hsz4 : (Tryz.prog.info? 28).map (·.size) = some (#[.int .u8 1, (.slice p' (acc.length + 1) c'), .slice none 0 0, .slice none 0 0] : Array Value).size := by kernel_rfl
    have hbz := hbe.thenBelow (v := we.setCells PB 0 (#[.int .u8 1, (.slice p' (acc.length + 1) c'), .slice none 0 0, .slice none 0 0] : Array Value).toList) (by rw [hPP]; exact setCells_below PB PB (Nat.le_refl _) _ 0 _ _ (Below.refl PB we))
    have hkz := (hke.own hwfT).store hPe (#[.int .u8 1, (.slice p' (acc.length + 1) c'), .slice none 0 0, .slice none 0 0] : Array Value).toList 0
    have hTz : TkAt (we.setCells PB 0 (#[.int .u8 1, (.slice p' (acc.length + 1) c'), .slice none 0 0, .slice none 0 0] : Array Value).toList) b TX := by rw [hTT]; exact (setCells_other PB b (fun q => hPb q.symm) _ 0 we).trans hke.tk
    have HZ := Lib.hid (And.intro hst (And.intro hbz (And.intro hkz hTz)))
    clear hst hbz hkz hTz
    go_wp2_with (first | (refine wpList_load_row rfl 28 _ rfl N rfl 28 #[.int .u8 1, (.slice p' (acc.length + 1) c'), .slice none 0 0, .slice none 0 0] (0, 0) _ hnd Tryz.underlying28 rfl hsz4 ?_) | (refine wpList_store_mid rfl 28 _ _ rfl PB 0 #[.int .u8 1, (.slice p' (acc.length + 1) c'), .slice none 0 0, .slice none 0 0] rfl rfl hthere hsz4 hone ?_))
    try rw [Exit.noGoto_ret]
    refine bodyPost_ret (v := .agg #[.int .u8 1, (.slice p' (acc.length + 1) c'), .slice none 0 0, .slice none 0 0]) (results_cell_row (p := 2) (ty := 28) (by rfl) _ _ PB 28 #[.int .u8 1, (.slice p' (acc.length + 1) c'), .slice none 0 0, .slice none 0 0] (0, 0) _ (by rfl) HZ.out.1 Tryz.underlying28 (by rfl) hsz4) (by rfl) ?_
    exact ⟨_, rfl, by rw [hPP]; exact HZ.out.2.2.1, HZ.out.2.2.2, HZ.out.2.1⟩

end Go.Proofs.YtimkklaidodkdaaGreatDoor

namespace Go.Proofs.YtimkklaidodkdaaGreatDoor
open Go.RowKit

set_option maxRecDepth 20000 in
set_option maxHeartbeats 6400000 in
theorem take_kids_calls (b : Nat) (t : TkD) (w : World) (h : TkAt w b t) (hl : t.left.length ≤ 1048576) (hkk : kindT t = 2) :
  Calls Tryz.prog 106 #[.pointer (some ⟨b, 0, none⟩)] w fun e w' => ∃ v, e = .returned v ∧ OwnAt w.heap.size w' v (takeN t) ∧ TkAt w' b (takeX t) ∧ But b w w' := by
 obtain ⟨iR0, hR, hRz0, hRz1, hRz2⟩ := info_parts info_kid
 have hkt := numT_lt t 1
 have hn1 := fun w h => tnumber_calls b t 1 w h hl (by omega) (by omega)
 have hn2 := fun w h => tnumber_calls b (tkNext t 1) 1 w h (Nat.le_trans (next_left _ _) hl) (by omega) (by omega)
 rw [show ((1 : Nat) : Int) = 1 from rfl] at hn1 hn2
 have hct := numT_lt (tkNext t 1) 1
 have hbl : (bodyT t).left.length ≤ 1048576 := Nat.le_trans (next_left _ _) (Nat.le_trans (next_left _ _) hl)
 have hbody : tkNext (tkNext t 1) 1 = bodyT t := rfl
 have hkind : numT t 1 = kindT t := rfl
 have hcount : numT (tkNext t 1) 1 = countT t := rfl
 rw [hbody, hcount] at hn2
 rw [hkind] at hn1 hkt
 rw [hcount] at hct
 have hbw := RowIs.lt h
 clear hbody hkind hcount
 generalize hkd : kindT t = kind at *
 generalize hcd : countT t = cnt at *
 generalize hbd : bodyT t = body at *
 generalize tkNext t 1 = t1 at *
 have hTN : takeN t = (if kind = 1 then ⟨1, manyT itemT itemN cnt body, [], []⟩ else if kind = 2 then ⟨2, [], manyT kidT kidN cnt body, []⟩ else if kind = 3 then ⟨3, [], [], manyT volT volN cnt body⟩ else ⟨kind, [], [], []⟩) := by rw [takeN, hkd, hcd, hbd]
 have hTX : takeX t = (if kind = 1 then manyN itemN cnt body else if kind = 2 then manyN kidN cnt body else if kind = 3 then manyN volN cnt body else if cnt = 0 then body else ⟨body.left, true⟩) := by rw [takeX, hkd, hcd, hbd]
 have hwfT := takeN_wf t
 generalize takeN t = NN at *
 generalize takeX t = TX at *
 have HTN := Lib.hid hTN
 have HTX := Lib.hid hTX
 clear hTN hTX hkd hcd hbd
 have HKK := Lib.hid hkk
 clear hkk
 have hk8 : IntKind.u8.wrap (kind : Int) = (kind : Int) := by rw [IntKind.wrap_u8]; omega
 go_enter Tryz.func106, Tryz.ntmps106
 go_wp2_with fail
 obtain ⟨W1, hW1⟩ : ∃ W1, W1 = w.alloc (.cells #[.int .u8 0, .slice none 0 0, .slice none 0 0, .slice none 0 0] 28) := ⟨_, rfl⟩
 rw [← hW1]
 have hP : RowIs W1 w.heap.size 28 #[.int .u8 0, .slice none 0 0, .slice none 0 0, .slice none 0 0] := by rw [hW1]; exact RowIs.new w _ _
 have hT1 : TkAt W1 b t := by rw [hW1]; exact RowIs.alloc h _
 have hb1 : But b w W1 := by rw [hW1]; exact (But.refl b w).alloc _
 have hPb : w.heap.size ≠ b := by omega
 clear hW1 h
 generalize hPP : w.heap.size = PB at *
 go_step3
 go_wp2_with fail
 refine (hn1 W1 hT1).mono ?_
 rintro e w1 ⟨rfl, hT2, hb2⟩
 have hP2 := hP.but hb2 hPb
 have hb3 := hb1.trans hb2
 have hbw1 := RowIs.lt hT2
 clear hP hT1 hb1 hb2 hn1
 go_wp2_with fail
 go_step3
 go_wp2_with fail
 obtain ⟨W2, hW2⟩ : ∃ W2, W2 = w1.alloc (.cells #[.int .u8 (kind : Int), .slice none 0 0, .slice none 0 0, .slice none 0 0] 28) := ⟨_, rfl⟩
 rw [← hW2]
 have hN3 : RowIs W2 w1.heap.size 28 #[.int .u8 (kind : Int), .slice none 0 0, .slice none 0 0, .slice none 0 0] := by rw [hW2]; exact RowIs.new w1 _ _
 have hP3 := hP2.alloc (.cells #[.int .u8 (kind : Int), .slice none 0 0, .slice none 0 0, .slice none 0 0] 28)
 rw [← hW2] at hP3
 have hT3 : TkAt W2 b t1 := by rw [hW2]; exact RowIs.alloc hT2 _
 have hb4 : But b w W2 := by rw [hW2]; exact hb3.alloc _
 have hNP : PB ≠ w1.heap.size := by have := hP2.lt; omega
 have hNb : w1.heap.size ≠ b := by omega
 have hNge : PB ≤ w1.heap.size := Nat.le_of_lt hP2.lt
 clear hW2 hP2 hT2 hb3 hbw1
 generalize w1.heap.size = N at *
 refine (hn2 W2 hT3).mono ?_
 rintro e w3 ⟨rfl, hT4, hbt⟩
 have hN4 := hN3.but hbt hNb
 have hP4 := hP3.but hbt hPb
 have hb5 := hb4.trans hbt
 have hs5 : PB ≤ w3.heap.size := Nat.le_of_lt hP4.lt
 have hBw : w.heap.size ≤ w3.heap.size := hb5.size
 clear hN3 hP3 hT3 hb4 hbt hn2
 have ho0 : ∀ (e : TypeId) (z : Nat), w3.ownsRow PB e z (.slice none 0 0) 0 [] := fun e z => ⟨by simp, .inl ⟨rfl, rfl⟩⟩
 have hk0 : Taking PB b N w3 body kind (.slice none 0 0) (.slice none 0 0) (.slice none 0 0) [] [] [] := ⟨hT4, hN4, ho0 _ _, ho0 _ _, ho0 _ _⟩
 clear hT4 hN4 ho0
 have hcnt64 : (cnt : Int) < 18446744073709551616 := by omega
 have hkk := HKK.out
 clear HKK
 subst hkk
 have hTX := HTX.out
 have hTN := HTN.out
 rw [if_neg (by decide), if_pos rfl] at hTX hTN
 clear HTX HTN
 go_wp2_with fail
 go_loopw [10] (fun v wr => ∃ c acc tt vi, c ≤ cnt ∧ v = .int .u64 ((cnt - c : Nat) : Int) ∧ Taking PB b N wr tt 2 (.slice none 0 0) vi (.slice none 0 0) [] acc [] ∧ acc ++ manyT kidT kidN c tt = manyT kidT kidN cnt body ∧ manyN kidN c tt = manyN kidN cnt body ∧ tt.left.length ≤ 1048576 ∧ acc.length + c = cnt ∧
  But b w wr ∧ RowIs wr PB 28 #[.int .u8 0, .slice none 0 0, .slice none 0 0, .slice none 0 0]) (fun v _ => cnt - (intOf v).toNat)
 case atStart => exact ⟨cnt, [], body, _, Nat.le_refl _, by simp, hk0, by simp, rfl, hbl, by simp, hb5, hP4⟩
 case round =>
  clear hk0 hb5 hP4
  obtain ⟨c, acc, tt, vi, hc, rfl, hk0, hacc, hmany, hl1, hal, hb0, hPr⟩ := hrel
  by_cases hc0 : c = 0
  ·subst hc0
   have HN := Lib.hid (show NN = ⟨2, [], acc, []⟩ by rw [hTN, ← hacc, manyT, List.append_nil])
   have HX := Lib.hid (show TX = tt by rw [hTX, ← hmany, manyN])
   clear hacc hmany hTN hTX
   obtain ⟨p3, c3, rfl⟩ : ∃ p c, vi = .slice p acc.length c := own_shape hk0.ok
   have hNN : NN = ⟨2, [], acc, []⟩ := HN.out
   have hTT : TX = tt := HX.out
   subst hNN
   have hst := store_row hPr (D := #[.int .u8 2, .slice none 0 0, .slice p3 acc.length c3, .slice none 0 0]) rfl
   have hthere := hPr.there 0 4 (Nat.le_refl 4)
   have hnd := hk0.nd
   have hone : (#[.int .u8 2, .slice none 0 0, .slice p3 acc.length c3, .slice none 0 0] : Array Value).all (·.oneCell') = true := by simp [Value.oneCell']
   have hsz4 : (Tryz.prog.info? 28).map (·.size) = some (#[.int .u8 2, .slice none 0 0, .slice p3 acc.length c3, .slice none 0 0] : Array Value).size := by kernel_rfl
   have hbz := hb0.thenBelow (v := wr.setCells PB 0 (#[.int .u8 2, .slice none 0 0, .slice p3 acc.length c3, .slice none 0 0] : Array Value).toList) (by rw [hPP]; exact setCells_below PB PB (Nat.le_refl _) _ 0 _ _ (Below.refl PB wr))
   have hkz := (hk0.own hwfT).store hPr (#[.int .u8 2, .slice none 0 0, .slice p3 acc.length c3, .slice none 0 0] : Array Value).toList 0
   have hTz : TkAt (wr.setCells PB 0 (#[.int .u8 2, .slice none 0 0, .slice p3 acc.length c3, .slice none 0 0] : Array Value).toList) b TX := by rw [hTT]; exact (setCells_other PB b (fun q => hPb q.symm) _ 0 wr).trans hk0.tk
   have HZ := Lib.hid (And.intro hst (And.intro hbz (And.intro hkz hTz)))
   clear hst hbz hkz hTz
   go_wp2_with (first | (refine wpList_load_row rfl 28 _ rfl N rfl 28 #[.int .u8 2, .slice none 0 0, .slice p3 acc.length c3, .slice none 0 0] (0, 0) _ hnd Tryz.underlying28 rfl hsz4 ?_) | (refine wpList_store_mid rfl 28 _ _ rfl PB 0 #[.int .u8 2, .slice none 0 0, .slice p3 acc.length c3, .slice none 0 0] rfl rfl hthere hsz4 hone ?_))
   try rw [Exit.noGoto_ret]
   refine bodyPost_ret (v := .agg #[.int .u8 2, .slice none 0 0, .slice p3 acc.length c3, .slice none 0 0]) (results_cell_row (p := 2) (ty := 28) (by rfl) _ _ PB 28 #[.int .u8 2, .slice none 0 0, .slice p3 acc.length c3, .slice none 0 0] (0, 0) _ (by rfl) HZ.out.1 Tryz.underlying28 (by rfl) hsz4) (by rfl) ?_
   exact ⟨_, rfl, by rw [hPP]; exact HZ.out.2.2.1, HZ.out.2.2.2, HZ.out.2.1⟩
  ·have hltc : ((cnt - c : Nat) : Int) < (cnt : Int) := by omega
   have d0 : wr.cell? ⟨N, 0, none⟩ = some (.int .u8 2) := by rw [hk0.nd.cell]; rfl
   have hltn : (tkNext (tkNext (txN tt) 4) 32).left.length ≤ 1048576 := (Nat.le_trans (next_left _ _) (Nat.le_trans (next_left _ _) (Nat.le_trans (txN_left _) hl1)))
   go_wp2_with fail
   refine wp_region_gate 11 (S := fun w' => RowIs w' N 28 #[.int .u8 2, .slice none 0 0, vi, .slice none 0 0]) (by kernel_rfl) hk0.nd.drew (fun hHeld => ?_)
   have hk := hk0.below (Below.drew (Below.refl _ _))
   have hb := hb0.drew
   replace hPr := hPr.drew
   clear hk0 hb0
   generalize wr.drew = wv at *
   refine takep_G (i := 0) (v := ?_) (some 31) #[true, false, false, false, false, false, false, false, false, false, false, false, false, false] rfl rfl (by kernel_rfl) (by kernel_rfl) (by kernel_rfl) (by kernel_rfl) (fun _ _ _ h => h) (by kernel_rfl) hk.nd (Or.inl ⟨by rfl, ?_⟩) ?_
   rotate_left
   ·intro w_ hSw_; go_simp; try with_reducible rfl
   try simp only [Act.put, List.setIfInBounds_toArray, List.set_cons_zero, List.set_cons_succ]
   refine take_G (i := 1) (v := vi) (some 32) #[true, true, false, false, false, false, false, false, false, false, false, false, false, false] rfl rfl rfl (by kernel_rfl) (by kernel_rfl) (by kernel_rfl) (by kernel_rfl) (by kernel_rfl) (fun _ _ _ h => h) (by kernel_rfl) hk.nd (Or.inl ⟨by rfl, ?_⟩) ?_
   ·intro w_ hSw_; exact (by have hcc : w_.cell? ⟨N, 2, none⟩ = some vi := (by rw [RowIs.cell hSw_]; rfl); go_simp)
   try simp only [Act.put, List.setIfInBounds_toArray, List.set_cons_zero, List.set_cons_succ]
   refine takep_G (i := 2) (v := ?_) (some 33) #[true, true, true, false, false, false, false, false, false, false, false, false, false, false] rfl rfl (by kernel_rfl) (by kernel_rfl) (by kernel_rfl) (by kernel_rfl) (fun _ _ _ h => h) (by kernel_rfl) hk.nd (Or.inl ⟨by rfl, ?_⟩) ?_
   rotate_left
   ·intro w_ hSw_; go_simp; try with_reducible rfl
   try simp only [Act.put, List.setIfInBounds_toArray, List.set_cons_zero, List.set_cons_succ]
   refine takep_G (i := 4) (v := ?_) (some 35) #[true, true, true, false, true, false, false, false, false, false, false, false, false, false] rfl rfl (by kernel_rfl) (by kernel_rfl) (by kernel_rfl) (by kernel_rfl) (fun _ _ _ h => h) (by kernel_rfl) hk.nd (Or.inl ⟨by rfl, ?_⟩) ?_
   rotate_left
   ·intro w_ hSw_; go_simp; try with_reducible rfl
   try simp only [Act.put, List.setIfInBounds_toArray, List.set_cons_zero, List.set_cons_succ]
   refine takep_G (i := 7) (v := ?_) (some 38) #[true, true, true, false, true, false, false, true, false, false, false, false, false, false] rfl rfl (by kernel_rfl) (by kernel_rfl) (by kernel_rfl) (by kernel_rfl) (fun _ _ _ h => h) (by kernel_rfl) hk.nd (Or.inl ⟨by rfl, ?_⟩) ?_
   rotate_left
   ·intro w_ hSw_; go_simp; try with_reducible rfl
   try simp only [Act.put, List.setIfInBounds_toArray, List.set_cons_zero, List.set_cons_succ]
   refine step_G (i := 3) #[true, true, true, true, true, false, false, true, false, false, false, false, false, false] rfl (by kernel_rfl) (by kernel_rfl) (fun K hK => ?_)
   rw [if_pos (by rfl)]
   go_simp
   refine (ttext_calls b tt _ hk.tk hl1).mono ?_
   rintro e wa ⟨rfl, hTwa, hbtwa⟩
   have hkwa := hk.but hbtwa hTwa hNb
   replace hb := hb.trans hbtwa
   replace hPr := hPr.but hbtwa hPb
   clear hk hbtwa hTwa
   have hk := hkwa
   clear hkwa
   refine hK.out _ _ hk.nd ?_
   clear hK K
   refine step_G (i := 5) #[true, true, true, true, true, true, false, true, false, false, false, false, false, false] rfl (by kernel_rfl) (by kernel_rfl) (fun K hK => ?_)
   rw [if_pos (by rfl)]
   go_simp
   refine (tnumber_calls b (txN tt) 4 _ hk.tk (Nat.le_trans (txN_left _) hl1) (by omega) (by omega)).mono ?_
   rintro e wb ⟨rfl, hTwb, hbtwb⟩
   have hkwb := hk.but hbtwb hTwb hNb
   replace hb := hb.trans hbtwb
   replace hPr := hPr.but hbtwb hPb
   clear hk hbtwb hTwb
   have hk := hkwb
   clear hkwb
   refine hK.out _ _ hk.nd ?_
   clear hK K
   refine takep_G (i := 6) (v := .int .u32 (numT (txN tt) 4 : Int)) (some 37) #[true, true, true, true, true, true, true, true, false, false, false, false, false, false] rfl rfl (by kernel_rfl) (by kernel_rfl) (by kernel_rfl) (by kernel_rfl) (fun _ _ _ h => h) (by kernel_rfl) hk.nd (Or.inl ⟨by rfl, ?_⟩) ?_
   ·intro w_ hSw_; exact exec_conv rfl rfl (cast_u32 _ _ (numT_lt (txN tt) 4))
   try simp only [Act.put, List.setIfInBounds_toArray, List.set_cons_zero, List.set_cons_succ]
   refine step_G (i := 8) #[true, true, true, true, true, true, true, true, true, false, false, false, false, false] rfl (by kernel_rfl) (by kernel_rfl) (fun K hK => ?_)
   rw [if_pos (by rfl)]
   go_simp
   refine (thash_calls b (tkNext (txN tt) 4) _ hk.tk (Nat.le_trans (next_left _ _) (Nat.le_trans (txN_left _) hl1))).mono ?_
   rintro e wc ⟨rfl, hTwc, hbtwc⟩
   have hkwc := hk.but hbtwc hTwc hNb
   replace hb := hb.trans hbtwc
   replace hPr := hPr.but hbtwc hPb
   clear hk hbtwc hTwc
   have hk := hkwc
   clear hkwc
   refine hK.out _ _ hk.nd ?_
   clear hK K
   refine step_G (i := 9) #[true, true, true, true, true, true, true, true, true, true, false, false, false, false] rfl (by kernel_rfl) (by kernel_rfl) (fun K hK => ?_)
   rw [if_pos (by rfl)]
   refine wp_build_eq 38 [(0, .tmp 34), (1, .tmp 37), (2, .tmp 39)] rfl _ (by exact built_kid (strOf (txT tt)) (numT (txN tt) 4 : Int) (hashT (tkNext (txN tt) 4)) (hashT_length _)) ?_
   refine hK.out _ _ hk.nd ?_
   clear hK K
   refine step_G (i := 10) #[true, true, true, true, true, true, true, true, true, true, true, false, false, false] rfl (by kernel_rfl) (by kernel_rfl) (fun K hK => ?_)
   rw [if_pos (by rfl)]
   refine wp_buildSlice_one 25 38 _ rfl Tryz.underlying25 iR0 hR _ hRz0 34 hRz1 _ rfl (by rw [List.size_toArray]; exact kidV_length (k := kidT tt) (hashT_length _)) (by omega) (by omega) ?_
   have hk7 := hk.below ((Below.refl _ _).alloc (Nat.le_refl _) (.cells (kidV (kidT tt)).toArray 38))
   have hb7 := hb.alloc (.cells (kidV (kidT tt)).toArray 38)
   have hP7 := hPr.alloc (.cells (kidV (kidT tt)).toArray 38)
   have hrow7 := RowIs.new wc 38 (kidV (kidT tt)).toArray
   change K _ (wc.alloc (.cells (kidV (kidT tt)).toArray 38))
   generalize wc.alloc (.cells (kidV (kidT tt)).toArray 38) = wz at *
   generalize wc.heap.size = X at *
   clear hk hb hPr
   have hk := hk7
   have hb := hb7
   have hPr := hP7
   clear hk7 hb7 hP7
   refine hK.out _ _ hk.nd ?_
   clear hK K
   refine gate_G (i := 11) #[true, true, true, true, true, true, true, true, true, true, true, true, false, false] rfl (by kernel_rfl) (by kernel_rfl) (fun K hK => ?_)
   rw [if_pos (by rfl)]
   refine wp_append_own _ _ _ 25 rfl PB 38 iR0 (.agg kidZ) 34 56 Tryz.underlying25 hR hRz0 hRz1 hRz2 rfl (by decide) vi acc.length (acc.flatMap kidV) rfl hk.ok ⟨X, 0, none⟩ 1 1 (kidV (kidT tt)) rfl (kidV_length (hashT_length _)) (fun j u hj => by rw [Addr.add_mid, Nat.zero_add, RowIs.cell hrow7, ← hj]; simp) (fun u hu => Array.all_eq_true_iff_forall_mem.1 (kidV_one _) u (by simpa using hu)) (by unfold maxLen; omega) (by omega) (Nat.le_of_lt hPr.lt) ?_
   intro v' wd hown' hgrow _
   have hot := fun g hg => own_type hk.ok (g := g) hg
   have hNd := row_grown hk.nd hgrow (fun q => by obtain ⟨cc, hcc⟩ := hot N q.symm; have := hk.nd; unfold RowIs at this; rw [this] at hcc; injection hcc with hcc; injection hcc with _ q2 _; exact absurd q2 (by decide))
   have hTd : TkAt wd b _ := row_grown hk.tk hgrow (fun q => by obtain ⟨cc, hcc⟩ := hot b q.symm; have := hk.tk; unfold TkAt RowIs at this; rw [this] at hcc; injection hcc with hcc; injection hcc with _ q2 _; exact absurd q2 (by decide))
   have hPd := row_grown hPr hgrow (fun q => by obtain ⟨cc, hcc⟩ := hot PB q.symm; have := hPr; unfold RowIs at this; rw [this] at hcc; injection hcc with hcc; injection hcc with _ q2 _; exact absurd q2 (by decide))
   have hkoi := owns_grown hk.oi hgrow (fun g hg cc hcc => by obtain ⟨c2, h2⟩ := hot g hg; rw [h2] at hcc; injection hcc with hcc; injection hcc with _ q2 _; exact absurd q2 (by decide))
   have hkov := owns_grown hk.ov hgrow (fun g hg cc hcc => by obtain ⟨c2, h2⟩ := hot g hg; rw [h2] at hcc; injection hcc with hcc; injection hcc with _ q2 _; exact absurd q2 (by decide))
   have hbd : But b w wd := hb.thenBelow (by rw [hPP]; exact (Below.refl PB wz).grown hgrow (Nat.le_of_lt hPr.lt) (fun k hq => (hk.ok.lt k hq).1))
   have hcd : wd.cell? ⟨N, 2, none⟩ = some vi := by rw [hNd.cell]; rfl
   have hfd := hNd.free 2
   have hsnoc : (acc ++ [kidT tt]).flatMap kidV = acc.flatMap kidV ++ kidV (kidT tt) := by rw [List.flatMap_append]; simp
   have hlen1 : (acc ++ [kidT tt]).length = acc.length + 1 := by simp
   rw [← hsnoc] at hown'
   obtain ⟨p', c', rfl⟩ := own_shape hown'
   refine hK.out _ _ trivial ?_
   clear hK K
   refine take_N (i := 12) (v := ?_) (some 43) #[true, true, true, true, true, true, true, true, true, true, true, true, true, false] rfl rfl (by kernel_rfl) (by kernel_rfl) (by kernel_rfl) (by kernel_rfl) (fun _ _ _ h => h) trivial (Or.inl ⟨by rfl, ?_⟩) ?_
   rotate_left
   ·intro w_ hSw_; go_simp; try with_reducible rfl
   try simp only [Act.put, List.setIfInBounds_toArray]
   refine step_N (i := 13) #[true, true, true, true, true, true, true, true, true, true, true, true, true, true] rfl (by kernel_rfl) (by kernel_rfl) (fun K hK => ?_)
   rw [if_pos (by rfl)]
   go_simp
   have hbe : But b w (wd.setCell ⟨N, 2, none⟩ (.slice p' (acc.length + 1) c')) := hbd.thenBelow (by rw [hPP]; exact (Below.refl PB wd).setCell (p := ⟨N, 2, none⟩) hNge _)
   have hbN := (But.refl N wd).setCell 2 (.slice p' (acc.length + 1) c')
   have hqN : ∀ (e : TypeId) cc, e ≠ 28 → wd.heap[N]? ≠ some (.cells cc e (0, 0)) := fun e cc he hx => by have := hNd; unfold RowIs at this; rw [hx] at this; injection this with this; injection this with _ q2 _; exact he q2
   have hke : Taking PB b N (wd.setCell ⟨N, 2, none⟩ (.slice p' (acc.length + 1) c')) (tkNext (tkNext (txN tt) 4) 32) 2 (.slice none 0 0) (.slice p' (acc.length + 1) c') (.slice none 0 0) [] (acc ++ [kidT tt]) [] := ⟨RowIs.other hTd _ _ (fun q => hNb q.symm), hNd.set 2 _, (ownsRow_but hkoi hbN (fun cc => hqN _ cc (by decide))), (by rw [hlen1]; exact ownsRow_but hown' hbN (fun cc => hqN _ cc (by decide))), (ownsRow_but hkov hbN (fun cc => hqN _ cc (by decide)))⟩
   have hPe := RowIs.other hPd ⟨N, 2, none⟩ (.slice p' (acc.length + 1) c') hNP
   generalize wd.setCell ⟨N, 2, none⟩ (.slice p' (acc.length + 1) c') = we at *
   clear hk hb hPr hNd hTd hPd hkoi hkov hbd hcd hfd hown' hgrow hot hbN hqN hrow7
   refine hK.out _ _ trivial ?_
   clear hK K
   refine wpAnyH_done (by kernel_rfl) ?_ _
   clear hHeld hsnoc
   have hlc : acc.length + 1 + (c - 1) = cnt := by omega
   have HA := Lib.hid (show acc ++ manyT kidT kidN c tt = manyT kidT kidN cnt body from hacc)
   have HM := Lib.hid hmany
   have HL := Lib.hid (And.intro hlc hlen1)
   have HTT := Lib.hid (And.intro hTN hTX)
   clear hacc hmany hal hlc hlen1 hTN hTX
   cases hbad : (tkNext (tkNext (txN tt) 4) 32).bad
   ·have hB : we.cell? ⟨b, 1, none⟩ = some (.bool false) := by rw [RowIs.cell hke.tk 1]; simp [hbad]
    go_wp2_with fail
    have hst := many_ok (f := kidT) (g := kidN) (t := tt) hc0 hbad
    refine ⟨⟨c - 1, acc ++ [kidT tt], tkNext (tkNext (txN tt) 4) 32, _, by omega, by rw [show cnt - (c - 1) = (cnt - c) + 1 by omega]; simp, hke, ?_, ?_, hltn, ?_, hbe, hPe⟩, ?_⟩
    ·rw [← HA.out, hst.1, List.append_assoc]; rfl
    ·rw [← HM.out, hst.2]; rfl
    ·rw [HL.out.2]; exact HL.out.1
    ·simp only [intOf]; omega
   ·have hB : we.cell? ⟨b, 1, none⟩ = some (.bool true) := by rw [RowIs.cell hke.tk 1]; simp [hbad]
    have hst := many_bad (f := kidT) (g := kidN) (t := tt) hc0 hbad
    have HN := Lib.hid (show NN = ⟨2, [], acc ++ [kidT tt], []⟩ by rw [HTT.out.1, ← HA.out, hst.1])
    have HX := Lib.hid (show TX = tkNext (tkNext (txN tt) 4) 32 by rw [HTT.out.2, ← HM.out, hst.2]; rfl)
    clear hst
    have hNN : NN = ⟨2, [], (acc ++ [kidT tt]), []⟩ := HN.out
    have hTT : TX = (tkNext (tkNext (txN tt) 4) 32) := HX.out
    subst hNN
    have hst := store_row hPe (D := #[.int .u8 2, .slice none 0 0, (.slice p' (acc.length + 1) c'), .slice none 0 0]) rfl
    have hthere := hPe.there 0 4 (Nat.le_refl 4)
    have hnd := hke.nd
    have hone : (#[.int .u8 2, .slice none 0 0, (.slice p' (acc.length + 1) c'), .slice none 0 0] : Array Value).all (·.oneCell') = true := by simp [Value.oneCell']
    have hsz4 : (Tryz.prog.info? 28).map (·.size) = some (#[.int .u8 2, .slice none 0 0, (.slice p' (acc.length + 1) c'), .slice none 0 0] : Array Value).size := by kernel_rfl
    have hbz := hbe.thenBelow (v := we.setCells PB 0 (#[.int .u8 2, .slice none 0 0, (.slice p' (acc.length + 1) c'), .slice none 0 0] : Array Value).toList) (by rw [hPP]; exact setCells_below PB PB (Nat.le_refl _) _ 0 _ _ (Below.refl PB we))
    have hkz := (hke.own hwfT).store hPe (#[.int .u8 2, .slice none 0 0, (.slice p' (acc.length + 1) c'), .slice none 0 0] : Array Value).toList 0
    have hTz : TkAt (we.setCells PB 0 (#[.int .u8 2, .slice none 0 0, (.slice p' (acc.length + 1) c'), .slice none 0 0] : Array Value).toList) b TX := by rw [hTT]; exact (setCells_other PB b (fun q => hPb q.symm) _ 0 we).trans hke.tk
    have HZ := Lib.hid (And.intro hst (And.intro hbz (And.intro hkz hTz)))
    clear hst hbz hkz hTz
    go_wp2_with (first | (refine wpList_load_row rfl 28 _ rfl N rfl 28 #[.int .u8 2, .slice none 0 0, (.slice p' (acc.length + 1) c'), .slice none 0 0] (0, 0) _ hnd Tryz.underlying28 rfl hsz4 ?_) | (refine wpList_store_mid rfl 28 _ _ rfl PB 0 #[.int .u8 2, .slice none 0 0, (.slice p' (acc.length + 1) c'), .slice none 0 0] rfl rfl hthere hsz4 hone ?_))
    try rw [Exit.noGoto_ret]
    refine bodyPost_ret (v := .agg #[.int .u8 2, .slice none 0 0, (.slice p' (acc.length + 1) c'), .slice none 0 0]) (results_cell_row (p := 2) (ty := 28) (by rfl) _ _ PB 28 #[.int .u8 2, .slice none 0 0, (.slice p' (acc.length + 1) c'), .slice none 0 0] (0, 0) _ (by rfl) HZ.out.1 Tryz.underlying28 (by rfl) hsz4) (by rfl) ?_
    exact ⟨_, rfl, by rw [hPP]; exact HZ.out.2.2.1, HZ.out.2.2.2, HZ.out.2.1⟩

end Go.Proofs.YtimkklaidodkdaaGreatDoor

namespace Go.Proofs.YtimkklaidodkdaaGreatDoor
open Go.RowKit

set_option maxRecDepth 20000 in
set_option maxHeartbeats 6400000 in
theorem take_vols_calls (b : Nat) (t : TkD) (w : World) (h : TkAt w b t) (hl : t.left.length ≤ 1048576) (hkk : kindT t = 3) :
  Calls Tryz.prog 106 #[.pointer (some ⟨b, 0, none⟩)] w fun e w' => ∃ v, e = .returned v ∧ OwnAt w.heap.size w' v (takeN t) ∧ TkAt w' b (takeX t) ∧ But b w w' := by
 obtain ⟨iV0, hV, hVz0, hVz1, hVz2⟩ := info_parts info_vol
 have hkt := numT_lt t 1
 have hn1 := fun w h => tnumber_calls b t 1 w h hl (by omega) (by omega)
 have hn2 := fun w h => tnumber_calls b (tkNext t 1) 1 w h (Nat.le_trans (next_left _ _) hl) (by omega) (by omega)
 rw [show ((1 : Nat) : Int) = 1 from rfl] at hn1 hn2
 have hct := numT_lt (tkNext t 1) 1
 have hbl : (bodyT t).left.length ≤ 1048576 := Nat.le_trans (next_left _ _) (Nat.le_trans (next_left _ _) hl)
 have hbody : tkNext (tkNext t 1) 1 = bodyT t := rfl
 have hkind : numT t 1 = kindT t := rfl
 have hcount : numT (tkNext t 1) 1 = countT t := rfl
 rw [hbody, hcount] at hn2
 rw [hkind] at hn1 hkt
 rw [hcount] at hct
 have hbw := RowIs.lt h
 clear hbody hkind hcount
 generalize hkd : kindT t = kind at *
 generalize hcd : countT t = cnt at *
 generalize hbd : bodyT t = body at *
 generalize tkNext t 1 = t1 at *
 have hTN : takeN t = (if kind = 1 then ⟨1, manyT itemT itemN cnt body, [], []⟩ else if kind = 2 then ⟨2, [], manyT kidT kidN cnt body, []⟩ else if kind = 3 then ⟨3, [], [], manyT volT volN cnt body⟩ else ⟨kind, [], [], []⟩) := by rw [takeN, hkd, hcd, hbd]
 have hTX : takeX t = (if kind = 1 then manyN itemN cnt body else if kind = 2 then manyN kidN cnt body else if kind = 3 then manyN volN cnt body else if cnt = 0 then body else ⟨body.left, true⟩) := by rw [takeX, hkd, hcd, hbd]
 have hwfT := takeN_wf t
 generalize takeN t = NN at *
 generalize takeX t = TX at *
 have HTN := Lib.hid hTN
 have HTX := Lib.hid hTX
 clear hTN hTX hkd hcd hbd
 have HKK := Lib.hid hkk
 clear hkk
 have hk8 : IntKind.u8.wrap (kind : Int) = (kind : Int) := by rw [IntKind.wrap_u8]; omega
 go_enter Tryz.func106, Tryz.ntmps106
 go_wp2_with fail
 obtain ⟨W1, hW1⟩ : ∃ W1, W1 = w.alloc (.cells #[.int .u8 0, .slice none 0 0, .slice none 0 0, .slice none 0 0] 28) := ⟨_, rfl⟩
 rw [← hW1]
 have hP : RowIs W1 w.heap.size 28 #[.int .u8 0, .slice none 0 0, .slice none 0 0, .slice none 0 0] := by rw [hW1]; exact RowIs.new w _ _
 have hT1 : TkAt W1 b t := by rw [hW1]; exact RowIs.alloc h _
 have hb1 : But b w W1 := by rw [hW1]; exact (But.refl b w).alloc _
 have hPb : w.heap.size ≠ b := by omega
 clear hW1 h
 generalize hPP : w.heap.size = PB at *
 go_step3
 go_wp2_with fail
 refine (hn1 W1 hT1).mono ?_
 rintro e w1 ⟨rfl, hT2, hb2⟩
 have hP2 := hP.but hb2 hPb
 have hb3 := hb1.trans hb2
 have hbw1 := RowIs.lt hT2
 clear hP hT1 hb1 hb2 hn1
 go_wp2_with fail
 go_step3
 go_wp2_with fail
 obtain ⟨W2, hW2⟩ : ∃ W2, W2 = w1.alloc (.cells #[.int .u8 (kind : Int), .slice none 0 0, .slice none 0 0, .slice none 0 0] 28) := ⟨_, rfl⟩
 rw [← hW2]
 have hN3 : RowIs W2 w1.heap.size 28 #[.int .u8 (kind : Int), .slice none 0 0, .slice none 0 0, .slice none 0 0] := by rw [hW2]; exact RowIs.new w1 _ _
 have hP3 := hP2.alloc (.cells #[.int .u8 (kind : Int), .slice none 0 0, .slice none 0 0, .slice none 0 0] 28)
 rw [← hW2] at hP3
 have hT3 : TkAt W2 b t1 := by rw [hW2]; exact RowIs.alloc hT2 _
 have hb4 : But b w W2 := by rw [hW2]; exact hb3.alloc _
 have hNP : PB ≠ w1.heap.size := by have := hP2.lt; omega
 have hNb : w1.heap.size ≠ b := by omega
 have hNge : PB ≤ w1.heap.size := Nat.le_of_lt hP2.lt
 clear hW2 hP2 hT2 hb3 hbw1
 generalize w1.heap.size = N at *
 refine (hn2 W2 hT3).mono ?_
 rintro e w3 ⟨rfl, hT4, hbt⟩
 have hN4 := hN3.but hbt hNb
 have hP4 := hP3.but hbt hPb
 have hb5 := hb4.trans hbt
 have hs5 : PB ≤ w3.heap.size := Nat.le_of_lt hP4.lt
 have hBw : w.heap.size ≤ w3.heap.size := hb5.size
 clear hN3 hP3 hT3 hb4 hbt hn2
 have ho0 : ∀ (e : TypeId) (z : Nat), w3.ownsRow PB e z (.slice none 0 0) 0 [] := fun e z => ⟨by simp, .inl ⟨rfl, rfl⟩⟩
 have hk0 : Taking PB b N w3 body kind (.slice none 0 0) (.slice none 0 0) (.slice none 0 0) [] [] [] := ⟨hT4, hN4, ho0 _ _, ho0 _ _, ho0 _ _⟩
 clear hT4 hN4 ho0
 have hcnt64 : (cnt : Int) < 18446744073709551616 := by omega
 have hkk := HKK.out
 clear HKK
 subst hkk
 have hTX := HTX.out
 have hTN := HTN.out
 rw [if_neg (by decide), if_neg (by decide), if_pos rfl] at hTX hTN
 clear HTX HTN
 go_wp2_with fail
 go_loopw [10] (fun v wr => ∃ c acc tt vi, c ≤ cnt ∧ v = .int .u64 ((cnt - c : Nat) : Int) ∧ Taking PB b N wr tt 3 (.slice none 0 0) (.slice none 0 0) vi [] [] acc ∧ acc ++ manyT volT volN c tt = manyT volT volN cnt body ∧ manyN volN c tt = manyN volN cnt body ∧ tt.left.length ≤ 1048576 ∧ acc.length + c = cnt ∧
  But b w wr ∧ RowIs wr PB 28 #[.int .u8 0, .slice none 0 0, .slice none 0 0, .slice none 0 0]) (fun v _ => cnt - (intOf v).toNat)
 case atStart => exact ⟨cnt, [], body, _, Nat.le_refl _, by simp, hk0, by simp, rfl, hbl, by simp, hb5, hP4⟩
 case round =>
  clear hk0 hb5 hP4
  obtain ⟨c, acc, tt, vi, hc, rfl, hk0, hacc, hmany, hl1, hal, hb0, hPr⟩ := hrel
  by_cases hc0 : c = 0
  ·subst hc0
   have HN := Lib.hid (show NN = ⟨3, [], [], acc⟩ by rw [hTN, ← hacc, manyT, List.append_nil])
   have HX := Lib.hid (show TX = tt by rw [hTX, ← hmany, manyN])
   clear hacc hmany hTN hTX
   obtain ⟨p3, c3, rfl⟩ : ∃ p c, vi = .slice p acc.length c := own_shape hk0.ov
   have hNN : NN = ⟨3, [], [], acc⟩ := HN.out
   have hTT : TX = tt := HX.out
   subst hNN
   have hst := store_row hPr (D := #[.int .u8 3, .slice none 0 0, .slice none 0 0, .slice p3 acc.length c3]) rfl
   have hthere := hPr.there 0 4 (Nat.le_refl 4)
   have hnd := hk0.nd
   have hone : (#[.int .u8 3, .slice none 0 0, .slice none 0 0, .slice p3 acc.length c3] : Array Value).all (·.oneCell') = true := by simp [Value.oneCell']
   have hsz4 : (Tryz.prog.info? 28).map (·.size) = some (#[.int .u8 3, .slice none 0 0, .slice none 0 0, .slice p3 acc.length c3] : Array Value).size := by kernel_rfl
   have hbz := hb0.thenBelow (v := wr.setCells PB 0 (#[.int .u8 3, .slice none 0 0, .slice none 0 0, .slice p3 acc.length c3] : Array Value).toList) (by rw [hPP]; exact setCells_below PB PB (Nat.le_refl _) _ 0 _ _ (Below.refl PB wr))
   have hkz := (hk0.own hwfT).store hPr (#[.int .u8 3, .slice none 0 0, .slice none 0 0, .slice p3 acc.length c3] : Array Value).toList 0
   have hTz : TkAt (wr.setCells PB 0 (#[.int .u8 3, .slice none 0 0, .slice none 0 0, .slice p3 acc.length c3] : Array Value).toList) b TX := by rw [hTT]; exact (setCells_other PB b (fun q => hPb q.symm) _ 0 wr).trans hk0.tk
   have HZ := Lib.hid (And.intro hst (And.intro hbz (And.intro hkz hTz)))
   clear hst hbz hkz hTz
   go_wp2_with (first | (refine wpList_load_row rfl 28 _ rfl N rfl 28 #[.int .u8 3, .slice none 0 0, .slice none 0 0, .slice p3 acc.length c3] (0, 0) _ hnd Tryz.underlying28 rfl hsz4 ?_) | (refine wpList_store_mid rfl 28 _ _ rfl PB 0 #[.int .u8 3, .slice none 0 0, .slice none 0 0, .slice p3 acc.length c3] rfl rfl hthere hsz4 hone ?_))
   try rw [Exit.noGoto_ret]
   refine bodyPost_ret (v := .agg #[.int .u8 3, .slice none 0 0, .slice none 0 0, .slice p3 acc.length c3]) (results_cell_row (p := 2) (ty := 28) (by rfl) _ _ PB 28 #[.int .u8 3, .slice none 0 0, .slice none 0 0, .slice p3 acc.length c3] (0, 0) _ (by rfl) HZ.out.1 Tryz.underlying28 (by rfl) hsz4) (by rfl) ?_
   exact ⟨_, rfl, by rw [hPP]; exact HZ.out.2.2.1, HZ.out.2.2.2, HZ.out.2.1⟩
  ·have hltc : ((cnt - c : Nat) : Int) < (cnt : Int) := by omega
   have d0 : wr.cell? ⟨N, 0, none⟩ = some (.int .u8 3) := by rw [hk0.nd.cell]; rfl
   have hltn : (tkNext (tkNext (tkNext (tkNext (txN (txN tt)) 1) 8) 4) 32).left.length ≤ 1048576 := (Nat.le_trans (next_left _ _) (Nat.le_trans (next_left _ _) (Nat.le_trans (next_left _ _) (Nat.le_trans (next_left _ _) (Nat.le_trans (txN_left _) (Nat.le_trans (txN_left _) hl1))))))
   go_wp2_with fail
   refine wp_region_gate 18 (S := fun w' => RowIs w' N 28 #[.int .u8 3, .slice none 0 0, .slice none 0 0, vi]) (by kernel_rfl) hk0.nd.drew (fun hHeld => ?_)
   have hk := hk0.below (Below.drew (Below.refl _ _))
   have hb := hb0.drew
   replace hPr := hPr.drew
   clear hk0 hb0
   generalize wr.drew = wv at *
   refine takep_G (i := 0) (v := ?_) (some 46) #[true, false, false, false, false, false, false, false, false, false, false, false, false, false, false, false, false, false, false, false, false] rfl rfl (by kernel_rfl) (by kernel_rfl) (by kernel_rfl) (by kernel_rfl) (fun _ _ _ h => h) (by kernel_rfl) hk.nd (Or.inl ⟨by rfl, ?_⟩) ?_
   rotate_left
   ·intro w_ hSw_; go_simp; try with_reducible rfl
   try simp only [Act.put, List.setIfInBounds_toArray, List.set_cons_zero, List.set_cons_succ]
   refine take_G (i := 1) (v := vi) (some 47) #[true, true, false, false, false, false, false, false, false, false, false, false, false, false, false, false, false, false, false, false, false] rfl rfl rfl (by kernel_rfl) (by kernel_rfl) (by kernel_rfl) (by kernel_rfl) (by kernel_rfl) (fun _ _ _ h => h) (by kernel_rfl) hk.nd (Or.inl ⟨by rfl, ?_⟩) ?_
   ·intro w_ hSw_; exact (by have hcc : w_.cell? ⟨N, 3, none⟩ = some vi := (by rw [RowIs.cell hSw_]; rfl); go_simp)
   try simp only [Act.put, List.setIfInBounds_toArray, List.set_cons_zero, List.set_cons_succ]
   refine takep_G (i := 2) (v := ?_) (some 48) #[true, true, true, false, false, false, false, false, false, false, false, false, false, false, false, false, false, false, false, false, false] rfl rfl (by kernel_rfl) (by kernel_rfl) (by kernel_rfl) (by kernel_rfl) (fun _ _ _ h => h) (by kernel_rfl) hk.nd (Or.inl ⟨by rfl, ?_⟩) ?_
   rotate_left
   ·intro w_ hSw_; go_simp; try with_reducible rfl
   try simp only [Act.put, List.setIfInBounds_toArray, List.set_cons_zero, List.set_cons_succ]
   refine takep_G (i := 4) (v := ?_) (some 50) #[true, true, true, false, true, false, false, false, false, false, false, false, false, false, false, false, false, false, false, false, false] rfl rfl (by kernel_rfl) (by kernel_rfl) (by kernel_rfl) (by kernel_rfl) (fun _ _ _ h => h) (by kernel_rfl) hk.nd (Or.inl ⟨by rfl, ?_⟩) ?_
   rotate_left
   ·intro w_ hSw_; go_simp; try with_reducible rfl
   try simp only [Act.put, List.setIfInBounds_toArray, List.set_cons_zero, List.set_cons_succ]
   refine takep_G (i := 6) (v := ?_) (some 52) #[true, true, true, false, true, false, true, false, false, false, false, false, false, false, false, false, false, false, false, false, false] rfl rfl (by kernel_rfl) (by kernel_rfl) (by kernel_rfl) (by kernel_rfl) (fun _ _ _ h => h) (by kernel_rfl) hk.nd (Or.inl ⟨by rfl, ?_⟩) ?_
   rotate_left
   ·intro w_ hSw_; go_simp; try with_reducible rfl
   try simp only [Act.put, List.setIfInBounds_toArray, List.set_cons_zero, List.set_cons_succ]
   refine takep_G (i := 9) (v := ?_) (some 55) #[true, true, true, false, true, false, true, false, false, true, false, false, false, false, false, false, false, false, false, false, false] rfl rfl (by kernel_rfl) (by kernel_rfl) (by kernel_rfl) (by kernel_rfl) (fun _ _ _ h => h) (by kernel_rfl) hk.nd (Or.inl ⟨by rfl, ?_⟩) ?_
   rotate_left
   ·intro w_ hSw_; go_simp; try with_reducible rfl
   try simp only [Act.put, List.setIfInBounds_toArray, List.set_cons_zero, List.set_cons_succ]
   refine takep_G (i := 11) (v := ?_) (some 57) #[true, true, true, false, true, false, true, false, false, true, false, true, false, false, false, false, false, false, false, false, false] rfl rfl (by kernel_rfl) (by kernel_rfl) (by kernel_rfl) (by kernel_rfl) (fun _ _ _ h => h) (by kernel_rfl) hk.nd (Or.inl ⟨by rfl, ?_⟩) ?_
   rotate_left
   ·intro w_ hSw_; go_simp; try with_reducible rfl
   try simp only [Act.put, List.setIfInBounds_toArray, List.set_cons_zero, List.set_cons_succ]
   refine takep_G (i := 14) (v := ?_) (some 60) #[true, true, true, false, true, false, true, false, false, true, false, true, false, false, true, false, false, false, false, false, false] rfl rfl (by kernel_rfl) (by kernel_rfl) (by kernel_rfl) (by kernel_rfl) (fun _ _ _ h => h) (by kernel_rfl) hk.nd (Or.inl ⟨by rfl, ?_⟩) ?_
   rotate_left
   ·intro w_ hSw_; go_simp; try with_reducible rfl
   try simp only [Act.put, List.setIfInBounds_toArray, List.set_cons_zero, List.set_cons_succ]
   refine step_G (i := 3) #[true, true, true, true, true, false, true, false, false, true, false, true, false, false, true, false, false, false, false, false, false] rfl (by kernel_rfl) (by kernel_rfl) (fun K hK => ?_)
   rw [if_pos (by rfl)]
   go_simp
   refine (ttext_calls b tt _ hk.tk hl1).mono ?_
   rintro e wa ⟨rfl, hTwa, hbtwa⟩
   have hkwa := hk.but hbtwa hTwa hNb
   replace hb := hb.trans hbtwa
   replace hPr := hPr.but hbtwa hPb
   clear hk hbtwa hTwa
   have hk := hkwa
   clear hkwa
   refine hK.out _ _ hk.nd ?_
   clear hK K
   refine step_G (i := 5) #[true, true, true, true, true, true, true, false, false, true, false, true, false, false, true, false, false, false, false, false, false] rfl (by kernel_rfl) (by kernel_rfl) (fun K hK => ?_)
   rw [if_pos (by rfl)]
   go_simp
   refine (ttext_calls b (txN tt) _ hk.tk (Nat.le_trans (txN_left _) hl1)).mono ?_
   rintro e wb ⟨rfl, hTwb, hbtwb⟩
   have hkwb := hk.but hbtwb hTwb hNb
   replace hb := hb.trans hbtwb
   replace hPr := hPr.but hbtwb hPb
   clear hk hbtwb hTwb
   have hk := hkwb
   clear hkwb
   refine hK.out _ _ hk.nd ?_
   clear hK K
   refine step_G (i := 7) #[true, true, true, true, true, true, true, true, false, true, false, true, false, false, true, false, false, false, false, false, false] rfl (by kernel_rfl) (by kernel_rfl) (fun K hK => ?_)
   rw [if_pos (by rfl)]
   go_simp
   refine (tnumber_calls b (txN (txN tt)) 1 _ hk.tk (Nat.le_trans (txN_left _) (Nat.le_trans (txN_left _) hl1)) (by omega) (by omega)).mono ?_
   rintro e wc ⟨rfl, hTwc, hbtwc⟩
   have hkwc := hk.but hbtwc hTwc hNb
   replace hb := hb.trans hbtwc
   replace hPr := hPr.but hbtwc hPb
   clear hk hbtwc hTwc
   have hk := hkwc
   clear hkwc
   refine hK.out _ _ hk.nd ?_
   clear hK K
   refine takep_G (i := 8) (v := .int .u8 (numT (txN (txN tt)) 1 : Int)) (some 54) #[true, true, true, true, true, true, true, true, true, true, false, true, false, false, true, false, false, false, false, false, false] rfl rfl (by kernel_rfl) (by kernel_rfl) (by kernel_rfl) (by kernel_rfl) (fun _ _ _ h => h) (by kernel_rfl) hk.nd (Or.inl ⟨by rfl, ?_⟩) ?_
   ·intro w_ hSw_; exact exec_conv rfl rfl (cast_u8 _ _ (numT_lt (txN (txN tt)) 1))
   try simp only [Act.put, List.setIfInBounds_toArray, List.set_cons_zero, List.set_cons_succ]
   refine step_G (i := 10) #[true, true, true, true, true, true, true, true, true, true, true, true, false, false, true, false, false, false, false, false, false] rfl (by kernel_rfl) (by kernel_rfl) (fun K hK => ?_)
   rw [if_pos (by rfl)]
   go_simp
   refine (tnumber_calls b (tkNext (txN (txN tt)) 1) 8 _ hk.tk (Nat.le_trans (next_left _ _) (Nat.le_trans (txN_left _) (Nat.le_trans (txN_left _) hl1))) (by omega) (by omega)).mono ?_
   rintro e wd ⟨rfl, hTwd, hbtwd⟩
   have hkwd := hk.but hbtwd hTwd hNb
   replace hb := hb.trans hbtwd
   replace hPr := hPr.but hbtwd hPb
   clear hk hbtwd hTwd
   have hk := hkwd
   clear hkwd
   refine hK.out _ _ hk.nd ?_
   clear hK K
   refine step_G (i := 12) #[true, true, true, true, true, true, true, true, true, true, true, true, true, false, true, false, false, false, false, false, false] rfl (by kernel_rfl) (by kernel_rfl) (fun K hK => ?_)
   rw [if_pos (by rfl)]
   go_simp
   refine (tnumber_calls b (tkNext (tkNext (txN (txN tt)) 1) 8) 4 _ hk.tk (Nat.le_trans (next_left _ _) (Nat.le_trans (next_left _ _) (Nat.le_trans (txN_left _) (Nat.le_trans (txN_left _) hl1)))) (by omega) (by omega)).mono ?_
   rintro e we ⟨rfl, hTwe, hbtwe⟩
   have hkwe := hk.but hbtwe hTwe hNb
   replace hb := hb.trans hbtwe
   replace hPr := hPr.but hbtwe hPb
   clear hk hbtwe hTwe
   have hk := hkwe
   clear hkwe
   refine hK.out _ _ hk.nd ?_
   clear hK K
   refine takep_G (i := 13) (v := .int .u32 (numT (tkNext (tkNext (txN (txN tt)) 1) 8) 4 : Int)) (some 59) #[true, true, true, true, true, true, true, true, true, true, true, true, true, true, true, false, false, false, false, false, false] rfl rfl (by kernel_rfl) (by kernel_rfl) (by kernel_rfl) (by kernel_rfl) (fun _ _ _ h => h) (by kernel_rfl) hk.nd (Or.inl ⟨by rfl, ?_⟩) ?_
   ·intro w_ hSw_; exact exec_conv rfl rfl (cast_u32 _ _ (numT_lt (tkNext (tkNext (txN (txN tt)) 1) 8) 4))
   try simp only [Act.put, List.setIfInBounds_toArray, List.set_cons_zero, List.set_cons_succ]
   refine step_G (i := 15) #[true, true, true, true, true, true, true, true, true, true, true, true, true, true, true, true, false, false, false, false, false] rfl (by kernel_rfl) (by kernel_rfl) (fun K hK => ?_)
   rw [if_pos (by rfl)]
   go_simp
   refine (thash_calls b (tkNext (tkNext (tkNext (txN (txN tt)) 1) 8) 4) _ hk.tk (Nat.le_trans (next_left _ _) (Nat.le_trans (next_left _ _) (Nat.le_trans (next_left _ _) (Nat.le_trans (txN_left _) (Nat.le_trans (txN_left _) hl1)))))).mono ?_
   rintro e wf ⟨rfl, hTwf, hbtwf⟩
   have hkwf := hk.but hbtwf hTwf hNb
   replace hb := hb.trans hbtwf
   replace hPr := hPr.but hbtwf hPb
   clear hk hbtwf hTwf
   have hk := hkwf
   clear hkwf
   refine hK.out _ _ hk.nd ?_
   clear hK K
   refine step_G (i := 16) #[true, true, true, true, true, true, true, true, true, true, true, true, true, true, true, true, true, false, false, false, false] rfl (by kernel_rfl) (by kernel_rfl) (fun K hK => ?_)
   rw [if_pos (by rfl)]
   refine wp_build_eq 89 [(0, .tmp 49), (2, .tmp 51), (1, .tmp 54), (3, .tmp 56), (4, .tmp 59), (5, .tmp 61)] rfl _ (by exact built_vol (strOf (txT tt)) (strOf (txT (txN tt))) (numT (txN (txN tt)) 1 : Int) (numT (tkNext (txN (txN tt)) 1) 8 : Int) (numT (tkNext (tkNext (txN (txN tt)) 1) 8) 4 : Int) (hashT (tkNext (tkNext (tkNext (txN (txN tt)) 1) 8) 4)) (hashT_length _)) ?_
   refine hK.out _ _ hk.nd ?_
   clear hK K
   refine step_G (i := 17) #[true, true, true, true, true, true, true, true, true, true, true, true, true, true, true, true, true, true, false, false, false] rfl (by kernel_rfl) (by kernel_rfl) (fun K hK => ?_)
   rw [if_pos (by rfl)]
   refine wp_buildSlice_one 26 89 _ rfl Tryz.underlying26 iV0 hV _ hVz0 37 hVz1 _ rfl (by rw [List.size_toArray]; exact volV_length (v := volT tt) (hashT_length _)) (by omega) (by omega) ?_
   have hk7 := hk.below ((Below.refl _ _).alloc (Nat.le_refl _) (.cells (volV (volT tt)).toArray 89))
   have hb7 := hb.alloc (.cells (volV (volT tt)).toArray 89)
   have hP7 := hPr.alloc (.cells (volV (volT tt)).toArray 89)
   have hrow7 := RowIs.new wf 89 (volV (volT tt)).toArray
   change K _ (wf.alloc (.cells (volV (volT tt)).toArray 89))
   generalize wf.alloc (.cells (volV (volT tt)).toArray 89) = wz at *
   generalize wf.heap.size = X at *
   clear hk hb hPr
   have hk := hk7
   have hb := hb7
   have hPr := hP7
   clear hk7 hb7 hP7
   refine hK.out _ _ hk.nd ?_
   clear hK K
   refine gate_G (i := 18) #[true, true, true, true, true, true, true, true, true, true, true, true, true, true, true, true, true, true, true, false, false] rfl (by kernel_rfl) (by kernel_rfl) (fun K hK => ?_)
   rw [if_pos (by rfl)]
   refine wp_append_own _ _ _ 26 rfl PB 89 iV0 (.agg volZ) 37 88 Tryz.underlying26 hV hVz0 hVz1 hVz2 rfl (by decide) vi acc.length (acc.flatMap volV) rfl hk.ov ⟨X, 0, none⟩ 1 1 (volV (volT tt)) rfl (volV_length (hashT_length _)) (fun j u hj => by rw [Addr.add_mid, Nat.zero_add, RowIs.cell hrow7, ← hj]; simp) (fun u hu => Array.all_eq_true_iff_forall_mem.1 (volV_one _) u (by simpa using hu)) (by unfold maxLen; omega) (by omega) (Nat.le_of_lt hPr.lt) ?_
   intro v' wd hown' hgrow _
   have hot := fun g hg => own_type hk.ov (g := g) hg
   have hNd := row_grown hk.nd hgrow (fun q => by obtain ⟨cc, hcc⟩ := hot N q.symm; have := hk.nd; unfold RowIs at this; rw [this] at hcc; injection hcc with hcc; injection hcc with _ q2 _; exact absurd q2 (by decide))
   have hTd : TkAt wd b _ := row_grown hk.tk hgrow (fun q => by obtain ⟨cc, hcc⟩ := hot b q.symm; have := hk.tk; unfold TkAt RowIs at this; rw [this] at hcc; injection hcc with hcc; injection hcc with _ q2 _; exact absurd q2 (by decide))
   have hPd := row_grown hPr hgrow (fun q => by obtain ⟨cc, hcc⟩ := hot PB q.symm; have := hPr; unfold RowIs at this; rw [this] at hcc; injection hcc with hcc; injection hcc with _ q2 _; exact absurd q2 (by decide))
   have hkoi := owns_grown hk.oi hgrow (fun g hg cc hcc => by obtain ⟨c2, h2⟩ := hot g hg; rw [h2] at hcc; injection hcc with hcc; injection hcc with _ q2 _; exact absurd q2 (by decide))
   have hkok := owns_grown hk.ok hgrow (fun g hg cc hcc => by obtain ⟨c2, h2⟩ := hot g hg; rw [h2] at hcc; injection hcc with hcc; injection hcc with _ q2 _; exact absurd q2 (by decide))
   have hbd : But b w wd := hb.thenBelow (by rw [hPP]; exact (Below.refl PB wz).grown hgrow (Nat.le_of_lt hPr.lt) (fun k hq => (hk.ov.lt k hq).1))
   have hcd : wd.cell? ⟨N, 3, none⟩ = some vi := by rw [hNd.cell]; rfl
   have hfd := hNd.free 3
   have hsnoc : (acc ++ [volT tt]).flatMap volV = acc.flatMap volV ++ volV (volT tt) := by rw [List.flatMap_append]; simp
   have hlen1 : (acc ++ [volT tt]).length = acc.length + 1 := by simp
   rw [← hsnoc] at hown'
   obtain ⟨p', c', rfl⟩ := own_shape hown'
   refine hK.out _ _ trivial ?_
   clear hK K
   refine take_N (i := 19) (v := ?_) (some 65) #[true, true, true, true, true, true, true, true, true, true, true, true, true, true, true, true, true, true, true, true, false] rfl rfl (by kernel_rfl) (by kernel_rfl) (by kernel_rfl) (by kernel_rfl) (fun _ _ _ h => h) trivial (Or.inl ⟨by rfl, ?_⟩) ?_
   rotate_left
   ·intro w_ hSw_; go_simp; try with_reducible rfl
   try simp only [Act.put, List.setIfInBounds_toArray]
   refine step_N (i := 20) #[true, true, true, true, true, true, true, true, true, true, true, true, true, true, true, true, true, true, true, true, true] rfl (by kernel_rfl) (by kernel_rfl) (fun K hK => ?_)
   rw [if_pos (by rfl)]
   go_simp
   have hbe : But b w (wd.setCell ⟨N, 3, none⟩ (.slice p' (acc.length + 1) c')) := hbd.thenBelow (by rw [hPP]; exact (Below.refl PB wd).setCell (p := ⟨N, 3, none⟩) hNge _)
   have hbN := (But.refl N wd).setCell 3 (.slice p' (acc.length + 1) c')
   have hqN : ∀ (e : TypeId) cc, e ≠ 28 → wd.heap[N]? ≠ some (.cells cc e (0, 0)) := fun e cc he hx => by have := hNd; unfold RowIs at this; rw [hx] at this; injection this with this; injection this with _ q2 _; exact he q2
   have hke : Taking PB b N (wd.setCell ⟨N, 3, none⟩ (.slice p' (acc.length + 1) c')) (tkNext (tkNext (tkNext (tkNext (txN (txN tt)) 1) 8) 4) 32) 3 (.slice none 0 0) (.slice none 0 0) (.slice p' (acc.length + 1) c') [] [] (acc ++ [volT tt]) := ⟨RowIs.other hTd _ _ (fun q => hNb q.symm), hNd.set 3 _, (ownsRow_but hkoi hbN (fun cc => hqN _ cc (by decide))), (ownsRow_but hkok hbN (fun cc => hqN _ cc (by decide))), (by rw [hlen1]; exact ownsRow_but hown' hbN (fun cc => hqN _ cc (by decide)))⟩
   have hPe := RowIs.other hPd ⟨N, 3, none⟩ (.slice p' (acc.length + 1) c') hNP
   generalize wd.setCell ⟨N, 3, none⟩ (.slice p' (acc.length + 1) c') = we at *
   clear hk hb hPr hNd hTd hPd hkoi hkok hbd hcd hfd hown' hgrow hot hbN hqN hrow7
   refine hK.out _ _ trivial ?_
   clear hK K
   refine wpAnyH_done (by kernel_rfl) ?_ _
   clear hHeld hsnoc
   have hlc : acc.length + 1 + (c - 1) = cnt := by omega
   have HA := Lib.hid (show acc ++ manyT volT volN c tt = manyT volT volN cnt body from hacc)
   have HM := Lib.hid hmany
   have HL := Lib.hid (And.intro hlc hlen1)
   have HTT := Lib.hid (And.intro hTN hTX)
   clear hacc hmany hal hlc hlen1 hTN hTX
   cases hbad : (tkNext (tkNext (tkNext (tkNext (txN (txN tt)) 1) 8) 4) 32).bad
   ·have hB : we.cell? ⟨b, 1, none⟩ = some (.bool false) := by rw [RowIs.cell hke.tk 1]; simp [hbad]
    go_wp2_with fail
    have hst := many_ok (f := volT) (g := volN) (t := tt) hc0 hbad
    refine ⟨⟨c - 1, acc ++ [volT tt], tkNext (tkNext (tkNext (tkNext (txN (txN tt)) 1) 8) 4) 32, _, by omega, by rw [show cnt - (c - 1) = (cnt - c) + 1 by omega]; simp, hke, ?_, ?_, hltn, ?_, hbe, hPe⟩, ?_⟩
    ·rw [← HA.out, hst.1, List.append_assoc]; rfl
    ·rw [← HM.out, hst.2]; rfl
    ·rw [HL.out.2]; exact HL.out.1
    ·simp only [intOf]; omega
   ·have hB : we.cell? ⟨b, 1, none⟩ = some (.bool true) := by rw [RowIs.cell hke.tk 1]; simp [hbad]
    have hst := many_bad (f := volT) (g := volN) (t := tt) hc0 hbad
    have HN := Lib.hid (show NN = ⟨3, [], [], acc ++ [volT tt]⟩ by rw [HTT.out.1, ← HA.out, hst.1])
    have HX := Lib.hid (show TX = tkNext (tkNext (tkNext (tkNext (txN (txN tt)) 1) 8) 4) 32 by rw [HTT.out.2, ← HM.out, hst.2]; rfl)
    clear hst
    have hNN : NN = ⟨3, [], [], (acc ++ [volT tt])⟩ := HN.out
    have hTT : TX = (tkNext (tkNext (tkNext (tkNext (txN (txN tt)) 1) 8) 4) 32) := HX.out
    subst hNN
    have hst := store_row hPe (D := #[.int .u8 3, .slice none 0 0, .slice none 0 0, (.slice p' (acc.length + 1) c')]) rfl
    have hthere := hPe.there 0 4 (Nat.le_refl 4)
    have hnd := hke.nd
    have hone : (#[.int .u8 3, .slice none 0 0, .slice none 0 0, (.slice p' (acc.length + 1) c')] : Array Value).all (·.oneCell') = true := by simp [Value.oneCell']
    have hsz4 : (Tryz.prog.info? 28).map (·.size) = some (#[.int .u8 3, .slice none 0 0, .slice none 0 0, (.slice p' (acc.length + 1) c')] : Array Value).size := by kernel_rfl
    have hbz := hbe.thenBelow (v := we.setCells PB 0 (#[.int .u8 3, .slice none 0 0, .slice none 0 0, (.slice p' (acc.length + 1) c')] : Array Value).toList) (by rw [hPP]; exact setCells_below PB PB (Nat.le_refl _) _ 0 _ _ (Below.refl PB we))
    have hkz := (hke.own hwfT).store hPe (#[.int .u8 3, .slice none 0 0, .slice none 0 0, (.slice p' (acc.length + 1) c')] : Array Value).toList 0
    have hTz : TkAt (we.setCells PB 0 (#[.int .u8 3, .slice none 0 0, .slice none 0 0, (.slice p' (acc.length + 1) c')] : Array Value).toList) b TX := by rw [hTT]; exact (setCells_other PB b (fun q => hPb q.symm) _ 0 we).trans hke.tk
    have HZ := Lib.hid (And.intro hst (And.intro hbz (And.intro hkz hTz)))
    clear hst hbz hkz hTz
    go_wp2_with (first | (refine wpList_load_row rfl 28 _ rfl N rfl 28 #[.int .u8 3, .slice none 0 0, .slice none 0 0, (.slice p' (acc.length + 1) c')] (0, 0) _ hnd Tryz.underlying28 rfl hsz4 ?_) | (refine wpList_store_mid rfl 28 _ _ rfl PB 0 #[.int .u8 3, .slice none 0 0, .slice none 0 0, (.slice p' (acc.length + 1) c')] rfl rfl hthere hsz4 hone ?_))
    try rw [Exit.noGoto_ret]
    refine bodyPost_ret (v := .agg #[.int .u8 3, .slice none 0 0, .slice none 0 0, (.slice p' (acc.length + 1) c')]) (results_cell_row (p := 2) (ty := 28) (by rfl) _ _ PB 28 #[.int .u8 3, .slice none 0 0, .slice none 0 0, (.slice p' (acc.length + 1) c')] (0, 0) _ (by rfl) HZ.out.1 Tryz.underlying28 (by rfl) hsz4) (by rfl) ?_
    exact ⟨_, rfl, by rw [hPP]; exact HZ.out.2.2.1, HZ.out.2.2.2, HZ.out.2.1⟩

end Go.Proofs.YtimkklaidodkdaaGreatDoor

namespace Go.Proofs.YtimkklaidodkdaaGreatDoor
open Go.RowKit

set_option maxRecDepth 100000 in
set_option maxHeartbeats 6400000 in
theorem take_none_calls (b : Nat) (t : TkD) (w : World) (h : TkAt w b t) (hl : t.left.length ≤ 1048576) (hkk : kindT t ≠ 1 ∧ kindT t ≠ 2 ∧ kindT t ≠ 3) :
  Calls Tryz.prog 106 #[.pointer (some ⟨b, 0, none⟩)] w fun e w' => ∃ v, e = .returned v ∧ OwnAt w.heap.size w' v (takeN t) ∧ TkAt w' b (takeX t) ∧ But b w w' := by
 have hkt := numT_lt t 1
 have hn1 := fun w h => tnumber_calls b t 1 w h hl (by omega) (by omega)
 have hn2 := fun w h => tnumber_calls b (tkNext t 1) 1 w h (Nat.le_trans (next_left _ _) hl) (by omega) (by omega)
 rw [show ((1 : Nat) : Int) = 1 from rfl] at hn1 hn2
 have hct := numT_lt (tkNext t 1) 1
 have hbl : (bodyT t).left.length ≤ 1048576 := Nat.le_trans (next_left _ _) (Nat.le_trans (next_left _ _) hl)
 have hbody : tkNext (tkNext t 1) 1 = bodyT t := rfl
 have hkind : numT t 1 = kindT t := rfl
 have hcount : numT (tkNext t 1) 1 = countT t := rfl
 rw [hbody, hcount] at hn2
 rw [hkind] at hn1 hkt
 rw [hcount] at hct
 have hbw := RowIs.lt h
 clear hbody hkind hcount
 generalize hkd : kindT t = kind at *
 generalize hcd : countT t = cnt at *
 generalize hbd : bodyT t = body at *
 generalize tkNext t 1 = t1 at *
 have hTN : takeN t = (if kind = 1 then ⟨1, manyT itemT itemN cnt body, [], []⟩ else if kind = 2 then ⟨2, [], manyT kidT kidN cnt body, []⟩ else if kind = 3 then ⟨3, [], [], manyT volT volN cnt body⟩ else ⟨kind, [], [], []⟩) := by rw [takeN, hkd, hcd, hbd]
 have hTX : takeX t = (if kind = 1 then manyN itemN cnt body else if kind = 2 then manyN kidN cnt body else if kind = 3 then manyN volN cnt body else if cnt = 0 then body else ⟨body.left, true⟩) := by rw [takeX, hkd, hcd, hbd]
 have hwfT := takeN_wf t
 generalize takeN t = NN at *
 generalize takeX t = TX at *
 have HTN := Lib.hid hTN
 have HTX := Lib.hid hTX
 clear hTN hTX hkd hcd hbd
 have HKK := Lib.hid hkk
 clear hkk
 have hk8 : IntKind.u8.wrap (kind : Int) = (kind : Int) := by rw [IntKind.wrap_u8]; omega
 go_enter Tryz.func106, Tryz.ntmps106
 go_wp2_with fail
 obtain ⟨W1, hW1⟩ : ∃ W1, W1 = w.alloc (.cells #[.int .u8 0, .slice none 0 0, .slice none 0 0, .slice none 0 0] 28) := ⟨_, rfl⟩
 rw [← hW1]
 have hP : RowIs W1 w.heap.size 28 #[.int .u8 0, .slice none 0 0, .slice none 0 0, .slice none 0 0] := by rw [hW1]; exact RowIs.new w _ _
 have hT1 : TkAt W1 b t := by rw [hW1]; exact RowIs.alloc h _
 have hb1 : But b w W1 := by rw [hW1]; exact (But.refl b w).alloc _
 have hPb : w.heap.size ≠ b := by omega
 clear hW1 h
 generalize hPP : w.heap.size = PB at *
 go_step3
 go_wp2_with fail
 refine (hn1 W1 hT1).mono ?_
 rintro e w1 ⟨rfl, hT2, hb2⟩
 have hP2 := hP.but hb2 hPb
 have hb3 := hb1.trans hb2
 have hbw1 := RowIs.lt hT2
 clear hP hT1 hb1 hb2 hn1
 go_wp2_with fail
 go_step3
 go_wp2_with fail
 obtain ⟨W2, hW2⟩ : ∃ W2, W2 = w1.alloc (.cells #[.int .u8 (kind : Int), .slice none 0 0, .slice none 0 0, .slice none 0 0] 28) := ⟨_, rfl⟩
 rw [← hW2]
 have hN3 : RowIs W2 w1.heap.size 28 #[.int .u8 (kind : Int), .slice none 0 0, .slice none 0 0, .slice none 0 0] := by rw [hW2]; exact RowIs.new w1 _ _
 have hP3 := hP2.alloc (.cells #[.int .u8 (kind : Int), .slice none 0 0, .slice none 0 0, .slice none 0 0] 28)
 rw [← hW2] at hP3
 have hT3 : TkAt W2 b t1 := by rw [hW2]; exact RowIs.alloc hT2 _
 have hb4 : But b w W2 := by rw [hW2]; exact hb3.alloc _
 have hNP : PB ≠ w1.heap.size := by have := hP2.lt; omega
 have hNb : w1.heap.size ≠ b := by omega
 have hNge : PB ≤ w1.heap.size := Nat.le_of_lt hP2.lt
 clear hW2 hP2 hT2 hb3 hbw1
 generalize w1.heap.size = N at *
 refine (hn2 W2 hT3).mono ?_
 rintro e w3 ⟨rfl, hT4, hbt⟩
 have hN4 := hN3.but hbt hNb
 have hP4 := hP3.but hbt hPb
 have hb5 := hb4.trans hbt
 have hs5 : PB ≤ w3.heap.size := Nat.le_of_lt hP4.lt
 have hBw : w.heap.size ≤ w3.heap.size := hb5.size
 clear hN3 hP3 hT3 hb4 hbt hn2
 have ho0 : ∀ (e : TypeId) (z : Nat), w3.ownsRow PB e z (.slice none 0 0) 0 [] := fun e z => ⟨by simp, .inl ⟨rfl, rfl⟩⟩
 have hk0 : Taking PB b N w3 body kind (.slice none 0 0) (.slice none 0 0) (.slice none 0 0) [] [] [] := ⟨hT4, hN4, ho0 _ _, ho0 _ _, ho0 _ _⟩
 clear hT4 hN4 ho0
 have hcnt64 : (cnt : Int) < 18446744073709551616 := by omega
 have hkk := HKK.out
 clear HKK
 obtain ⟨n1, n2, n3⟩ := hkk
 have hTX := HTX.out
 have hTN := HTN.out
 rw [if_neg n1, if_neg n2, if_neg n3] at hTX hTN
 clear HTX HTN
 have i1 : ¬ (kind : Int) = 1 := by omega
 have i2 : ¬ (kind : Int) = 2 := by omega
 have i3 : ¬ (kind : Int) = 3 := by omega
 clear n1 n2 n3
 have hwfT' := hwfT
 go_wp2_with fail
 go_loopw [10] (fun v wr => v = .int .u64 0 ∧ Taking PB b N wr body kind (.slice none 0 0) (.slice none 0 0) (.slice none 0 0) [] [] [] ∧ But b w wr ∧ RowIs wr PB 28 #[.int .u8 0, .slice none 0 0, .slice none 0 0, .slice none 0 0]) (fun v _ => 0)
 case atStart => exact ⟨rfl, hk0, hb5, hP4⟩
 case round =>
  clear hk0 hb5 hP4
  obtain ⟨rfl, hk0, hb0, hPr⟩ := hrel
  by_cases hc0 : cnt = 0
  ·subst hc0
   rw [if_pos rfl] at hTX
   have HN := Lib.hid hTN
   have HX := Lib.hid hTX
   clear hTN hTX
   have hNN : NN = ⟨kind, [], [], []⟩ := HN.out
   have hTT : TX = body := HX.out
   subst hNN
   have hst := store_row hPr (D := #[.int .u8 (kind : Int), .slice none 0 0, .slice none 0 0, .slice none 0 0]) rfl
   have hthere := hPr.there 0 4 (Nat.le_refl 4)
   have hnd := hk0.nd
   have hone : (#[.int .u8 (kind : Int), .slice none 0 0, .slice none 0 0, .slice none 0 0] : Array Value).all (·.oneCell') = true := by simp [Value.oneCell']
   have hsz4 : (Tryz.prog.info? 28).map (·.size) = some (#[.int .u8 (kind : Int), .slice none 0 0, .slice none 0 0, .slice none 0 0] : Array Value).size := by kernel_rfl
   have hbz := hb0.thenBelow (v := wr.setCells PB 0 (#[.int .u8 (kind : Int), .slice none 0 0, .slice none 0 0, .slice none 0 0] : Array Value).toList) (by rw [hPP]; exact setCells_below PB PB (Nat.le_refl _) _ 0 _ _ (Below.refl PB wr))
   have hkz := (hk0.own hwfT).store hPr (#[.int .u8 (kind : Int), .slice none 0 0, .slice none 0 0, .slice none 0 0] : Array Value).toList 0
   have hTz : TkAt (wr.setCells PB 0 (#[.int .u8 (kind : Int), .slice none 0 0, .slice none 0 0, .slice none 0 0] : Array Value).toList) b TX := by rw [hTT]; exact (setCells_other PB b (fun q => hPb q.symm) _ 0 wr).trans hk0.tk
   have HZ := Lib.hid (And.intro hst (And.intro hbz (And.intro hkz hTz)))
   clear hst hbz hkz hTz
   go_wp2_with (first | (refine wpList_load_row rfl 28 _ rfl N rfl 28 #[.int .u8 (kind : Int), .slice none 0 0, .slice none 0 0, .slice none 0 0] (0, 0) _ hnd Tryz.underlying28 rfl hsz4 ?_) | (refine wpList_store_mid rfl 28 _ _ rfl PB 0 #[.int .u8 (kind : Int), .slice none 0 0, .slice none 0 0, .slice none 0 0] rfl rfl hthere hsz4 hone ?_))
   try rw [Exit.noGoto_ret]
   refine bodyPost_ret (v := .agg #[.int .u8 (kind : Int), .slice none 0 0, .slice none 0 0, .slice none 0 0]) (results_cell_row (p := 2) (ty := 28) (by rfl) _ _ PB 28 #[.int .u8 (kind : Int), .slice none 0 0, .slice none 0 0, .slice none 0 0] (0, 0) _ (by rfl) HZ.out.1 Tryz.underlying28 (by rfl) hsz4) (by rfl) ?_
   exact ⟨_, rfl, by rw [hPP]; exact HZ.out.2.2.1, HZ.out.2.2.2, HZ.out.2.1⟩
  ·have hltc : (0 : Int) < (cnt : Int) := by omega
   rw [if_neg hc0] at hTX
   have d0 : wr.cell? ⟨N, 0, none⟩ = some (.int .u8 (kind : Int)) := by rw [hk0.nd.cell]; rfl
   have f1 : wr.frozen? ⟨b, 1, none⟩ = false := RowIs.free hk0.tk 1
   have c1 : wr.cell? ⟨b, 1, none⟩ = some (.bool body.bad) := by rw [RowIs.cell hk0.tk 1]; rfl
   have hTs : TkAt (wr.setCell ⟨b, 1, none⟩ (.bool true)) b ⟨body.left, true⟩ := RowIs.set hk0.tk 1 (.bool true)
   have hbs := (But.refl b wr).setCell 1 (.bool true)
   obtain ⟨W, hW⟩ : ∃ W, W = wr.setCell ⟨b, 1, none⟩ (.bool true) := ⟨_, rfl⟩
   rw [← hW] at hTs hbs
   have hkW := hk0.but hbs hTs hNb
   have hbW := hb0.trans hbs
   have hPW := hPr.but hbs hPb
   have cW : W.cell? ⟨b, 1, none⟩ = some (.bool true) := by rw [RowIs.cell hTs 1]; rfl
   have HW := Lib.hid hW
   clear hW hTs hbs hk0 hb0 hPr hkt hct hk8 hcnt64
   have HN := Lib.hid hTN
   have HX := Lib.hid hTX
   clear hTN hTX
   have hNN : NN = ⟨kind, [], [], []⟩ := HN.out
   have hTT : TX = (⟨body.left, true⟩ : TkD) := HX.out
   subst hNN
   have hst := store_row hPW (D := #[.int .u8 (kind : Int), .slice none 0 0, .slice none 0 0, .slice none 0 0]) rfl
   have hthere := hPW.there 0 4 (Nat.le_refl 4)
   have hnd := hkW.nd
   have hone : (#[.int .u8 (kind : Int), .slice none 0 0, .slice none 0 0, .slice none 0 0] : Array Value).all (·.oneCell') = true := by simp [Value.oneCell']
   have hsz4 : (Tryz.prog.info? 28).map (·.size) = some (#[.int .u8 (kind : Int), .slice none 0 0, .slice none 0 0, .slice none 0 0] : Array Value).size := by kernel_rfl
   have hbz := hbW.thenBelow (v := W.setCells PB 0 (#[.int .u8 (kind : Int), .slice none 0 0, .slice none 0 0, .slice none 0 0] : Array Value).toList) (by rw [hPP]; exact setCells_below PB PB (Nat.le_refl _) _ 0 _ _ (Below.refl PB W))
   have hkz := (hkW.own hwfT).store hPW (#[.int .u8 (kind : Int), .slice none 0 0, .slice none 0 0, .slice none 0 0] : Array Value).toList 0
   have hTz : TkAt (W.setCells PB 0 (#[.int .u8 (kind : Int), .slice none 0 0, .slice none 0 0, .slice none 0 0] : Array Value).toList) b TX := by rw [hTT]; exact (setCells_other PB b (fun q => hPb q.symm) _ 0 W).trans hkW.tk
   have HZ := Lib.hid (And.intro hst (And.intro hbz (And.intro hkz hTz)))
   clear hst hbz hkz hTz
   go_wp2_with (first | (refine wpList_world HW.out ?_) | (refine wpList_load_row rfl 28 _ rfl N rfl 28 #[.int .u8 (kind : Int), .slice none 0 0, .slice none 0 0, .slice none 0 0] (0, 0) _ hnd Tryz.underlying28 rfl hsz4 ?_) | (refine wpList_store_mid rfl 28 _ _ rfl PB 0 #[.int .u8 (kind : Int), .slice none 0 0, .slice none 0 0, .slice none 0 0] rfl rfl hthere hsz4 hone ?_))
   try rw [Exit.noGoto_ret]
   refine bodyPost_ret (v := .agg #[.int .u8 (kind : Int), .slice none 0 0, .slice none 0 0, .slice none 0 0]) (results_cell_row (p := 2) (ty := 28) (by rfl) _ _ PB 28 #[.int .u8 (kind : Int), .slice none 0 0, .slice none 0 0, .slice none 0 0] (0, 0) _ (by rfl) HZ.out.1 Tryz.underlying28 (by rfl) hsz4) (by rfl) ?_
   exact ⟨_, rfl, by rw [hPP]; exact HZ.out.2.2.1, HZ.out.2.2.2, HZ.out.2.1⟩

/-- What take takes. -/
theorem take_node_calls (b : Nat) (t : TkD) (w : World) (h : TkAt w b t) (hl : t.left.length ≤ 1048576) :
  Calls Tryz.prog 106 #[.pointer (some ⟨b, 0, none⟩)] w fun e w' => ∃ v, e = .returned v ∧ OwnAt w.heap.size w' v (takeN t) ∧ TkAt w' b (takeX t) ∧ But b w w' := by
 by_cases h1 : kindT t = 1
 ·exact take_items_calls b t w h hl h1
 ·by_cases h2 : kindT t = 2
  ·exact take_kids_calls b t w h hl h2
  ·by_cases h3 : kindT t = 3
   ·exact take_vols_calls b t w h hl h3
   ·exact take_none_calls b t w h hl ⟨h1, h2, h3⟩

end Go.Proofs.YtimkklaidodkdaaGreatDoor
