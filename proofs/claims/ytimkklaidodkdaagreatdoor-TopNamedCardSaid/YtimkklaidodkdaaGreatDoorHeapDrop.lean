/- store.remove, store.let: walked; what they let go. -/
/- heap.Drop: walked. -/
import Derived.Test.YtimkklaidodkdaaGreatDoorHeapIns
namespace Go.Proofs.YtimkklaidodkdaaGreatDoor
open Go.RowKit

/-- What the growing of the row of pointers leaves of a store. -/
theorem store_rows {B : Nat} {w w1 : World} {S size : Nat} {vs : Value} {L : List CellM} (h : StoreAt B w S size vs L) (hg : w.grownBy w1 vs.ownBlock) : Keep B w w1 ∧ (∃ ask, RowIs w1 S 118 #[.int .u32 (size : Int), vs, .int .i64 ask]) ∧ ∀ c, CellAt B w c → CellAt B w1 c := by
  obtain ⟨ask, hS, ho⟩ := h.row
  have hot := fun g hg => own_type ho (g := g) hg
  have hk : Keep B w w1 := Keep.grown hg (fun k hk => ⟨(ho.lt k hk).1, by obtain ⟨c, hc⟩ := hot k hk; exact ⟨c, _, hc, by decide⟩⟩)
  have hr : ∀ {b : Nat} {t : TypeId} {D : Array Value}, RowIs w b t D → t ≠ 106 → RowIs w1 b t D := fun hr hne => row_grown hr hg (fun q => by obtain ⟨c, hc⟩ := hot _ q.symm; exact hne (row_type hr hc))
  exact ⟨hk, ⟨ask, hr hS (by decide)⟩, fun c hc => hc.keep hk h.hB ((hr hc.row (by decide)).trans hc.row.symm)⟩
/-- The store's slice is another one. -/
theorem store_swap {B : Nat} {w w1 : World} {S size : Nat} {vs v' : Value} {L L' : List CellM} (h : StoreAt B w S size vs L) (hg : w.grownBy w1 vs.ownBlock) (ho : w1.ownsRow B 106 1 v' L'.length (L'.map CellM.p)) (hc : ∀ c ∈ L', CellAt B w1 c) (hn : (L'.map CellM.ptr).Nodup) :
    StoreAt B (w1.setCell ⟨S, 1, none⟩ v') S size v' L' ∧ Keep B w (w1.setCell ⟨S, 1, none⟩ v') ∧ ∀ c, CellAt B w c → CellAt B (w1.setCell ⟨S, 1, none⟩ v') c := by
  obtain ⟨hk, ⟨ask, hS⟩, hcc⟩ := store_rows h hg
  have hb := (But.refl S w1).setCell 1 v'
  have hk2 := Keep.set (B := B) hS (by decide) h.ge 1 v'
  have hB1 : B ≤ w1.heap.size := Nat.le_trans h.hB hk.size
  refine ⟨⟨Nat.le_trans hB1 hb.size, ⟨ask, hS.set 1 v', ownsRow_but ho hb (fun c hx => by have := row_type hS hx; revert this; decide)⟩, h.ge, fun c hcm => ?_, hn⟩, hk.trans hk2, fun c hcm => ?_⟩
  · have hcr := (hc c hcm).row
    exact (hc c hcm).keep hk2 hB1 (hb.block _ hcr.lt (row_ne hcr hS (by decide)))
  · have hcr := (hcc c hcm).row
    exact (hcc c hcm).keep hk2 hB1 (hb.block _ hcr.lt (row_ne hcr hS (by decide)))

theorem map_erase {α β : Type} (g : α → β) (L : List α) (i : Nat) : (L.map g).eraseIdx i = (L.eraseIdx i).map g := by
  rw [List.eraseIdx_eq_take_drop_succ, List.eraseIdx_eq_take_drop_succ, List.map_append, List.map_take, List.map_drop]
theorem erase_map (L : List CellM) (i : Nat) : (L.map CellM.p).eraseIdx i = (L.eraseIdx i).map CellM.p := map_erase _ _ _
theorem erase_del {L : List CellM} {cells : List CellD} (hLd : L.map CellM.d = cells) (hs : cells.Pairwise (fun a b => a.num < b.num)) {i : Nat} (hi : i < L.length) : (L.eraseIdx i).map CellM.d = delC cells L[i].d.num := by
  subst hLd
  rw [← map_erase, List.eraseIdx_eq_take_drop_succ]
  have hi' : i < (L.map CellM.d).length := by rw [List.length_map]; exact hi
  have e : L[i].d = (L.map CellM.d)[i] := by rw [List.getElem_map]
  rw [e]
  generalize L.map CellM.d = l at *
  unfold delC
  generalize hg : l[i].num = g
  have hsp : l = l.take i ++ l[i] :: l.drop (i + 1) := by rw [← List.drop_eq_getElem_cons hi', List.take_append_drop]
  conv => rhs; rw [hsp, List.filter_append, List.filter_cons]
  subst hg
  have hp := hs
  rw [List.pairwise_iff_getElem] at hp
  rw [if_neg (by simp), List.filter_eq_self.2, List.filter_eq_self.2]
  · intro a ha
    obtain ⟨j, hj, rfl⟩ := List.getElem_of_mem ha
    rw [List.length_drop] at hj
    rw [List.getElem_drop]
    have := hp i (i + 1 + j) hi' (by omega) (by omega)
    simp; omega
  · intro a ha
    obtain ⟨j, hj, rfl⟩ := List.getElem_of_mem ha
    rw [List.length_take] at hj
    rw [List.getElem_take]
    have := hp j i (by omega) hi' (by omega)
    simp; omega
theorem dec_set {L : List CellM} {cells : List CellD} (hLd : L.map CellM.d = cells) {q k : Nat} (hq : q < L.length) (hn : L[q].d.num = k) (ho : ∀ i (hi : i < L.length), i ≠ q → L[i].d.num ≠ k) : (L.set q { L[q] with d := { L[q].d with refs := L[q].d.refs - 1 } }).map CellM.d = decC cells k := by
  subst hLd
  unfold decC
  apply List.ext_getElem (by simp)
  intro i h1 h2
  rw [List.length_map, List.length_set] at h1
  rw [List.getElem_map, List.getElem_map, List.getElem_map]
  by_cases hiq : q = i
  · subst hiq
    rw [List.getElem_set_self, if_pos hn]
  · rw [List.getElem_set_ne hiq, if_neg (ho i h1 (fun e => hiq e.symm))]

def LetPost (B S size : Nat) (l : List CellD) (w : World) (e : Ending) (w' : World) : Prop := ∃ vs L, e = .returned (.tuple #[]) ∧ L.map CellM.d = l ∧ StoreAt B w' S size vs L ∧ Keep B w w'
def LetP (f : Nat) : Prop := ∀ (B S size : Nat) (vs : Value) (L : List CellM) (cells : List CellD) (k : Nat) (p : List Nat) (w : World), StoreAt B w S size vs L → L.map CellM.d = cells → InvC size cells (k :: p) → cells.length < f → cells.length ≤ 65536 →
  Calls Tryz.prog 53 #[.pointer (some ⟨S, 0, none⟩), .int .u32 (k : Int)] w (LetPost B S size (letF f cells k) w)
theorem one_ptrs (L : List CellM) : ∀ u ∈ L.map CellM.p, u.oneCell' = true := fun u hu => by
  obtain ⟨c, _, rfl⟩ := List.mem_map.1 hu
  rfl

set_option maxRecDepth 100000 in
set_option maxHeartbeats 3200000 in
theorem remove_calls (f : Nat) (ih : LetP f) (B S size : Nat) (vs : Value) (L : List CellM) (cells : List CellD) (p : List Nat) (i : Nat) (w : World) (hst : StoreAt B w S size vs L) (hLd : L.map CellM.d = cells) (hi : i < L.length) (inv : InvC size cells p) (h0 : L[i].d.refs = 0) (hf : cells.length ≤ f) (hl : cells.length ≤ 65536) :
    Calls Tryz.prog 63 #[.pointer (some ⟨S, 0, none⟩), .int .i64 (i : Int)] w (LetPost B S size (L[i].d.kids.foldl (letF f) (delC cells L[i].d.num)) w) := by
  have hLn : L.length = cells.length := by rw [← hLd, List.length_map]
  obtain ⟨ask, hS, ho⟩ := hst.row
  have hdel := delete_calls B vs (L.map CellM.p) L.length i w ho hi (one_ptrs L)
  obtain ⟨pp, cap, rfl, hpc⟩ := own_ptrs ho
  obtain ⟨R, hpR, hcell⟩ := hpc i hi
  subst hpR
  have c1 : w.cell? ⟨S, 1, none⟩ = some (.slice (some ⟨R, 0, none⟩) L.length cap) := by rw [hS.cell]; rfl
  rw [CellM.p] at hcell
  have hca := hst.cells _ (List.getElem_mem hi)
  have hmem : L[i].d ∈ cells := by rw [← hLd]; exact List.mem_map_of_mem (List.getElem_mem hi)
  have hdlt := delC_length hmem
  have hinv := inv_del inv hmem h0
  have hem := erase_del hLd inv.asc hi
  have hnd : ((L.eraseIdx i).map CellM.ptr).Nodup := by rw [← map_erase]; exact hst.nodup.eraseIdx i
  have hel : (L.eraseIdx i).length = L.length - 1 := by rw [List.length_eraseIdx, if_pos hi]
  have hfit : fitN L[i].d.node := nodeL_fitH _
  have hkn : (kidNums L[i].d.node).length ≤ 255 := kidNums_small L[i].d.d
  have hnsz : (Tryz.prog.info? 28).map (·.size) = some L[i].nv.length := by rw [hca.nv]; kernel_rfl
  have hkd : L[i].d.kids = kidNums L[i].d.node := rfl
  have i1 : (i : Int) < (L.length : Int) := by omega
  have hw1 : IntKind.i64.wrap ((i : Int) + 1) = (i : Int) + 1 := by rw [IntKind.wrap_i64]; omega
  have e1 : (((i + 1 : Nat) : Int)) = (i : Int) + 1 := by omega
  rw [e1] at hdel
  have hsw := fun (w1 : World) v' (hg : w.grownBy w1 (Value.slice (some ⟨R, 0, none⟩) L.length cap).ownBlock) (ho' : w1.ownsRow B 106 1 v' (L.length - 1) ((L.map CellM.p).eraseIdx i)) => store_swap (v' := v') (L' := L.eraseIdx i) hst hg (by rw [← erase_map, hel]; exact ho') (fun c hc => (store_rows hst hg).2.2 c (hst.cells c (List.mem_of_mem_eraseIdx hc))) hnd
  have hsr := fun (w1 : World) (hg : w.grownBy w1 (Value.slice (some ⟨R, 0, none⟩) L.length cap).ownBlock) => store_rows hst hg
  have HH := Lib.hid (And.intro hsw (And.intro hsr (And.intro hca (And.intro hinv hem))))
  have HD := Lib.hid hdel
  have HL := Lib.hid hdlt
  clear hsw hsr hca hinv hem hdel hS ho hpc hst inv hnd hel hmem h0 hLn hdlt hLd e1
  rw [hkd]
  clear hkd
  generalize hPg : L[i].ptr = P at *
  generalize hNg : L[i].d.num = num at *
  generalize hVg : L[i].nv = nvs at *
  generalize hDg : L[i].d.node = nd at *
  have HG := Lib.hid (And.intro hPg (And.intro hVg hDg))
  clear hPg hVg hDg hNg
  go_enter Tryz.func63, Tryz.ntmps63
  go_wp2_with fail
  refine HD.out.mono ?_
  rintro e w1 ⟨v', rfl, ho1, hg1⟩
  obtain ⟨hst2, hk2, hcc2⟩ := HH.out.1 w1 v' hg1 ho1
  obtain ⟨hkk, ⟨ask1, hS1⟩, _⟩ := HH.out.2.1 w1 hg1
  have cs1 : w1.cell? ⟨S, 1, none⟩ = some (.slice (some ⟨R, 0, none⟩) L.length cap) := by rw [hS1.cell]; rfl
  have fs1 := hS1.free 1
  have hca2 := hcc2 _ HH.out.2.2.1
  have hnr := row_node hca2
  have hn2 := hca2.node.at hst2.hB
  rw [HG.out.1, HG.out.2.1] at hnr
  rw [HG.out.2.1, HG.out.2.2] at hn2
  have hBs := hst2.hB
  obtain ⟨p1, c1', rfl⟩ := own_shape ho1
  have HI := Lib.hid (And.intro hst2 hk2)
  clear hst2 hk2 hcc2 hkk hS1 hca2 ho1 hg1
  generalize hW2 : w1.setCell ⟨S, 1, none⟩ (.slice p1 (L.length - 1) c1') = W2 at *
  have hkc := kidNums_calls W2.heap.size (.agg nvs.toArray) nd W2 hn2 (Nat.le_refl _) hfit
  generalize hks : kidNums nd = ks at *
  have HKS := Lib.hid hks
  clear hks hn2
  go_wp2_with (refine wpList_load_mid rfl 28 _ rfl P 3 rfl nvs _ hnr Tryz.underlying28 rfl hnsz ?_)
  refine hkc.mono ?_
  rintro e w3 ⟨r, rfl, hown, hb3⟩
  obtain ⟨pk, ck, rfl⟩ := own_shape hown
  have HJ := Lib.hid (And.intro (HI.out.1.below hb3 (Nat.le_refl _)) (And.intro (HI.out.2.trans (Keep.of hb3)) hown))
  clear hkc hb3 hown hnr hW2 hBs cs1 fs1 c1 hcell
  generalize hm0 : delC cells num = m0 at *
  have HM0 := Lib.hid hm0
  clear hm0
  go_wp2_with fail
  go_loopg [32] ks.length (fun g s32 wx => ∃ j : Nat, ∃ vs, ∃ L : List CellM, j ≤ ks.length ∧ g = ks.length - j ∧ s32 = .int .i64 j ∧ L.map CellM.d = (ks.take j).foldl (letF f) m0 ∧ InvC size ((ks.take j).foldl (letF f) m0) (ks.drop j ++ p) ∧ ((ks.take j).foldl (letF f) m0).length ≤ m0.length ∧ StoreAt B wx S size vs L ∧ Keep B w wx ∧ wx.ownsRow W2.heap.size 32 1 (.slice pk ks.length ck) ks.length (numsV ks))
  case atStart =>
    have h5 := HH.out.2.2.2.2
    have h4 := HH.out.2.2.2.1
    rw [show L[i].d.kids = ks from (by rw [← HKS.out, ← HG.out.2.2]; rfl)] at h4
    exact ⟨0, _, _, by omega, by omega, rfl, h5, h4, Nat.le_refl _, HJ.out.1, HJ.out.2.1, HJ.out.2.2⟩
  case round =>
    obtain ⟨j, vs, L4, hj, rfl, rfl, hLd, hinv, hlen, hst, hk, hown⟩ := hrel
    by_cases hlj : j < ks.length
    · have i2 : (j : Int) < (ks.length : Int) := by omega
      have hdr : ks.drop j ++ p = ks[j] :: (ks.drop (j + 1) ++ p) := by rw [List.drop_eq_getElem_cons hlj, List.cons_append]
      rw [hdr] at hinv
      have hm0 := HL.out
      have hlL : L4.length ≤ 65536 := by rw [← List.length_map (f := CellM.d), hLd]; omega
      obtain ⟨q, hq, hat, hqn, hoth⟩ := atM_idx hLd hinv.asc (hinv.pend ks[j] List.mem_cons_self)
      obtain ⟨pz, cz, hpz, hcz⟩ := own_one hown
      injection hpz with hpz hle1 hle2
      clear hle1 hle2
      obtain ⟨R2, hR2, hc2⟩ := hcz j hlj
      rw [← hpz] at hR2
      subst hR2
      have hcj : wr.cell? ⟨R2, j, none⟩ = some (.int .u32 (ks[j] : Int)) := by rw [hc2]; simp [numsV, List.getElem?_eq_getElem hlj]
      have hcall := at_calls B S size vs L4 ks[j] wr hst (by rw [hLd]; exact hinv.asc) hlL
      rw [hat, ptrV, CellM.p] at hcall
      have hsnoc : (ks.take (j + 1)).foldl (letF f) m0 = letF f ((ks.take j).foldl (letF f) m0) ks[j] := by rw [List.take_succ_eq_append_getElem hlj, List.foldl_append]; rfl
      have hil := inv_let f _ _ _ size (show ((ks.take j).foldl (letF f) m0).length < f by omega) hinv
      have HU := Lib.hid (fun W (h : StoreAt B W S size vs L4) (x : Int) => And.intro (row_led (h.cells _ (List.getElem_mem hq))) (And.intro ((h.cells _ (List.getElem_mem hq)).row.free 39) (And.intro (upd_led h q hq x) (ih B S size vs (L4.set q { L4[q] with led := x }) _ ks[j] (ks.drop (j + 1) ++ p) _ (upd_led h q hq x).1 ((set_map (L := L4) hq (c := { L4[q] with led := x }) rfl).trans hLd) hinv (by omega) (by omega)))))
      have HN := Lib.hid (And.intro hsnoc (And.intro hil (And.intro hlen (And.intro hk hown))))
      clear hdr hm0 hlL hat hqn hoth hpz hcz hc2 hsnoc hil hlen hk hown hinv hLd hst
      generalize L4[q].ptr = P4 at *
      generalize L4[q].led = x4 at *
      generalize hkj : (ks[j] : Int) = kj at *
      clear hkj
      go_wp2_with fail
      refine hcall.mono ?_
      rintro e w5 ⟨rfl, hst5, hk5⟩
      obtain ⟨hl5, hf5, ⟨hst6, hk6⟩, hlet⟩ := HU.out w5 hst5 (wrap64 (x4 - 1))
      have HF := Lib.hid (And.intro ((HN.out.2.2.2.1.trans hk5).trans hk6) (fun w' (hk : Keep B (w5.setCell ⟨P4, 39, none⟩ (.int .i64 (wrap64 (x4 - 1)))) w') => hk.owns (hk6.owns (hk5.owns HN.out.2.2.2.2 (by decide)) (by decide)) (by decide)))
      clear hcall hst5 hk5 hst6 hk6 hcj
      go_wp2_with fail
      refine hlet.mono ?_
      rintro e w7 ⟨vs7, L7, rfl, hL7, hst7, hk7⟩
      have HF7 := Lib.hid (And.intro hL7 (And.intro hst7 (And.intro (HF.out.1.trans hk7) (HF.out.2 w7 hk7))))
      clear hlet hL7 hst7 hk7
      go_wp2_with fail
      go_roundg (ks.length - (j + 1))
      case measure => omega
      case rel =>
        refine ⟨j + 1, vs7, L7, by omega, rfl, by go_num, by rw [HF7.out.1, HN.out.1], ?_, ?_, HF7.out.2.1, HF7.out.2.2.1, HF7.out.2.2.2⟩
        · rw [HN.out.1]; exact HN.out.2.1.1
        · have h1 := HN.out.2.1.2
          have h2 := HN.out.2.2.1
          rw [HN.out.1]; omega
    · have hjk : ks.length = j := by omega
      rw [List.take_of_length_le (by omega)] at hLd
      have HE := Lib.hid (And.intro hLd (And.intro hst hk))
      clear hLd hst hk hown hinv hlen
      go_wp2_with fail
      go_end0
      exact ⟨vs, L4, rfl, by rw [HE.out.1], HE.out.2.1, HE.out.2.2⟩

set_option maxRecDepth 100000 in
set_option maxHeartbeats 3200000 in
theorem let_calls : ∀ f : Nat, LetP f
  | 0 => fun B S size vs L cells k p w hst hLd inv hf hl => absurd hf (Nat.not_lt_zero _)
  | f + 1 => fun B S size vs L cells k p w hst hLd inv hf hl => by
    have ih := let_calls f
    have hlL : L.length ≤ 65536 := by rw [← List.length_map (f := CellM.d), hLd]; exact hl
    have hasc := inv.asc
    obtain ⟨q, hq, hatq, hqn, hoth⟩ := atM_idx hLd hasc (inv.pend k List.mem_cons_self)
    have hcd : L[q].d ∈ cells := by rw [← hLd]; exact List.mem_map_of_mem (List.getElem_mem hq)
    have hfs : findC cells k = some L[q].d := by rw [← hqn]; exact find_of hasc hcd
    have hfm := find_M (L := L) (by rw [hLd]; exact hasc) (k := k)
    rw [hLd, hfs] at hfm
    obtain ⟨hlow, hlown⟩ := hfm.1 rfl
    have hql : lowC cells k = q := by
      rcases Nat.decEq (lowC cells k) q with h | h
      · exact absurd hlown (hoth _ hlow h)
      · exact h
    have hfind := find_calls B S size vs L k w hst (by rw [hLd]; exact hasc) hlL
    rw [hLd, hql, hfs] at hfind
    have hled := inv.led _ hcd
    have hmost := inv.most _ hcd
    have hcnt : 1 ≤ (k :: p).count L[q].d.num := by rw [hqn]; exact List.count_pos_iff.2 List.mem_cons_self
    have hr1 : 1 ≤ L[q].d.refs := by omega
    have hinv2 := inv_dec inv
    have hds := dec_set hLd hq hqn hoth
    have hql2 : L.length = cells.length := by rw [← hLd, List.length_map]
    have hdl : (decC cells k).length = cells.length := by unfold decC; rw [List.length_map]
    have hrefs := fun W (h : StoreAt B W S size vs L) => upd_refs h q hq (L[q].d.refs - 1)
    have hcells := fun W (h : StoreAt B W S size vs L) => h.cells _ (List.getElem_mem hq)
    have hqs : q < (L.set q { L[q] with d := { L[q].d with refs := L[q].d.refs - 1 } }).length := by rw [List.length_set]; exact hq
    have hqe : (L.set q { L[q] with d := { L[q].d with refs := L[q].d.refs - 1 } })[q] = { L[q] with d := { L[q].d with refs := L[q].d.refs - 1 } } := List.getElem_set_self hqs
    have hrem := fun (h0 : L[q].d.refs - 1 = 0) W (h : StoreAt B W S size vs (L.set q { L[q] with d := { L[q].d with refs := L[q].d.refs - 1 } })) => remove_calls f ih B S size vs (L.set q { L[q] with d := { L[q].d with refs := L[q].d.refs - 1 } }) (decC cells k) p q W h hds hqs hinv2 (by rw [hqe]; exact h0) (by omega) (by omega)
    rw [hqe] at hrem
    have hdd : delC (decC cells k) L[q].d.num = delC cells k := by rw [hqn]; exact delC_decC _ _
    rw [hdd] at hrem
    have hlet : letF (f + 1) cells k = if L[q].d.refs - 1 = 0 then L[q].d.kids.foldl (letF f) (delC cells k) else decC cells k := by rw [letF, hfs]
    obtain ⟨ask0, hS0, ho0⟩ := hst.row
    obtain ⟨pp, cap, rfl⟩ := own_shape ho0
    have hp2 := fun W (h : StoreAt B W S size (.slice pp L.length cap) L) => h.row
    have i1 : (q : Int) < (L.length : Int) := by omega
    obtain ⟨rf, hrf⟩ : ∃ rf, rf = L[q].d.refs := ⟨_, rfl⟩
    obtain ⟨L3, hL3⟩ : ∃ L3, L3 = L.set q { L[q] with d := { L[q].d with refs := L[q].d.refs - 1 } } := ⟨_, rfl⟩
    have hL3n : L3.length = L.length := by rw [hL3, List.length_set]
    have hq3 : q < L3.length := by omega
    have hp3 : L3[q].ptr = L[q].ptr := by simp only [hL3, List.getElem_set_self]
    rw [← hL3] at hds
    rw [← hL3, ← hrf] at hrefs hrem
    rw [← hrf] at hlet hr1 hmost
    have HA := Lib.hid (And.intro hrefs (And.intro hrem (And.intro hlet (And.intro hds hcells))))
    have HP3 := Lib.hid hp3
    have HRF := Lib.hid hrf
    clear hrefs hrem hlet hds hcells hS0 ho0 hst hqe hqs hdd hdl hql2 hinv2 hcnt hled hfm hlow hlown hql hfs hcd hatq hqn hoth hL3 hp3 hrf hL3n hp2
    go_enter Tryz.func53, Tryz.ntmps53
    go_wp2_with fail
    refine hfind.mono ?_
    rintro e w2 ⟨rfl, hst2, hk2⟩
    obtain ⟨ask2, hS2, ho2⟩ := hst2.row
    have c1 : w2.cell? ⟨S, 1, none⟩ = some (.slice pp L.length cap) := by rw [hS2.cell]; rfl
    obtain ⟨p', cap', hpe, hpc⟩ := own_ptrs ho2
    injection hpe with hpe hle1 hle2
    clear hle1 hle2
    obtain ⟨R, hpR, hcell⟩ := hpc q hq
    rw [← hpe] at hpR
    subst hpR
    rw [CellM.p] at hcell
    have hca := HA.out.2.2.2.2 w2 hst2
    have cr : w2.cell? ⟨L[q].ptr, 2, none⟩ = some (.int .i64 rf) := by rw [hca.row.cell, HRF.out]; rfl
    have fr := hca.row.free 2
    obtain ⟨hst3, hk3⟩ := HA.out.1 w2 hst2
    obtain ⟨w3, hw3⟩ : ∃ w3, w3 = w2.setCell ⟨L[q].ptr, 2, none⟩ (.int .i64 (rf - 1)) := ⟨_, rfl⟩
    rw [← hw3] at hst3 hk3
    obtain ⟨ask3, hS3, ho3⟩ := hst3.row
    have c3 : w3.cell? ⟨S, 1, none⟩ = some (.slice (some ⟨R, 0, none⟩) L.length cap) := by rw [hS3.cell]; rfl
    obtain ⟨p3, cap3, hpe3, hpc3⟩ := own_ptrs ho3
    injection hpe3 with hpe3 hle1 hle2
    clear hle1 hle2
    obtain ⟨R3, hpR3, hcell3⟩ := hpc3 q hq3
    rw [← hpe3] at hpR3
    injection hpR3 with hpR3
    injection hpR3 with hpR3
    subst hpR3
    rw [CellM.p, HP3.out] at hcell3
    have cr3 : w3.cell? ⟨L[q].ptr, 2, none⟩ = some (.int .i64 (rf - 1)) := by rw [hw3, (hca.row.set 2 _).cell]; simp [CellM.row]
    have HF := Lib.hid (And.intro hst3 (hk2.trans hk3))
    have hrem := fun (h0 : rf - 1 = 0) => HA.out.2.1 h0 w3 hst3
    have HW3 := Lib.hid hw3
    clear hst2 hk2 hst3 hk3 hS2 ho2 hpe hpc hca hS3 ho3 hpe3 hpc3 hfind hw3
    generalize L[q].ptr = P at *
    have hwr : IntKind.i64.wrap (rf - 1) = rf - 1 := by rw [IntKind.wrap_i64]; omega
    by_cases h0 : rf - 1 = 0
    · have hcall := hrem h0
      have HLt := Lib.hid (show letF (f + 1) cells k = L[q].d.kids.foldl (letF f) (delC cells k) by rw [HA.out.2.2.1, if_pos h0])
      rw [h0] at cr3
      have hrf1 : rf = 1 := by omega
      subst hrf1
      clear hrem h0 hwr hr1 hmost
      generalize hw3g : w2.setCell ⟨P, 2, none⟩ (.int .i64 0) = w4 at *
      obtain rfl : w3 = w4 := by rw [HW3.out, ← hw3g]; rfl
      go_wp2_with fail
      refine hcall.mono ?_
      rintro e w5 ⟨vs5, L5, rfl, hL5, hst5, hk5⟩
      have HE := Lib.hid (And.intro hL5 (And.intro hst5 (HF.out.2.trans hk5)))
      clear hcall hL5 hst5 hk5
      go_wp2_with fail
      go_end0
      exact ⟨vs5, L5, rfl, by rw [HE.out.1, HLt.out]; rfl, HE.out.2.1, HE.out.2.2⟩
    · have HLt := Lib.hid (show letF (f + 1) cells k = decC cells k by rw [HA.out.2.2.1, if_neg h0])
      have hb : (rf - 1 == 0) = false := by simpa using h0
      clear hrem
      generalize hw3g : w2.setCell ⟨P, 2, none⟩ (.int .i64 (rf - 1)) = w4 at *
      obtain rfl : w3 = w4 := by rw [HW3.out, ← hw3g]
      go_wp2_with fail
      go_end0
      exact ⟨_, L3, rfl, by rw [HA.out.2.2.2.1, HLt.out], HF.out.1, HF.out.2⟩

end Go.Proofs.YtimkklaidodkdaaGreatDoor

namespace Go.Proofs.YtimkklaidodkdaaGreatDoor
open Go.RowKit

set_option maxRecDepth 100000 in
set_option maxHeartbeats 3200000 in
theorem drop_calls (v : Value) (h : HeapD) (k : Nat) (w : World) (a : HeapAt w.heap.size w v h) :
    Calls Tryz.prog 24 #[v, .int .u32 (k : Int)] w fun e w' => (∃ r, ((RightH h ∧ e = .returned (.tuple #[r, .int .i64 (dropE h k)]) ∧ OwnH w.heap.size w' r (dropH h k)) ∨ (¬ RightH h ∧ e = .returned (.tuple #[r, .int .i64 7]) ∧ OwnH w.heap.size w' r zeroHp))) ∧ Below w.heap.size w w' := by
  obtain ⟨p, cap, rfl⟩ := a.shape
  obtain ⟨W0, hW0⟩ : ∃ W0, W0 = w.alloc (.cells #[.int .u32 (h.size : Int), .slice p h.cells.length cap] 35) := ⟨_, rfl⟩
  obtain ⟨W1, hW1⟩ : ∃ W1, W1 = W0.alloc (.cells #[.int .u32 0, .slice none 0 0] 35) := ⟨_, rfl⟩
  have hbx0 : RowIs W0 w.heap.size 35 #[.int .u32 (h.size : Int), .slice p h.cells.length cap] := by rw [hW0]; exact RowIs.new w _ _
  have hbx : RowIs W1 w.heap.size 35 #[.int .u32 (h.size : Int), .slice p h.cells.length cap] := by rw [hW1]; exact hbx0.alloc _
  have hA : RowIs W1 W0.heap.size 35 #[.int .u32 0, .slice none 0 0] := by rw [hW1]; exact RowIs.new W0 _ _
  have hb0 : Below w.heap.size w W0 := by rw [hW0]; exact (Below.refl _ _).alloc (Nat.le_refl _) _
  have hb1 : Below w.heap.size w W1 := by rw [hW1]; exact hb0.alloc hb0.size _
  have hop := openB_calls p cap h w a W1 hb1
  have hsz : (Tryz.prog.info? 35).map (·.size) = some (#[.int .u32 (h.size : Int), .slice p h.cells.length cap] : Array Value).size := by kernel_rfl
  have hszH : ∀ x y : Value, (Tryz.prog.info? 35).map (·.size) = some (#[x, y] : Array Value).size := fun x y => by kernel_rfl
  have hCA : w.heap.size < W0.heap.size := hbx0.lt
  have hAlt : W0.heap.size < W1.heap.size := hA.lt
  have hWs : w.heap.size ≤ W1.heap.size := hb1.size
  have HW0 := Lib.hid hW0
  have HW1 := Lib.hid hW1
  clear hW0 hW1 a hbx0 hb0
  generalize hAg : W0.heap.size = A at *
  go_enter Tryz.func24, Tryz.ntmps24
  go_wp2_with (first | (refine wpList_world HW0.out ?_) | (refine wpList_world HW1.out ?_) | (refine wpList_load_row rfl 35 _ rfl w.heap.size rfl 35 #[.int .u32 (h.size : Int), .slice p h.cells.length cap] (0, 0) _ hbx Tryz.underlying35 rfl hsz ?_))
  refine hop.mono ?_
  rintro e w1 (⟨hno, rfl, hq⟩ | ⟨hr, S, vs, L, rfl, hLd, hLa, hst, hk⟩)
  · have hA2 := hA.below hq hA.lt
    have hb2 := hb1.trans (hq.mono hb1.size)
    have hth := hA2.there 0 2 (by simp)
    have hst := store_row hA2 (D := #[.int .u32 0, .slice none 0 0]) rfl
    have hbs := setCells_below A w.heap.size (Nat.le_of_lt hCA) [.int .u32 0, .slice none 0 0] 0 _ _ hb2
    have HF := Lib.hid (And.intro hno (And.intro hst hbs))
    have hone2 : (#[.int .u32 0, .slice none 0 0] : Array Value).all (·.oneCell') = true := oneH 0 none 0 0
    have hsz2 := hszH (.int .u32 0) (.slice none 0 0)
    clear hop hno hq hst hbs hA hA2 hb2 hbx hb1
    go_wp2_with (first | (refine wpList_build_eqH rfl 35 [] rfl #[.int .u32 0, .slice none 0 0] built_heap0 ?_) | (refine wpList_store_mid rfl 35 _ _ rfl A 0 #[.int .u32 0, .slice none 0 0] rfl rfl hth hsz2 hone2 ?_))
    refine bodyPost_ret (v := .tuple #[.agg #[.int .u32 0, .slice none 0 0], .int .i64 7]) (results_cell_tmp (p := 4) (q := 5) (ty := 35) (by rfl) _ _ A 35 #[.int .u32 0, .slice none 0 0] (0, 0) _ (by rfl) HF.out.2.1 Tryz.underlying35 (by rfl) hsz2) (by rfl) ?_
    exact ⟨⟨_, .inr ⟨HF.out.1, rfl, own_zero _ _⟩⟩, HF.out.2.2⟩
  · have hlen : L.length = h.cells.length := by rw [← hLd, List.length_map]
    have hcl := hr.okH.len
    have hat := at_calls W1.heap.size S h.size vs L k w1 hst (by rw [hLd]; exact hr.asc) (by omega)
    have hfm : findC h.cells k = (atM L k).map CellM.d := by rw [← hLd]; exact atM_map L k
    have hA1 := hk.row hA (.inl hAlt)
    have hb2 := hb1.trans (hk.toBelow.mono hb1.size)
    have HZ := Lib.hid hk.size
    have HFM := Lib.hid hfm
    clear hop hst hk hfm hlen
    go_wp2_with fail
    refine hat.mono ?_
    rintro e w2 ⟨rfl, hst2, hk2⟩
    have hA2 := hk2.row hA1 (.inl hAlt)
    have hb3 := hb2.trans ((hk2.below (show W1.heap.size ≤ w1.heap.size from HZ.out)).mono hb1.size)
    clear hat hA1 hb2
    cases hf : atM L k with
    | none =>
      have hfn : findC h.cells k = none := by rw [HFM.out, hf]; rfl
      have hE : dropE h k = 5 := by rw [dropE, hfn]
      have hH : dropH h k = ⟨h.size, h.cells⟩ := by rw [dropH, hE, if_neg (by decide)]
      rw [ptrV]
      have hlenN : L.length ≤ 65536 := by rw [← List.length_map (f := CellM.d), hLd]; exact hcl
      have hcall := heap_calls W1.heap.size S h.size vs L w2 hst2 hlenN
      rw [hLd] at hcall
      have hAW := hA2
      have hbW := hb3
      have HEH := Lib.hid (And.intro hr (And.intro hE hH))
      clear hE hH hst2 hk2 hA2 hb3 hA hb1 hbx hr HZ
      go_wp2_with fail
      refine hcall.mono ?_
      rintro e w9 ⟨v9, rfl, hown9, hb9⟩
      obtain ⟨p9, c9, rfl⟩ := own_shape hown9
      have hA9 := hAW.below hb9 hAW.lt
      have hle9 := hbW.size
      have hb10 := hbW.trans (hb9.mono hle9)
      have hth := hA9.there 0 2 (by simp)
      have hst9 := store_row hA9 (D := #[.int .u32 (h.size : Int), .slice p9 L.length c9]) rfl
      have hbs9 := setCells_below A w.heap.size (Nat.le_of_lt hCA) [.int .u32 (h.size : Int), .slice p9 L.length c9] 0 _ _ hb10
      have hbu9 := (But.refl A w9).setCells [.int .u32 (h.size : Int), .slice p9 L.length c9] 0
      have ho9 := ownsRow_but (ownsRow_base hown9 hle9) hbu9 (fun c hc => by have := row_type hA9 hc; revert this; decide)
      have HF := Lib.hid (And.intro hst9 (And.intro ho9 hbs9))
      have hone2 := oneH (h.size : Int) p9 L.length c9
      have hsz2 := hszH (.int .u32 (h.size : Int)) (.slice p9 L.length c9)
      have HLL := Lib.hid (show L.length = (h.cells).length by rw [← hLd, List.length_map])
      clear hcall hown9 hb9 hA9 hst9 hbs9 hbu9 ho9 hb10 hAW hbW
      go_wp2_with (refine wpList_store_mid rfl 35 _ _ rfl A 0 #[.int .u32 (h.size : Int), .slice p9 L.length c9] rfl rfl hth hsz2 hone2 ?_)
      refine bodyPost_ret (v := .tuple #[.agg #[.int .u32 (h.size : Int), .slice p9 L.length c9], .int .i64 5]) (results_cell_tmp (p := 4) (q := 5) (ty := 35) (by rfl) _ _ A 35 #[.int .u32 (h.size : Int), .slice p9 L.length c9] (0, 0) _ (by rfl) HF.out.1 Tryz.underlying35 (by rfl) hsz2) (by rfl) ?_
      exact ⟨⟨_, .inl ⟨HEH.out.1, by rw [HEH.out.2.1], by rw [HEH.out.2.2]; exact ⟨_, rfl, by rw [← HLL.out]; exact HF.out.2.1⟩⟩⟩, HF.out.2.2⟩
    | some c =>
      obtain ⟨hcm, hcn⟩ := atM_mem hf
      have hcd : c.d ∈ h.cells := by rw [← hLd]; exact List.mem_map_of_mem hcm
      have hca := hst2.cells c hcm
      have hfs : findC h.cells k = some c.d := by rw [HFM.out, hf]; rfl
      have cr : w2.cell? ⟨c.ptr, 2, none⟩ = some (.int .i64 c.d.refs) := by rw [hca.row.cell]; rfl
      have cl := row_led hca
      rw [(hLa c hcm).2] at cl
      have hcp : c.p = .pointer (some ⟨c.ptr, 0, none⟩) := rfl
      rw [ptrV, hcp]
      have hDE : dropE h k = if c.d.refs = (ledC h.cells c.d.num : Int) then 7 else 0 := by rw [dropE, hfs]
      have HQ := Lib.hid (fun n => And.intro (hst2.below (below_drewH _ w2 n) (Nat.le_refl _)) (And.intro (hA2.below (below_drewH _ w2 n) hA2.lt) (hb3.trans (below_drewH _ w2 n))))
      clear hcp hca hcn hcm hcd hfs
      generalize c.ptr = P at *
      generalize hrg : c.d.refs = rf at *
      generalize hlg : (ledC h.cells c.d.num : Int) = lg at *
      have HDE := Lib.hid hDE
      clear hrg hlg hDE
      by_cases hmx : rf = lg
      · have hE : dropE h k = 7 := by rw [HDE.out, if_pos hmx]
        have hH : dropH h k = ⟨h.size, h.cells⟩ := by rw [dropH, hE, if_neg (by decide)]
        rw [hmx] at cr
        have HQE := Lib.hid (And.intro hr (And.intro hE (And.intro hH (And.intro hLd hcl))))
        clear hmx hE hH hr hLa hst2 hk2 hA2 hb3 hA hb1 hbx HZ hLd
        go_wp2_with fail
        go_quiet (fail)
        obtain ⟨hst3, hA3, hb4⟩ := HQ.out nq
        generalize w2.drewN nq = w3 at *
        obtain ⟨hr, hE, hH, hLd, hcl⟩ := HQE.out
        have hlenN : L.length ≤ 65536 := by rw [← List.length_map (f := CellM.d), hLd]; exact hcl
        have hcall := heap_calls W1.heap.size S h.size vs L w3 hst3 hlenN
        rw [hLd] at hcall
        have hAW := hA3
        have hbW := hb4
        have HEH := Lib.hid (And.intro hr (And.intro hE hH))
        clear hE hH hst3 hA3 hb4 hr cr cl HQE HQ
        go_wp2_with fail
        refine hcall.mono ?_
        rintro e w9 ⟨v9, rfl, hown9, hb9⟩
        obtain ⟨p9, c9, rfl⟩ := own_shape hown9
        have hA9 := hAW.below hb9 hAW.lt
        have hle9 := hbW.size
        have hb10 := hbW.trans (hb9.mono hle9)
        have hth := hA9.there 0 2 (by simp)
        have hst9 := store_row hA9 (D := #[.int .u32 (h.size : Int), .slice p9 L.length c9]) rfl
        have hbs9 := setCells_below A w.heap.size (Nat.le_of_lt hCA) [.int .u32 (h.size : Int), .slice p9 L.length c9] 0 _ _ hb10
        have hbu9 := (But.refl A w9).setCells [.int .u32 (h.size : Int), .slice p9 L.length c9] 0
        have ho9 := ownsRow_but (ownsRow_base hown9 hle9) hbu9 (fun c hc => by have := row_type hA9 hc; revert this; decide)
        have HF := Lib.hid (And.intro hst9 (And.intro ho9 hbs9))
        have hone2 := oneH (h.size : Int) p9 L.length c9
        have hsz2 := hszH (.int .u32 (h.size : Int)) (.slice p9 L.length c9)
        have HLL := Lib.hid (show L.length = (h.cells).length by rw [← hLd, List.length_map])
        clear hcall hown9 hb9 hA9 hst9 hbs9 hbu9 ho9 hb10 hAW hbW
        go_wp2_with (refine wpList_store_mid rfl 35 _ _ rfl A 0 #[.int .u32 (h.size : Int), .slice p9 L.length c9] rfl rfl hth hsz2 hone2 ?_)
        refine bodyPost_ret (v := .tuple #[.agg #[.int .u32 (h.size : Int), .slice p9 L.length c9], .int .i64 7]) (results_cell_tmp (p := 4) (q := 5) (ty := 35) (by rfl) _ _ A 35 #[.int .u32 (h.size : Int), .slice p9 L.length c9] (0, 0) _ (by rfl) HF.out.1 Tryz.underlying35 (by rfl) hsz2) (by rfl) ?_
        exact ⟨⟨_, .inl ⟨HEH.out.1, by rw [HEH.out.2.1], by rw [HEH.out.2.2]; exact ⟨_, rfl, by rw [← HLL.out]; exact HF.out.2.1⟩⟩⟩, HF.out.2.2⟩
      · have hE : dropE h k = 0 := by rw [HDE.out, if_neg hmx]
        have hH : dropH h k = ⟨h.size, letF (h.cells.length + 1) h.cells k⟩ := by rw [dropH, hE, if_pos rfl]
        have hb : (rf == lg) = false := by simpa using hmx
        have hinv := drop_inv hr hE
        have hil := inv_let _ _ _ [] h.size (Nat.lt_succ_self _) hinv
        have HQE := Lib.hid (And.intro hr (And.intro hE (And.intro hH (And.intro hLd (And.intro hcl (And.intro hinv hil))))))
        clear hmx hE hH hr hLa hst2 hk2 hA2 hb3 hA hb1 hbx HZ hLd hinv hil
        go_wp2_with fail
        go_quiet (fail)
        obtain ⟨hst3, hA3, hb4⟩ := HQ.out nq
        have hlet := let_calls (h.cells.length + 1) W1.heap.size S h.size vs L h.cells k [] (w2.drewN nq) hst3 HQE.out.2.2.2.1 HQE.out.2.2.2.2.2.1 (Nat.lt_succ_self _) HQE.out.2.2.2.2.1
        have hB3 := hst3.hB
        generalize w2.drewN nq = w3 at *
        have HG := Lib.hid (And.intro hA3 (And.intro hb4 hB3))
        clear hst3 hA3 hb4 cr cl HQ hB3
        go_wp2_with fail
        refine hlet.mono ?_
        rintro e w4 ⟨vs4, L4, rfl, hL4, hst4, hk4⟩
        have hA5 := hk4.row HG.out.1 (.inl hAlt)
        have hb5 := HG.out.2.1.trans ((hk4.below HG.out.2.2).mono hWs)
        obtain ⟨hr, hE, hH, hLd, hcl, hinv, hil⟩ := HQE.out
        have hlenN : L4.length ≤ 65536 := by rw [← List.length_map (f := CellM.d), hL4]; exact (Nat.le_trans hil.2 hcl)
        have hcall := heap_calls W1.heap.size S h.size vs4 L4 w4 hst4 hlenN
        rw [hL4] at hcall
        have hAW := hA5
        have hbW := hb5
        have HEH := Lib.hid (And.intro hr (And.intro hE hH))
        clear hE hH hst4 hA5 hb5 hr hk4 hlet HQE hinv hil
        go_wp2_with fail
        refine hcall.mono ?_
        rintro e w9 ⟨v9, rfl, hown9, hb9⟩
        obtain ⟨p9, c9, rfl⟩ := own_shape hown9
        have hA9 := hAW.below hb9 hAW.lt
        have hle9 := hbW.size
        have hb10 := hbW.trans (hb9.mono hle9)
        have hth := hA9.there 0 2 (by simp)
        have hst9 := store_row hA9 (D := #[.int .u32 (h.size : Int), .slice p9 L4.length c9]) rfl
        have hbs9 := setCells_below A w.heap.size (Nat.le_of_lt hCA) [.int .u32 (h.size : Int), .slice p9 L4.length c9] 0 _ _ hb10
        have hbu9 := (But.refl A w9).setCells [.int .u32 (h.size : Int), .slice p9 L4.length c9] 0
        have ho9 := ownsRow_but (ownsRow_base hown9 hle9) hbu9 (fun c hc => by have := row_type hA9 hc; revert this; decide)
        have HF := Lib.hid (And.intro hst9 (And.intro ho9 hbs9))
        have hone2 := oneH (h.size : Int) p9 L4.length c9
        have hsz2 := hszH (.int .u32 (h.size : Int)) (.slice p9 L4.length c9)
        have HLL := Lib.hid (show L4.length = (letF (h.cells.length + 1) h.cells k).length by rw [← hL4, List.length_map])
        clear hcall hown9 hb9 hA9 hst9 hbs9 hbu9 ho9 hb10 hAW hbW
        go_wp2_with (refine wpList_store_mid rfl 35 _ _ rfl A 0 #[.int .u32 (h.size : Int), .slice p9 L4.length c9] rfl rfl hth hsz2 hone2 ?_)
        refine bodyPost_ret (v := .tuple #[.agg #[.int .u32 (h.size : Int), .slice p9 L4.length c9], .int .i64 0]) (results_cell_tmp (p := 4) (q := 5) (ty := 35) (by rfl) _ _ A 35 #[.int .u32 (h.size : Int), .slice p9 L4.length c9] (0, 0) _ (by rfl) HF.out.1 Tryz.underlying35 (by rfl) hsz2) (by rfl) ?_
        exact ⟨⟨_, .inl ⟨HEH.out.1, by rw [HEH.out.2.1], by rw [HEH.out.2.2]; exact ⟨_, rfl, by rw [← HLL.out]; exact HF.out.2.1⟩⟩⟩, HF.out.2.2⟩

end Go.Proofs.YtimkklaidodkdaaGreatDoor
