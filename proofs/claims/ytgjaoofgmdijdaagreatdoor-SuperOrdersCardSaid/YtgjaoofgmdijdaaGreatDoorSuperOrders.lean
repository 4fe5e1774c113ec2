/- cambiumlaw09.SuperOrders: walked. -/
import Derived.Test.YtgjaoofgmdijdaaGreatDoorSuperApart
import Derived.Test.YtgjaoofgmdijdaaGreatDoorRefOrder
namespace Go.Proofs.YtgjaoofgmdijdaaGreatDoor
open Go.RowKit Go.Sort

theorem exec_neqO {P : Program} {o : Oper} {ev : Operand → Value} {w : World} {t t' : TypeId} {x y : Operand} {va vb : Array Value} {r : Bool} (ho : o.op = .binOp .neq t x y t') (hx : ev x = .agg va) (hy : ev y = .agg vb)
    (hg : P.eqGuardType P.depth t = false) (h : (binOp .neq t (.agg va) (.agg vb)).run P w = .ok (.bool r) w) : (execOp ev o).run P w = .ok (.value (.bool r)) w := by
  unfold execOp
  simp only [ho, hx, hy, Sem.run_bind, run_eqGuard_agg w .neq t x y va vb hg, Result.andThen_ok, h, Sem.run_pure]
theorem neq_selfO (a : SupD) (ha : a.wf) (w : World) : (binOp .neq 26 (.agg (supV a).toArray) (.agg (supV a).toArray)).run Tryz.prog w = .ok (.bool false) w := by
  rw [run_neq_struct, equal_sup a a ha ha w, (supEq_iff a a).2 rfl]; rfl

theorem quiet_execS {P : Program} {ops : Array Oper} {Q : Act → Prop} {a : Act} {o : Oper} {rest : List Oper} {w : World} (v : Value) (hw : Region.wanted o (yielded ops a.tmps) = true) (h : ∀ n, (execOp a.eval o).run P (w.drewN n) = .ok (.value v) (w.drewN n))
    (k : wpQuiet P ops (fun w' => ∃ n, w' = w.drewN n) Q rest (a.put o.dst v)) : wpQuiet P ops (fun w' => ∃ n, w' = w.drewN n) Q (o :: rest) a :=
  BigFrame.wpQuiet_want hw fun K hK => ⟨v, fun w' ⟨n, hn⟩ => by subst hn; unfold Oper.quietAt; rw [h n]; exact ⟨rfl, rfl⟩, hK _ k⟩
theorem rangeAt_drewS {w : World} {b o : Nat} {cs : List Value} (h : w.rangeAt b o cs) (n : Nat) : (w.drewN n).rangeAt b o cs := h
theorem supW_ext : ∀ (l m : List SupW), l.map (·.1) = m.map (·.1) → l = m
  | [], [], _ => rfl
  | [], _ :: _, h => by cases h
  | _ :: _, [], h => by cases h
  | x :: l, y :: m, h => by
    rw [List.map_cons, List.map_cons, List.cons.injEq] at h
    rw [Subtype.ext h.1, supW_ext l m h.2]

set_option maxRecDepth 100000 in
set_option maxHeartbeats 6400000 in
theorem ordersS_calls (a b : ByteArray) (w : World) (ha : a.size ≤ 140737488351232) (hb : b.size ≤ 140737488351232) :
    Calls Tryz.prog 4 #[.string a, .string b] w fun e w' => e = .returned (.bool true) ∧ Below w.heap.size w w' := by
  have ho := orderS_calls a b w ha hb
  have hro := fun W => rorder_calls a b W ha hb
  have hL2 := orderS_length2 a.data.toList b.data.toList
  have hmem : ∀ s ∈ orderS a.data.toList b.data.toList, s.wf := fun s hs => (orderS_mem hs).2.1
  generalize orderS a.data.toList b.data.toList = O at *
  generalize hB : w.heap.size = B at *
  go_enter Tryz.func4, Tryz.ntmps4
  go_wp2_with fail
  refine ho.mono ?_
  rintro e w1 ⟨v, l, rfl, hl, hown, hq⟩
  obtain ⟨p, cap, rfl, hr⟩ := own_rng hown
  have hs1 : B ≤ w1.heap.size := by rw [← hB]; exact hq.size
  go_wp2_with fail
  refine (hro w1).mono ?_
  rintro e w2 ⟨v2, m, rfl, hm, hown2, hq2⟩
  obtain ⟨p2, cap2, rfl, hr2⟩ := own_rng hown2
  obtain rfl : m = l := supW_ext m l (hm.trans hl.symm)
  have hb2 := hq.trans (hq2.mono hs1)
  have hr1 : ∀ t (ht : t < m.length), ∃ g, p = some ⟨g, 0, none⟩ ∧ g < w2.heap.size ∧ w2.rangeAt g (t * 35) (supV m[t].1) := fun t ht => by
    obtain ⟨g, hg, h1, h2, h3⟩ := hr t ht
    exact ⟨g, hg, Nat.lt_of_lt_of_le h2 hq2.size, rangeAt_below h3 hq2 h2⟩
  have hlen : m.length ≤ 2 := by rw [← List.length_map (f := fun x : SupW => x.1), hl]; exact hL2
  have hwf : ∀ t (ht : t < m.length), m[t].1.wf := fun t ht => hmem _ (by rw [← hl]; exact List.mem_map_of_mem (List.getElem_mem _))
  have hs2 : B ≤ w2.heap.size := by rw [← hB]; exact hb2.size
  have HB2 := Lib.hid hb2
  have HR1 := Lib.hid hr1
  have HR2 := Lib.hid hr2
  have Hwf := Lib.hid hwf
  clear hown hown2 hq hq2 hr hb2 hl hm hmem hL2 ho hro hr1 hr2 hwf hs1
  go_wp2_with fail
  refine (livesS_calls w2).mono ?_
  rintro e w3 ⟨rfl, hq⟩
  have HB3 := Lib.hid hq
  clear hq
  generalize hn : m.length = n
  rw [hn] at hlen
  go_wp2_with fail
  go_loopw [25] (fun x wr => ∃ t : Nat, t ≤ n ∧ x = .int .i64 t ∧ Below w2.heap.size w2 wr) (fun x _ => n - (intOf x).toNat)
  case atStart => exact ⟨0, by omega, rfl, HB3.out⟩
  case round =>
    obtain ⟨t, ht, rfl, hbl⟩ := hrel
    by_cases hlt : t < n
    · have i1 : (t : Int) < (n : Int) := by omega
      obtain ⟨g, rfl, hg, h1⟩ := HR1.out t (by omega)
      obtain ⟨g2, rfl, _, hg2, h2⟩ := HR2.out t (by omega)
      have hw := Hwf.out t (by omega)
      have hc1 := rangeAt_below h1 hbl hg
      have hc2 := rangeAt_below h2 hbl hg2
      have hneq := fun w' => neq_selfO (m[t]'(by omega)).1 hw w'
      have hsz : (Tryz.prog.info? 26).map (·.size) = some (supV (m[t]'(by omega)).1).length := by rw [supV_length hw.2.2.2]; kernel_rfl
      generalize supV (m[t]'(by omega)).1 = CS at *
      clear h1 h2 hw
      go_wp2_with fail
      refine wp_region_quiet_lit (by kernel_rfl) (by kernel_rfl) ?_
      go_big_quiet_step (fail)
      go_big_quiet_step (fail)
      go_big_quiet_step (fail)
      refine quiet_execS _ (by rfl) (fun n => exec_load_mid 26 _ rfl g (t * 35) (by rfl) CS _ (rangeAt_drewS hc1 n) Tryz.underlying26 rfl hsz) ?_
      simp only [Act.put, List.setIfInBounds_toArray, List.set_cons_zero, List.set_cons_succ]
      go_big_quiet_step (fail)
      go_big_quiet_step (fail)
      go_big_quiet_step (fail)
      refine quiet_execS _ (by rfl) (fun n => exec_load_mid 26 _ rfl g2 (t * 35) (by rfl) CS _ (rangeAt_drewS hc2 n) Tryz.underlying26 rfl hsz) ?_
      simp only [Act.put, List.setIfInBounds_toArray, List.set_cons_zero, List.set_cons_succ]
      refine quiet_execS _ (by rfl) (fun n => exec_neqO rfl (by rfl) (by rfl) guard_sup (hneq _)) ?_
      simp only [Act.put, List.setIfInBounds_toArray, List.set_cons_zero, List.set_cons_succ]
      refine wpQuiet_nil ?_
      intro _ hw'
      obtain ⟨nq, hw''⟩ := hw'
      subst hw''
      go_wp2_with fail
      go_roundw
      case rel => exact ⟨t + 1, by omega, by go_num, hbl.trans (below_drewR _ _ nq)⟩
      case measure => simp [intOf]; omega
    · have i1 : ¬ (t : Int) < (n : Int) := by omega
      go_wp2_with fail
      go_ret
      exact ⟨rfl, HB2.out.trans (hbl.mono hs2)⟩

end Go.Proofs.YtgjaoofgmdijdaaGreatDoor
