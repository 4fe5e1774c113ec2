/- What a walk over heaps holds to: rows of its own, heaps and nodes that lie in memory. -/
import Derived.Test.YtimkklaidodkdaaGreatDoorHeapFree
import Derived.Test.YtimkklaidodkdaaGreatDoorSame
import Derived.Test.YtimkklaidodkdaaGreatDoorKit
namespace Go.Proofs.YtimkklaidodkdaaGreatDoor
open Go.RowKit

theorem SlAt.butAny {B A : Nat} {w w' : World} {t : TypeId} {C : Array Value} (hA : RowIs w A t C) (hC : ∀ (i : Nat) (s : ByteArray), C[i]? ≠ some (Value.string s)) (hb : But A w w') {v : Value} {n z : Nat} {cs : Nat → List Value} (h : SlAt B w v n cs z) (hB : B ≤ w.heap.size) (hs : ∀ i, i < n → ∃ (j : Nat) (s : ByteArray), (cs i)[j]? = some (Value.string s)) : SlAt B w' v n cs z := by
  obtain ⟨a, cap, hv, hn, hr⟩ := h
  refine ⟨a, cap, hv, hn, fun h0 => ?_⟩
  obtain ⟨b, o, ha, hbB, hc⟩ := hr h0
  refine ⟨b, o, ha, hbB, fun i hi j u hj => ?_⟩
  have h1 := hc i hi j u hj
  by_cases e : b = A
  · exfalso
    subst e
    obtain ⟨j', s, hjs⟩ := hs i hi
    have h2 := hc i hi j' _ hjs
    rw [hA.cell] at h2
    exact hC _ _ h2
  · exact (World.cell?_of_block (w := w) (hb.block b (Nat.lt_of_lt_of_le hbB hB) e)).trans h1
theorem NodeAt.butAny {B A : Nat} {w w' : World} {t : TypeId} {C : Array Value} (hA : RowIs w A t C) (hC : ∀ (i : Nat) (s : ByteArray), C[i]? ≠ some (Value.string s)) (hb : But A w w') {v : Value} {n : NodeD} (h : NodeAt B w v n) (hB : B ≤ w.heap.size) : NodeAt B w' v n := by
  obtain ⟨hw, vi, vk, vv, hv, h1, h2, h3⟩ := h
  refine ⟨hw, vi, vk, vv, hv, SlAt.butAny hA hC hb h1 hB fun i hi => ⟨0, ?_⟩, SlAt.butAny hA hC hb h2 hB fun i hi => ⟨0, ?_⟩, SlAt.butAny hA hC hb h3 hB fun i hi => ⟨0, ?_⟩⟩
  · exact ⟨n.items[i].key, by rw [List.getElem?_eq_getElem hi]; rfl⟩
  · exact ⟨n.kids[i].key, by rw [List.getElem?_eq_getElem hi]; rfl⟩
  · exact ⟨n.vols[i].name, by rw [List.getElem?_eq_getElem hi]; rfl⟩
theorem HeapAt.butAny {B A : Nat} {w w' : World} {t : TypeId} {C : Array Value} (hA : RowIs w A t C) (hC : ∀ (i : Nat) (s : ByteArray), C[i]? ≠ some (Value.string s)) (hb : But A w w') {v : Value} {h : HeapD} (a : HeapAt B w v h) (hB : B ≤ w.heap.size) : HeapAt B w' v h := by
  obtain ⟨h1, h2, h3, sl, hv, hs⟩ := a
  refine ⟨h1, h2, h3, sl, hv, SlAt.butAny hA hC hb hs hB fun i hi => ⟨1, h.cells[i].data, ?_⟩⟩
  rw [List.getElem?_eq_getElem hi]
  rfl

/-- A row of a walk's own. -/
structure VarR where
  b : Nat
  t : TypeId
  c : Array Value
structure Env (X B : Nat) (w0 w : World) (rows : List VarR) (hs : List (Value × HeapD)) (ns : List (Value × NodeD)) : Prop where
  below : Below X w0 w
  hX : X ≤ B
  hB : B ≤ w.heap.size
  rowsI : ∀ r ∈ rows, RowIs w r.b r.t r.c ∧ X ≤ r.b
  nd : (rows.map VarR.b).Nodup
  heaps : ∀ a ∈ hs, HeapAt B w a.1 a.2
  nodes : ∀ a ∈ ns, NodeAt B w a.1 a.2
section
variable {X B : Nat} {w0 w w' : World} {rows : List VarR} {hs : List (Value × HeapD)} {ns : List (Value × NodeD)}
theorem Env.row (E : Env X B w0 w rows hs ns) (i : Nat) {r : VarR} (h : rows[i]? = some r) : RowIs w r.b r.t r.c := (E.rowsI r (List.mem_of_getElem? h)).1
theorem Env.heap (E : Env X B w0 w rows hs ns) (i : Nat) {v : Value} {d : HeapD} (h : hs[i]? = some (v, d)) : HeapAt w.heap.size w v d := (E.heaps _ (List.mem_of_getElem? h)).mono E.hB
theorem Env.node (E : Env X B w0 w rows hs ns) (i : Nat) {v : Value} {d : NodeD} (h : ns[i]? = some (v, d)) : NodeAt w.heap.size w v d := (E.nodes _ (List.mem_of_getElem? h)).monoB E.hB
theorem Env.up (E : Env X B w0 w rows hs ns) : Env X w.heap.size w0 w rows hs ns :=
  ⟨E.below, Nat.le_trans E.hX E.hB, Nat.le_refl _, E.rowsI, E.nd, fun a h => (E.heaps a h).mono E.hB, fun a h => (E.nodes a h).monoB E.hB⟩
theorem Env.call (E : Env X B w0 w rows hs ns) (hq : Below w.heap.size w w') : Env X B w0 w' rows hs ns :=
  ⟨E.below.trans (hq.mono (Nat.le_trans E.hX E.hB)), E.hX, Nat.le_trans E.hB hq.size, fun r h => ⟨(E.rowsI r h).1.below hq (E.rowsI r h).1.lt, (E.rowsI r h).2⟩, E.nd, fun a h => (E.heaps a h).below hq E.hB, fun a h => (E.nodes a h).below hq E.hB⟩
theorem Env.drewN (E : Env X B w0 w rows hs ns) (n : Nat) : Env X B w0 (w.drewN n) rows hs ns := E.call ⟨rfl, rfl, rfl, Nat.le_refl _, fun _ _ => rfl⟩
theorem Env.addH (E : Env X B w0 w rows hs ns) {v : Value} {d : HeapD} (h : HeapAt w.heap.size w v d) : Env X w.heap.size w0 w rows ((v, d) :: hs) ns :=
  have E := E.up
  ⟨E.below, E.hX, E.hB, E.rowsI, E.nd, fun a ha => (List.mem_cons.1 ha).elim (fun e => by subst e; exact h) (E.heaps a), E.nodes⟩
theorem Env.addN (E : Env X B w0 w rows hs ns) {v : Value} {d : NodeD} (h : NodeAt w.heap.size w v d) : Env X w.heap.size w0 w rows hs ((v, d) :: ns) :=
  have E := E.up
  ⟨E.below, E.hX, E.hB, E.rowsI, E.nd, E.heaps, fun a ha => (List.mem_cons.1 ha).elim (fun e => by subst e; exact h) (E.nodes a)⟩
theorem Env.alloc (E : Env X B w0 w rows hs ns) {W' : World} {C : Array Value} {t : TypeId} (h : W' = w.alloc (.cells C t)) : Env X B w0 W' (⟨w.heap.size, t, C⟩ :: rows) hs ns := by
  have hq : Below w.heap.size w W' := by rw [h]; exact (Below.refl _ _).alloc (Nat.le_refl _) _
  have E' := E.call hq
  refine ⟨E'.below, E'.hX, E'.hB, fun r hr => ?_, ?_, E'.heaps, E'.nodes⟩
  · rcases List.mem_cons.1 hr with rfl | hr
    · exact ⟨by rw [h]; exact RowIs.new _ _ _, Nat.le_trans E.hX E.hB⟩
    · exact E'.rowsI r hr
  · rw [List.map_cons, List.nodup_cons]
    refine ⟨fun hm => ?_, E.nd⟩
    obtain ⟨r, hr, he⟩ := List.mem_map.1 hm
    have := (E.rowsI r hr).1.lt
    rw [he] at this
    exact Nat.lt_irrefl _ this
theorem nodup_at {l : List Nat} (h : l.Nodup) {i j a : Nat} (hi : l[i]? = some a) (hj : l[j]? = some a) : i = j := by
  obtain ⟨hi', hia⟩ := List.getElem?_eq_some_iff.1 hi
  obtain ⟨hj', hja⟩ := List.getElem?_eq_some_iff.1 hj
  exact (List.getElem_inj h).1 (hia.trans hja.symm)
theorem Env.turn (E : Env X B w0 w rows hs ns) (i : Nat) {b : Nat} {t : TypeId} {C D : Array Value} (hr : rows[i]? = some ⟨b, t, C⟩) (hb : But b w w') (hD : RowIs w' b t D)
    (hh : ∀ a ∈ hs, HeapAt B w' a.1 a.2) (hn : ∀ a ∈ ns, NodeAt B w' a.1 a.2) : Env X B w0 w' (rows.set i ⟨b, t, D⟩) hs ns := by
  have hri := E.rowsI _ (List.mem_of_getElem? hr)
  have hXb : X ≤ b := hri.2
  refine ⟨E.below.trans (hb.below hXb (Nat.le_trans E.hX E.hB)), E.hX, Nat.le_trans E.hB hb.size, fun r h => ?_, ?_, hh, hn⟩
  · obtain ⟨j, hj⟩ := List.mem_iff_getElem?.1 h
    by_cases e : j = i
    · subst e
      obtain ⟨hlt, _⟩ := List.getElem?_eq_some_iff.1 hr
      rw [List.getElem?_set_self hlt] at hj
      injection hj with hj
      subst hj
      exact ⟨hD, hXb⟩
    · rw [List.getElem?_set_ne (fun q => e q.symm)] at hj
      have h2 := E.rowsI r (List.mem_of_getElem? hj)
      refine ⟨h2.1.but hb (fun q => e ?_), h2.2⟩
      exact nodup_at E.nd (by rw [List.getElem?_map, hj]; rfl) (by rw [List.getElem?_map, hr]; simp [q])
  · rw [List.map_set]
    have : (rows.map VarR.b).set i b = rows.map VarR.b := by
      refine List.ext_getElem? fun j => ?_
      by_cases e : j = i
      · subst e
        obtain ⟨hlt, he⟩ := List.getElem?_eq_some_iff.1 hr
        rw [List.getElem?_set_self (by simpa using hlt), List.getElem?_map, hr]; rfl
      · rw [List.getElem?_set_ne (fun q => e q.symm)]
    show ((rows.map VarR.b).set i b).Nodup
    rw [this]
    exact E.nd
/-- A row that lies behind all heaps and nodes is stored. -/
theorem Env.store (E : Env X B w0 w rows hs ns) (i : Nat) {b : Nat} {t : TypeId} {C D : Array Value} {W' : World} (hr : rows[i]? = some ⟨b, t, C⟩) (hD : D.size = C.size) (hb : B ≤ b) (h : W' = w.setCells b 0 D.toList) : Env X B w0 W' (rows.set i ⟨b, t, D⟩) hs ns := by
  have hbu : But b w W' := by rw [h]; exact (But.refl b w).setCells _ 0
  have hbe := hbu.below hb E.hB
  exact E.turn i hr hbu (by rw [h]; exact store_row (E.row i hr) hD) (fun a ha => (E.heaps a ha).below hbe (Nat.le_refl _)) (fun a ha => (E.nodes a ha).below hbe (Nat.le_refl _))
/-- A row that holds no text is stored. -/
theorem Env.storeAny (E : Env X B w0 w rows hs ns) (i : Nat) {b : Nat} {t : TypeId} {C D : Array Value} {W' : World} (hr : rows[i]? = some ⟨b, t, C⟩) (hD : D.size = C.size) (hC : ∀ (i : Nat) (s : ByteArray), C[i]? ≠ some (Value.string s)) (h : W' = w.setCells b 0 D.toList) : Env X B w0 W' (rows.set i ⟨b, t, D⟩) hs ns := by
  have hbu : But b w W' := by rw [h]; exact (But.refl b w).setCells _ 0
  exact E.turn i hr hbu (by rw [h]; exact store_row (E.row i hr) hD) (fun a ha => HeapAt.butAny (E.row i hr) hC hbu (E.heaps a ha) E.hB) (fun a ha => NodeAt.butAny (E.row i hr) hC hbu (E.nodes a ha) E.hB)
end
theorem Env.rowAt {X B : Nat} {w0 w : World} {rows : List VarR} {hs : List (Value × HeapD)} {ns : List (Value × NodeD)} (E : Env X B w0 w rows hs ns) (i : Nat) {b : Nat} {t : TypeId} {C : Array Value} (h : rows[i]? = some ⟨b, t, C⟩) : RowIs w b t C := E.row i h
/-- A variable comes to be, and is stored. -/
theorem Env.var {X B : Nat} {w0 w : World} {rows : List VarR} {hs : List (Value × HeapD)} {ns : List (Value × NodeD)} (E : Env X B w0 w rows hs ns) {C D : Array Value} {t : TypeId} {W1 W2 : World} (h1 : W1 = w.alloc (.cells C t)) (h2 : W2 = W1.setCells w.heap.size 0 D.toList) (hD : D.size = C.size) : Env X w.heap.size w0 W2 (⟨w.heap.size, t, D⟩ :: rows) hs ns :=
  (E.up.alloc h1).store 0 rfl hD (Nat.le_refl _) h2
/-- The cells of a heap that lies in memory. -/
theorem Env.cells {X B : Nat} {w0 w : World} {rows : List VarR} {hs : List (Value × HeapD)} {ns : List (Value × NodeD)} (E : Env X B w0 w rows hs ns) (i : Nat) {n : Int} {p : Option Addr} {m c : Nat} {d : HeapD} (h : hs[i]? = some (.agg #[.int .u32 n, .slice p m c], d)) (t : Nat) (ht : t < d.cells.length) :
    ∃ b o, p = some ⟨b, o, none⟩ ∧ w.cell? ⟨b, o + t * 3, none⟩ = some (.int .u32 (d.cells[t].num : Int)) ∧ w.cell? ⟨b, o + t * 3 + 1, none⟩ = some (.string d.cells[t].data) ∧ w.cell? ⟨b, o + t * 3 + 2, none⟩ = some (.int .i64 d.cells[t].refs) := by
  obtain ⟨sl, hv, pa, capa, rfl, hn0, hr0⟩ := (E.heaps _ (List.mem_of_getElem? h)).at_
  injection hv with hv
  have hv2 : Value.slice p m c = .slice pa d.cells.length capa := by
    have := congrArg (fun a => a[1]?) hv
    simpa using this
  injection hv2 with hv3 hv4 hv5
  obtain ⟨b, o, hpb, hbX, hc⟩ := hr0 (Nat.lt_of_le_of_lt (Nat.zero_le t) ht)
  refine ⟨b, o, hv3.trans hpb, ?_⟩
  have h2 : w.rangeAt b (o + t * 3) ((d.cells[t]?.map cellV).getD []) := hc t ht
  rw [List.getElem?_eq_getElem ht] at h2
  exact ⟨h2 0 _ rfl, h2 1 _ rfl, h2 2 _ rfl⟩
theorem Env.toBelow {X B : Nat} {w0 w : World} {rows : List VarR} {hs : List (Value × HeapD)} {ns : List (Value × NodeD)} (E : Env X B w0 w rows hs ns) : Below X w0 w := E.below
/-- Two variables come to be, and are stored. -/
theorem Env.var2 {X B : Nat} {w0 w : World} {rows : List VarR} {hs : List (Value × HeapD)} {ns : List (Value × NodeD)} (E : Env X B w0 w rows hs ns) {C1 D1 C2 D2 : Array Value} {t1 t2 : TypeId} {W1 W2 W3 W4 : World} (h1 : W1 = w.alloc (.cells C1 t1)) (h2 : W2 = W1.alloc (.cells C2 t2))
    (h3 : W3 = W2.setCells w.heap.size 0 D1.toList) (h4 : W4 = W3.setCells W1.heap.size 0 D2.toList) (hD1 : D1.size = C1.size) (hD2 : D2.size = C2.size) :
    Env X w.heap.size w0 W4 (⟨W1.heap.size, t2, D2⟩ :: ⟨w.heap.size, t1, D1⟩ :: rows) hs ns ∧ W2.there w.heap.size 0 D1.size ∧ W3.there W1.heap.size 0 D2.size := by
  have hle : w.heap.size ≤ W1.heap.size := by rw [h1]; exact ((Below.refl _ _).alloc (B := 0) (Nat.zero_le _) _).size
  have E2 := (E.up.alloc h1).alloc h2
  have E3 := E2.store 1 rfl hD1 (Nat.le_refl _) h3
  have E4 := E3.store 0 rfl hD2 hle h4
  exact ⟨E4, (E2.rowAt 1 rfl).there 0 _ (by rw [hD1]; simp), (E3.rowAt 0 rfl).there 0 _ (by rw [hD2]; simp)⟩
theorem exec_eqlH {P : Program} {o : Oper} {ev : Operand → Value} {w : World} {t t' : TypeId} {x y : Operand} {va vb : Array Value} {r : Bool} (ho : o.op = .binOp .eql t x y t') (hx : ev x = .agg va) (hy : ev y = .agg vb)
    (hg : P.eqGuardType P.depth t = false) (h : (binOp .eql t (.agg va) (.agg vb)).run P w = .ok (.bool r) w) : (execOp ev o).run P w = .ok (.value (.bool r)) w := by
  unfold execOp
  simp only [ho, hx, hy, Sem.run_bind, run_eqGuard_agg w .eql t x y va vb hg, Result.andThen_ok, h, Sem.run_pure]
theorem eql_kid (a b : KidD) (ha : a.wf) (hb : b.wf) (w : World) : (binOp .eql 38 (.agg (kidV a).toArray) (.agg (kidV b).toArray)).run Tryz.prog w = .ok (.bool (kidEq a b)) w := by
  have hS : Tryz.prog.underlying 38 = some (.struct (Tryz.prog.fieldsOf 38)) := by kernel_rfl
  have hp : Tryz.prog.stoodInHeld 38 = false := by kernel_rfl
  have q3 : ∀ c : KidD, c.wf → (part 36 (kidV c).toArray 2).run Tryz.prog w = .ok (.agg (byteCells c.hash)) w := fun c hc => by
    rw [kidV]; exact part_hash [.string c.key, .int .u32 (c.num : Int)] 2 rfl c.hash w hc.2
  have q1 : ∀ c : KidD, (part 9 (kidV c).toArray 0).run Tryz.prog w = .ok (.string c.key) w := fun c => by simp [part, isAgg, run_underlying Tryz.underlying9, kidV]
  have q2 : ∀ c : KidD, (part 32 (kidV c).toArray 1).run Tryz.prog w = .ok (.int .u32 (c.num : Int)) w := fun c => by simp [part, isAgg, run_underlying Tryz.underlying32, kidV]
  have r1 := run_equalIn_string w 9998 9 a.key b.key Tryz.underlying9
  have r2 := run_equalIn_int w 9998 32 .u32 .u32 (a.num : Int) (b.num : Int) Tryz.underlying32
  have r3 := eq_hash9 a.hash b.hash w ha.2 hb.2
  rw [toList_beq] at r1
  rw [cast_beq] at r2
  rw [hash_beq] at r3
  have q3a := q3 a ha
  have q3b := q3 b hb
  rw [run_eql_struct, show (10000 : Nat) = 9999 + 1 from rfl, run_equalIn_agg w 9999 38 _ _ hS hp]
  simp only [Program.fieldsOf, Tryz.underlying38]
  rw [eqFields_cons 9 0 rfl rfl (by decide) (q1 a) (q1 b) r1, eqFields_cons 32 1 rfl rfl (by decide) (q2 a) (q2 b) r2, eqFields_cons 36 2 rfl rfl (by decide) (q3a) (q3b) r3, Op.eqFields, Sem.run_pure]
  unfold kidEq
  cases decide (a.key = b.key) <;> cases decide (a.num = b.num) <;> cases decide (a.hash = b.hash) <;> rfl
theorem no_text2 (n : Int) (p : Option Addr) (m c : Nat) : ∀ (i : Nat) (s : ByteArray), (#[.int .u32 n, .slice p m c] : Array Value)[i]? ≠ some (Value.string s) := fun i s => by
  rcases i with _ | _ | i <;> simp
theorem Env.start {w : World} {hs : List (Value × HeapD)} {ns : List (Value × NodeD)} (hh : ∀ a ∈ hs, HeapAt w.heap.size w a.1 a.2) (hn : ∀ a ∈ ns, NodeAt w.heap.size w a.1 a.2) : Env w.heap.size w.heap.size w w [] hs ns :=
  ⟨Below.refl _ _, Nat.le_refl _, Nat.le_refl _, by simp, by simp, hh, hn⟩

end Go.Proofs.YtimkklaidodkdaaGreatDoor
