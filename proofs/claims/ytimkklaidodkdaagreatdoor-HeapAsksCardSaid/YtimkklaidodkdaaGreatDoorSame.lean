/- '==' at api.Item, api.Kid, api.Volume: what the model's operation gives. -/
/- The references' Same, SameVolumes: walked. -/
import Derived.Test.YtimkklaidodkdaaGreatDoorDecode
import Derived.Laws.StructEq
namespace Go.Proofs.YtimkklaidodkdaaGreatDoor
open Go.RowKit

theorem eq_hash9 (xs ys : List UInt8) (w : World) (hx : xs.length = 32) (hy : ys.length = 32) : (Op.equalIn 9999 36 (.agg (byteCells xs)) (.agg (byteCells ys))).run Tryz.prog w = .ok (xs == ys) w :=
 run_equalIn_bytes w 9997 36 5 32 Tryz.underlying36 Tryz.underlying5 Tryz.sizeOf5 xs ys hx hy
theorem part_hash (pre : List Value) (n : Nat) (hn : n = pre.length) (xs : List UInt8) (w : World) (hx : xs.length = 32) : (part 36 (pre ++ bytesV xs).toArray n).run Tryz.prog w = .ok (.agg (byteCells xs)) w := by
 subst hn
 have ha : (isAgg 36).run Tryz.prog w = .ok true w := by simp [isAgg, run_underlying Tryz.underlying36]
 have hl : (bytesV xs).length = 32 := by simp [bytesV, hx]
 simp [part, ha]
 rw [List.take_of_length_le (by omega)]
 rfl
/-- Whether two texts are one, as the model asks it. -/
theorem toList_beq (a b : ByteArray) : (a.toList == b.toList) = decide (a = b) := by
 rw [Bool.eq_iff_iff, decide_eq_true_eq, ByteArray.toList_eq, ByteArray.toList_eq]
 constructor
 ·intro h
  have h2 : a.data.toList = b.data.toList := by simpa using h
  exact ByteArray.ext (Array.ext' h2)
 ·rintro rfl; simp
theorem cast_beq (a b : Nat) : ((a : Int) == (b : Int)) = decide (a = b) := by
 rw [Bool.eq_iff_iff, decide_eq_true_eq]; simp [Int.ofNat_inj]
theorem hash_beq (a b : List UInt8) : (a == b) = decide (a = b) := by
 rw [Bool.eq_iff_iff]; simp

theorem eqFields_cons {P : Program} {d : Nat} {xs ys : Array Value} {f : Field} {fs : List Field} {w : World} (t : TypeId) (o : Nat) (ht : f.type = t) (ho : f.offset = o) {a b : Value} {r : Bool} (hn : f.name ≠ "_")
  (ha : (part t xs o).run P w = .ok a w) (hb : (part t ys o).run P w = .ok b w) (hr : (Op.equalIn d t a b).run P w = .ok r w) :
  (Op.eqFields d xs ys (f :: fs)).run P w = if r = true then (Op.eqFields d xs ys fs).run P w else .ok false w := by
 subst ht ho
 rw [Op.eqFields, if_pos hn]
 simp only [Sem.run_bind, ha, hb, hr, Result.andThen_ok, Sem.run_ite, Sem.run_pure]
 cases r <;> simp

def itemEq (a b : ItemD) : Bool := decide (a.key = b.key) && decide (a.val = b.val)
def kidEq (a b : KidD) : Bool := decide (a.key = b.key) && (decide (a.num = b.num) && decide (a.hash = b.hash))
def volEq (a b : VolD) : Bool := decide (a.name = b.name) && (decide (a.kind = b.kind) && (decide (a.frm = b.frm) && (decide (a.born = b.born) && (decide (a.root = b.root) && decide (a.hash = b.hash)))))
theorem itemEq_iff (a b : ItemD) : itemEq a b = true ↔ a = b := by
 cases a; cases b; simp [itemEq]
theorem kidEq_iff (a b : KidD) : kidEq a b = true ↔ a = b := by
 cases a; cases b; simp [kidEq]
theorem volEq_iff (a b : VolD) : volEq a b = true ↔ a = b := by
 cases a; cases b; simp [volEq]

theorem neq_item (a b : ItemD) (w : World) : (binOp .neq 44 (.agg (itemV a).toArray) (.agg (itemV b).toArray)).run Tryz.prog w = .ok (.bool (!(itemEq a b))) w := by
 have hS : Tryz.prog.underlying 44 = some (.struct (Tryz.prog.fieldsOf 44)) := by kernel_rfl
 have hp : Tryz.prog.stoodInHeld 44 = false := by kernel_rfl
 have q1 : ∀ c : ItemD, (part 9 (itemV c).toArray 0).run Tryz.prog w = .ok (.string c.key) w := fun c => by simp [part, isAgg, run_underlying Tryz.underlying9, itemV]
 have q2 : ∀ c : ItemD, (part 9 (itemV c).toArray 1).run Tryz.prog w = .ok (.string c.val) w := fun c => by simp [part, isAgg, run_underlying Tryz.underlying9, itemV]
 have r1 := run_equalIn_string w 9998 9 a.key b.key Tryz.underlying9
 have r2 := run_equalIn_string w 9998 9 a.val b.val Tryz.underlying9
 rw [toList_beq] at r1 r2
 rw [run_neq_struct, show (10000 : Nat) = 9999 + 1 from rfl, run_equalIn_agg w 9999 44 _ _ hS hp]
 simp only [Program.fieldsOf, Tryz.underlying44]
 rw [eqFields_cons 9 0 rfl rfl (by decide) (q1 a) (q1 b) r1, eqFields_cons 9 1 rfl rfl (by decide) (q2 a) (q2 b) r2, Op.eqFields, Sem.run_pure]
 unfold itemEq
 cases decide (a.key = b.key) <;> cases decide (a.val = b.val) <;> rfl

theorem neq_kid (a b : KidD) (ha : a.wf) (hb : b.wf) (w : World) : (binOp .neq 38 (.agg (kidV a).toArray) (.agg (kidV b).toArray)).run Tryz.prog w = .ok (.bool (!(kidEq a b))) w := by
 have hS : Tryz.prog.underlying 38 = some (.struct (Tryz.prog.fieldsOf 38)) := by kernel_rfl
 have hp : Tryz.prog.stoodInHeld 38 = false := by kernel_rfl
 have q3 : ∀ c : KidD, c.wf → (part 36 (kidV c).toArray 2).run Tryz.prog w = .ok (.agg (byteCells c.hash)) w := fun c hc => by
  rw [kidV]; exact part_hash [.string c.key, .int .u32 (c.num : Int)] 2 rfl c.hash w hc.2
 have q1 : ∀ c : KidD, (part 9 (kidV c).toArray 0).run Tryz.prog w = .ok (.string c.key) w := fun c => by simp [part, isAgg, run_underlying Tryz.underlying9, kidV]
 have q2 : ∀ c : KidD, (part 32 (kidV c).toArray 1).run Tryz.prog w = .ok (.int .u32 (c.num : Int)) w := fun c => by simp [part, isAgg, run_underlying Tryz.underlying32, kidV]
 have r1 := run_equalIn_string w 9998 9 a.key b.key Tryz.underlying9
 have r2 := run_equalIn_int w 9998 32 .u32 .u32 (a.num : Int) (b.num : Int) Tryz.underlying32
 have r3 := eq_hash9 a.hash b.hash w ha.2 hb.2
 rw [toList_beq] at r1
 rw [cast_beq] at r2
 rw [hash_beq] at r3
 have q3a := q3 a ha
 have q3b := q3 b hb
 rw [run_neq_struct, show (10000 : Nat) = 9999 + 1 from rfl, run_equalIn_agg w 9999 38 _ _ hS hp]
 simp only [Program.fieldsOf, Tryz.underlying38]
 rw [eqFields_cons 9 0 rfl rfl (by decide) (q1 a) (q1 b) r1, eqFields_cons 32 1 rfl rfl (by decide) (q2 a) (q2 b) r2, eqFields_cons 36 2 rfl rfl (by decide) (q3a) (q3b) r3, Op.eqFields, Sem.run_pure]
 unfold kidEq
 cases decide (a.key = b.key) <;> cases decide (a.num = b.num) <;> cases decide (a.hash = b.hash) <;> rfl

theorem neq_vol (a b : VolD) (ha : a.wf) (hb : b.wf) (w : World) : (binOp .neq 89 (.agg (volV a).toArray) (.agg (volV b).toArray)).run Tryz.prog w = .ok (.bool (!(volEq a b))) w := by
 have hS : Tryz.prog.underlying 89 = some (.struct (Tryz.prog.fieldsOf 89)) := by kernel_rfl
 have hp : Tryz.prog.stoodInHeld 89 = false := by kernel_rfl
 have q6 : ∀ c : VolD, c.wf → (part 36 (volV c).toArray 5).run Tryz.prog w = .ok (.agg (byteCells c.hash)) w := fun c hc => by
  rw [volV]; exact part_hash [.string c.name, .int .u8 (c.kind : Int), .string c.frm, .int .u64 (c.born : Int), .int .u32 (c.root : Int)] 5 rfl c.hash w hc.2.2.2
 have q1 : ∀ c : VolD, (part 9 (volV c).toArray 0).run Tryz.prog w = .ok (.string c.name) w := fun c => by simp [part, isAgg, run_underlying Tryz.underlying9, volV]
 have q2 : ∀ c : VolD, (part 87 (volV c).toArray 1).run Tryz.prog w = .ok (.int .u8 (c.kind : Int)) w := fun c => by simp [part, isAgg, run_underlying Tryz.underlying87, volV]
 have q3 : ∀ c : VolD, (part 9 (volV c).toArray 2).run Tryz.prog w = .ok (.string c.frm) w := fun c => by simp [part, isAgg, run_underlying Tryz.underlying9, volV]
 have q4 : ∀ c : VolD, (part 81 (volV c).toArray 3).run Tryz.prog w = .ok (.int .u64 (c.born : Int)) w := fun c => by simp [part, isAgg, run_underlying Tryz.underlying81, volV]
 have q5 : ∀ c : VolD, (part 32 (volV c).toArray 4).run Tryz.prog w = .ok (.int .u32 (c.root : Int)) w := fun c => by simp [part, isAgg, run_underlying Tryz.underlying32, volV]
 have r1 := run_equalIn_string w 9998 9 a.name b.name Tryz.underlying9
 have r2 := run_equalIn_int w 9998 87 .u8 .u8 (a.kind : Int) (b.kind : Int) Tryz.underlying87
 have r3 := run_equalIn_string w 9998 9 a.frm b.frm Tryz.underlying9
 have r4 := run_equalIn_int w 9998 81 .u64 .u64 (a.born : Int) (b.born : Int) Tryz.underlying81
 have r5 := run_equalIn_int w 9998 32 .u32 .u32 (a.root : Int) (b.root : Int) Tryz.underlying32
 have r6 := eq_hash9 a.hash b.hash w ha.2.2.2 hb.2.2.2
 rw [toList_beq] at r1 r3
 rw [cast_beq] at r2 r4 r5
 rw [hash_beq] at r6
 have q6a := q6 a ha
 have q6b := q6 b hb
 rw [run_neq_struct, show (10000 : Nat) = 9999 + 1 from rfl, run_equalIn_agg w 9999 89 _ _ hS hp]
 simp only [Program.fieldsOf, Tryz.underlying89]
 rw [eqFields_cons 9 0 rfl rfl (by decide) (q1 a) (q1 b) r1, eqFields_cons 87 1 rfl rfl (by decide) (q2 a) (q2 b) r2, eqFields_cons 9 2 rfl rfl (by decide) (q3 a) (q3 b) r3, eqFields_cons 81 3 rfl rfl (by decide) (q4 a) (q4 b) r4, eqFields_cons 32 4 rfl rfl (by decide) (q5 a) (q5 b) r5, eqFields_cons 36 5 rfl rfl (by decide) (q6a) (q6b) r6, Op.eqFields, Sem.run_pure]
 unfold volEq
 cases decide (a.name = b.name) <;> cases decide (a.kind = b.kind) <;> cases decide (a.frm = b.frm) <;> cases decide (a.born = b.born) <;> cases decide (a.root = b.root) <;> cases decide (a.hash = b.hash) <;> rfl

theorem guard_item : Tryz.prog.eqGuardType Tryz.prog.depth 44 = false := by kernel_rfl
theorem guard_kid : Tryz.prog.eqGuardType Tryz.prog.depth 38 = false := by kernel_rfl
theorem guard_vol : Tryz.prog.eqGuardType Tryz.prog.depth 89 = false := by kernel_rfl

end Go.Proofs.YtimkklaidodkdaaGreatDoor

namespace Go.Proofs.YtimkklaidodkdaaGreatDoor
open Go.RowKit

def lEq {α : Type} (f : α → α → Bool) : List α → List α → Bool
 | [], [] => true
 | x :: a, y :: b => f x y && lEq f a b
 | _, _ => false
theorem lEq_iff {α : Type} {f : α → α → Bool} (hf : ∀ x y, f x y = true ↔ x = y) : ∀ a b : List α, lEq f a b = true ↔ a = b
 | [], [] => by simp [lEq]
 | [], _ :: _ => by simp [lEq]
 | _ :: _, [] => by simp [lEq]
 | x :: a, y :: b => by rw [lEq, Bool.and_eq_true, hf, lEq_iff hf a b, List.cons.injEq]
theorem lEq_len {α : Type} {f : α → α → Bool} : ∀ a b : List α, a.length ≠ b.length → lEq f a b = false
 | [], [], h => absurd rfl h
 | [], _ :: _, _ => rfl
 | _ :: _, [], _ => rfl
 | x :: a, y :: b, h => by rw [lEq, lEq_len a b (by simpa using h), Bool.and_false]
theorem lEq_drop {α : Type} {f : α → α → Bool} (a b : List α) (t : Nat) (ha : t < a.length) (hb : t < b.length) : lEq f (a.drop t) (b.drop t) = (f a[t] b[t] && lEq f (a.drop (t + 1)) (b.drop (t + 1))) := by
 rw [List.drop_eq_getElem_cons ha, List.drop_eq_getElem_cons hb, lEq]

/-- An operation of a region that only reads: what it yields in every world that differs in draws alone. -/
theorem quiet_exec {P : Program} {ops : Array Oper} {Q : Act → Prop} {a : Act} {o : Oper} {rest : List Oper} {w : World} (v : Value) (hw : Region.wanted o (yielded ops a.tmps) = true) (h : ∀ n, (execOp a.eval o).run P (w.drewN n) = .ok (.value v) (w.drewN n))
  (k : wpQuiet P ops (fun w' => ∃ n, w' = w.drewN n) Q rest (a.put o.dst v)) : wpQuiet P ops (fun w' => ∃ n, w' = w.drewN n) Q (o :: rest) a :=
 BigFrame.wpQuiet_want hw fun K hK => ⟨v, fun w' ⟨n, hn⟩ => by subst hn; unfold Oper.quietAt; rw [h n]; exact ⟨rfl, rfl⟩, hK _ k⟩
theorem exec_neq {P : Program} {o : Oper} {ev : Operand → Value} {w : World} {t t' : TypeId} {x y : Operand} {va vb : Array Value} {r : Bool} (ho : o.op = .binOp .neq t x y t') (hx : ev x = .agg va) (hy : ev y = .agg vb)
  (hg : P.eqGuardType P.depth t = false) (h : (binOp .neq t (.agg va) (.agg vb)).run P w = .ok (.bool r) w) : (execOp ev o).run P w = .ok (.value (.bool r)) w := by
 unfold execOp
 simp only [ho, hx, hy, Sem.run_bind, run_eqGuard_agg w .neq t x y va vb hg, Result.andThen_ok, h, Sem.run_pure]
theorem rangeAt_drewN {w : World} {b o : Nat} {cs : List Value} (h : w.rangeAt b o cs) (n : Nat) : (w.drewN n).rangeAt b o cs := h

set_option maxRecDepth 20000 in
set_option maxHeartbeats 1600000 in
theorem sameItems_calls (B : Nat) (va vb : Value) (a b : List ItemD) (w : World) (ha : ItemsAt B w va a) (hb : ItemsAt B w vb b) :
  Calls Tryz.prog 57 #[va, vb] w fun e w' => e = .returned (.bool (lEq itemEq a b)) ∧ ∃ n, w' = w.drewN n := by
 obtain ⟨pa, ca, rfl, hna, hra⟩ := ha
 obtain ⟨pb, cb, rfl, hnb, hrb⟩ := hb
 unfold maxLen at hna hnb
 have hlen := lEq_len (f := itemEq) a b
 generalize hX : lEq itemEq a b = X at *
 have HX := Lib.hid hX
 clear hX
 by_cases hl : a.length = b.length
 ·have i1 : (a.length : Int) = (b.length : Int) := by omega
  clear hlen
  have HL := Lib.hid hl
  rw [hl] at hna hra ⊢
  clear hl i1
  go_enter Tryz.func57, Tryz.ntmps57
  go_wp2_with fail
  go_loopw [13] (fun v wr => ∃ t : Nat, t ≤ b.length ∧ v = .int .i64 t ∧ X = lEq itemEq (a.drop t) (b.drop t) ∧ ∃ n, wr = w.drewN n) (fun v _ => b.length - (intOf v).toNat)
  case atStart => exact ⟨0, by omega, rfl, HX.out.symm, 0, rfl⟩
  case round =>
   obtain ⟨t, ht, rfl, hok, m, rfl⟩ := hrel
   by_cases hlt : t < b.length
   ·have hlta : t < a.length := by rw [HL.out]; exact hlt
    obtain ⟨ba, oa, rfl, _, hca⟩ := hra (by omega)
    obtain ⟨bb, ob, rfl, _, hcb⟩ := hrb (by omega)
    have hc1 := hca t hlt
    have hc2 := hcb t hlt
    rw [List.getElem?_eq_getElem hlta] at hc1
    rw [List.getElem?_eq_getElem hlt] at hc2
    replace hc1 : (w.drewN m).rangeAt ba (oa + t * 2) (itemV a[t]) := hc1
    replace hc2 : (w.drewN m).rangeAt bb (ob + t * 2) (itemV b[t]) := hc2
    have hstep := lEq_drop (f := itemEq) a b t hlta hlt
    have hneq := fun w => neq_item a[t] b[t] w
    have hsz1 : (Tryz.prog.info? 44).map (·.size) = some (itemV a[t]).length := by rw [show (itemV a[t]).length = 2 from rfl]; kernel_rfl
    have hsz2 : (Tryz.prog.info? 44).map (·.size) = some (itemV b[t]).length := by rw [show (itemV b[t]).length = 2 from rfl]; kernel_rfl
    rw [hstep] at hok
    have hlti : (t : Int) < (b.length : Int) := by omega
    generalize itemEq a[t] b[t] = r at *
    generalize itemV a[t] = ca1 at *
    generalize itemV b[t] = cb1 at *
    have HR := Lib.hid hok
    clear hok hstep hca hcb hra hrb HX HL
    clear hlta ht
    go_wp2_with fail
    refine wp_region_quiet_lit (by kernel_rfl) (by kernel_rfl) ?_
    go_big_quiet_step (fail)
    go_big_quiet_step (fail)
    go_big_quiet_step (fail)
    refine quiet_exec _ (by rfl) (fun n => exec_load_mid 44 _ rfl ba (oa + t * 2) (by rfl) ca1 _ (rangeAt_drewN hc1 n) Tryz.underlying44 rfl hsz1) ?_
    simp only [Act.put, List.setIfInBounds_toArray, List.set_cons_zero, List.set_cons_succ]
    go_big_quiet_step (fail)
    go_big_quiet_step (fail)
    go_big_quiet_step (fail)
    refine quiet_exec _ (by rfl) (fun n => exec_load_mid 44 _ rfl bb (ob + t * 2) (by rfl) cb1 _ (rangeAt_drewN hc2 n) Tryz.underlying44 rfl hsz2) ?_
    simp only [Act.put, List.setIfInBounds_toArray, List.set_cons_zero, List.set_cons_succ]
    refine quiet_exec _ (by rfl) (fun n => exec_neq rfl (by rfl) (by rfl) guard_item (hneq _)) ?_
    simp only [Act.put, List.setIfInBounds_toArray, List.set_cons_zero, List.set_cons_succ]
    refine wpQuiet_nil ?_
    intro _ hw'
    obtain ⟨nq, hw''⟩ := hw'
    subst hw''
    cases r with
    | true =>
     go_wp2_with fail
     go_roundw
     case rel => exact ⟨t + 1, by omega, by go_num, by rw [HR.out]; rfl, m + nq, rfl⟩
     case measure => simp [intOf]; omega
    | false =>
     have hX : X = false := by rw [HR.out]; rfl
     have HXf := Lib.hid hX
     clear hX
     go_wp2_with fail
     go_ret
     exact ⟨by rw [HXf.out]; rfl, m + nq, World.drewN_drewN _ _ _⟩
   ·have htl : t = b.length := by omega
    have hX : X = true := by rw [hok, htl, List.drop_length, ← HL.out, List.drop_length]; rfl
    have HXf := Lib.hid hX
    clear hX hok hra hrb
    go_wp2_with fail
    go_ret
    exact ⟨by rw [HXf.out]; rfl, m, rfl⟩
 ·have hX : X = false := hlen hl
  have HXf := Lib.hid hX
  have i1 : ¬ (a.length : Int) = (b.length : Int) := by omega
  clear hX hlen hl
  go_enter Tryz.func57, Tryz.ntmps57
  go_wp2_with fail
  go_ret
  exact ⟨by rw [HXf.out]; rfl, 0, rfl⟩

set_option maxRecDepth 20000 in
set_option maxHeartbeats 1600000 in
theorem sameVols_calls (B : Nat) (va vb : Value) (a b : List VolD) (w : World) (ha : VolsAt B w va a) (hb : VolsAt B w vb b) (ha' : ∀ x ∈ a, x.wf) (hb' : ∀ x ∈ b, x.wf) :
  Calls Tryz.prog 58 #[va, vb] w fun e w' => e = .returned (.bool (lEq volEq a b)) ∧ ∃ n, w' = w.drewN n := by
 obtain ⟨pa, ca, rfl, hna, hra⟩ := ha
 obtain ⟨pb, cb, rfl, hnb, hrb⟩ := hb
 unfold maxLen at hna hnb
 have hlen := lEq_len (f := volEq) a b
 generalize hX : lEq volEq a b = X at *
 have HX := Lib.hid hX
 clear hX
 by_cases hl : a.length = b.length
 ·have i1 : (a.length : Int) = (b.length : Int) := by omega
  clear hlen
  have HL := Lib.hid hl
  rw [hl] at hna hra ⊢
  clear hl i1
  go_enter Tryz.func58, Tryz.ntmps58
  go_wp2_with fail
  go_loopw [13] (fun v wr => ∃ t : Nat, t ≤ b.length ∧ v = .int .i64 t ∧ X = lEq volEq (a.drop t) (b.drop t) ∧ ∃ n, wr = w.drewN n) (fun v _ => b.length - (intOf v).toNat)
  case atStart => exact ⟨0, by omega, rfl, HX.out.symm, 0, rfl⟩
  case round =>
   obtain ⟨t, ht, rfl, hok, m, rfl⟩ := hrel
   by_cases hlt : t < b.length
   ·have hlta : t < a.length := by rw [HL.out]; exact hlt
    obtain ⟨ba, oa, rfl, _, hca⟩ := hra (by omega)
    obtain ⟨bb, ob, rfl, _, hcb⟩ := hrb (by omega)
    have hc1 := hca t hlt
    have hc2 := hcb t hlt
    rw [List.getElem?_eq_getElem hlta] at hc1
    rw [List.getElem?_eq_getElem hlt] at hc2
    replace hc1 : (w.drewN m).rangeAt ba (oa + t * 37) (volV a[t]) := hc1
    replace hc2 : (w.drewN m).rangeAt bb (ob + t * 37) (volV b[t]) := hc2
    have hstep := lEq_drop (f := volEq) a b t hlta hlt
    have hneq := fun w => neq_vol a[t] b[t] (ha' _ (List.getElem_mem hlta)) (hb' _ (List.getElem_mem hlt)) w
    have hsz1 : (Tryz.prog.info? 89).map (·.size) = some (volV a[t]).length := by rw [volV_length (ha' _ (List.getElem_mem hlta)).2.2.2]; kernel_rfl
    have hsz2 : (Tryz.prog.info? 89).map (·.size) = some (volV b[t]).length := by rw [volV_length (hb' _ (List.getElem_mem hlt)).2.2.2]; kernel_rfl
    rw [hstep] at hok
    have hlti : (t : Int) < (b.length : Int) := by omega
    generalize volEq a[t] b[t] = r at *
    generalize volV a[t] = ca1 at *
    generalize volV b[t] = cb1 at *
    have HR := Lib.hid hok
    clear hok hstep hca hcb hra hrb HX HL
    clear hlta ht
    go_wp2_with fail
    refine wp_region_quiet_lit (by kernel_rfl) (by kernel_rfl) ?_
    go_big_quiet_step (fail)
    go_big_quiet_step (fail)
    go_big_quiet_step (fail)
    refine quiet_exec _ (by rfl) (fun n => exec_load_mid 89 _ rfl ba (oa + t * 37) (by rfl) ca1 _ (rangeAt_drewN hc1 n) Tryz.underlying89 rfl hsz1) ?_
    simp only [Act.put, List.setIfInBounds_toArray, List.set_cons_zero, List.set_cons_succ]
    go_big_quiet_step (fail)
    go_big_quiet_step (fail)
    go_big_quiet_step (fail)
    refine quiet_exec _ (by rfl) (fun n => exec_load_mid 89 _ rfl bb (ob + t * 37) (by rfl) cb1 _ (rangeAt_drewN hc2 n) Tryz.underlying89 rfl hsz2) ?_
    simp only [Act.put, List.setIfInBounds_toArray, List.set_cons_zero, List.set_cons_succ]
    refine quiet_exec _ (by rfl) (fun n => exec_neq rfl (by rfl) (by rfl) guard_vol (hneq _)) ?_
    simp only [Act.put, List.setIfInBounds_toArray, List.set_cons_zero, List.set_cons_succ]
    refine wpQuiet_nil ?_
    intro _ hw'
    obtain ⟨nq, hw''⟩ := hw'
    subst hw''
    cases r with
    | true =>
     go_wp2_with fail
     go_roundw
     case rel => exact ⟨t + 1, by omega, by go_num, by rw [HR.out]; rfl, m + nq, rfl⟩
     case measure => simp [intOf]; omega
    | false =>
     have hX : X = false := by rw [HR.out]; rfl
     have HXf := Lib.hid hX
     clear hX
     go_wp2_with fail
     go_ret
     exact ⟨by rw [HXf.out]; rfl, m + nq, World.drewN_drewN _ _ _⟩
   ·have htl : t = b.length := by omega
    have hX : X = true := by rw [hok, htl, List.drop_length, ← HL.out, List.drop_length]; rfl
    have HXf := Lib.hid hX
    clear hX hok hra hrb
    go_wp2_with fail
    go_ret
    exact ⟨by rw [HXf.out]; rfl, m, rfl⟩
 ·have hX : X = false := hlen hl
  have HXf := Lib.hid hX
  have i1 : ¬ (a.length : Int) = (b.length : Int) := by omega
  clear hX hlen hl
  go_enter Tryz.func58, Tryz.ntmps58
  go_wp2_with fail
  go_ret
  exact ⟨by rw [HXf.out]; rfl, 0, rfl⟩

def sameN (a b : NodeD) : Bool := decide (a.kind = b.kind) && (lEq itemEq a.items b.items && (decide (a.kids.length = b.kids.length) && (lEq volEq a.vols b.vols && lEq kidEq a.kids b.kids)))
theorem sameN_iff (a b : NodeD) : sameN a b = true ↔ a = b := by
 obtain ⟨k, i, d, v⟩ := a
 obtain ⟨k', i', d', v'⟩ := b
 simp only [sameN, Bool.and_eq_true, decide_eq_true_eq, lEq_iff itemEq_iff, lEq_iff kidEq_iff, lEq_iff volEq_iff, NodeD.mk.injEq]
 constructor
 ·rintro ⟨h1, h2, _, h3, h4⟩; exact ⟨h1, h2, h4, h3⟩
 ·rintro ⟨h1, h2, h3, h4⟩; exact ⟨h1, h2, by rw [h3], h4, h3⟩

set_option maxRecDepth 20000 in
set_option maxHeartbeats 3200000 in
theorem same_calls (B : Nat) (va vb : Value) (a b : NodeD) (w : World) (ha : NodeAt B w va a) (hb : NodeAt B w vb b) (hB : B ≤ w.heap.size) :
  Calls Tryz.prog 28 #[va, vb] w fun e w' => e = .returned (.bool (sameN a b)) ∧ Below w.heap.size w w' := by
 obtain ⟨hwa, via, vka, vva, rfl, ia, ka, va'⟩ := ha
 obtain ⟨hwb, vib, vkb, vvb, rfl, ib, kb, vb'⟩ := hb
 have hwka := hwa.2.1
 have hwkb := hwb.2.1
 have hci := fun w' (h : Below w.heap.size w w') => sameItems_calls B via vib a.items b.items w' (ia.below h hB) (ib.below h hB)
 have hcv := fun w' (h : Below w.heap.size w w') => sameVols_calls B vva vvb a.vols b.vols w' (va'.below h hB) (vb'.below h hB) hwa.2.2 hwb.2.2
 have hS : sameN a b = (decide (a.kind = b.kind) && (lEq itemEq a.items b.items && (decide (a.kids.length = b.kids.length) && (lEq volEq a.vols b.vols && lEq kidEq a.kids b.kids)))) := rfl
 have hnot : ∀ (x : Bool) (w : World), (Op.unary .not (.bool x)).run Tryz.prog w = .ok (.bool (!x)) w := fun _ _ => rfl
 obtain ⟨pa, ca, rfl, hna, hra⟩ := ka
 obtain ⟨pb, cb, rfl, hnb, hrb⟩ := kb
 obtain ⟨PI1, PC1, rfl, _, _⟩ := ia
 obtain ⟨PI2, PC2, rfl, _, _⟩ := ib
 obtain ⟨PV1, PC3, rfl, _, _⟩ := va'
 obtain ⟨PV2, PC4, rfl, _, _⟩ := vb'
 unfold maxLen at hna hnb
 generalize hX : sameN a b = X at *
 generalize hI : lEq itemEq a.items b.items = eqI at *
 generalize hV : lEq volEq a.vols b.vols = eqV at *
 generalize hK : lEq kidEq a.kids b.kids = eqK at *
 have hlen := lEq_len (f := kidEq) a.kids b.kids
 rw [hK] at hlen
 have HX := Lib.hid hS
 have HK := Lib.hid hK
 clear hX hI hV hK hwa hwb hS
 generalize a.kind = k1 at *
 generalize b.kind = k2 at *
 generalize a.kids = la at *
 generalize b.kids = lb at *
 generalize a.items.length = n1 at *
 generalize b.items.length = n2 at *
 generalize a.vols.length = n3 at *
 generalize b.vols.length = n4 at *
 obtain ⟨W1, hW1⟩ : ∃ W1, W1 = w.alloc (.cells #[.int .u8 (k1 : Int), .slice PI1 n1 PC1, .slice pa la.length ca, .slice PV1 n3 PC3] 28) := ⟨_, rfl⟩
 obtain ⟨W, hW⟩ : ∃ W, W = W1.alloc (.cells #[.int .u8 (k2 : Int), .slice PI2 n2 PC2, .slice pb lb.length cb, .slice PV2 n4 PC4] 28) := ⟨_, rfl⟩
 have hA1 : RowIs W1 w.heap.size 28 #[.int .u8 (k1 : Int), .slice PI1 n1 PC1, .slice pa la.length ca, .slice PV1 n3 PC3] := by rw [hW1]; exact RowIs.new w _ _
 have hAW : RowIs W w.heap.size 28 #[.int .u8 (k1 : Int), .slice PI1 n1 PC1, .slice pa la.length ca, .slice PV1 n3 PC3] := by rw [hW]; exact hA1.alloc _
 have hBW : RowIs W W1.heap.size 28 #[.int .u8 (k2 : Int), .slice PI2 n2 PC2, .slice pb lb.length cb, .slice PV2 n4 PC4] := by rw [hW]; exact RowIs.new W1 _ _
 have hbW : Below w.heap.size w W := by rw [hW, hW1]; exact ((Below.refl _ _).alloc (Nat.le_refl _) _).alloc (by simp) _
 have HW1 := Lib.hid hW1
 have HW := Lib.hid hW
 clear hW1 hW hA1
 go_enter Tryz.func28, Tryz.ntmps28
 have a0 : W.cell? ⟨w.heap.size, 0, none⟩ = some (.int .u8 (k1 : Int)) := by rw [hAW.cell]; rfl
 have b0 : W.cell? ⟨W1.heap.size, 0, none⟩ = some (.int .u8 (k2 : Int)) := by rw [hBW.cell]; rfl
 have a1 : W.cell? ⟨w.heap.size, 1, none⟩ = some (.slice PI1 n1 PC1) := by rw [hAW.cell]; rfl
 have b1 : W.cell? ⟨W1.heap.size, 1, none⟩ = some (.slice PI2 n2 PC2) := by rw [hBW.cell]; rfl
 by_cases hk : k1 = k2
 ·subst hk
  have hX1 : X = (eqI && (decide (la.length = lb.length) && (eqV && eqK))) := by rw [HX.out, decide_eq_true rfl]; rfl
  replace HX := Lib.hid hX1
  clear hX1
  go_wp2_with (first | (refine wpList_world HW1.out ?_) | (refine wpList_world HW.out ?_))
  refine (hci W hbW).mono ?_
  rintro e w2 ⟨rfl, m1, rfl⟩
  cases eqI with
  | false =>
   have hX : X = false := by rw [HX.out]; rfl
   have HXf := Lib.hid hX
   clear hX
   go_wp2_with fail
   go_ret
   exact ⟨by rw [HXf.out]; rfl, below_drewN hbW _⟩
  | true =>
   by_cases hl : la.length = lb.length
   ·have i1 : ((la.length : Int) == (lb.length : Int)) = true := by rw [cast_beq, decide_eq_true hl]
    have hX1 : X = (eqV && eqK) := by rw [HX.out, decide_eq_true hl]; rfl
    replace HX := Lib.hid hX1
    have HL := Lib.hid hl
    rw [hl] at hna hra hAW ⊢
    have a2 : W.cell? ⟨w.heap.size, 2, none⟩ = some (.slice pa lb.length ca) := by rw [hAW.cell]; rfl
    have b2 : W.cell? ⟨W1.heap.size, 2, none⟩ = some (.slice pb lb.length cb) := by rw [hBW.cell]; rfl
    have a3 : W.cell? ⟨w.heap.size, 3, none⟩ = some (.slice PV1 n3 PC3) := by rw [hAW.cell]; rfl
    have b3 : W.cell? ⟨W1.heap.size, 3, none⟩ = some (.slice PV2 n4 PC4) := by rw [hBW.cell]; rfl
    clear hX1 hl i1 hlen
    go_wp2_with fail
    refine (hcv _ (below_drewN hbW m1)).mono ?_
    rintro e w2 ⟨rfl, m2, rfl⟩
    rw [World.drewN_drewN]
    generalize m1 + m2 = m3 at *
    cases eqV with
    | false =>
     have hX : X = false := by rw [HX.out]; rfl
     have HXf := Lib.hid hX
     clear hX
     go_wp2_with fail
     go_ret
     exact ⟨by rw [HXf.out]; rfl, below_drewN hbW _⟩
    | true =>
     have hX1 : X = lEq kidEq la lb := by rw [HX.out, HK.out]; rfl
     replace HX := Lib.hid hX1
     clear hX1 a3 b3 a0 b0
     go_wp2_with fail
     go_loopw [39] (fun v wr => ∃ t : Nat, t ≤ lb.length ∧ v = .int .i64 t ∧ X = lEq kidEq (la.drop t) (lb.drop t) ∧ ∃ n, wr = W.drewN n) (fun v _ => lb.length - (intOf v).toNat)
     case atStart => exact ⟨0, by omega, rfl, HX.out, m3, rfl⟩
     case round =>
      obtain ⟨t, ht, rfl, hok, m, rfl⟩ := hrel
      by_cases hlt : t < lb.length
      ·have hlta : t < la.length := by rw [HL.out]; exact hlt
       obtain ⟨ba, oa, rfl, hba, hca⟩ := hra (by omega)
       obtain ⟨bb, ob, rfl, hbb, hcb⟩ := hrb (by omega)
       have hc1 := rangeAt_below (hca t hlt) hbW (by omega)
       have hc2 := rangeAt_below (hcb t hlt) hbW (by omega)
       rw [List.getElem?_eq_getElem hlta] at hc1
       rw [List.getElem?_eq_getElem hlt] at hc2
       replace hc1 : W.rangeAt ba (oa + t * 34) (kidV la[t]) := hc1
       replace hc2 : W.rangeAt bb (ob + t * 34) (kidV lb[t]) := hc2
       have hstep := lEq_drop (f := kidEq) la lb t hlta hlt
       have hneq := fun w => neq_kid la[t] lb[t] (hwka _ (List.getElem_mem hlta)) (hwkb _ (List.getElem_mem hlt)) w
       have hsz1 : (Tryz.prog.info? 38).map (·.size) = some (kidV la[t]).length := by rw [kidV_length (hwka _ (List.getElem_mem hlta)).2]; kernel_rfl
       have hsz2 : (Tryz.prog.info? 38).map (·.size) = some (kidV lb[t]).length := by rw [kidV_length (hwkb _ (List.getElem_mem hlt)).2]; kernel_rfl
       rw [hstep] at hok
       have hlti : (t : Int) < (lb.length : Int) := by omega
       generalize kidEq la[t] lb[t] = r at *
       generalize kidV la[t] = ca1 at *
       generalize kidV lb[t] = cb1 at *
       have HR := Lib.hid hok
       clear hok hstep hca hcb hra hrb HX HL
       clear hlta ht
       go_wp2_with fail
       refine wp_region_quiet_lit (by kernel_rfl) (by kernel_rfl) ?_
       go_big_quiet_step (fail)
       go_big_quiet_step (fail)
       go_big_quiet_step (fail)
       go_big_quiet_step (fail)
       refine quiet_exec _ (by rfl) (fun n => exec_load_mid 38 _ rfl ba (oa + t * 34) (by rfl) ca1 _ (rangeAt_drewN hc1 n) Tryz.underlying38 rfl hsz1) ?_
       simp only [Act.put, List.setIfInBounds_toArray, List.set_cons_zero, List.set_cons_succ]
       go_big_quiet_step (fail)
       go_big_quiet_step (fail)
       go_big_quiet_step (fail)
       go_big_quiet_step (fail)
       refine quiet_exec _ (by rfl) (fun n => exec_load_mid 38 _ rfl bb (ob + t * 34) (by rfl) cb1 _ (rangeAt_drewN hc2 n) Tryz.underlying38 rfl hsz2) ?_
       simp only [Act.put, List.setIfInBounds_toArray, List.set_cons_zero, List.set_cons_succ]
       refine quiet_exec _ (by rfl) (fun n => exec_neq rfl (by rfl) (by rfl) guard_kid (hneq _)) ?_
       simp only [Act.put, List.setIfInBounds_toArray, List.set_cons_zero, List.set_cons_succ]
       refine wpQuiet_nil ?_
       intro _ hw'
       obtain ⟨nq, hw''⟩ := hw'
       subst hw''
       cases r with
       | true =>
        go_wp2_with fail
        go_roundw
        case rel => exact ⟨t + 1, by omega, by go_num, by rw [HR.out]; rfl, m + nq, rfl⟩
        case measure => simp [intOf]; omega
       | false =>
        have hX : X = false := by rw [HR.out]; rfl
        have HXf := Lib.hid hX
        clear hX
        go_wp2_with fail
        go_ret
        exact ⟨by rw [HXf.out]; rfl, below_drewN (below_drewN hbW _) _⟩
      ·have htl : t = lb.length := by omega
       have hX : X = true := by rw [hok, htl, List.drop_length, ← HL.out, List.drop_length]; rfl
       have HXf := Lib.hid hX
       clear hX hok hra hrb
       go_wp2_with fail
       go_ret
       exact ⟨by rw [HXf.out]; rfl, below_drewN hbW _⟩
   ·have i1 : ((la.length : Int) == (lb.length : Int)) = false := by rw [cast_beq, decide_eq_false hl]
    have i2 : ¬ (la.length : Int) = (lb.length : Int) := by omega
    have i3 : ¬ la.length = lb.length := hl
    have hX : X = false := by rw [HX.out, decide_eq_false hl]; rfl
    have HXf := Lib.hid hX
    have a2 : W.cell? ⟨w.heap.size, 2, none⟩ = some (.slice pa la.length ca) := by rw [hAW.cell]; rfl
    have b2 : W.cell? ⟨W1.heap.size, 2, none⟩ = some (.slice pb lb.length cb) := by rw [hBW.cell]; rfl
    clear hX hl hlen
    go_wp2_with fail
    go_ret
    exact ⟨by rw [HXf.out]; rfl, below_drewN hbW _⟩
 ·have hne : ((k1 : Int) == (k2 : Int)) = false := by rw [cast_beq, decide_eq_false hk]
  have hX : X = false := by rw [HX.out, decide_eq_false hk]; rfl
  have HXf := Lib.hid hX
  clear hX
  go_wp2_with (first | (refine wpList_world HW1.out ?_) | (refine wpList_world HW.out ?_))
  go_ret
  exact ⟨by rw [HXf.out]; rfl, hbW⟩

end Go.Proofs.YtimkklaidodkdaaGreatDoor
