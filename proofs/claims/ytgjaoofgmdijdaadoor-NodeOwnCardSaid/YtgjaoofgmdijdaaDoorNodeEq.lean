/- '==' at api.Item, api.Kid, api.Volume: what the model's operation gives. -/
import Derived.Test.YtgjaoofgmdijdaaDoorDecode
import Derived.Laws.StructEq
namespace Go.Proofs.YtgjaoofgmdijdaaDoor
open Go.RowKit

theorem eq_hash9 (xs ys : List UInt8) (w : World) (hx : xs.length = 32) (hy : ys.length = 32) : (Op.equalIn 9999 47 (.agg (byteCells xs)) (.agg (byteCells ys))).run Tryd.prog w = .ok (xs == ys) w :=
  run_equalIn_bytes w 9997 47 5 32 Tryd.underlying47 Tryd.underlying5 Tryd.sizeOf5 xs ys hx hy
theorem part_hash (pre : List Value) (n : Nat) (hn : n = pre.length) (xs : List UInt8) (w : World) (hx : xs.length = 32) : (part 47 (pre ++ bytesV xs).toArray n).run Tryd.prog w = .ok (.agg (byteCells xs)) w := by
  subst hn
  have ha : (isAgg 47).run Tryd.prog w = .ok true w := by simp [isAgg, run_underlying Tryd.underlying47]
  have hl : (bytesV xs).length = 32 := by simp [bytesV, hx]
  simp [part, ha]
  rw [List.take_of_length_le (by omega)]
  rfl
/-- Whether two texts are one, as the model asks it. -/
theorem toList_beq (a b : ByteArray) : (a.toList == b.toList) = decide (a = b) := by
  rw [Bool.eq_iff_iff, decide_eq_true_eq, ByteArray.toList_eq, ByteArray.toList_eq]
  constructor
  · intro h
    have h2 : a.data.toList = b.data.toList := by simpa using h
    exact ByteArray.ext (Array.ext' h2)
  · rintro rfl; simp
theorem cast_beq (a b : Nat) : ((a : Int) == (b : Int)) = decide (a = b) := by
  rw [Bool.eq_iff_iff, decide_eq_true_eq]; simp [Int.ofNat_inj]
theorem hash_beq (a b : List UInt8) : (a == b) = decide (a = b) := by
  rw [Bool.eq_iff_iff]; simp

theorem eqFields_cons {P : Program} {d : Nat} {xs ys : Array Value} {f : Field} {fs : List Field} {w : World} (t : TypeId) (o : Nat) (ht : f.type = t) (ho : f.offset = o) {a b : Value} {r : Bool} (hn : f.name ≠ "_")
    (ha : (part t xs o).run P w = .ok a w) (hb : (part t ys o).run P w = .ok b w) (hr : (Op.equalIn d t a b).run P w = .ok r w) :
    (Op.eqFields d xs ys (f :: fs)).run P w = if r = true then (Op.eqFields d xs ys fs).run P w else .ok false w := by
  subst ht ho
  rw [Op.eqFields, if_pos hn]
  simp only [Sem.run_bind, ha, hb, hr, Result.andThen_ok, Sem.run_ite, Sem.run_pure]
  cases r <;> simp

def itemEq (a b : ItemD) : Bool := decide (a.key = b.key) && decide (a.val = b.val)
def kidEq (a b : KidD) : Bool := decide (a.key = b.key) && (decide (a.num = b.num) && decide (a.hash = b.hash))
def volEq (a b : VolD) : Bool := decide (a.name = b.name) && (decide (a.kind = b.kind) && (decide (a.frm = b.frm) && (decide (a.born = b.born) && (decide (a.root = b.root) && decide (a.hash = b.hash)))))
theorem itemEq_iff (a b : ItemD) : itemEq a b = true ↔ a = b := by
  cases a; cases b; simp [itemEq]
theorem kidEq_iff (a b : KidD) : kidEq a b = true ↔ a = b := by
  cases a; cases b; simp [kidEq]
theorem volEq_iff (a b : VolD) : volEq a b = true ↔ a = b := by
  cases a; cases b; simp [volEq]

theorem neq_item (a b : ItemD) (w : World) : (binOp .neq 46 (.agg (itemV a).toArray) (.agg (itemV b).toArray)).run Tryd.prog w = .ok (.bool (!(itemEq a b))) w := by
  have hS : Tryd.prog.underlying 46 = some (.struct (Tryd.prog.fieldsOf 46)) := by kernel_rfl
  have hp : Tryd.prog.stoodInHeld 46 = false := by kernel_rfl
  have q1 : ∀ c : ItemD, (part 9 (itemV c).toArray 0).run Tryd.prog w = .ok (.string c.key) w := fun c => by simp [part, isAgg, run_underlying Tryd.underlying9, itemV]
  have q2 : ∀ c : ItemD, (part 9 (itemV c).toArray 1).run Tryd.prog w = .ok (.string c.val) w := fun c => by simp [part, isAgg, run_underlying Tryd.underlying9, itemV]
  have r1 := run_equalIn_string w 9998 9 a.key b.key Tryd.underlying9
  have r2 := run_equalIn_string w 9998 9 a.val b.val Tryd.underlying9
  rw [toList_beq] at r1 r2
  rw [run_neq_struct, show (10000 : Nat) = 9999 + 1 from rfl, run_equalIn_agg w 9999 46 _ _ hS hp]
  simp only [Program.fieldsOf, Tryd.underlying46]
  rw [eqFields_cons 9 0 rfl rfl (by decide) (q1 a) (q1 b) r1, eqFields_cons 9 1 rfl rfl (by decide) (q2 a) (q2 b) r2, Op.eqFields, Sem.run_pure]
  unfold itemEq
  cases decide (a.key = b.key) <;> cases decide (a.val = b.val) <;> rfl

theorem neq_kid (a b : KidD) (ha : a.wf) (hb : b.wf) (w : World) : (binOp .neq 49 (.agg (kidV a).toArray) (.agg (kidV b).toArray)).run Tryd.prog w = .ok (.bool (!(kidEq a b))) w := by
  have hS : Tryd.prog.underlying 49 = some (.struct (Tryd.prog.fieldsOf 49)) := by kernel_rfl
  have hp : Tryd.prog.stoodInHeld 49 = false := by kernel_rfl
  have q3 : ∀ c : KidD, c.wf → (part 47 (kidV c).toArray 2).run Tryd.prog w = .ok (.agg (byteCells c.hash)) w := fun c hc => by
    rw [kidV]; exact part_hash [.string c.key, .int .u32 (c.num : Int)] 2 rfl c.hash w hc.2
  have q1 : ∀ c : KidD, (part 9 (kidV c).toArray 0).run Tryd.prog w = .ok (.string c.key) w := fun c => by simp [part, isAgg, run_underlying Tryd.underlying9, kidV]
  have q2 : ∀ c : KidD, (part 39 (kidV c).toArray 1).run Tryd.prog w = .ok (.int .u32 (c.num : Int)) w := fun c => by simp [part, isAgg, run_underlying Tryd.underlying39, kidV]
  have r1 := run_equalIn_string w 9998 9 a.key b.key Tryd.underlying9
  have r2 := run_equalIn_int w 9998 39 .u32 .u32 (a.num : Int) (b.num : Int) Tryd.underlying39
  have r3 := eq_hash9 a.hash b.hash w ha.2 hb.2
  rw [toList_beq] at r1
  rw [cast_beq] at r2
  rw [hash_beq] at r3
  have q3a := q3 a ha
  have q3b := q3 b hb
  rw [run_neq_struct, show (10000 : Nat) = 9999 + 1 from rfl, run_equalIn_agg w 9999 49 _ _ hS hp]
  simp only [Program.fieldsOf, Tryd.underlying49]
  rw [eqFields_cons 9 0 rfl rfl (by decide) (q1 a) (q1 b) r1, eqFields_cons 39 1 rfl rfl (by decide) (q2 a) (q2 b) r2, eqFields_cons 47 2 rfl rfl (by decide) (q3a) (q3b) r3, Op.eqFields, Sem.run_pure]
  unfold kidEq
  cases decide (a.key = b.key) <;> cases decide (a.num = b.num) <;> cases decide (a.hash = b.hash) <;> rfl

theorem neq_vol (a b : VolD) (ha : a.wf) (hb : b.wf) (w : World) : (binOp .neq 65 (.agg (volV a).toArray) (.agg (volV b).toArray)).run Tryd.prog w = .ok (.bool (!(volEq a b))) w := by
  have hS : Tryd.prog.underlying 65 = some (.struct (Tryd.prog.fieldsOf 65)) := by kernel_rfl
  have hp : Tryd.prog.stoodInHeld 65 = false := by kernel_rfl
  have q6 : ∀ c : VolD, c.wf → (part 47 (volV c).toArray 5).run Tryd.prog w = .ok (.agg (byteCells c.hash)) w := fun c hc => by
    rw [volV]; exact part_hash [.string c.name, .int .u8 (c.kind : Int), .string c.frm, .int .u64 (c.born : Int), .int .u32 (c.root : Int)] 5 rfl c.hash w hc.2.2.2
  have q1 : ∀ c : VolD, (part 9 (volV c).toArray 0).run Tryd.prog w = .ok (.string c.name) w := fun c => by simp [part, isAgg, run_underlying Tryd.underlying9, volV]
  have q2 : ∀ c : VolD, (part 63 (volV c).toArray 1).run Tryd.prog w = .ok (.int .u8 (c.kind : Int)) w := fun c => by simp [part, isAgg, run_underlying Tryd.underlying63, volV]
  have q3 : ∀ c : VolD, (part 9 (volV c).toArray 2).run Tryd.prog w = .ok (.string c.frm) w := fun c => by simp [part, isAgg, run_underlying Tryd.underlying9, volV]
  have q4 : ∀ c : VolD, (part 57 (volV c).toArray 3).run Tryd.prog w = .ok (.int .u64 (c.born : Int)) w := fun c => by simp [part, isAgg, run_underlying Tryd.underlying57, volV]
  have q5 : ∀ c : VolD, (part 39 (volV c).toArray 4).run Tryd.prog w = .ok (.int .u32 (c.root : Int)) w := fun c => by simp [part, isAgg, run_underlying Tryd.underlying39, volV]
  have r1 := run_equalIn_string w 9998 9 a.name b.name Tryd.underlying9
  have r2 := run_equalIn_int w 9998 63 .u8 .u8 (a.kind : Int) (b.kind : Int) Tryd.underlying63
  have r3 := run_equalIn_string w 9998 9 a.frm b.frm Tryd.underlying9
  have r4 := run_equalIn_int w 9998 57 .u64 .u64 (a.born : Int) (b.born : Int) Tryd.underlying57
  have r5 := run_equalIn_int w 9998 39 .u32 .u32 (a.root : Int) (b.root : Int) Tryd.underlying39
  have r6 := eq_hash9 a.hash b.hash w ha.2.2.2 hb.2.2.2
  rw [toList_beq] at r1 r3
  rw [cast_beq] at r2 r4 r5
  rw [hash_beq] at r6
  have q6a := q6 a ha
  have q6b := q6 b hb
  rw [run_neq_struct, show (10000 : Nat) = 9999 + 1 from rfl, run_equalIn_agg w 9999 65 _ _ hS hp]
  simp only [Program.fieldsOf, Tryd.underlying65]
  rw [eqFields_cons 9 0 rfl rfl (by decide) (q1 a) (q1 b) r1, eqFields_cons 63 1 rfl rfl (by decide) (q2 a) (q2 b) r2, eqFields_cons 9 2 rfl rfl (by decide) (q3 a) (q3 b) r3, eqFields_cons 57 3 rfl rfl (by decide) (q4 a) (q4 b) r4, eqFields_cons 39 4 rfl rfl (by decide) (q5 a) (q5 b) r5, eqFields_cons 47 5 rfl rfl (by decide) (q6a) (q6b) r6, Op.eqFields, Sem.run_pure]
  unfold volEq
  cases decide (a.name = b.name) <;> cases decide (a.kind = b.kind) <;> cases decide (a.frm = b.frm) <;> cases decide (a.born = b.born) <;> cases decide (a.root = b.root) <;> cases decide (a.hash = b.hash) <;> rfl

theorem guard_item : Tryd.prog.eqGuardType Tryd.prog.depth 46 = false := by kernel_rfl
theorem guard_kid : Tryd.prog.eqGuardType Tryd.prog.depth 49 = false := by kernel_rfl
theorem guard_vol : Tryd.prog.eqGuardType Tryd.prog.depth 65 = false := by kernel_rfl

end Go.Proofs.YtgjaoofgmdijdaaDoor
