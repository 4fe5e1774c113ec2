/- For the second forms: what the bound on the arguments gives; a slice of steps as an argument; a witness over listed variables. -/
import Derived.Test.YtimkklaidodkdaaGreatDoorRows
import Derived.Test.YtimkklaidodkdaaGreatDoorHeapArg
import Derived.Test.YtimkklaidodkdaaGreatDoorHeapPutP
import Derived.LaidLaws
import Derived.Stop.Joined
namespace Go.Proofs.YtimkklaidodkdaaGreatDoor
open Go.RowKit Go.ChangeShapes Go.WideShapes Go.Deep

theorem bulk_one {H : Type} (d : DataW H) : 1 ≤ Rows.uptoBulk d := by
  cases d with
  | lit l => cases l <;> simp [Rows.uptoBulk]
  | nil => simp [Rows.uptoBulk]
  | ptr d => simp [Rows.uptoBulk]
  | slice elems spare => simp [Rows.uptoBulk]
  | agg parts => simp [Rows.uptoBulk]
  | iface t d => simp [Rows.uptoBulk]
  | map entries => simp [Rows.uptoBulk]
  | held h => simp [Rows.uptoBulk]
theorem bulk_part {H : Type} {d : DataW H} {l : List (DataW H)} (h : d ∈ l) : Rows.uptoBulk d ≤ Rows.uptoBulkAll l := by
  induction l with
  | nil => cases h
  | cons x r ih =>
    simp only [Rows.uptoBulkAll]
    cases List.mem_cons.1 h with
    | inl e => subst e; omega
    | inr e => have := ih e; omega
theorem bulk_length {H : Type} (l : List (DataW H)) : l.length ≤ Rows.uptoBulkAll l := by
  induction l with
  | nil => simp [Rows.uptoBulkAll]
  | cons x r ih => have := bulk_one x; simp only [Rows.uptoBulkAll, List.length_cons]; omega
theorem bulk_bound {H : Type} {l : List (DataW H)} (hk : Rows.uptoSmall H l = true) : Rows.uptoBulkAll l ≤ 1048576 := of_decide_eq_true hk

section
variable {H : Type} {enc : TypeId × Value → H} {W : World} {base : Nat} {spare : Nat → Bool} {held : Bool}
theorem sl_count {t e : TypeId} (ht : Tryz.prog.underlying t = some (.slice e)) {fuel : Nat} {cs : List Value} {x : DataW H × List MemPlace} (h : DataW.trod enc Tryz.prog W base spare held fuel t cs = some x) {p : Option Addr} {n c : Nat} (hv : cs = [.slice p n c]) : n ≤ Rows.uptoBulk x.1 := by
  rcases open_slice ht h with ⟨h1, rfl⟩ | ⟨a, len, cap, m, k, D, Pl, h1, _, _, _, _, rfl, _⟩
  · rw [hv] at h1
    simp only [List.cons.injEq, Value.slice.injEq, and_true] at h1
    omega
  · rw [hv] at h1
    simp only [List.cons.injEq, Value.slice.injEq, and_true] at h1
    have := bulk_length ((List.range len).map D)
    simp only [List.length_map, List.length_range] at this
    show n ≤ Rows.uptoBulkAll ((List.range len).map D) + _ + 1
    omega
theorem cells_node_bulk {fuel : Nat} {cs : List Value} {x : DataW H × List MemPlace} (h : DataW.trod enc Tryz.prog W base spare held fuel 28 cs = some x) {B : Nat} {n : NodeD} (a : NodeAt B W (.agg cs.toArray) n) : n.kids.length + n.vols.length ≤ Rows.uptoBulk x.1 := by
  obtain ⟨p1, c1, p2, c2, p3, c3, hv⟩ := a.shapeN
  injection hv with hv
  have hcs : cs = [.int .u8 (n.kind : Int), .slice p1 n.items.length c1, .slice p2 n.kids.length c2, .slice p3 n.vols.length c3] := by simpa using hv
  subst hcs
  obtain ⟨xs, m, _, rfl, hl, hxl, hg⟩ := DataW.trod_struct Tryz.underlying28 h
  have hck : Tryz.prog.cellsOf 25 = 1 := by kernel_rfl
  have hcv : Tryz.prog.cellsOf 26 = 1 := by kernel_rfl
  match xs, hxl with
  | [y0, y1, y2, y3], _ =>
    have g2 : DataW.trod enc Tryz.prog W base spare held m 25 [.slice p2 n.kids.length c2] = some y2 := by
      have g : DataW.trod enc Tryz.prog W base spare held m 25 (([.int .u8 (n.kind : Int), .slice p1 n.items.length c1, .slice p2 n.kids.length c2, .slice p3 n.vols.length c3] : List Value).drop 2 |>.take (Tryz.prog.cellsOf 25)) = some y2 := hg 2 _ rfl
      rw [hck] at g
      exact g
    have g3 : DataW.trod enc Tryz.prog W base spare held m 26 [.slice p3 n.vols.length c3] = some y3 := by
      have g : DataW.trod enc Tryz.prog W base spare held m 26 (([.int .u8 (n.kind : Int), .slice p1 n.items.length c1, .slice p2 n.kids.length c2, .slice p3 n.vols.length c3] : List Value).drop 3 |>.take (Tryz.prog.cellsOf 26)) = some y3 := hg 3 _ rfl
      rw [hcv] at g
      exact g
    have b2 := sl_count Tryz.underlying25 g2 rfl
    have b3 := sl_count Tryz.underlying26 g3 rfl
    simp only [List.map_cons, List.map_nil, Rows.uptoBulk, Rows.uptoBulkAll]
    omega
theorem node_bulk {v : Value} {d : DataW H} {ps : List MemPlace} (h : DataW.Trod enc Tryz.prog W base spare held 28 v d ps) {B : Nat} {n : NodeD} (a : NodeAt B W v n) : n.kids.length + n.vols.length ≤ Rows.uptoBulk d := by
  obtain ⟨fuel, hf⟩ := h
  obtain ⟨_, _, _, _, _, _, rfl⟩ := a.shapeN
  exact cells_node_bulk (x := (d, ps)) hf (by simpa [Value.cells] using a)
/-- 'There is an input that fits', at a world over listed variables. -/
theorem witness_laid {C : Checked} {os : Os} {f : FuncId} {fn : Func} {s : OpenSpec} {conds : List PathCond} {apart : Bool} {laid : List (String × DataW Unit)} (modest : Bool) (w0 : World) (args : Array Value) (hos : w0.os = os)
    (hsh : (w0.forCall (fun _ _ => 0) ⟨#[], args, []⟩).Shaped C.prog)
    (hok : Input.okWideB C.prog (w0.forCall (fun _ _ => 0) ⟨#[], args, []⟩) f ⟨#[], args, []⟩ = true)
    (hrow : s.preRow enc C.prog fn conds apart laid (w0.forCall (fun _ _ => 0) ⟨#[], args, []⟩).memory args) :
    ∃ (w : World) (tape : Tape) (i : Input), w.os = os ∧ (w.forCall tape i).Shaped C.prog ∧ i.vars = [] ∧ Input.okWide C.prog (w.forCall tape i) .any w.heap.size f i ∧
      s.preRow enc C.prog fn conds apart laid (w.forCall tape i).memory i.args ∧ ({ modest := modest } : Assume).holds C.prog (lone (Frame.enter C.prog f i.args .normal) [] (w.forCall tape i)) :=
  ⟨w0, fun _ _ => 0, ⟨#[], args, []⟩, hos, hsh, (Input.okWide_of_okWideB (base := 0) hok).1, (Input.okWide_of_okWideB hok).2, hrow, by
    simp only [Assume.holds]
    exact ⟨by simp, by simp, fun _ => Modest.zero, by simp, by simp⟩⟩
end

end Go.Proofs.YtimkklaidodkdaaGreatDoor
