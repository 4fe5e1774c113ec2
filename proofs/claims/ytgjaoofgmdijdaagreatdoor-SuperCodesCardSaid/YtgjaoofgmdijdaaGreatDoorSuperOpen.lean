/- An argument that is a superblock, opened: what it reads as. -/
import Derived.Test.YtgjaoofgmdijdaaGreatDoorSuperLives2
import Derived.Test.YtgjaoofgmdijdaaGreatDoorArr
import Derived.SizedLaws
namespace Go.Proofs.YtgjaoofgmdijdaaGreatDoor
open Go.RowKit Go.ChangeShapes Go.WideShapes Go.Deep

section
variable {H : Type} {enc : TypeId × Value → H} {W : World} {base : Nat} {spare : Nat → Bool} {held : Bool}
theorem open_cells32S {fuel : Nat} {cs : List Value} {x : DataW H × List MemPlace} (h : DataW.trod enc Tryz.prog W base spare held fuel 24 cs = some x) : ∃ l : List UInt8, cs = bytesV l ∧ l.length = 32 := by
  obtain ⟨l, hv, hl, _⟩ := open_bytes32 (enc := enc) (W := W) (base := base) (spare := spare) (held := held) (v := .agg cs.toArray) (d := x.1) (ps := x.2) ⟨fuel, by simpa [Value.cells] using h⟩
  injection hv with hv
  exact ⟨l, (congrArg Array.toList hv : cs.toArray.toList = (byteCells l).toList), hl⟩
theorem u32_ltS {z : Int} (h : (Lit.int .u32 z).wf = true) : ∃ n : Nat, z = (n : Int) ∧ n < 4294967296 := by
  have hb := bounds_u32 h
  exact ⟨z.toNat, by omega, by omega⟩

set_option maxRecDepth 20000 in
theorem open_super {v : Value} {d : DataW H} {ps : List MemPlace} (hd : DataW.Trod enc Tryz.prog W base spare held 26 v d ps) (hv : ∃ cs, v = .agg cs) :
    ∃ s : SupD, v = .agg (supV s).toArray ∧ s.wf := by
  obtain ⟨fuel, h⟩ := hd
  obtain ⟨cs, rfl⟩ := hv
  obtain ⟨xs, m, _, _, hl, hxl, hg⟩ := DataW.trod_struct Tryz.underlying26 h
  have hc : Tryz.prog.cellsOf 26 = 35 := by kernel_rfl
  have hcq : Tryz.prog.cellsOf 23 = 1 := by kernel_rfl
  have hcu : Tryz.prog.cellsOf 22 = 1 := by kernel_rfl
  have hch : Tryz.prog.cellsOf 24 = 32 := by kernel_rfl
  simp only [Value.cells] at hl hg
  rw [hc] at hl
  generalize hcl : cs.toList = cl at *
  match xs, hxl with
  | [y0, y1, y2, y3], _ =>
    have g0 : DataW.trod enc Tryz.prog W base spare held m 22 ((cl.drop 0).take (Tryz.prog.cellsOf 22)) = some y0 := hg 0 _ rfl
    rw [hcu] at g0
    have g1 : DataW.trod enc Tryz.prog W base spare held m 23 ((cl.drop 1).take (Tryz.prog.cellsOf 23)) = some y1 := hg 1 _ rfl
    rw [hcq] at g1
    have g2 : DataW.trod enc Tryz.prog W base spare held m 22 ((cl.drop 2).take (Tryz.prog.cellsOf 22)) = some y2 := hg 2 _ rfl
    rw [hcu] at g2
    have g3 : DataW.trod enc Tryz.prog W base spare held m 24 ((cl.drop 3).take (Tryz.prog.cellsOf 24)) = some y3 := hg 3 _ rfl
    rw [hch] at g3
    obtain ⟨z0, e0, _, w0⟩ := DataW.trod_int Tryz.underlying22 g0
    obtain ⟨n0, rfl, h0⟩ := u32_ltS w0
    obtain ⟨z1, e1, _, w1⟩ := DataW.trod_int Tryz.underlying23 g1
    obtain ⟨n1, rfl, h1⟩ := u64_of w1
    obtain ⟨z2, e2, _, w2⟩ := DataW.trod_int Tryz.underlying22 g2
    obtain ⟨n2, rfl, h2⟩ := u32_ltS w2
    obtain ⟨hh, e3, hlen⟩ := open_cells32S g3
    refine ⟨⟨n0, n1, n2, hh⟩, ?_, ⟨h0, h1, h2, hlen⟩⟩
    congr 1
    apply Array.ext'
    rw [hcl]
    match cl, hl with
    | c0 :: c1 :: c2 :: r, hl =>
      simp at e0 e1 e2 e3
      have hr : r.length = 32 := by simp at hl; omega
      rw [List.take_of_length_le (by omega)] at e3
      rw [e0, e1, e2, e3]; rfl
end

end Go.Proofs.YtgjaoofgmdijdaaGreatDoor
