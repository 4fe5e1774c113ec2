/- heap.Put, however it went. -/
import Derived.Test.YtimkklaidodkdaaGreatDoorHeapLivesC
namespace Go.Proofs.YtimkklaidodkdaaGreatDoor
open Go.RowKit

/-- heap.Put, however it went. -/
theorem put_any (v : Value) (h : HeapD) (vn : Value) (n : NodeD) (w : World) (a : HeapAt w.heap.size w v h) (an : NodeAt w.heap.size w vn n) (hfit : fitN n) (hz : n.kids.length + n.vols.length ≤ 1048576) :
    Calls Tryz.prog 14 #[v, vn] w fun e w' => ∃ (z : Int) (p : Option Addr) (m c : Nat) (kd : KidD) (x : Int), e = .returned (.tuple #[.agg #[.int .u32 z, .slice p m c], .agg (kidV kd).toArray, .int .i64 x]) ∧ kd.wf ∧ (RightH h → kd = kidH (putN h n) (putS h n) ∧ x = putE h n ∧ OwnH w.heap.size w' (.agg #[.int .u32 z, .slice p m c]) (putH h n)) ∧ (¬ RightH h → x = 7 ∧ OwnH w.heap.size w' (.agg #[.int .u32 z, .slice p m c]) zeroHp) ∧ Below w.heap.size w w' := (hput_calls v h vn n w a an hfit hz).mono (by
  rintro e w' ⟨⟨r, ⟨hr, rfl, ho⟩ | ⟨hno, rfl, ho⟩⟩, hb⟩
  · obtain ⟨p, c, rfl⟩ := ho.shape
    have hwf : (kidH (putN h n) (putS h n)).wf := ⟨by
      show putN h n < 4294967296
      unfold putN
      split
      · next q =>
        have hrr := putH_right hr an.wf (n := n)
        cases hs : sameC h.cells (encN n) with
        | some c => exact (hr.nums.2.1 c (List.mem_of_find?_eq_some hs)).1
        | none =>
          have := ((put_zero q).2.2 hs).1
          have := hr.hi
          show freeC h.cells < _
          omega
      · omega, putS_len h n⟩
    exact ⟨_, p, _, c, _, _, rfl, hwf, fun _ => ⟨rfl, rfl, ho⟩, fun q => absurd hr q, hb⟩
  · obtain ⟨p, c, rfl⟩ := ho.shape
    exact ⟨_, p, _, c, _, _, rfl, ⟨by show (0 : Nat) < _; omega, by simp [kidH, zeroH]⟩, fun q => absurd q hno, fun _ => ⟨rfl, ho⟩, hb⟩)


end Go.Proofs.YtimkklaidodkdaaGreatDoor
