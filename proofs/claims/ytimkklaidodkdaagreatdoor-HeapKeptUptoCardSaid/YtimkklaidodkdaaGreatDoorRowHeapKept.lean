/- HeapKept: for every input the law returns true, and what came in reads as it did: the row and its tied card. -/
import Derived.Test.YtimkklaidodkdaaGreatDoorRows
import Derived.Test.YtimkklaidodkdaaGreatDoorCards
import Derived.Test.YtimkklaidodkdaaGreatDoorTie
import Derived.Test.YtimkklaidodkdaaGreatDoorHeapKept
import Derived.Test.YtimkklaidodkdaaGreatDoorHeapSteps
import Derived.Test.YtimkklaidodkdaaGreatDoorBulk
import Derived.Deep.DeepHandedRow
import Derived.JoinedCond
import Derived.WalkKit
import Derived.ProofKit
import Derived.OpenShut
import Derived.ShutString
import Derived.ChangeOld
import Derived.Below
import Derived.SizedLaws
import Derived.Carry
import Derived.LaidMore
import Derived.Lay
import Derived.SevenTiedAt
import Derived.Stop.Joined
namespace Go.Proofs.YtimkklaidodkdaaGreatDoor.heapKept
open Go.ChangeShapes Go.WideShapes Go.ChangeAt Go.RowKit
open Go.ChangeMaps (open_string shut_string)
theorem own : ownKnob Tryz.prog.godebug = none := by kernel_rfl
theorem laidOut : laidOutB Tryz.prog = true := by kernel_rfl
set_option maxRecDepth 100000 in
theorem laid_met (os : Os) : laidMetH Tryz.prog Rows.heapKeptUptoRow.laid ((World.laidAll Tryz.prog os Rows.heapKeptUptoRow.laid).forCall (fun _ _ => 0) ⟨#[], #[.agg #[.int .u32 0, .slice none 0 0], .slice none 0 0, .int .u32 0], []⟩).memory := by
  rw [MakeChecks.laidMetH_plain _ _ _ (by kernel_rfl)]; exact laidMet_laidAll _ (by kernel_rfl) (by kernel_rfl)
theorem reads (os : Os) {H : Type} (enc : TypeId × Value → H) : ∃ places, DataW.whole enc Tryz.prog ((World.laidAll Tryz.prog os Rows.heapKeptUptoRow.laid).forCall (fun _ _ => 0) ⟨#[], #[.agg #[.int .u32 0, .slice none 0 0], .slice none 0 0, .int .u32 0], []⟩).memory Tryz.f10.params.toList Rows.heapKeptSpec.vars false (#[.agg #[.int .u32 0, .slice none 0 0], .slice none 0 0, .int .u32 0] : Array Value).toList 8 = some ([.agg [.lit (.int .u32 0), .nil], .nil, .lit (.int .u32 0)], [], places) := ⟨[], by kernel_rfl⟩
set_option maxRecDepth 100000 in
theorem lifted (os : Os) (started : os.Started) (H : Type) (enc : TypeId × Value → H) (Fi : Stop.Interp) :
    ReturnsInHanded {} Tryz.checked os 10 .any ((Rows.OpenSpec.upto Rows.heapKeptSpec).preRow enc Tryz.prog Tryz.f10 Rows.heapKeptUptoRow.domain false Rows.heapKeptUptoRow.laid) (((Rows.OpenSpec.upto Rows.heapKeptSpec).at Fi).post enc Tryz.prog Tryz.f10 false true false false) := by
  obtain ⟨places, hx⟩ := reads os enc
  refine returnsInHanded_of_row (C := Tryz.checked) (s := Rows.OpenSpec.upto Rows.heapKeptSpec) own started (by kernel_rfl) Tryz.func10
    (witness_laid (enc := enc) (C := Tryz.checked) false (World.laidAll Tryz.prog os Rows.heapKeptUptoRow.laid) #[.agg #[.int .u32 0, .slice none 0 0], .slice none 0 0, .int .u32 0] (World.laidAll_os _ _ _) (World.shaped_of_ZipB (by kernel_rfl) (by kernel_rfl)) (by kernel_rfl)
      (OpenSpec.preRow_of_cond 8 hx (by kernel_rfl) (fun k hk => by cases hk; kernel_rfl) (by kernel_rfl) (laid_met os))) ?_
  intro W base args ds gs before hval0 hW hcnd hcond hsz0 _ _ _
  have hbk : Rows.uptoBulkAll (ds ++ gs) ≤ 1048576 := bulk_bound (hcond _ rfl)
  have hsz : (DataW.weightsEach Tryz.prog (Tryz.f10.params.toList ++ Rows.heapKeptSpec.plain.varTypes Tryz.prog) (ds ++ gs)).all (· ≤ reachBytes) = true := hsz0
  have hval : ∀ (j : Nat) t v, Tryz.f10.params[j]? = some t → args[j]? = some v → Value.okWide Tryz.prog W .any base t v := hval0
  have hW' := hW
  obtain ⟨p, q, hA0, hV, rfl, hfz, hnd⟩ := hW
  have hA : DataW.TrodAll enc Tryz.prog W 0 (fun _ => true) true Tryz.f10.params.toList args.toList ds p := hA0
  rw [Tryz.params10] at hA hval hsz
  obtain ⟨v0, vs0, d0, ds0, p0, q0, hargs, rfl, rfl, h0, r0⟩ := trodAll_cons hA
  obtain ⟨v1, vs1, d1, ds1, p1, q1, rfl, rfl, rfl, h1, r1⟩ := trodAll_cons r0
  obtain ⟨v2, vs2, d2, ds2, p2, q2, rfl, rfl, rfl, h2, r2⟩ := trodAll_cons r1
  obtain ⟨rfl, rfl, rfl⟩ := trodAll_nil r2
  obtain rfl : args = #[v0, v1, v2] := by cases args; simp_all
  obtain ⟨rfl, rfl⟩ := trodVars_none hV
  simp only [Rows.uptoBulkAll, List.append_nil] at hbk
  obtain ⟨cs0, hcs0, _⟩ := okWide_struct Tryz.underlying35 (hval 0 35 v0 rfl rfl)
  have hlt0 : ∀ x ∈ p0, x.block < W.heap.size := fun x hx => by simpa using hW'.lt x (by simp [hx])
  have hw0 : Weighs 35 d0 := fun k hk => by
    have := List.all_eq_true.1 hsz _ (DataW.weights_mem_each (j := 0) (t := 35) (d := d0) rfl rfl k hk)
    simpa using this
  obtain ⟨h0d, at0⟩ := open_heap h0 ⟨cs0, hcs0⟩ hw0 hlt0
  have hlt1 : ∀ x ∈ p1, x.block < W.heap.size := fun x hx => by simpa using hW'.lt x (by simp [hx])
  have hw1 : Weighs 65 d1 := fun k hk => by
    have := List.all_eq_true.1 hsz _ (DataW.weights_mem_each (j := 1) (t := 65) (d := d1) rfl rfl k hk)
    simpa using this
  obtain ⟨l1, at1, st1⟩ := open_steps (hval 1 65 v1 rfl rfl) h1 hw1 hlt1 (by omega)
  obtain ⟨z2, rfl, rfl, rfl, w2⟩ := open_int Tryz.underlying32 (hval 2 32 v2 rfl rfl) h2
  obtain ⟨a2, rfl, _⟩ := u32_lt w2
  clear hA0 hval0 hsz0 hsz
  refine (kept_calls v0 v1 h0d l1 a2 W at0 at1 st1).mono fun e W' ⟨he, bel⟩ => ?_
  subst he
  exact ⟨_, rfl, _, _, _, [], _, [], hW', trodAll_mk1 (shut_bool Tryz.underlying4 _), (trodAll_cons_mk (Below.trod laidOut (by kernel_rfl) (of_decide_eq_true (by kernel_rfl)) h0 bel hlt0) (trodAll_cons_mk (Below.trod laidOut (by kernel_rfl) (of_decide_eq_true (by kernel_rfl)) h1 bel hlt1) (trodAll_cons_mk (shut_int Tryz.underlying32 w2) trodAll_mk0))), rfl, bel.frame _, fun h => by cases h⟩
theorem over : Rows.HeapKeptUptoSaid :=
  OpenClaim.holds_of_cond 10 Tryz.f10 rfl rfl rfl rfl rfl rfl rfl ⟨rfl, rfl, rfl, rfl, rfl⟩ rfl rfl rfl rfl rfl (by kernel_rfl) Tryz.func10 (by kernel_rfl)
    (of_decide_eq_true (by kernel_rfl)) (by unfold Func.isWrapper; first | (rw [if_pos (by decide +kernel)]; kernel_rfl) | (rw [if_neg (by decide +kernel)]; exact ⟨rfl, rfl⟩))
    (fun os started H enc _ Fi => by rw [OpenClaim.pre_eq_preRow]; exact lifted os started H enc Fi)
theorem tied : Rows.HeapKeptUptoCardSaid :=
  Claim7.holds_tied_plain_at .later [] Rows.heapKeptUptoCard.laidKinds true Rows.heapKeptUptoCard.stood.harness false over (fun _ h => by cases h) (by kernel_rfl) (fun _ h => by cases h) heapKeptUpto_row_tie rfl ⟨rfl, rfl⟩ (by kernel_rfl) rfl
    (fun f fn hf hfn => by
      obtain rfl : f = 10 := Option.some.inj ((show Tryz.prog.funcNamed "cambium/cambiumlaw06.HeapKept" = some 10 by kernel_rfl).symm.trans hf) |>.symm
      obtain rfl : fn = Tryz.f10 := (Option.some.inj (Tryz.func10.symm.trans hfn)).symm
      exact ⟨by kernel_rfl, fun j t ht => by
        rw [Tryz.params10] at ht
        have hm : t ∈ [35, 65, 32] := by simpa using Array.mem_of_getElem? ht
        have hall : ([35, 65, 32].all fun u => !Tryz.prog.wantsStandIn u) = true := by kernel_rfl
        exact (show Tryz.prog.wantsStandIn t = false by simpa using List.all_eq_true.1 hall t hm)⟩)
    (by kernel_rfl)
end Go.Proofs.YtimkklaidodkdaaGreatDoor.heapKept
namespace Go.Proofs.YtimkklaidodkdaaGreatDoor
/-- The card, under a short name, for the claim. -/
theorem heapKept_holds : Rows.HeapKeptUptoCardSaid := heapKept.tied
#print axioms heapKept_holds
end Go.Proofs.YtimkklaidodkdaaGreatDoor
