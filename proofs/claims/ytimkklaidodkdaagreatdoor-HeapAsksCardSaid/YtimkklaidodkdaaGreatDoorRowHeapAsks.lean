/- HeapAsks: for every input the law returns true, and what came in reads as it did: the row and its tied card. -/
import Derived.Test.YtimkklaidodkdaaGreatDoorRows
import Derived.Test.YtimkklaidodkdaaGreatDoorCards
import Derived.Test.YtimkklaidodkdaaGreatDoorTie
import Derived.Test.YtimkklaidodkdaaGreatDoorHeapAsks
import Derived.Test.YtimkklaidodkdaaGreatDoorHeapArg
import Derived.WalkKit
import Derived.ProofKit
import Derived.OpenShut
import Derived.ShutString
import Derived.ChangeOld
import Derived.Below
import Derived.SizedLaws
import Derived.Carry
import Derived.LaidMore
import Derived.Lay
import Derived.SevenTiedAt
import Derived.Stop.Joined
namespace Go.Proofs.YtimkklaidodkdaaGreatDoor.heapAsks
open Go.ChangeShapes Go.WideShapes Go.ChangeAt Go.RowKit
open Go.ChangeMaps (open_string shut_string)
theorem own : ownKnob Tryz.prog.godebug = none := by kernel_rfl
theorem laidOut : laidOutB Tryz.prog = true := by kernel_rfl
set_option maxRecDepth 100000 in
theorem lifted (os : Os) (started : os.Started) (H : Type) (enc : TypeId × Value → H) :
  ReturnsInHanded {} Tryz.checked os 7 .any (fun w args => (Rows.heapAsksSpec.pre enc Tryz.prog Tryz.f7 Rows.heapAsksRow.domain false w args ∧ laidMetH Tryz.prog Rows.heapAsksRow.laid w) ∧ sizedMet enc Tryz.prog Tryz.f7 (OpenSpec.ofChange Rows.heapAsksSpec) false w args)
   (Rows.heapAsksSpec.post enc Tryz.prog Tryz.f7 false true false false) := by
 refine returnsInHanded_of_change_and (C := Tryz.checked) (X := fun w _ => laidMetH Tryz.prog Rows.heapAsksRow.laid w) (fun _ _ _ hh h => h.of_heap hh) own started (by kernel_rfl) Tryz.func7
  (ChangeSpec.witness_shaped (enc := enc) (C := Tryz.checked) (os := os) (X := fun w _ => laidMetH Tryz.prog Rows.heapAsksRow.laid w) false (World.laidAll Tryz.prog os Rows.heapAsksRow.laid) #[.agg #[.int .u32 0, .slice none 0 0], .int .u32 0] 8 (World.laidAll_os _ _ _)
   (World.shaped_of_ZipB (by kernel_rfl) (by kernel_rfl)) (by kernel_rfl) (by kernel_rfl) (by kernel_rfl)
   (by rw [MakeChecks.laidMetH_plain _ _ _ (by kernel_rfl)]; exact laidMet_laidAll _ (by kernel_rfl) (by kernel_rfl))) ?_
 intro W base args ds gs before hval0 hW hcnd hsz0 _ _
 have hsz : (DataW.weightsEach Tryz.prog (Tryz.f7.params.toList ++ Rows.heapAsksSpec.plain.varTypes Tryz.prog) (ds ++ gs)).all (· ≤ reachBytes) = true := hsz0
 have hval : ∀ (j : Nat) t v, Tryz.f7.params[j]? = some t → args[j]? = some v → Value.okWide Tryz.prog W .any base t v := hval0
 have hW' := hW
 obtain ⟨p, q, hA0, hV, rfl, hfz, hnd⟩ := hW
 have hA : DataW.TrodAll enc Tryz.prog W 0 (fun _ => true) true Tryz.f7.params.toList args.toList ds p := hA0
 rw [Tryz.params7] at hA hval hsz
 obtain ⟨v0, vs0, d0, ds0, p0, q0, hargs, rfl, rfl, h0, r0⟩ := trodAll_cons hA
 obtain ⟨v1, vs1, d1, ds1, p1, q1, rfl, rfl, rfl, h1, r1⟩ := trodAll_cons r0
 obtain ⟨rfl, rfl, rfl⟩ := trodAll_nil r1
 obtain rfl : args = #[v0, v1] := by cases args; simp_all
 obtain ⟨rfl, rfl⟩ := trodVars_none hV
 obtain ⟨cs0, hcs0, _⟩ := okWide_struct Tryz.underlying35 (hval 0 35 v0 rfl rfl)
 have hlt0 : ∀ x ∈ p0, x.block < W.heap.size := fun x hx => by simpa using hW'.lt x (by simp [hx])
 have hw0 : Weighs 35 d0 := fun k hk => by
  have := List.all_eq_true.1 hsz _ (DataW.weights_mem_each (j := 0) (t := 35) (d := d0) rfl rfl k hk)
  simpa using this
 obtain ⟨h0d, at0⟩ := open_heap h0 ⟨cs0, hcs0⟩ hw0 hlt0
 obtain ⟨z1, rfl, rfl, rfl, w1⟩ := open_int Tryz.underlying32 (hval 1 32 v1 rfl rfl) h1
 obtain ⟨a1, rfl, _⟩ := u32_lt w1
 clear hA0 hval0 hsz0 hsz
 refine (asks_calls v0 h0d a1 W at0).mono fun e W' ⟨he, bel⟩ => ?_
 subst he
 exact ⟨_, rfl, _, _, _, [], _, [], hW', trodAll_mk1 (shut_bool Tryz.underlying4 _), (trodAll_cons_mk (Below.trod laidOut (by kernel_rfl) (of_decide_eq_true (by kernel_rfl)) h0 bel hlt0) (trodAll_cons_mk (shut_int Tryz.underlying32 w1) trodAll_mk0)), rfl, bel.frame _, fun h => by cases h⟩
theorem over : Rows.heapAsksRow.holds Tryz.pinned (OpenSpec.ofChange Rows.heapAsksSpec) :=
 OpenClaim.holds_of_wide 7 Tryz.f7 rfl rfl rfl rfl rfl rfl rfl ⟨rfl, rfl, rfl, rfl, rfl⟩ rfl rfl rfl rfl rfl (by kernel_rfl) Tryz.func7 (by kernel_rfl)
  (of_decide_eq_true (by kernel_rfl)) (by unfold Func.isWrapper; first | (rw [if_pos (by decide +kernel)]; kernel_rfl) | (rw [if_neg (by decide +kernel)]; exact ⟨rfl, rfl⟩))
  (fun os started H enc _ => lifted os started H enc)
theorem tied : Rows.HeapAsksCardSaid :=
 Claim7.holds_tied_plain_at .later [] Rows.heapAsksCard.laidKinds true Rows.heapAsksCard.stood.harness false over (fun _ h => by cases h) (by kernel_rfl) (fun _ h => by cases h) heapAsks_row_tie rfl ⟨rfl, rfl⟩ (by kernel_rfl) rfl
  (fun f fn hf hfn => by
   obtain rfl : f = 7 := Option.some.inj ((show Tryz.prog.funcNamed "cambium/cambiumlaw06.HeapAsks" = some 7 by kernel_rfl).symm.trans hf) |>.symm
   obtain rfl : fn = Tryz.f7 := (Option.some.inj (Tryz.func7.symm.trans hfn)).symm
   exact ⟨by kernel_rfl, fun j t ht => by
    rw [Tryz.params7] at ht
    have hm : t ∈ [35, 32] := by simpa using Array.mem_of_getElem? ht
    have hall : ([35, 32].all fun u => !Tryz.prog.wantsStandIn u) = true := by kernel_rfl
    exact (show Tryz.prog.wantsStandIn t = false by simpa using List.all_eq_true.1 hall t hm)⟩)
  (by kernel_rfl)
end Go.Proofs.YtimkklaidodkdaaGreatDoor.heapAsks
namespace Go.Proofs.YtimkklaidodkdaaGreatDoor
/-- The card, under a short name, for the claim. -/
theorem heapAsks_holds : Rows.HeapAsksCardSaid := heapAsks.tied
#print axioms heapAsks_holds
end Go.Proofs.YtimkklaidodkdaaGreatDoor
