/- Two laws on a region that draws its order, with the slot written out. Over any program. -/
import Derived.Deep.RegionHeld3
import Derived.WalkKit
namespace Go.Proofs.YtokanfceipkfpaaDoor

theorem take_N {P : Program} {ops : Array Oper} {Q : Exit → Act → World → Prop} {md : Region.Mode} {S : World → Prop} {i : Nat} {oi : Oper} {v : Value} {fuel : Nat} {listed : Array Bool} {a : Act} {w : World}
    (N : Option Tmp) (l : Array Bool) (hi : ops[i]? = some oi) (hN : oi.dst = N)
    (hs : Region.noSelect ops = true) (hf : Region.free md ops listed i = true) (hr : (Region.ready md ops listed).contains i = true) (hl : listed.setIfInBounds i true = l)
    (hQ : ∀ c a w, Q (.panic c) (a.put N v) w → Q (.panic c) a w) (hS : S w) (hy : YieldsIf P ops S oi v a)
    (h : wpAnyH P md ops Q S fuel l (a.put N v) w) : wpAnyH P md ops Q S (fuel + 1) listed a w := by
  subst hN; subst hl
  exact wpAnyH_take hi hs hf hr hQ hy hS h

/-- The only one that is ready. -/
theorem step_N {P : Program} {ops : Array Oper} {Q : Exit → Act → World → Prop} {md : Region.Mode} {S : World → Prop} {i : Nat} {o : Oper} {fuel : Nat} {listed : Array Bool} {a : Act} {w : World}
    (l : Array Bool) (hi : ops[i]? = some o) (hr : Region.ready md ops listed = [i]) (hl : listed.setIfInBounds i true = l)
    (h : ∀ K' : Act → World → Prop, Shut (∀ a w, S w → wpAnyH P md ops Q S fuel l a w → K' a w) → if Region.wanted o (yielded ops a.tmps) = true then Oper.wp P o a w K' Q else K' (a.put o.dst undef) w) :
    wpAnyH P md ops Q S (fuel + 1) listed a w := by
  subst hl
  exact wpAnyH_ready hr (by simp) (AllReadyH.cons hi (fun K' hK => h K' (fun a w hS hW => hK a w hS (fun _ => hW))) AllReadyH.nil)

end Go.Proofs.YtokanfceipkfpaaDoor
