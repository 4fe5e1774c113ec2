/- A region that draws its order: a condition on the world that must stand only till one operation (the gate) has come up. Over any program. -/
import Derived.Test.YtimkklaidodkdaaGreatDoorKit
namespace Go.Proofs.YtimkklaidodkdaaGreatDoor
open Go.RowKit

section
variable {P : Program} {ops : Array Oper} {Q : Exit → Act → World → Prop} {md : Region.Mode} {S : World → Prop}

def wpAnyG (P : Program) (md : Region.Mode) (ops : Array Oper) (Q : Exit → Act → World → Prop) (S : World → Prop) (g : Nat) : Nat → Array Bool → Act → World → Prop
 | 0, listed, a, w => Region.ready md ops listed = [] ∧ Q .normal a w
 | fuel + 1, listed, a, w =>
  (Region.ready md ops listed = [] → Q .normal a w) ∧
  ∀ i ∈ Region.ready md ops listed, wpOp P ops Q i (fun a' w' => ((listed.setIfInBounds i true).getD g true = false → S w') ∧ wpAnyG P md ops Q S g fuel (listed.setIfInBounds i true) a' w') a w

theorem wpAny_of_gate {g : Nat} : ∀ (fuel : Nat) (listed : Array Bool) (a : Act) (w : World), wpAnyG P md ops Q S g fuel listed a w → wpAny P md ops Q fuel listed a w
 | 0, _, _, _, h => h
 | fuel + 1, _, _, _, h => ⟨h.1, fun i hi => wpOp_mono (fun a' w' h' => wpAny_of_gate fuel _ a' w' h'.2) (h.2 i hi)⟩

theorem wp_region_gate (g : Nat) {id : Nat} {a : Act} {w : World} (hm : P.follows .mixedOrders = true) (hS : S w.drew)
  (h : S w.drew → wpAnyG P .any ops Q S g ops.size (Array.replicate ops.size false) a w.drew) : (Code.region id ops true).wp P Q a w :=
 wp_region_any hm (wpAny_of_gate _ _ _ _ (h hS))

theorem getD_kept {l : Array Bool} {g j : Nat} (h : l.getD g true = true) : (l.setIfInBounds j true).getD g true = true := by
 by_cases hj : j = g
 ·subst hj
  by_cases hl : j < l.size
  ·simp [hl]
  ·simp [hl]
 ·rw [getD_set_ne true hj]; exact h

/-- Behind the gate nothing is asked any more. -/
theorem gate_open {g : Nat} : ∀ {fuel : Nat} {listed : Array Bool} {a : Act} {w : World}, listed.getD g true = true → wpAnyH P md ops Q (fun _ => True) fuel listed a w → wpAnyG P md ops Q S g fuel listed a w
 | 0, _, _, _, _, h => h
 | _ + 1, _, _, _, hg, h => ⟨h.1, fun i hi => wpOp_mono (fun _ _ h' => ⟨fun hx => (by rw [getD_kept hg] at hx; cases hx), gate_open (getD_kept hg) h'.2⟩) (h.2 i hi)⟩

theorem wpAnyG_first {i g : Nat} {oi og : Oper} {v : Value} (hi : ops[i]? = some oi) (hgo : ops[g]? = some og) (hgi : ∃ e ∈ og.after, Region.binds md e = true ∧ e.on = i) (hsel : ∀ (j : Nat) (o : Oper) cs b, ops[j]? = some o → o.op ≠ .select cs b)
  (hQ : ∀ c a w, Q (.panic c) (a.put oi.dst v) w → Q (.panic c) a w) :
  ∀ (fuel : Nat) (listed : Array Bool) (a : Act) (w : World),
   (∀ j oj, ops[j]? = some oj → j ≠ i → listed.getD j true = false → (∀ e ∈ oj.after, Region.binds md e = true → e.on ≠ i) → oi.apart ops oj = true) →
   i ∈ Region.ready md ops listed → YieldsIf P ops S oi v a → S w → listed.getD g true = false → g ≠ i →
   wpAnyG P md ops Q S g fuel (listed.setIfInBounds i true) (a.put oi.dst v) w → wpAnyG P md ops Q S g (fuel + 1) listed a w := by
 intro fuel
 induction fuel with
 | zero =>
  intro listed a w _ hr hy hS hg hgi' H
  refine ⟨fun h => (by rw [h] at hr; cases hr), fun j hj => ?_⟩
  by_cases hji : j = i
  ·subst hji; exact hy.wpOp hi hS ⟨fun _ => hS, H⟩
  ·have := ready_mono hj hji
   rw [H.1] at this
   cases this
 | succ fuel ih =>
  intro listed a w hfree hr hy hS hg hne H
  refine ⟨fun h => (by rw [h] at hr; cases hr), fun j hj => ?_⟩
  by_cases hji : j = i
  ·subst hji; exact hy.wpOp hi hS ⟨fun _ => hS, H⟩
  ·have h1 := H.2 j (ready_mono hj hji)
   obtain ⟨hjun, oj, hoj, hall⟩ := mem_ready.1 hj
   have hnot : ∀ e ∈ oj.after, Region.binds md e = true → e.on ≠ i := fun e he hb heq => by
    have h1 := hall e he hb
    have h0 := (mem_ready.1 hr).1
    rw [heq] at h1
    rcases Nat.lt_or_ge i listed.size with h' | h'
    ·simp [h'] at h0 h1; rw [h0] at h1; cases h1
    ·simp [Array.getElem?_eq_none h'] at h1
   have hjg : j ≠ g := fun q => by
    subst q
    rw [hgo] at hoj
    injection hoj with hoj
    subst hoj
    obtain ⟨e, he, hb, hon⟩ := hgi
    exact hnot e he hb hon
   have h2 := wpOp_putIf hoj (hfree j oj hoj hji hjun hnot) (fun cs b => hsel i oi cs b hi) (fun cs b => hsel j oj cs b hoj) hQ hy h1
   have hfree' : ∀ k ok, ops[k]? = some ok → k ≠ i → (listed.setIfInBounds j true).getD k true = false →
     (∀ e ∈ ok.after, Region.binds md e = true → e.on ≠ i) → oi.apart ops ok = true := fun k ok hk hki hun hno => by
    refine hfree k ok hk hki ?_ hno
    by_cases hjk : j = k
    ·subst hjk; exact hjun
    ·rw [getD_set_ne true hjk] at hun; exact hun
   have hgj : (listed.setIfInBounds j true).getD g true = false := by rw [getD_set_ne true hjg]; exact hg
   have hgij : ((listed.setIfInBounds i true).setIfInBounds j true).getD g true = false := by rw [getD_set_ne true hjg, getD_set_ne true (fun q => hne q.symm)]; exact hg
   refine wpOp_mono (fun a' w' h3 => ⟨fun _ => h3.2.1 hgij, ih (listed.setIfInBounds j true) a' w' hfree' (ready_mono hr (Ne.symm hji)) h3.1 (h3.2.1 hgij) hgj hne ?_⟩) h2
   rw [Array.setIfInBounds_comm _ _ hji]
   exact h3.2.2

theorem take_G {i g : Nat} {oi og : Oper} {v : Value} {fuel : Nat} {listed : Array Bool} {a : Act} {w : World}
  (N : Option Tmp) (l : Array Bool) (hi : ops[i]? = some oi) (hN : oi.dst = N) (hgo : ops[g]? = some og) (hgi : (og.after.any fun e => Region.binds md e && (e.on == i)) = true)
  (hs : Region.noSelect ops = true) (hf : Region.free md ops listed i = true) (hr : (Region.ready md ops listed).contains i = true) (hl : listed.setIfInBounds i true = l)
  (hQ : ∀ c a w, Q (.panic c) (a.put N v) w → Q (.panic c) a w) (hg : (listed.getD g true || (g == i)) = false) (hS : S w) (hy : YieldsIf P ops S oi v a)
  (h : wpAnyG P md ops Q S g fuel l (a.put N v) w) : wpAnyG P md ops Q S g (fuel + 1) listed a w := by
 subst hN; subst hl
 rw [Bool.or_eq_false_iff] at hg
 have hgi2 : ∃ e ∈ og.after, Region.binds md e = true ∧ e.on = i := by
  obtain ⟨x, hx, h1, h2⟩ := (show ∃ (x : Nat), ∃ h : x < og.after.size, Region.binds md og.after[x] = true ∧ og.after[x].on = i by simpa using hgi)
  exact ⟨og.after[x], Array.getElem_mem hx, h1, h2⟩
 exact wpAnyG_first hi hgo hgi2 (Region.noSelect_spec hs) hQ fuel listed a w (Region.free_spec hi hf) (by simpa using hr) hy hS hg.1 (by simpa using hg.2) h

/-- One that waits for nothing of the world (a copy, an address) may be taken first at any time ahead of the gate. -/
theorem wpAnyG_pure {i g : Nat} {oi : Oper} {v : Value} (hi : ops[i]? = some oi) (hsel : ∀ (j : Nat) (o : Oper) cs b, ops[j]? = some o → o.op ≠ .select cs b)
  (hQ : ∀ c a w, Q (.panic c) (a.put oi.dst v) w → Q (.panic c) a w) :
  ∀ (fuel : Nat) (listed : Array Bool) (a : Act) (w : World),
   (∀ j oj, ops[j]? = some oj → j ≠ i → listed.getD j true = false → (∀ e ∈ oj.after, Region.binds md e = true → e.on ≠ i) → oi.apart ops oj = true) →
   i ∈ Region.ready md ops listed → YieldsIf P ops (fun _ => True) oi v a → (listed.getD g true = false → S w) → g ≠ i →
   wpAnyG P md ops Q S g fuel (listed.setIfInBounds i true) (a.put oi.dst v) w → wpAnyG P md ops Q S g (fuel + 1) listed a w := by
 intro fuel
 induction fuel with
 | zero =>
  intro listed a w _ hr hy hS hgi' H
  refine ⟨fun h => (by rw [h] at hr; cases hr), fun j hj => ?_⟩
  by_cases hji : j = i
  ·subst hji; exact hy.wpOp hi trivial ⟨fun hx => hS (by rw [getD_set_ne true (fun q => hgi' q.symm)] at hx; exact hx), H⟩
  ·have := ready_mono hj hji
   rw [H.1] at this
   cases this
 | succ fuel ih =>
  intro listed a w hfree hr hy hS hne H
  refine ⟨fun h => (by rw [h] at hr; cases hr), fun j hj => ?_⟩
  by_cases hji : j = i
  ·subst hji; exact hy.wpOp hi trivial ⟨fun hx => hS (by rw [getD_set_ne true (fun q => hne q.symm)] at hx; exact hx), H⟩
  ·have h1 := H.2 j (ready_mono hj hji)
   obtain ⟨hjun, oj, hoj, hall⟩ := mem_ready.1 hj
   have hnot : ∀ e ∈ oj.after, Region.binds md e = true → e.on ≠ i := fun e he hb heq => by
    have h1 := hall e he hb
    have h0 := (mem_ready.1 hr).1
    rw [heq] at h1
    rcases Nat.lt_or_ge i listed.size with h' | h'
    ·simp [h'] at h0 h1; rw [h0] at h1; cases h1
    ·simp [Array.getElem?_eq_none h'] at h1
   have h2 := wpOp_putIf hoj (hfree j oj hoj hji hjun hnot) (fun cs b => hsel i oi cs b hi) (fun cs b => hsel j oj cs b hoj) hQ hy h1
   have hfree' : ∀ k ok, ops[k]? = some ok → k ≠ i → (listed.setIfInBounds j true).getD k true = false →
     (∀ e ∈ ok.after, Region.binds md e = true → e.on ≠ i) → oi.apart ops ok = true := fun k ok hk hki hun hno => by
    refine hfree k ok hk hki ?_ hno
    by_cases hjk : j = k
    ·subst hjk; exact hjun
    ·rw [getD_set_ne true hjk] at hun; exact hun
   have hS' : ∀ w', (((listed.setIfInBounds i true).setIfInBounds j true).getD g true = false → S w') → ((listed.setIfInBounds j true).getD g true = false → S w') := fun w' hx hy => hx (by rw [Array.setIfInBounds_comm _ _ (fun q => hji q.symm), getD_set_ne true (fun q => hne q.symm)]; exact hy)
   refine wpOp_mono (fun a' w' h3 => ⟨hS' w' h3.2.1, ih (listed.setIfInBounds j true) a' w' hfree' (ready_mono hr (Ne.symm hji)) h3.1 (hS' w' h3.2.1) hne ?_⟩) h2
   rw [Array.setIfInBounds_comm _ _ hji]
   exact h3.2.2

theorem takep_G {i g : Nat} {oi : Oper} {v : Value} {fuel : Nat} {listed : Array Bool} {a : Act} {w : World}
  (N : Option Tmp) (l : Array Bool) (hi : ops[i]? = some oi) (hN : oi.dst = N)
  (hs : Region.noSelect ops = true) (hf : Region.free md ops listed i = true) (hr : (Region.ready md ops listed).contains i = true) (hl : listed.setIfInBounds i true = l)
  (hQ : ∀ c a w, Q (.panic c) (a.put N v) w → Q (.panic c) a w) (hg : (g == i) = false) (hS : S w) (hy : YieldsIf P ops (fun _ => True) oi v a)
  (h : wpAnyG P md ops Q S g fuel l (a.put N v) w) : wpAnyG P md ops Q S g (fuel + 1) listed a w := by
 subst hN; subst hl
 exact wpAnyG_pure hi (Region.noSelect_spec hs) hQ fuel listed a w (Region.free_spec hi hf) (by simpa using hr) hy (fun _ => hS) (by simpa using hg) h

/-- The only one that is ready, ahead of the gate. -/
theorem step_G {i g : Nat} {o : Oper} {fuel : Nat} {listed : Array Bool} {a : Act} {w : World}
  (l : Array Bool) (hi : ops[i]? = some o) (hr : Region.ready md ops listed = [i]) (hl : listed.setIfInBounds i true = l)
  (h : ∀ K' : Act → World → Prop, Shut (∀ a w, S w → wpAnyG P md ops Q S g fuel l a w → K' a w) → if Region.wanted o (yielded ops a.tmps) = true then Oper.wp P o a w K' Q else K' (a.put o.dst undef) w) :
  wpAnyG P md ops Q S g (fuel + 1) listed a w := by
 subst hl
 refine ⟨fun h0 => (by rw [hr] at h0; cases h0), fun j hj => ?_⟩
 rw [hr] at hj
 have : j = i := by simpa using hj
 subst this
 exact wpOp_step hi (fun K' hK => h K' (fun a w hS hW => hK a w ⟨fun _ => hS, hW⟩))
/-- The gate itself: behind it nothing is asked. -/
theorem gate_G {i : Nat} {o : Oper} {fuel : Nat} {listed : Array Bool} {a : Act} {w : World}
  (l : Array Bool) (hi : ops[i]? = some o) (hr : Region.ready md ops listed = [i]) (hl : listed.setIfInBounds i true = l)
  (h : ∀ K' : Act → World → Prop, Shut (∀ a w, True → wpAnyH P md ops Q (fun _ => True) fuel l a w → K' a w) → if Region.wanted o (yielded ops a.tmps) = true then Oper.wp P o a w K' Q else K' (a.put o.dst undef) w) :
  wpAnyG P md ops Q S i (fuel + 1) listed a w := by
 subst hl
 refine ⟨fun h0 => (by rw [hr] at h0; cases h0), fun j hj => ?_⟩
 rw [hr] at hj
 have : j = i := by simpa using hj
 subst this
 have hg : (listed.setIfInBounds j true).getD j true = true := by
  by_cases hl : j < listed.size <;> simp [hl]
 exact wpOp_step hi (fun K' hK => h K' (fun a w _ hW => hK a w ⟨fun hx => (by rw [hg] at hx; cases hx), gate_open hg hW⟩))

end
end Go.Proofs.YtimkklaidodkdaaGreatDoor
