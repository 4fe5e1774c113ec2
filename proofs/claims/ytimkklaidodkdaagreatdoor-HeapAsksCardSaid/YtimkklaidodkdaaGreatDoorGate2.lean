/- The gate's law, where what is taken first stands ahead of the gate through others. Over any program. -/
import Derived.Test.YtimkklaidodkdaaGreatDoorGate
namespace Go.Proofs.YtimkklaidodkdaaGreatDoor
open Go.RowKit

/-- Whatever of B comes up waits for i, or for one of B that has not come up. -/
def chkB (md : Region.Mode) (ops : Array Oper) (listed : Array Bool) (i g : Nat) (B : List Nat) : Bool :=
 B.contains g && B.all fun k => !listed.getD k true && ((ops[k]?).map fun o => o.after.any fun e => Region.binds md e && (e.on == i || B.contains e.on)).getD false

section
variable {P : Program} {ops : Array Oper} {Q : Exit → Act → World → Prop} {md : Region.Mode} {S : World → Prop}

theorem chkB_not {listed : Array Bool} {i g : Nat} {B : List Nat} (h : chkB md ops listed i g B = true) (hi : i ∈ Region.ready md ops listed) {j : Nat} (hj : j ∈ Region.ready md ops listed) : j ∉ B := by
 intro hjB
 rw [chkB, Bool.and_eq_true, List.all_eq_true] at h
 have h1 := h.2 j hjB
 rw [Bool.and_eq_true] at h1
 obtain ⟨_, oj, hoj, hall⟩ := mem_ready.1 hj
 have h2 := h1.2
 rw [hoj] at h2
 obtain ⟨x, hx, hb, ho⟩ := (show ∃ (x : Nat), ∃ h : x < oj.after.size, Region.binds md oj.after[x] = true ∧ (oj.after[x].on = i ∨ oj.after[x].on ∈ B) by simpa using h2)
 have hl := hall _ (Array.getElem_mem hx) hb
 have hun : listed.getD oj.after[x].on true = false := by
  rcases ho with ho | ho
  ·rw [ho]; exact (mem_ready.1 hi).1
  ·have := h.2 _ ho
   rw [Bool.and_eq_true] at this
   simpa using this.1
 rcases Nat.lt_or_ge oj.after[x].on listed.size with h' | h'
 ·simp [h'] at hl hun; rw [hun] at hl; cases hl
 ·simp [Array.getElem?_eq_none h'] at hl

theorem chkB_set {listed : Array Bool} {i g j : Nat} {B : List Nat} (h : chkB md ops listed i g B = true) (hj : j ∉ B) : chkB md ops (listed.setIfInBounds j true) i g B = true := by
 rw [chkB, Bool.and_eq_true, List.all_eq_true] at h ⊢
 refine ⟨h.1, fun k hk => ?_⟩
 have := h.2 k hk
 rw [getD_set_ne true (fun q => hj (by rw [q]; exact hk))]
 exact this

theorem wpAnyG_firstB {i g : Nat} {oi : Oper} {v : Value} {B : List Nat} (hi : ops[i]? = some oi) (hsel : ∀ (j : Nat) (o : Oper) cs b, ops[j]? = some o → o.op ≠ .select cs b)
  (hQ : ∀ c a w, Q (.panic c) (a.put oi.dst v) w → Q (.panic c) a w) :
  ∀ (fuel : Nat) (listed : Array Bool) (a : Act) (w : World), chkB md ops listed i g B = true →
   (∀ j oj, ops[j]? = some oj → j ≠ i → listed.getD j true = false → (∀ e ∈ oj.after, Region.binds md e = true → e.on ≠ i) → oi.apart ops oj = true) →
   i ∈ Region.ready md ops listed → YieldsIf P ops S oi v a → S w → listed.getD g true = false → g ≠ i →
   wpAnyG P md ops Q S g fuel (listed.setIfInBounds i true) (a.put oi.dst v) w → wpAnyG P md ops Q S g (fuel + 1) listed a w := by
 intro fuel
 induction fuel with
 | zero =>
  intro listed a w _ _ hr hy hS hg hgi' H
  refine ⟨fun h => (by rw [h] at hr; cases hr), fun j hj => ?_⟩
  by_cases hji : j = i
  ·subst hji; exact hy.wpOp hi hS ⟨fun _ => hS, H⟩
  ·have := ready_mono hj hji
   rw [H.1] at this
   cases this
 | succ fuel ih =>
  intro listed a w hB hfree hr hy hS hg hne H
  refine ⟨fun h => (by rw [h] at hr; cases hr), fun j hj => ?_⟩
  by_cases hji : j = i
  ·subst hji; exact hy.wpOp hi hS ⟨fun _ => hS, H⟩
  ·have h1 := H.2 j (ready_mono hj hji)
   obtain ⟨hjun, oj, hoj, hall⟩ := mem_ready.1 hj
   have hnot : ∀ e ∈ oj.after, Region.binds md e = true → e.on ≠ i := fun e he hb heq => by
    have h1 := hall e he hb
    have h0 := (mem_ready.1 hr).1
    rw [heq] at h1
    rcases Nat.lt_or_ge i listed.size with h' | h'
    ·simp [h'] at h0 h1; rw [h0] at h1; cases h1
    ·simp [Array.getElem?_eq_none h'] at h1
   have hjB := chkB_not hB hr hj
   have hgB : g ∈ B := by
    rw [chkB, Bool.and_eq_true] at hB
    simpa using hB.1
   have hjg : j ≠ g := fun q => hjB (by rw [q]; exact hgB)
   have h2 := wpOp_putIf hoj (hfree j oj hoj hji hjun hnot) (fun cs b => hsel i oi cs b hi) (fun cs b => hsel j oj cs b hoj) hQ hy h1
   have hfree' : ∀ k ok, ops[k]? = some ok → k ≠ i → (listed.setIfInBounds j true).getD k true = false →
     (∀ e ∈ ok.after, Region.binds md e = true → e.on ≠ i) → oi.apart ops ok = true := fun k ok hk hki hun hno => by
    refine hfree k ok hk hki ?_ hno
    by_cases hjk : j = k
    ·subst hjk; exact hjun
    ·rw [getD_set_ne true hjk] at hun; exact hun
   have hgj : (listed.setIfInBounds j true).getD g true = false := by rw [getD_set_ne true hjg]; exact hg
   have hgij : ((listed.setIfInBounds i true).setIfInBounds j true).getD g true = false := by rw [getD_set_ne true hjg, getD_set_ne true (fun q => hne q.symm)]; exact hg
   refine wpOp_mono (fun a' w' h3 => ⟨fun _ => h3.2.1 hgij, ih (listed.setIfInBounds j true) a' w' (chkB_set hB hjB) hfree' (ready_mono hr (Ne.symm hji)) h3.1 (h3.2.1 hgij) hgj hne ?_⟩) h2
   rw [Array.setIfInBounds_comm _ _ hji]
   exact h3.2.2

theorem take_B {i g : Nat} {oi : Oper} {v : Value} {fuel : Nat} {listed : Array Bool} {a : Act} {w : World}
  (B : List Nat) (N : Option Tmp) (l : Array Bool) (hi : ops[i]? = some oi) (hN : oi.dst = N) (hB : chkB md ops listed i g B = true)
  (hs : Region.noSelect ops = true) (hf : Region.free md ops listed i = true) (hr : (Region.ready md ops listed).contains i = true) (hl : listed.setIfInBounds i true = l)
  (hQ : ∀ c a w, Q (.panic c) (a.put N v) w → Q (.panic c) a w) (hg : (listed.getD g true || (g == i)) = false) (hS : S w) (hy : YieldsIf P ops S oi v a)
  (h : wpAnyG P md ops Q S g fuel l (a.put N v) w) : wpAnyG P md ops Q S g (fuel + 1) listed a w := by
 subst hN; subst hl
 rw [Bool.or_eq_false_iff] at hg
 exact wpAnyG_firstB hi (Region.noSelect_spec hs) hQ fuel listed a w hB (Region.free_spec hi hf) (by simpa using hr) hy hS hg.1 (by simpa using hg.2) h

end
end Go.Proofs.YtimkklaidodkdaaGreatDoor
