/- slices.Delete at []*heap.cell: walked. -/
/- store.remove, store.let: walked; what they let go. -/
import Derived.Test.YtimkklaidodkdaaGreatDoorHeapFree
import Derived.Lib.SliceRun
import Derived.Deep.RegionLaw
import Derived.Lib.JoinLaws
import Derived.Lib.AppendZeros
import Derived.Lib.AppendZerosOnto
import Derived.Lib.Overlaps
import Derived.Laws.Externs
import Derived.Laws.IdiomCopy
import Derived.Laws.NewBlocks
namespace Go.Proofs.YtimkklaidodkdaaGreatDoor
open Go.RowKit

set_option maxRecDepth 100000 in
set_option maxHeartbeats 4000000 in
/-- Its cells, one by one. -/
theorem delete_raw (blk off cap i j n : Nat) (xs : List Value) (w : World) (hl : xs.length = n) (hc : ∀ t u, xs[t]? = some u → w.cell? ⟨blk, off + t, none⟩ = some u) (hf : ∀ t, w.frozen? ⟨blk, t, none⟩ = false) (h1 : ∀ u ∈ xs, u.oneCell' = true)
  (hcap : n ≤ cap) (hij : i < j) (hj : j ≤ n) :
  Calls Tryz.prog 90 #[.slice (some ⟨blk, off, none⟩) n cap, .int .i64 (i : Int), .int .i64 (j : Int)] w fun e w' => e = .returned (.slice (some ⟨blk, off, none⟩) (i + (n - j)) cap) ∧ w' = (w.drew.setCells blk (off + i * 1) (xs.drop j)).setCells blk (off + (i + (n - j))) (List.replicate (n - (i + (n - j))) (.pointer none)) := by
 obtain ⟨i0, hi0, hz0, hz1, hz2⟩ := info_parts info_ptr
 have v3 : ∀ w, (zeroValue 106).run Tryz.prog w = .ok (.pointer none) w := fun w => by kernel_rfl
 obtain ⟨news, hnews⟩ : ∃ news, news = xs.drop j := ⟨_, rfl⟩
 have hlen : news.length = n - j := by rw [hnews, List.length_drop, hl]
 have hget : ∀ t u, news[t]? = some u → w.cell? ⟨blk, off + (j + t), none⟩ = some u := fun t u hu => by
  rw [hnews, List.getElem?_drop] at hu
  exact hc _ u hu
 obtain ⟨A, hA, hsrc⟩ : ∃ A : Addr, (if cap = j then some (⟨blk, off, none⟩ : Addr) else some ⟨blk, off + j, none⟩) = some A ∧ Hid (∀ t u, news[t]? = some u → w.drew.cell? (A.add t) = some u) := by
  by_cases h : cap = j
  ·refine ⟨⟨blk, off, none⟩, by simp [h], fun t u hu => ?_⟩
   have h0 : news.length = 0 := by rw [hlen]; omega
   rw [List.length_eq_zero_iff.1 h0] at hu
   simp at hu
  ·refine ⟨⟨blk, off + j, none⟩, by simp [h], fun t u hu => ?_⟩
   rw [Addr.add_mid, Nat.add_assoc]
   exact hget t u hu
 have hsome : ∀ t, t < n → (w.cell? ⟨blk, off + t, none⟩).isSome = true := fun t ht => by rw [hc t _ (List.getElem?_eq_getElem (by omega))]; rfl
 have s1 : Hid (news.length = (n - j) * 1) := by rw [Nat.mul_one]; exact hlen
 have s2 : Hid (∀ u ∈ news, u.oneCell' = true) := fun u hu => h1 u (List.mem_of_mem_drop (hnews ▸ hu))
 have s3 : Hid (∀ t, t < news.length → (w.drew.cell? ⟨blk, off + i * 1 + t, none⟩).isSome = true ∧ w.drew.frozen? ⟨blk, off + i * 1 + t, none⟩ = false) := by
  intro t ht
  rw [hlen] at ht
  rw [Nat.mul_one, Nat.add_assoc]
  exact ⟨hsome _ (by omega), hf _⟩
 obtain ⟨W1, hW1⟩ : ∃ W1, W1 = w.drew.setCells blk (off + i * 1) news := ⟨_, rfl⟩
 have hsome1 : ∀ t, t < n → (W1.cell? ⟨blk, off + t, none⟩).isSome = true := fun t ht => by
  rw [hW1]
  by_cases hin : off + i * 1 ≤ off + t ∧ off + t < off + i * 1 + news.length
  ·have := World.cell?_setCells_in blk news (off + i * 1) w.drew (fun q hq => (s3 q hq).1) (off + t - (off + i * 1)) (by omega)
   rw [show off + i * 1 + (off + t - (off + i * 1)) = off + t by omega] at this
   rw [this]; rfl
  ·rw [World.cell?_setCells_out blk news (off + i * 1) w.drew ⟨blk, off + t, none⟩ (fun _ _ => by show off + t < off + i * 1 ∨ off + i * 1 + news.length ≤ off + t; omega)]
   exact hsome t ht
 have hfr1 : ∀ t, W1.frozen? ⟨blk, t, none⟩ = false := fun t => by rw [hW1, World.frozen?_setCells]; exact hf t
 have hcl : ∀ ty, (Builtin.clear_ #[111] ty #[.slice (some ⟨blk, off + (i + (n - j)), none⟩) (n - (i + (n - j))) (cap - (i + (n - j)))]).run Tryz.prog W1 = .ok (.tuple #[]) (W1.setCells blk (off + (i + (n - j))) (List.replicate (n - (i + (n - j))) (.pointer none))) :=
  fun ty => Lib.run_clear_slice W1 _ _ ty _ Tryz.underlying111 v3 rfl rfl blk (off + (i + (n - j))) _ _ (by omega) (fun t ht => by rw [Nat.add_assoc]; exact hsome1 _ (by omega)) (fun t _ => hfr1 _)
 have hW : Hid (W1 = w.drew.setCells blk (off + i * 1) news) := hW1
 have HN := Lib.hid hnews
 have hic : i ≤ cap := by omega
 have hjc : j ≤ cap := by omega
 have hne : ¬ i = j := by omega
 have i1 : ¬ (i : Int) = (j : Int) := by omega
 clear hW1 hget hlen hsome hsome1 hfr1 hf hc h1 hl hnews
 go_enter Tryz.func90, Tryz.ntmps90
 go_wp2_with fail
 go_region_law (refine step_append_room rfl (.tmp 22) (.tmp 25) 111 rfl 106 i0 1 Tryz.underlying111 hi0 hz1 blk off i cap (by simp [Act.eval, Act.put]) A (n - j) (cap - j) news (by simp [Act.eval, Act.put]) s1.out hsrc.out s2.out (by omega) s3.out ?_; rw [← hW.out])
 go_wp2
 go_ret
 exact ⟨rfl, by rw [hW.out, HN.out]⟩

theorem delete_calls (B : Nat) (v : Value) (xs : List Value) (n i : Nat) (w : World) (h : w.ownsRow B 106 1 v n xs) (hi : i < n) (h1 : ∀ u ∈ xs, u.oneCell' = true) :
  Calls Tryz.prog 90 #[v, .int .i64 (i : Int), .int .i64 ((i + 1 : Nat) : Int)] w fun e w' => ∃ v', e = .returned v' ∧ w'.ownsRow B 106 1 v' (n - 1) (xs.eraseIdx i) ∧ w.grownBy w' v.ownBlock := by
 have hcs := fun g hg => h.cells (g := g) hg
 obtain ⟨hl, ⟨_, hn⟩ | ⟨g, cap, cur, rfl, hg, hh, hnc, hcm, hsz, hxs⟩⟩ := h
 ·omega
 have hr : RowIs w g 106 cur := hh
 have hl' : xs.length = n := by omega
 have hsz' : cur.size = cap := by omega
 unfold maxLen at hcm
 refine (delete_raw g 0 cap i (i + 1) n xs w hl' (fun t u hu => by have := hcs g rfl t u hu; rwa [Addr.add_mid] at this) (fun t => hr.free t) h1 hnc (by omega) (by omega)).mono ?_
 rintro e w' ⟨rfl, rfl⟩
 have r1 := setCells_row g _ (xs.drop (i + 1)) (0 + i * 1) w.drew cur hr (by rw [List.length_drop]; omega)
 have hsz1 : (cur.toList.take (0 + i * 1) ++ xs.drop (i + 1) ++ cur.toList.drop (0 + i * 1 + (xs.drop (i + 1)).length)).toArray.size = cap := by
  simp only [List.size_toArray, List.length_append, List.length_take, List.length_drop, Array.length_toList]
  omega
 have e1 : (List.replicate (n - (i + (n - (i + 1)))) (Value.pointer none)).length = 1 := by rw [List.length_replicate]; omega
 have r2 := setCells_row g _ (List.replicate (n - (i + (n - (i + 1)))) (Value.pointer none)) (0 + (i + (n - (i + 1)))) _ _ r1 (by rw [e1, hsz1]; omega)
 refine ⟨_, rfl, ⟨by rw [List.length_eraseIdx, if_pos (by omega)]; omega, .inr ⟨g, cap, _, by rw [show i + (n - (i + 1)) = n - 1 by omega], hg, r2, by omega, by unfold maxLen; omega, ?_, ?_⟩⟩, ?_⟩
 ·simp only [List.size_toArray, List.length_append, List.length_take, List.length_drop, e1, Array.length_toList]
  omega
 ·have e2 : (0 + (i + (n - (i + 1)))) = n - 1 := by omega
  rw [e2, List.eraseIdx_eq_take_drop_succ]
  have e3 : cur.toList.take i = xs.take i := by rw [← hxs, List.take_take]; congr 1; omega
  simp only [Nat.zero_add, Nat.mul_one, List.append_assoc]
  rw [List.take_append_of_le_length (by simp only [List.length_take, List.length_append, List.length_drop, Array.length_toList]; omega), List.take_take, Nat.min_self, e3, ← List.append_assoc, List.take_append_of_le_length (by simp only [List.length_take, List.length_append, List.length_drop]; omega)]
  exact List.take_of_length_le (by simp only [List.length_take, List.length_append, List.length_drop]; omega)
 ·have hb := ((But.refl g w).drew.setCells (xs.drop (i + 1)) (0 + i * 1)).setCells (List.replicate (n - (i + (n - (i + 1)))) (Value.pointer none)) (0 + (i + (n - (i + 1))))
  exact ⟨hb.os, hb.tape, hb.output, hb.size, fun k hk hne => hb.block k hk (fun e => hne (by rw [e]; rfl))⟩

end Go.Proofs.YtimkklaidodkdaaGreatDoor

namespace Go.Proofs.YtimkklaidodkdaaGreatDoor
open Go.RowKit Go.Lib

/-- The operation 'copy', where its run is known by an equation. -/
theorem wp_copy_runI {P : Program} (w : World) {o : Oper} {a : Act} {K : Act → World → Prop} {Q : Exit → Act → World → Prop} (d s : Operand) (t t' : TypeId)
  (ho : o.op = .call { callee := .builtin .copy, args := #[d, s], argTypes := #[t, t'] }) (v u : Value) (hd : a.eval d = v) (hs : a.eval s = u) {v' : Value} {w' : World}
  (hr : (Builtin.copy_ #[t, t'] o.type #[v, u]).run P w = .ok v' w') (h : K (a.put o.dst v') w') : o.wp P a w K Q := by
 unfold Oper.wp execOp
 simp only [ho, resolve, invoke, builtin, Sem.run_bind, Sem.run_pure, Result.andThen_ok, List.map_toArray, List.map_cons, List.map_nil, hd, hs, hr]
 exact h
theorem wpList_copy_runI {P : Program} (w : World) {ops : Array Oper} {rest : List Oper} {o : Oper} {a : Act} {Q : Exit → Act → World → Prop} (hgd : o.guard = none) (d s : Operand) (t t' : TypeId)
  (ho : o.op = .call { callee := .builtin .copy, args := #[d, s], argTypes := #[t, t'] }) (v u : Value) (hd : a.eval d = v) (hs : a.eval s = u) {v' : Value} {w' : World}
  (hr : (Builtin.copy_ #[t, t'] o.type #[v, u]).run P w = .ok v' w') (h : wpList P ops Q rest (a.put o.dst v') w') : wpList P ops Q (o :: rest) a w :=
 wpList_plain hgd fun _ hK => wp_copy_runI w d s t t' ho v u hd hs hr (hK _ _ h)
theorem step_copy_runI {P : Program} {ops : Array Oper} {o : Oper} {a : Act} {w : World} {K : Act → World → Prop} {Q : Exit → Act → World → Prop} {E : Prop}
  (hg : o.guard = none) (d x : Operand) (dT sT : TypeId) (hop : o.op = Op.call { callee := Callee.builtin Builtin.copy, args := #[d, x], argTypes := #[dT, sT] })
  (v u : Value) (hd : a.eval d = v) (hx : a.eval x = u) {v' : Value} {w' : World} (hr : (Builtin.copy_ #[dT, sT] o.type #[v, u]).run P w = .ok v' w') (hK : K (a.put o.dst v') w') :
  if Region.wanted o (yielded ops a.tmps) = true then Oper.wp P o a w K Q else E := by
 have hw : Region.wanted o (yielded ops a.tmps) = true := by simp [Region.wanted, hg]
 rw [if_pos hw]
 unfold Oper.wp
 simp [execOp, hop, resolve, invoke, builtin, hd, hx, hr, Result.andThen]
 exact hK
theorem isSome_setCells (b : Nat) (vs : List Value) (o : Nat) (w : World) (h : ∀ j, j < vs.length → (w.cell? ⟨b, o + j, none⟩).isSome = true) (k : Nat) (hk : (w.cell? ⟨b, k, none⟩).isSome = true) : ((w.setCells b o vs).cell? ⟨b, k, none⟩).isSome = true := by
 by_cases hin : o ≤ k ∧ k < o + vs.length
 ·have := World.cell?_setCells_in b vs o w h (k - o) (by omega)
  rw [show o + (k - o) = k by omega] at this
  rw [this]; rfl
 ·rw [World.cell?_setCells_out b vs o w ⟨b, k, none⟩ (fun _ _ => by show k < o ∨ o + vs.length ≤ k; omega)]
  exact hk

set_option maxHeartbeats 4000000 in
set_option maxRecDepth 100000 in
theorem insert_shift (b off n c i vb voff m vc : Nat) (cs vs : List Value) (w : World) (hi : i < n) (hm : 0 < m) (hroom : n + m ≤ c) (hc63 : c ≤ 9223372036854775807) (hvb : vb ≠ b)
  (hcl : cs.length = n) (hvl : vs.length = m)
  (hcs : ∀ j v, cs[j]? = some v → w.cell? ⟨b, off + j, none⟩ = some v) (hsp : ∀ j, j < n + m → (w.cell? ⟨b, off + j, none⟩).isSome = true) (hfz : ∀ j, j < n + m → w.frozen? ⟨b, off + j, none⟩ = false)
  (hvs : ∀ j v, vs[j]? = some v → w.cell? ⟨vb, voff + j, none⟩ = some v) (h1c : ∀ v ∈ cs, v.oneCell' = true) (h1v : ∀ v ∈ vs, v.oneCell' = true)
  (tA tB : TypeId) (kA kB : Nat) (hsa : w.shape? vb = some (tA, kA)) (hsb : w.shape? b = some (tB, kB)) (hkB : kB ≠ 0) (hfa : w.frozen? ⟨vb, voff, none⟩ = false) (hfe : w.frozen? ⟨vb, kA, none⟩ = false) :
  Calls Tryz.prog 81 #[.slice (some ⟨b, off, none⟩) n c, .int .i64 i, .slice (some ⟨vb, voff, none⟩) m vc] w fun e w' =>
   e = .returned (.slice (some ⟨b, off, none⟩) (n + m) c) ∧ w' = (w.drew.setCells b (off + (i + m)) (cs.drop i)).setCells b (off + i) vs := by
 have t0 := Tryz.underlying3; have t4 := Tryz.underlying4; have t9 := Tryz.underlying106; have t24 := Tryz.underlying111
 have z9 : ∀ w, (Go.sizeOf 106).run Tryz.prog w = .ok 1 w := fun w => by kernel_rfl
 have hz1 : ¬ ((m : Int) = 0) := by omega
 have hz2 : ¬ ((i : Int) = (n : Int)) := by omega
 have hsz : (Tryz.prog.info? 106).map (·.size) = some 1 := by
  obtain ⟨i0, hi0, h0, h1, h2⟩ := info_parts info_ptr
  rw [hi0]; simp [h1]
 have hov : ∀ lb cb, (callFunc 112 #[.slice (some ⟨vb, voff, none⟩) m vc, .slice (some ⟨b, off + (i + m), none⟩) lb cb]).run Tryz.prog w = .ok (.value (.bool false)) w := fun lb cb => by
  rw [run_callFunc_extern Tryz.func112 (by kernel_rfl) (by kernel_rfl) (by kernel_rfl) (e := Extern.SlicesOverlaps.overlaps #[111, 111] #[4]) (by kernel_rfl),
   Lib.run_overlaps_apart w 111 4 106 t24 1 z9 ⟨vb, voff, none⟩ ⟨b, off + (i + m), none⟩ m vc lb cb hvb tA tB kA kB hsa hsb hkB hfa hfe]
  rfl
 have hdl : (cs.drop i).length = n - i := by rw [List.length_drop, hcl]
 have hw1 : IntKind.i64.wrap ((i : Int) + (m : Int)) = (i : Int) + (m : Int) := by rw [IntKind.wrap_i64]; omega
 have hb1 : (0 : Int) ≤ (i : Int) + (m : Int) := by omega
 have hin : i ≤ n := by omega
 have htn : ((i : Int) + (m : Int)).toNat = i + m := by omega
 have hb2 : ¬ (c = i + m) := by omega
 have hb3 : (i : Int) ≤ (n : Int) + (m : Int) := by omega
 have hb4 : ¬ (c = i) := by omega
 have hcp1 : ∀ ty dc sc, (Builtin.copy_ #[111, 111] ty #[.slice (some ⟨b, off + (i + m), none⟩) (n + m - (i + m)) dc, .slice (some ⟨b, off + i, none⟩) (n + m - i) sc]).run Tryz.prog w.drew = .ok (goInt (cs.drop i).length) (w.drew.setCells b (off + (i + m)) (cs.drop i)) := fun ty dc sc =>
  run_copy_cells w.drew _ _ ty 106 b (off + (i + m)) (n + m - (i + m)) dc ⟨b, off + i, none⟩ (n + m - i) sc (cs.drop i) t24 hsz (by rw [hdl]; simp only [Nat.min_def]; split <;> omega)
   (fun j v hj => by rw [Addr.add_lit, Nat.add_assoc]; exact hcs (i + j) v (by rwa [List.getElem?_drop] at hj))
   (fun j hj => by rw [Nat.add_assoc]; exact hsp _ (by omega)) (fun j hj => by rw [Nat.add_assoc]; exact hfz _ (by omega)) (fun v hv => h1c v (List.mem_of_mem_drop hv))
 obtain ⟨W1, hW1⟩ : ∃ W1, W1 = w.drew.setCells b (off + (i + m)) (cs.drop i) := ⟨_, rfl⟩
 have hsp1 : ∀ k, k < n + m → (W1.cell? ⟨b, off + k, none⟩).isSome = true := fun k hk => by
  rw [hW1]
  exact isSome_setCells b _ _ _ (fun j hj => by rw [Nat.add_assoc]; exact hsp _ (by omega)) _ (hsp k hk)
 have hcp2 : ∀ (W : World), (∀ x, W.cell? x = W1.cell? x) → (∀ x, W.frozen? x = W1.frozen? x) → ∀ ty dc, (Builtin.copy_ #[111, 111] ty #[.slice (some ⟨b, off + i, none⟩) (n + m - i) dc, .slice (some ⟨vb, voff, none⟩) m vc]).run Tryz.prog W = .ok (goInt vs.length) (W.setCells b (off + i) vs) := fun W hWc hWf ty dc =>
  run_copy_cells W _ _ ty 106 b (off + i) (n + m - i) dc ⟨vb, voff, none⟩ m vc vs t24 hsz (by rw [hvl]; simp only [Nat.min_def]; split <;> omega)
   (fun j v hj => by
    rw [Addr.add_lit, hWc, hW1, World.cell?_setCells_out b _ _ _ _ (fun h _ => absurd h hvb)]
    exact hvs j v hj)
   (fun j hj => by rw [hWc, Nat.add_assoc]; exact hsp1 _ (by omega)) (fun j hj => by rw [hWf, hW1, World.frozen?_setCells, Nat.add_assoc]; exact hfz _ (by omega)) h1v
 rw [← hW1] at hcp1
 go_enter Tryz.func81, Tryz.ntmps81
 go_wp2_with (simp only [hov])
 go_region_law (refine step_copy_runI rfl _ _ 111 111 rfl _ _ (by simp [Act.eval, Act.put]) (by simp [Act.eval, Act.put]) (hcp1 _ _ _) ?_)
 go_wp2_with (at_builtin; refine wpList_copy_runI _ rfl _ _ 111 111 rfl _ _ rfl rfl (hcp2 _ (fun _ => rfl) (fun _ => rfl) _ _) ?_)
 go_ret
 first | exact ⟨rfl, rfl⟩ | exact ⟨rfl, by rw [hW1]⟩

set_option maxHeartbeats 4000000 in
set_option maxRecDepth 100000 in
theorem insert_end_room (b off n c vb voff m vc : Nat) (vs : List Value) (w : World) (hm : 0 < m) (hroom : n + m ≤ c)
  (hvl : vs.length = m) (hsp : ∀ j, j < m → (w.cell? ⟨b, off + n + j, none⟩).isSome = true) (hfz : ∀ j, j < m → w.frozen? ⟨b, off + n + j, none⟩ = false)
  (hvs : ∀ j v, vs[j]? = some v → w.cell? ⟨vb, voff + j, none⟩ = some v) (h1v : ∀ v ∈ vs, v.oneCell' = true) :
  Calls Tryz.prog 81 #[.slice (some ⟨b, off, none⟩) n c, .int .i64 n, .slice (some ⟨vb, voff, none⟩) m vc] w fun e w' =>
   e = .returned (.slice (some ⟨b, off, none⟩) (n + m) c) ∧ w' = w.setCells b (off + n) vs := by
 have t0 := Tryz.underlying3; have t4 := Tryz.underlying4; have t9 := Tryz.underlying106; have t24 := Tryz.underlying111
 have z9 : ∀ w, (Go.sizeOf 106).run Tryz.prog w = .ok 1 w := fun w => by kernel_rfl
 have hz1 : ¬ ((m : Int) = 0) := by omega
 have hsrc : Src Tryz.prog 1 111 (.slice (some ⟨vb, voff, none⟩) m vc) m vs w := Src.ofSlice w t24 ⟨vb, voff, none⟩ m vc vs (by omega) (fun j u hj => by rw [Addr.add_lit]; exact hvs j u hj) h1v
 go_enter Tryz.func81, Tryz.ntmps81
 go_wp2_with (at_builtin; refine wpList_append_room1 _ rfl _ _ 111 111 rfl 106 _ _ t24 info_ptr b off n c rfl _ rfl m vs hsrc hroom (by rw [hvl]; exact hsp) (by rw [hvl]; exact hfz) ?_)
 go_ret
 exact ⟨rfl, rfl⟩

set_option maxHeartbeats 4000000 in
set_option maxRecDepth 100000 in
theorem insert_end_grow (base : Option Addr) (n c vb voff m vc : Nat) (cs vs : List Value) (w : World) (hm : 0 < m) (hnc : n ≤ c) (hroom : c < n + m) (hbig : (n + m) * 8 ≤ 140737488355328)
  (hcl : cs.length = n) (hvl : vs.length = m) (hnil : base = none → n = 0)
  (hcs : ∀ a, base = some a → ∀ j v, cs[j]? = some v → w.cell? (a.add j) = some v)
  (hvs : ∀ j v, vs[j]? = some v → w.cell? ⟨vb, voff + j, none⟩ = some v) (h1v : ∀ v ∈ vs, v.oneCell' = true) :
  Calls Tryz.prog 81 #[.slice base n c, .int .i64 n, .slice (some ⟨vb, voff, none⟩) m vc] w fun e w' =>
   e = .returned (.slice (some ⟨w.heap.size, 0, none⟩) (n + m) (grownCap w (n + m) c 106)) ∧
   w' = w.drew.alloc (.cells ((cs ++ vs).toArray ++ Builtin.zeroCells (Value.pointer none).cells (grownCap w (n + m) c 106 - (n + m))) 106) := by
 have t0 := Tryz.underlying3; have t4 := Tryz.underlying4; have t9 := Tryz.underlying106; have t24 := Tryz.underlying111
 have z9 : ∀ w, (Go.sizeOf 106).run Tryz.prog w = .ok 1 w := fun w => by kernel_rfl
 obtain ⟨i0, hi0, hz0, hzs, hzb⟩ := info_parts info_ptr
 have hz1 : ¬ ((m : Int) = 0) := by omega
 have hsrc : Src Tryz.prog i0.size 111 (.slice (some ⟨vb, voff, none⟩) m vc) m vs w := by
  rw [hzs]
  exact Src.ofSlice w t24 ⟨vb, voff, none⟩ m vc vs (by omega) (fun j u hj => by rw [Addr.add_lit]; exact hvs j u hj) h1v
 have hold : (Builtin.firstCells i0.size n (.slice base n c)).run Tryz.prog w.drew = .ok cs.toArray w.drew := by
  rw [hzs]
  cases base with
  | none =>
   have h0 := hnil rfl
   subst h0
   rw [List.length_eq_zero_iff.1 hcl]
   exact run_firstCells_none w.drew 1 0 0 c
  | some a => exact run_firstCells_some w.drew 1 n a n c cs (by omega) (fun j v hj => hcs a rfl j v hj)
 have hrun : ∀ ty, (Builtin.append_ #[111, 111] ty #[.slice base n c, .slice (some ⟨vb, voff, none⟩) m vc]).run Tryz.prog w = _ := fun ty =>
  run_append_grow_src w 111 111 ty 106 i0 _ t24 hi0 hz0 base n c cs hold _ m vs hsrc hroom (by omega) (by rw [hzb]; exact growslice_fits hroom hbig)
 go_enter Tryz.func81, Tryz.ntmps81
 cases base with
 | none =>
  have h0 := hnil rfl
  subst h0
  go_wp2_with (at_builtin; refine Lib.wpList_append_run _ rfl _ _ _ _ rfl _ _ rfl rfl _ _ (hrun _) ?_)
  go_ret
  exact ⟨rfl, rfl⟩
 | some a =>
  obtain ⟨ab, ao, asp⟩ := a
  go_wp2_with (at_builtin; refine Lib.wpList_append_run _ rfl _ _ _ _ rfl _ _ rfl rfl _ _ (hrun _) ?_)
  all_goals (go_ret; exact ⟨rfl, rfl⟩)

set_option maxHeartbeats 4000000 in
set_option maxRecDepth 100000 in
theorem insert_grow (b off n c i vb voff m vc : Nat) (cs vs : List Value) (w : World) (hi : i < n) (hm : 0 < m) (hnc : n ≤ c) (hroom : c < n + m) (hbig : (n + m) * 8 ≤ 140737488355328)
  (hcl : cs.length = n) (hvl : vs.length = m)
  (hcs : ∀ j v, cs[j]? = some v → w.cell? ⟨b, off + j, none⟩ = some v)
  (hvs : ∀ j v, vs[j]? = some v → w.cell? ⟨vb, voff + j, none⟩ = some v) (h1c : ∀ v ∈ cs, v.oneCell' = true) (h1v : ∀ v ∈ vs, v.oneCell' = true) :
  Calls Tryz.prog 81 #[.slice (some ⟨b, off, none⟩) n c, .int .i64 i, .slice (some ⟨vb, voff, none⟩) m vc] w fun e w' =>
   e = .returned (.slice (some ⟨w.heap.size, 0, none⟩) (n + m) (grownCap w (n + m) c 106)) ∧
   w' = (((w.alloc (.cells ((cs.take i).toArray ++ Builtin.zeroCells (Value.pointer none).cells (n + m - i) ++ Builtin.zeroCells (Value.pointer none).cells (grownCap w (n + m) c 106 - (n + m))) 106)).drew.setCells w.heap.size i vs).drew).setCells w.heap.size (i + m) (cs.drop i) := by
 have t0 := Tryz.underlying3; have t4 := Tryz.underlying4; have t9 := Tryz.underlying106; have t24 := Tryz.underlying111
 have z9 : ∀ w, (Go.sizeOf 106).run Tryz.prog w = .ok 1 w := fun w => by kernel_rfl
 obtain ⟨i0, hi0, hz0, hzs, hzb⟩ := info_parts info_ptr
 have hz1 : ¬ ((m : Int) = 0) := by omega
 have hz2 : ¬ ((i : Int) = (n : Int)) := by omega
 have hz3 : (c : Int) < (n : Int) + (m : Int) := by omega
 have hsz : (Tryz.prog.info? 106).map (·.size) = some 1 := by rw [hi0]; simp [hzs]
 have hbw : b < w.heap.size := block_lt_of_cell (hcs 0 _ (List.getElem?_eq_getElem (by omega)))
 have hvw : vb < w.heap.size := block_lt_of_cell (hvs 0 _ (List.getElem?_eq_getElem (by omega)))
 have hkk : (n : Int) + (m : Int) - (i : Int) = ((n + m - i : Nat) : Int) := by omega
 have hik : i + (n + m - i) = n + m := by omega
 have hold : (Builtin.firstCells i0.size i (.slice (some ⟨b, off, none⟩) i c)).run Tryz.prog w.drew = .ok (cs.take i).toArray w.drew := by
  rw [hzs]
  exact run_firstCells_some w.drew 1 i ⟨b, off, none⟩ i c (cs.take i) (by rw [List.length_take]; omega) (fun j v hj => by
   rw [Addr.add_lit]
   rw [List.getElem?_take] at hj
   split at hj
   ·exact hcs j v hj
   ·cases hj)
 have hrz : ∀ ty, (Builtin.append_ #[111, 3] ty #[.slice (some ⟨b, off, none⟩) i c, .int .i64 ((n : Int) + (m : Int) - (i : Int))]).run Tryz.prog w =
   .ok (.slice (some ⟨w.heap.size, 0, none⟩) (n + m) (grownCap w (n + m) c 106)) (w.drew.alloc (.cells ((cs.take i).toArray ++ Builtin.zeroCells (Value.pointer none).cells (n + m - i) ++ Builtin.zeroCells (Value.pointer none).cells (grownCap w (n + m) c 106 - (n + m))) 106)) := fun ty => by
  have h := Lib.run_append_grow_zeros w 111 3 ty 106 i0 _ .i64 .i64 t24 Tryz.underlying3 hi0 hz0 (some ⟨b, off, none⟩) i c (cs.take i) hold (n + m - i) (by omega) (by omega) (by omega) (by omega) (by rw [hzb]; omega) (by rw [hzb, hik]; exact growslice_fits hroom hbig)
  rw [hik] at h
  rw [hkk]
  exact h
 obtain ⟨G, hG⟩ : ∃ G, G = grownCap w (n + m) c 106 := ⟨_, rfl⟩
 obtain ⟨ROW, hROW⟩ : ∃ ROW : Array Value, ROW = (cs.take i).toArray ++ Builtin.zeroCells (Value.pointer none).cells (n + m - i) ++ Builtin.zeroCells (Value.pointer none).cells (G - (n + m)) := ⟨_, rfl⟩
 rw [← hG] at hrz ⊢
 rw [← hROW] at hrz ⊢
 have hRl : n + m ≤ ROW.size := by
  rw [hROW]
  simp [Builtin.zeroCells, Value.cells]
  omega
 obtain ⟨W1, hW1⟩ : ∃ W1, W1 = w.drew.alloc (.cells ROW 106) := ⟨_, rfl⟩
 rw [← hW1] at hrz
 have hN : ∀ j, j < n + m → (W1.cell? ⟨w.heap.size, j, none⟩).isSome = true := fun j hj => by
  rw [hW1, World.cell?_alloc_at (w := w.drew) ROW _ w.heap.size j rfl, Array.getElem?_eq_getElem (by omega)]; rfl
 have hNf : ∀ j, W1.frozen? ⟨w.heap.size, j, none⟩ = false := fun j => by rw [hW1]; exact World.frozen?_alloc_at (w := w.drew) ROW _ w.heap.size j rfl
 have hOb : ∀ j v, w.cell? ⟨b, j, none⟩ = some v → W1.cell? ⟨b, j, none⟩ = some v := fun j v h => by rw [hW1, World.cell?_alloc_past (w := w.drew) _ b j hbw]; exact h
 have hOv : ∀ j v, w.cell? ⟨vb, j, none⟩ = some v → W1.cell? ⟨vb, j, none⟩ = some v := fun j v h => by rw [hW1, World.cell?_alloc_past (w := w.drew) _ vb j hvw]; exact h
 have hcpA : ∀ (W : World), (∀ x, W.cell? x = W1.cell? x) → (∀ x, W.frozen? x = W1.frozen? x) → ∀ ty dc, (Builtin.copy_ #[111, 111] ty #[.slice (some ⟨w.heap.size, i, none⟩) (n + m - i) dc, .slice (some ⟨vb, voff, none⟩) m vc]).run Tryz.prog W = .ok (goInt vs.length) (W.setCells w.heap.size i vs) := fun W hWc hWf ty dc =>
  run_copy_cells W _ _ ty 106 w.heap.size i (n + m - i) dc ⟨vb, voff, none⟩ m vc vs t24 hsz (by rw [hvl]; simp only [Nat.min_def]; split <;> omega)
   (fun j v hj => by rw [Addr.add_lit, hWc]; exact hOv _ v (hvs j v hj))
   (fun j hj => by rw [hWc]; exact hN _ (by omega)) (fun j hj => by rw [hWf]; exact hNf _) h1v
 have hGn : n + m ≤ G := by rw [hG]; exact grownCap_ge w _ _ _
 have hG63 : G ≤ 9223372036854775807 := by
  have := grownCap_le_maxLen w (n + m) c 106 (by unfold maxLen; omega)
  rw [← hG] at this
  unfold maxLen at this
  omega
 have hGi : ¬ (G = i) := by omega
 have hGim : ¬ (G = i + m) := by omega
 have hci : ¬ (c = i) := by omega
 have hbN : b ≠ w.heap.size := by omega
 have hdl : (cs.drop i).length = n - i := by rw [List.length_drop, hcl]
 have hcpB : ∀ (W : World), (∀ x, W.cell? x = (W1.setCells w.heap.size i vs).cell? x) → (∀ x, W.frozen? x = (W1.setCells w.heap.size i vs).frozen? x) → ∀ ty dc sc, (Builtin.copy_ #[111, 111] ty #[.slice (some ⟨w.heap.size, i + m, none⟩) (n + m - (i + m)) dc, .slice (some ⟨b, off + i, none⟩) (n - i) sc]).run Tryz.prog W = .ok (goInt (cs.drop i).length) (W.setCells w.heap.size (i + m) (cs.drop i)) := fun W hWc hWf ty dc sc =>
  run_copy_cells W _ _ ty 106 w.heap.size (i + m) (n + m - (i + m)) dc ⟨b, off + i, none⟩ (n - i) sc (cs.drop i) t24 hsz (by rw [hdl]; simp only [Nat.min_def]; split <;> omega)
   (fun j v hj => by
    rw [Addr.add_lit, hWc, World.cell?_setCells_out _ _ _ _ _ (fun h _ => absurd h hbN), Nat.add_assoc]
    exact hOb _ v (hcs (i + j) v (by rwa [List.getElem?_drop] at hj)))
   (fun j hj => by rw [hWc]; exact isSome_setCells _ _ _ _ (fun t ht => hN _ (by omega)) _ (hN _ (by omega)))
   (fun j hj => by rw [hWf, World.frozen?_setCells]; exact hNf _) (fun v hv => h1c v (List.mem_of_mem_drop hv))
 subst hW1
 have hE1 : ∀ x, ((w.alloc (.cells ROW 106)).drew).cell? x = (w.drew.alloc (.cells ROW 106)).cell? x := fun x => rfl
 have hE2 : ∀ x, ((w.alloc (.cells ROW 106)).drew).frozen? x = (w.drew.alloc (.cells ROW 106)).frozen? x := fun x => rfl
 have hF1 : ∀ x, (((w.alloc (.cells ROW 106)).drew.setCells w.heap.size i vs).drew).cell? x = ((w.drew.alloc (.cells ROW 106)).setCells w.heap.size i vs).cell? x := fun x => rfl
 have hF2 : ∀ x, (((w.alloc (.cells ROW 106)).drew.setCells w.heap.size i vs).drew).frozen? x = ((w.drew.alloc (.cells ROW 106)).setCells w.heap.size i vs).frozen? x := fun x => rfl
 have hw1 : IntKind.i64.wrap ((i : Int) + (m : Int)) = (i : Int) + (m : Int) := by rw [IntKind.wrap_i64]; omega
 have hb1 : (0 : Int) ≤ (i : Int) + (m : Int) := by omega
 have hin : i ≤ n := by omega
 have htn : ((i : Int) + (m : Int)).toNat = i + m := by omega
 have hb3 : (i : Int) ≤ (n : Int) := by omega
 clear hkk hik hold hROW hG hRl
 go_enter Tryz.func81, Tryz.ntmps81
 go_wp2_with (first
  | (at_builtin; refine Lib.wpList_append_run _ rfl _ _ _ _ rfl _ _ rfl rfl _ _ (hrz _) ?_)
  | (at_builtin; refine wpList_copy_runI _ rfl _ _ 111 111 rfl _ _ rfl rfl (hcpA _ hE1 hE2 _ _) ?_)
  | (at_builtin; refine wpList_copy_runI _ rfl _ _ 111 111 rfl _ _ rfl rfl (hcpB _ (fun _ => rfl) (fun _ => rfl) _ _ _) ?_))
 go_region_law (refine step_copy_runI rfl _ _ 111 111 rfl (.slice (some ⟨w.heap.size, i + m, none⟩) (n + m - (i + m)) (G - (i + m))) (.slice (some ⟨b, off + i, none⟩) (n - i) (c - i)) (by simp [Act.eval, Act.put]) (by simp [Act.eval, Act.put]) (hcpB _ hF1 hF2 3 (G - (i + m)) (c - i)) ?_)
 go_wp2
 go_ret
 exact ⟨rfl, rfl⟩

theorem insert_calls (B : Nat) (v : Value) (xs : List Value) (n i X : Nat) (x : Value) (w : World) (h : w.ownsRow B 106 1 v n xs) (hi : i ≤ n) (h1 : ∀ u ∈ xs, u.oneCell' = true) (hx : x.oneCell' = true) (hn : n ≤ 65536) (hX : RowIs w X 106 #[x]) (hne : v.ownBlock ≠ some X) (hB : B ≤ w.heap.size) :
  Calls Tryz.prog 81 #[v, .int .i64 (i : Int), .slice (some ⟨X, 0, none⟩) 1 1] w fun e w' => ∃ v', e = .returned v' ∧ w'.ownsRow B 106 1 v' (n + 1) (xs.take i ++ x :: xs.drop i) ∧ w.grownBy w' v.ownBlock := by
 have hcs := fun g hg => h.cells (g := g) hg
 have h1v : ∀ u ∈ [x], u.oneCell' = true := fun u hu => by rw [List.mem_singleton] at hu; subst hu; exact hx
 have hvs : ∀ j u, [x][j]? = some u → w.cell? ⟨X, 0 + j, none⟩ = some u := fun j u hj => by
  rw [hX.cell, Nat.zero_add, List.getElem?_toArray]; exact hj
 obtain ⟨hl, hh⟩ := h
 have hl' : xs.length = n := by omega
 have hlen : (xs.take i ++ x :: xs.drop i).length = (n + 1) * 1 := by
  simp only [List.length_append, List.length_take, List.length_cons, List.length_drop]; omega
 rcases hh with ⟨rfl, hn0⟩ | ⟨g, cap, cur, rfl, hg, hh, hnc, hcm, hsz, hxs⟩
 ·subst hn0
  obtain rfl : i = 0 := by omega
  refine (insert_end_grow none 0 0 X 0 1 1 xs [x] w (by omega) (by omega) (by omega) (by omega) hl' rfl (fun _ => rfl) (fun a ha => by cases ha) hvs h1v).mono ?_
  rintro e w' ⟨rfl, rfl⟩
  have hxn : xs = [] := List.length_eq_zero_iff.1 hl'
  subst hxn
  have hge := grownCap_ge w 1 0 106
  have hle := grownCap_le_maxLen w 1 0 106 (by unfold maxLen; omega)
  refine ⟨_, rfl, ⟨hlen, .inr ⟨w.heap.size, _, _, rfl, hB, RowIs.new w.drew _ _, hge, hle, ?_, ?_⟩⟩, ?_⟩
  ·simp [Builtin.zeroCells, Value.cells]; omega
  ·simp
  ·have hb := (But.refl w.heap.size w).drew.alloc (.cells (([] ++ [x] : List Value).toArray ++ Builtin.zeroCells (Value.pointer none).cells (grownCap w (0 + 1) 0 106 - (0 + 1))) 106)
   exact ⟨hb.os, hb.tape, hb.output, hb.size, fun k hk _ => hb.block k hk (by omega)⟩
 ·have hr : RowIs w g 106 cur := hh
  have hsz' : cur.size = cap := by omega
  unfold maxLen at hcm
  have hgX : X ≠ g := fun e => hne (by rw [e]; rfl)
  have hce : ∀ j u, xs[j]? = some u → w.cell? ⟨g, 0 + j, none⟩ = some u := fun j u hj => by have := hcs g rfl j u hj; rwa [Addr.add_mid] at this
  have e3 : cur.toList.take n = xs := by rw [← hxs]; congr 1; omega
  by_cases hroom : n + 1 ≤ cap
  ·have hall : ∀ j, j < cap → (w.cell? ⟨g, j, none⟩).isSome = true := fun j hj => by rw [hr.cell, Array.getElem?_eq_getElem (by omega)]; rfl
   have grow : ∀ W, But g w W → w.grownBy W (some g) := fun W hb => ⟨hb.os, hb.tape, hb.output, hb.size, fun k hk hq => hb.block k hk (fun e => hq (by rw [e]))⟩
   by_cases hin : i = n
   ·subst hin
    refine (insert_end_room g 0 i cap X 0 1 1 [x] w (by omega) hroom rfl (fun j hj => by rw [Nat.zero_add]; exact hall _ (by omega)) (fun j _ => hr.free _) hvs h1v).mono ?_
    rintro e w' ⟨rfl, rfl⟩
    have r1 := setCells_row g _ [x] (0 + i) w cur hr (by simp; omega)
    refine ⟨_, rfl, ⟨hlen, .inr ⟨g, cap, _, rfl, hg, r1, hroom, by unfold maxLen; omega, ?_, ?_⟩⟩, grow _ ((But.refl g w).setCells [x] (0 + i))⟩
    ·simp only [List.size_toArray, List.length_append, List.length_take, List.length_drop, List.length_cons, List.length_nil, Array.length_toList]
     omega
    ·rw [Nat.zero_add, Nat.mul_one]
     show ((cur.toList.take i ++ [x] ++ _).take (i + 1)) = _
     rw [e3, List.take_append_of_le_length (by simp [hl']), List.take_of_length_le (by simp [hl']), List.take_of_length_le (by omega), List.drop_eq_nil_of_le (by omega)]
   ·refine (insert_shift g 0 n cap i X 0 1 1 xs [x] w (by omega) (by omega) hroom (by omega) hgX hl' rfl hce (fun j hj => by rw [Nat.zero_add]; exact hall _ (by omega)) (fun j _ => hr.free _) hvs h1 h1v 106 106 1 cap (by simp [World.shape?, show w.heap[X]? = _ from hX]) (by simp [World.shape?, hh, hsz']) (by omega) (hX.free _) (hX.free _)).mono ?_
    rintro e w' ⟨rfl, rfl⟩
    have r1 := setCells_row g _ (xs.drop i) (0 + (i + 1)) w.drew cur hr (by simp; omega)
    have hs1 : (cur.toList.take (0 + (i + 1)) ++ xs.drop i ++ cur.toList.drop (0 + (i + 1) + (xs.drop i).length)).toArray.size = cap := by
     simp only [List.size_toArray, List.length_append, List.length_take, List.length_drop, Array.length_toList]
     omega
    have r2 := setCells_row g _ [x] (0 + i) _ _ r1 (by rw [hs1]; simp; omega)
    refine ⟨_, rfl, ⟨hlen, .inr ⟨g, cap, _, rfl, hg, r2, hroom, by unfold maxLen; omega, ?_, ?_⟩⟩, grow _ (((But.refl g w).drew.setCells (xs.drop i) (0 + (i + 1))).setCells [x] (0 + i))⟩
    ·simp only [List.size_toArray, List.length_append, List.length_take, List.length_drop, List.length_cons, List.length_nil, Array.length_toList]
     omega
    ·have e4 : cur.toList.take i = xs.take i := by rw [← e3, List.take_take]; congr 1; omega
     have e5 : (cur.toList.take (i + 1)).length = i + 1 := by rw [List.length_take, Array.length_toList]; omega
     simp only [Nat.zero_add, Nat.mul_one]
     have e6 : ((cur.toList.take (i + 1) ++ xs.drop i ++ cur.toList.drop (i + 1 + (xs.drop i).length)).take i) = xs.take i := by
      rw [List.append_assoc, List.take_append_of_le_length (by omega), List.take_take, ← e4]; congr 1; omega
     have e7 : ((cur.toList.take (i + 1) ++ xs.drop i ++ cur.toList.drop (i + 1 + (xs.drop i).length)).drop (i + 1)) = xs.drop i ++ cur.toList.drop (i + 1 + (xs.drop i).length) := by
      rw [List.append_assoc, List.drop_append_of_le_length (by omega), List.drop_of_length_le (by omega), List.nil_append]
     simp only [List.length_cons, List.length_nil]
     rw [e6, Nat.zero_add, e7, ← List.append_assoc, List.take_append_of_le_length (by simp; omega), List.take_of_length_le (by simp; omega)]
     simp
  ·have hcn : cap = n := by omega
   have hge := grownCap_ge w (n + 1) cap 106
   have hle := grownCap_le_maxLen w (n + 1) cap 106 (by unfold maxLen; omega)
   by_cases hin : i = n
   ·subst hin
    refine (insert_end_grow (some ⟨g, 0, none⟩) i cap X 0 1 1 xs [x] w (by omega) hnc (by omega) (by omega) hl' rfl (fun q => by cases q) (fun a ha j u hj => by injection ha with ha; subst ha; exact hcs g rfl j u hj) hvs h1v).mono ?_
    rintro e w' ⟨rfl, rfl⟩
    refine ⟨_, rfl, ⟨hlen, .inr ⟨w.heap.size, _, _, rfl, hB, RowIs.new w.drew _ _, hge, hle, ?_, ?_⟩⟩, ?_⟩
    ·simp [Builtin.zeroCells, Value.cells]; omega
    ·rw [List.take_of_length_le (show xs.length ≤ i by omega), List.drop_eq_nil_of_le (by omega), Array.toList_append, List.take_append_of_le_length (by simp; omega), List.take_of_length_le (by simp; omega)]
    ·have hb := (But.refl w.heap.size w).drew.alloc (.cells ((xs ++ [x]).toArray ++ Builtin.zeroCells (Value.pointer none).cells (grownCap w (i + 1) cap 106 - (i + 1))) 106)
     exact ⟨hb.os, hb.tape, hb.output, hb.size, fun k hk _ => hb.block k hk (by omega)⟩
   ·refine (insert_grow g 0 n cap i X 0 1 1 xs [x] w (by omega) (by omega) hnc (by omega) (by omega) hl' rfl hce hvs h1 h1v).mono ?_
    rintro e w' ⟨rfl, rfl⟩
    obtain ⟨G, hG⟩ : ∃ G, G = grownCap w (n + 1) cap 106 := ⟨_, rfl⟩
    rw [← hG] at hge hle ⊢
    obtain ⟨ROW, hROW⟩ : ∃ ROW : Array Value, ROW = (xs.take i).toArray ++ Builtin.zeroCells (Value.pointer none).cells (n + 1 - i) ++ Builtin.zeroCells (Value.pointer none).cells (G - (n + 1)) := ⟨_, rfl⟩
    rw [← hROW]
    have hRl : ROW.size = G := by rw [hROW]; simp [Builtin.zeroCells, Value.cells]; omega
    have hRt : ROW.toList.take i = xs.take i := by
     rw [hROW, Array.toList_append, Array.toList_append, List.append_assoc, List.take_append_of_le_length (by simp; omega), List.take_of_length_le (by simp; omega)]
    clear hROW
    have r0 : RowIs (w.alloc (.cells ROW 106)).drew w.heap.size 106 ROW := RowIs.new w _ _
    have r1 := setCells_row w.heap.size _ [x] i _ _ r0 (by simp; omega)
    have hs1 : (ROW.toList.take i ++ [x] ++ ROW.toList.drop (i + [x].length)).toArray.size = G := by
     simp only [List.size_toArray, List.length_append, List.length_take, List.length_drop, List.length_cons, List.length_nil, Array.length_toList]
     omega
    have r2 := setCells_row w.heap.size _ (xs.drop i) (i + 1) _ _ r1.drew (by rw [hs1]; simp; omega)
    refine ⟨_, rfl, ⟨hlen, .inr ⟨w.heap.size, G, _, rfl, hB, r2, hge, hle, ?_, ?_⟩⟩, ?_⟩
    ·simp only [List.size_toArray, List.length_append, List.length_take, List.length_drop, List.length_cons, List.length_nil, Array.length_toList]
     omega
    ·rw [Nat.mul_one]
     show (((ROW.toList.take i ++ [x] ++ ROW.toList.drop (i + 1)).take (i + 1) ++ xs.drop i ++ _).take (n + 1)) = _
     rw [List.take_append_of_le_length (by simp; omega), List.take_of_length_le (by simp; omega), hRt, List.take_append_of_le_length (by simp; omega), List.take_of_length_le (by simp; omega)]
     simp
    ·have hb := ((((But.refl w.heap.size w).alloc (.cells ROW 106)).drew.setCells [x] i).drew).setCells (xs.drop i) (i + 1)
     exact ⟨hb.os, hb.tape, hb.output, hb.size, fun k hk _ => hb.block k hk (by omega)⟩

end Go.Proofs.YtimkklaidodkdaaGreatDoor

namespace Go.Proofs.YtimkklaidodkdaaGreatDoor
open Go.RowKit

/-- What the growing of the row of pointers leaves of a store. -/
theorem store_rows {B : Nat} {w w1 : World} {S size : Nat} {vs : Value} {L : List CellM} (h : StoreAt B w S size vs L) (hg : w.grownBy w1 vs.ownBlock) : Keep B w w1 ∧ (∃ ask, RowIs w1 S 118 #[.int .u32 (size : Int), vs, .int .i64 ask]) ∧ ∀ c, CellAt B w c → CellAt B w1 c := by
 obtain ⟨ask, hS, ho⟩ := h.row
 have hot := fun g hg => own_type ho (g := g) hg
 have hk : Keep B w w1 := Keep.grown hg (fun k hk => ⟨(ho.lt k hk).1, by obtain ⟨c, hc⟩ := hot k hk; exact ⟨c, _, hc, by decide⟩⟩)
 have hr : ∀ {b : Nat} {t : TypeId} {D : Array Value}, RowIs w b t D → t ≠ 106 → RowIs w1 b t D := fun hr hne => row_grown hr hg (fun q => by obtain ⟨c, hc⟩ := hot _ q.symm; exact hne (row_type hr hc))
 exact ⟨hk, ⟨ask, hr hS (by decide)⟩, fun c hc => hc.keep hk h.hB ((hr hc.row (by decide)).trans hc.row.symm)⟩
/-- The store's slice is another one. -/
theorem store_swap {B : Nat} {w w1 : World} {S size : Nat} {vs v' : Value} {L L' : List CellM} (h : StoreAt B w S size vs L) (hg : w.grownBy w1 vs.ownBlock) (ho : w1.ownsRow B 106 1 v' L'.length (L'.map CellM.p)) (hc : ∀ c ∈ L', CellAt B w1 c) (hn : (L'.map CellM.ptr).Nodup) :
  StoreAt B (w1.setCell ⟨S, 1, none⟩ v') S size v' L' ∧ Keep B w (w1.setCell ⟨S, 1, none⟩ v') ∧ ∀ c, CellAt B w c → CellAt B (w1.setCell ⟨S, 1, none⟩ v') c := by
 obtain ⟨hk, ⟨ask, hS⟩, hcc⟩ := store_rows h hg
 have hb := (But.refl S w1).setCell 1 v'
 have hk2 := Keep.set (B := B) hS (by decide) h.ge 1 v'
 have hB1 : B ≤ w1.heap.size := Nat.le_trans h.hB hk.size
 refine ⟨⟨Nat.le_trans hB1 hb.size, ⟨ask, hS.set 1 v', ownsRow_but ho hb (fun c hx => by have := row_type hS hx; revert this; decide)⟩, h.ge, fun c hcm => ?_, hn⟩, hk.trans hk2, fun c hcm => ?_⟩
 ·have hcr := (hc c hcm).row
  exact (hc c hcm).keep hk2 hB1 (hb.block _ hcr.lt (row_ne hcr hS (by decide)))
 ·have hcr := (hcc c hcm).row
  exact (hcc c hcm).keep hk2 hB1 (hb.block _ hcr.lt (row_ne hcr hS (by decide)))

theorem map_erase {α β : Type} (g : α → β) (L : List α) (i : Nat) : (L.map g).eraseIdx i = (L.eraseIdx i).map g := by
 rw [List.eraseIdx_eq_take_drop_succ, List.eraseIdx_eq_take_drop_succ, List.map_append, List.map_take, List.map_drop]
theorem erase_map (L : List CellM) (i : Nat) : (L.map CellM.p).eraseIdx i = (L.eraseIdx i).map CellM.p := map_erase _ _ _
theorem erase_del {L : List CellM} {cells : List CellD} (hLd : L.map CellM.d = cells) (hs : cells.Pairwise (fun a b => a.num < b.num)) {i : Nat} (hi : i < L.length) : (L.eraseIdx i).map CellM.d = delC cells L[i].d.num := by
 subst hLd
 rw [← map_erase, List.eraseIdx_eq_take_drop_succ]
 have hi' : i < (L.map CellM.d).length := by rw [List.length_map]; exact hi
 have e : L[i].d = (L.map CellM.d)[i] := by rw [List.getElem_map]
 rw [e]
 generalize L.map CellM.d = l at *
 unfold delC
 generalize hg : l[i].num = g
 have hsp : l = l.take i ++ l[i] :: l.drop (i + 1) := by rw [← List.drop_eq_getElem_cons hi', List.take_append_drop]
 conv => rhs; rw [hsp, List.filter_append, List.filter_cons]
 subst hg
 have hp := hs
 rw [List.pairwise_iff_getElem] at hp
 rw [if_neg (by simp), List.filter_eq_self.2, List.filter_eq_self.2]
 ·intro a ha
  obtain ⟨j, hj, rfl⟩ := List.getElem_of_mem ha
  rw [List.length_drop] at hj
  rw [List.getElem_drop]
  have := hp i (i + 1 + j) hi' (by omega) (by omega)
  simp; omega
 ·intro a ha
  obtain ⟨j, hj, rfl⟩ := List.getElem_of_mem ha
  rw [List.length_take] at hj
  rw [List.getElem_take]
  have := hp j i (by omega) hi' (by omega)
  simp; omega
theorem dec_set {L : List CellM} {cells : List CellD} (hLd : L.map CellM.d = cells) {q k : Nat} (hq : q < L.length) (hn : L[q].d.num = k) (ho : ∀ i (hi : i < L.length), i ≠ q → L[i].d.num ≠ k) : (L.set q { L[q] with d := { L[q].d with refs := L[q].d.refs - 1 } }).map CellM.d = decC cells k := by
 subst hLd
 unfold decC
 apply List.ext_getElem (by simp)
 intro i h1 h2
 rw [List.length_map, List.length_set] at h1
 rw [List.getElem_map, List.getElem_map, List.getElem_map]
 by_cases hiq : q = i
 ·subst hiq
  rw [List.getElem_set_self, if_pos hn]
 ·rw [List.getElem_set_ne hiq, if_neg (ho i h1 (fun e => hiq e.symm))]

def LetPost (B S size : Nat) (l : List CellD) (w : World) (e : Ending) (w' : World) : Prop := ∃ vs L, e = .returned (.tuple #[]) ∧ L.map CellM.d = l ∧ StoreAt B w' S size vs L ∧ Keep B w w'
def LetP (f : Nat) : Prop := ∀ (B S size : Nat) (vs : Value) (L : List CellM) (cells : List CellD) (k : Nat) (p : List Nat) (w : World), StoreAt B w S size vs L → L.map CellM.d = cells → InvC size cells (k :: p) → cells.length < f → cells.length ≤ 65536 →
 Calls Tryz.prog 53 #[.pointer (some ⟨S, 0, none⟩), .int .u32 (k : Int)] w (LetPost B S size (letF f cells k) w)
theorem one_ptrs (L : List CellM) : ∀ u ∈ L.map CellM.p, u.oneCell' = true := fun u hu => by
 obtain ⟨c, _, rfl⟩ := List.mem_map.1 hu
 rfl

set_option maxRecDepth 100000 in
set_option maxHeartbeats 3200000 in
theorem remove_calls (f : Nat) (ih : LetP f) (B S size : Nat) (vs : Value) (L : List CellM) (cells : List CellD) (p : List Nat) (i : Nat) (w : World) (hst : StoreAt B w S size vs L) (hLd : L.map CellM.d = cells) (hi : i < L.length) (inv : InvC size cells p) (h0 : L[i].d.refs = 0) (hf : cells.length ≤ f) (hl : cells.length ≤ 65536) :
  Calls Tryz.prog 63 #[.pointer (some ⟨S, 0, none⟩), .int .i64 (i : Int)] w (LetPost B S size (L[i].d.kids.foldl (letF f) (delC cells L[i].d.num)) w) := by
 have hLn : L.length = cells.length := by rw [← hLd, List.length_map]
 obtain ⟨ask, hS, ho⟩ := hst.row
 have hdel := delete_calls B vs (L.map CellM.p) L.length i w ho hi (one_ptrs L)
 obtain ⟨pp, cap, rfl, hpc⟩ := own_ptrs ho
 obtain ⟨R, hpR, hcell⟩ := hpc i hi
 subst hpR
 have c1 : w.cell? ⟨S, 1, none⟩ = some (.slice (some ⟨R, 0, none⟩) L.length cap) := by rw [hS.cell]; rfl
 rw [CellM.p] at hcell
 have hca := hst.cells _ (List.getElem_mem hi)
 have hmem : L[i].d ∈ cells := by rw [← hLd]; exact List.mem_map_of_mem (List.getElem_mem hi)
 have hdlt := delC_length hmem
 have hinv := inv_del inv hmem h0
 have hem := erase_del hLd inv.asc hi
 have hnd : ((L.eraseIdx i).map CellM.ptr).Nodup := by rw [← map_erase]; exact hst.nodup.eraseIdx i
 have hel : (L.eraseIdx i).length = L.length - 1 := by rw [List.length_eraseIdx, if_pos hi]
 have hfit : fitN L[i].d.node := nodeL_fitH _
 have hkn : (kidNums L[i].d.node).length ≤ 255 := kidNums_small L[i].d.d
 have hnsz : (Tryz.prog.info? 28).map (·.size) = some L[i].nv.length := by rw [hca.nv]; kernel_rfl
 have hkd : L[i].d.kids = kidNums L[i].d.node := rfl
 have i1 : (i : Int) < (L.length : Int) := by omega
 have hw1 : IntKind.i64.wrap ((i : Int) + 1) = (i : Int) + 1 := by rw [IntKind.wrap_i64]; omega
 have e1 : (((i + 1 : Nat) : Int)) = (i : Int) + 1 := by omega
 rw [e1] at hdel
 have hsw := fun (w1 : World) v' (hg : w.grownBy w1 (Value.slice (some ⟨R, 0, none⟩) L.length cap).ownBlock) (ho' : w1.ownsRow B 106 1 v' (L.length - 1) ((L.map CellM.p).eraseIdx i)) => store_swap (v' := v') (L' := L.eraseIdx i) hst hg (by rw [← erase_map, hel]; exact ho') (fun c hc => (store_rows hst hg).2.2 c (hst.cells c (List.mem_of_mem_eraseIdx hc))) hnd
 have hsr := fun (w1 : World) (hg : w.grownBy w1 (Value.slice (some ⟨R, 0, none⟩) L.length cap).ownBlock) => store_rows hst hg
 have HH := Lib.hid (And.intro hsw (And.intro hsr (And.intro hca (And.intro hinv hem))))
 have HD := Lib.hid hdel
 have HL := Lib.hid hdlt
 clear hsw hsr hca hinv hem hdel hS ho hpc hst inv hnd hel hmem h0 hLn hdlt hLd e1
 rw [hkd]
 clear hkd
 generalize hPg : L[i].ptr = P at *
 generalize hNg : L[i].d.num = num at *
 generalize hVg : L[i].nv = nvs at *
 generalize hDg : L[i].d.node = nd at *
 have HG := Lib.hid (And.intro hPg (And.intro hVg hDg))
 clear hPg hVg hDg hNg
 go_enter Tryz.func63, Tryz.ntmps63
 go_wp2_with fail
 refine HD.out.mono ?_
 rintro e w1 ⟨v', rfl, ho1, hg1⟩
 obtain ⟨hst2, hk2, hcc2⟩ := HH.out.1 w1 v' hg1 ho1
 obtain ⟨hkk, ⟨ask1, hS1⟩, _⟩ := HH.out.2.1 w1 hg1
 have cs1 : w1.cell? ⟨S, 1, none⟩ = some (.slice (some ⟨R, 0, none⟩) L.length cap) := by rw [hS1.cell]; rfl
 have fs1 := hS1.free 1
 have hca2 := hcc2 _ HH.out.2.2.1
 have hnr := row_node hca2
 have hn2 := hca2.node.at hst2.hB
 rw [HG.out.1, HG.out.2.1] at hnr
 rw [HG.out.2.1, HG.out.2.2] at hn2
 have hBs := hst2.hB
 obtain ⟨p1, c1', rfl⟩ := own_shape ho1
 have HI := Lib.hid (And.intro hst2 hk2)
 clear hst2 hk2 hcc2 hkk hS1 hca2 ho1 hg1
 generalize hW2 : w1.setCell ⟨S, 1, none⟩ (.slice p1 (L.length - 1) c1') = W2 at *
 have hkc := kidNums_calls W2.heap.size (.agg nvs.toArray) nd W2 hn2 (Nat.le_refl _) hfit
 generalize hks : kidNums nd = ks at *
 have HKS := Lib.hid hks
 clear hks hn2
 go_wp2_with (refine wpList_load_mid rfl 28 _ rfl P 3 rfl nvs _ hnr Tryz.underlying28 rfl hnsz ?_)
 refine hkc.mono ?_
 rintro e w3 ⟨r, rfl, hown, hb3⟩
 obtain ⟨pk, ck, rfl⟩ := own_shape hown
 have HJ := Lib.hid (And.intro (HI.out.1.below hb3 (Nat.le_refl _)) (And.intro (HI.out.2.trans (Keep.of hb3)) hown))
 clear hkc hb3 hown hnr hW2 hBs cs1 fs1 c1 hcell
 generalize hm0 : delC cells num = m0 at *
 have HM0 := Lib.hid hm0
 clear hm0
 go_wp2_with fail
 go_loopg [32] ks.length (fun g s32 wx => ∃ j : Nat, ∃ vs, ∃ L : List CellM, j ≤ ks.length ∧ g = ks.length - j ∧ s32 = .int .i64 j ∧ L.map CellM.d = (ks.take j).foldl (letF f) m0 ∧ InvC size ((ks.take j).foldl (letF f) m0) (ks.drop j ++ p) ∧ ((ks.take j).foldl (letF f) m0).length ≤ m0.length ∧ StoreAt B wx S size vs L ∧ Keep B w wx ∧ wx.ownsRow W2.heap.size 32 1 (.slice pk ks.length ck) ks.length (numsV ks))
 case atStart =>
  have h5 := HH.out.2.2.2.2
  have h4 := HH.out.2.2.2.1
  rw [show L[i].d.kids = ks from (by rw [← HKS.out, ← HG.out.2.2]; rfl)] at h4
  exact ⟨0, _, _, by omega, by omega, rfl, h5, h4, Nat.le_refl _, HJ.out.1, HJ.out.2.1, HJ.out.2.2⟩
 case round =>
  obtain ⟨j, vs, L4, hj, rfl, rfl, hLd, hinv, hlen, hst, hk, hown⟩ := hrel
  by_cases hlj : j < ks.length
  ·have i2 : (j : Int) < (ks.length : Int) := by omega
   have hdr : ks.drop j ++ p = ks[j] :: (ks.drop (j + 1) ++ p) := by rw [List.drop_eq_getElem_cons hlj, List.cons_append]
   rw [hdr] at hinv
   have hm0 := HL.out
   have hlL : L4.length ≤ 65536 := by rw [← List.length_map (f := CellM.d), hLd]; omega
   obtain ⟨q, hq, hat, hqn, hoth⟩ := atM_idx hLd hinv.asc (hinv.pend ks[j] List.mem_cons_self)
   obtain ⟨pz, cz, hpz, hcz⟩ := own_one hown
   injection hpz with hpz hle1 hle2
   clear hle1 hle2
   obtain ⟨R2, hR2, hc2⟩ := hcz j hlj
   rw [← hpz] at hR2
   subst hR2
   have hcj : wr.cell? ⟨R2, j, none⟩ = some (.int .u32 (ks[j] : Int)) := by rw [hc2]; simp [numsV, List.getElem?_eq_getElem hlj]
   have hcall := at_calls B S size vs L4 ks[j] wr hst (by rw [hLd]; exact hinv.asc) hlL
   rw [hat, ptrV, CellM.p] at hcall
   have hsnoc : (ks.take (j + 1)).foldl (letF f) m0 = letF f ((ks.take j).foldl (letF f) m0) ks[j] := by rw [List.take_succ_eq_append_getElem hlj, List.foldl_append]; rfl
   have hil := inv_let f _ _ _ size (show ((ks.take j).foldl (letF f) m0).length < f by omega) hinv
   have HU := Lib.hid (fun W (h : StoreAt B W S size vs L4) (x : Int) => And.intro (row_led (h.cells _ (List.getElem_mem hq))) (And.intro ((h.cells _ (List.getElem_mem hq)).row.free 39) (And.intro (upd_led h q hq x) (ih B S size vs (L4.set q { L4[q] with led := x }) _ ks[j] (ks.drop (j + 1) ++ p) _ (upd_led h q hq x).1 ((set_map (L := L4) hq (c := { L4[q] with led := x }) rfl).trans hLd) hinv (by omega) (by omega)))))
   have HN := Lib.hid (And.intro hsnoc (And.intro hil (And.intro hlen (And.intro hk hown))))
   clear hdr hm0 hlL hat hqn hoth hpz hcz hc2 hsnoc hil hlen hk hown hinv hLd hst
   generalize L4[q].ptr = P4 at *
   generalize L4[q].led = x4 at *
   generalize hkj : (ks[j] : Int) = kj at *
   clear hkj
   go_wp2_with fail
   refine hcall.mono ?_
   rintro e w5 ⟨rfl, hst5, hk5⟩
   obtain ⟨hl5, hf5, ⟨hst6, hk6⟩, hlet⟩ := HU.out w5 hst5 (wrap64 (x4 - 1))
   have HF := Lib.hid (And.intro ((HN.out.2.2.2.1.trans hk5).trans hk6) (fun w' (hk : Keep B (w5.setCell ⟨P4, 39, none⟩ (.int .i64 (wrap64 (x4 - 1)))) w') => hk.owns (hk6.owns (hk5.owns HN.out.2.2.2.2 (by decide)) (by decide)) (by decide)))
   clear hcall hst5 hk5 hst6 hk6 hcj
   go_wp2_with fail
   refine hlet.mono ?_
   rintro e w7 ⟨vs7, L7, rfl, hL7, hst7, hk7⟩
   have HF7 := Lib.hid (And.intro hL7 (And.intro hst7 (And.intro (HF.out.1.trans hk7) (HF.out.2 w7 hk7))))
   clear hlet hL7 hst7 hk7
   go_wp2_with fail
   go_roundg (ks.length - (j + 1))
   case measure => omega
   case rel =>
    refine ⟨j + 1, vs7, L7, by omega, rfl, by go_num, by rw [HF7.out.1, HN.out.1], ?_, ?_, HF7.out.2.1, HF7.out.2.2.1, HF7.out.2.2.2⟩
    ·rw [HN.out.1]; exact HN.out.2.1.1
    ·have h1 := HN.out.2.1.2
     have h2 := HN.out.2.2.1
     rw [HN.out.1]; omega
  ·have hjk : ks.length = j := by omega
   rw [List.take_of_length_le (by omega)] at hLd
   have HE := Lib.hid (And.intro hLd (And.intro hst hk))
   clear hLd hst hk hown hinv hlen
   go_wp2_with fail
   go_end0
   exact ⟨vs, L4, rfl, by rw [HE.out.1], HE.out.2.1, HE.out.2.2⟩

set_option maxRecDepth 100000 in
set_option maxHeartbeats 3200000 in
theorem let_calls : ∀ f : Nat, LetP f
 | 0 => fun B S size vs L cells k p w hst hLd inv hf hl => absurd hf (Nat.not_lt_zero _)
 | f + 1 => fun B S size vs L cells k p w hst hLd inv hf hl => by
  have ih := let_calls f
  have hlL : L.length ≤ 65536 := by rw [← List.length_map (f := CellM.d), hLd]; exact hl
  have hasc := inv.asc
  obtain ⟨q, hq, hatq, hqn, hoth⟩ := atM_idx hLd hasc (inv.pend k List.mem_cons_self)
  have hcd : L[q].d ∈ cells := by rw [← hLd]; exact List.mem_map_of_mem (List.getElem_mem hq)
  have hfs : findC cells k = some L[q].d := by rw [← hqn]; exact find_of hasc hcd
  have hfm := find_M (L := L) (by rw [hLd]; exact hasc) (k := k)
  rw [hLd, hfs] at hfm
  obtain ⟨hlow, hlown⟩ := hfm.1 rfl
  have hql : lowC cells k = q := by
   rcases Nat.decEq (lowC cells k) q with h | h
   ·exact absurd hlown (hoth _ hlow h)
   ·exact h
  have hfind := find_calls B S size vs L k w hst (by rw [hLd]; exact hasc) hlL
  rw [hLd, hql, hfs] at hfind
  have hled := inv.led _ hcd
  have hmost := inv.most _ hcd
  have hcnt : 1 ≤ (k :: p).count L[q].d.num := by rw [hqn]; exact List.count_pos_iff.2 List.mem_cons_self
  have hr1 : 1 ≤ L[q].d.refs := by omega
  have hinv2 := inv_dec inv
  have hds := dec_set hLd hq hqn hoth
  have hql2 : L.length = cells.length := by rw [← hLd, List.length_map]
  have hdl : (decC cells k).length = cells.length := by unfold decC; rw [List.length_map]
  have hrefs := fun W (h : StoreAt B W S size vs L) => upd_refs h q hq (L[q].d.refs - 1)
  have hcells := fun W (h : StoreAt B W S size vs L) => h.cells _ (List.getElem_mem hq)
  have hqs : q < (L.set q { L[q] with d := { L[q].d with refs := L[q].d.refs - 1 } }).length := by rw [List.length_set]; exact hq
  have hqe : (L.set q { L[q] with d := { L[q].d with refs := L[q].d.refs - 1 } })[q] = { L[q] with d := { L[q].d with refs := L[q].d.refs - 1 } } := List.getElem_set_self hqs
  have hrem := fun (h0 : L[q].d.refs - 1 = 0) W (h : StoreAt B W S size vs (L.set q { L[q] with d := { L[q].d with refs := L[q].d.refs - 1 } })) => remove_calls f ih B S size vs (L.set q { L[q] with d := { L[q].d with refs := L[q].d.refs - 1 } }) (decC cells k) p q W h hds hqs hinv2 (by rw [hqe]; exact h0) (by omega) (by omega)
  rw [hqe] at hrem
  have hdd : delC (decC cells k) L[q].d.num = delC cells k := by rw [hqn]; exact delC_decC _ _
  rw [hdd] at hrem
  have hlet : letF (f + 1) cells k = if L[q].d.refs - 1 = 0 then L[q].d.kids.foldl (letF f) (delC cells k) else decC cells k := by rw [letF, hfs]
  obtain ⟨ask0, hS0, ho0⟩ := hst.row
  obtain ⟨pp, cap, rfl⟩ := own_shape ho0
  have hp2 := fun W (h : StoreAt B W S size (.slice pp L.length cap) L) => h.row
  have i1 : (q : Int) < (L.length : Int) := by omega
  obtain ⟨rf, hrf⟩ : ∃ rf, rf = L[q].d.refs := ⟨_, rfl⟩
  obtain ⟨L3, hL3⟩ : ∃ L3, L3 = L.set q { L[q] with d := { L[q].d with refs := L[q].d.refs - 1 } } := ⟨_, rfl⟩
  have hL3n : L3.length = L.length := by rw [hL3, List.length_set]
  have hq3 : q < L3.length := by omega
  have hp3 : L3[q].ptr = L[q].ptr := by simp only [hL3, List.getElem_set_self]
  rw [← hL3] at hds
  rw [← hL3, ← hrf] at hrefs hrem
  rw [← hrf] at hlet hr1 hmost
  have HA := Lib.hid (And.intro hrefs (And.intro hrem (And.intro hlet (And.intro hds hcells))))
  have HP3 := Lib.hid hp3
  have HRF := Lib.hid hrf
  clear hrefs hrem hlet hds hcells hS0 ho0 hst hqe hqs hdd hdl hql2 hinv2 hcnt hled hfm hlow hlown hql hfs hcd hatq hqn hoth hL3 hp3 hrf hL3n hp2
  go_enter Tryz.func53, Tryz.ntmps53
  go_wp2_with fail
  refine hfind.mono ?_
  rintro e w2 ⟨rfl, hst2, hk2⟩
  obtain ⟨ask2, hS2, ho2⟩ := hst2.row
  have c1 : w2.cell? ⟨S, 1, none⟩ = some (.slice pp L.length cap) := by rw [hS2.cell]; rfl
  obtain ⟨p', cap', hpe, hpc⟩ := own_ptrs ho2
  injection hpe with hpe hle1 hle2
  clear hle1 hle2
  obtain ⟨R, hpR, hcell⟩ := hpc q hq
  rw [← hpe] at hpR
  subst hpR
  rw [CellM.p] at hcell
  have hca := HA.out.2.2.2.2 w2 hst2
  have cr : w2.cell? ⟨L[q].ptr, 2, none⟩ = some (.int .i64 rf) := by rw [hca.row.cell, HRF.out]; rfl
  have fr := hca.row.free 2
  obtain ⟨hst3, hk3⟩ := HA.out.1 w2 hst2
  obtain ⟨w3, hw3⟩ : ∃ w3, w3 = w2.setCell ⟨L[q].ptr, 2, none⟩ (.int .i64 (rf - 1)) := ⟨_, rfl⟩
  rw [← hw3] at hst3 hk3
  obtain ⟨ask3, hS3, ho3⟩ := hst3.row
  have c3 : w3.cell? ⟨S, 1, none⟩ = some (.slice (some ⟨R, 0, none⟩) L.length cap) := by rw [hS3.cell]; rfl
  obtain ⟨p3, cap3, hpe3, hpc3⟩ := own_ptrs ho3
  injection hpe3 with hpe3 hle1 hle2
  clear hle1 hle2
  obtain ⟨R3, hpR3, hcell3⟩ := hpc3 q hq3
  rw [← hpe3] at hpR3
  injection hpR3 with hpR3
  injection hpR3 with hpR3
  subst hpR3
  rw [CellM.p, HP3.out] at hcell3
  have cr3 : w3.cell? ⟨L[q].ptr, 2, none⟩ = some (.int .i64 (rf - 1)) := by rw [hw3, (hca.row.set 2 _).cell]; simp [CellM.row]
  have HF := Lib.hid (And.intro hst3 (hk2.trans hk3))
  have hrem := fun (h0 : rf - 1 = 0) => HA.out.2.1 h0 w3 hst3
  have HW3 := Lib.hid hw3
  clear hst2 hk2 hst3 hk3 hS2 ho2 hpe hpc hca hS3 ho3 hpe3 hpc3 hfind hw3
  generalize L[q].ptr = P at *
  have hwr : IntKind.i64.wrap (rf - 1) = rf - 1 := by rw [IntKind.wrap_i64]; omega
  by_cases h0 : rf - 1 = 0
  ·have hcall := hrem h0
   have HLt := Lib.hid (show letF (f + 1) cells k = L[q].d.kids.foldl (letF f) (delC cells k) by rw [HA.out.2.2.1, if_pos h0])
   rw [h0] at cr3
   have hrf1 : rf = 1 := by omega
   subst hrf1
   clear hrem h0 hwr hr1 hmost
   generalize hw3g : w2.setCell ⟨P, 2, none⟩ (.int .i64 0) = w4 at *
   obtain rfl : w3 = w4 := by rw [HW3.out, ← hw3g]; rfl
   go_wp2_with fail
   refine hcall.mono ?_
   rintro e w5 ⟨vs5, L5, rfl, hL5, hst5, hk5⟩
   have HE := Lib.hid (And.intro hL5 (And.intro hst5 (HF.out.2.trans hk5)))
   clear hcall hL5 hst5 hk5
   go_wp2_with fail
   go_end0
   exact ⟨vs5, L5, rfl, by rw [HE.out.1, HLt.out]; rfl, HE.out.2.1, HE.out.2.2⟩
  ·have HLt := Lib.hid (show letF (f + 1) cells k = decC cells k by rw [HA.out.2.2.1, if_neg h0])
   have hb : (rf - 1 == 0) = false := by simpa using h0
   clear hrem
   generalize hw3g : w2.setCell ⟨P, 2, none⟩ (.int .i64 (rf - 1)) = w4 at *
   obtain rfl : w3 = w4 := by rw [HW3.out, ← hw3g]
   go_wp2_with fail
   go_end0
   exact ⟨_, L3, rfl, by rw [HA.out.2.2.2.1, HLt.out], HF.out.1, HF.out.2⟩

end Go.Proofs.YtimkklaidodkdaaGreatDoor

namespace Go.Proofs.YtimkklaidodkdaaGreatDoor
open Go.RowKit

set_option maxRecDepth 100000 in
set_option maxHeartbeats 3200000 in
theorem drop_calls (v : Value) (h : HeapD) (k : Nat) (w : World) (a : HeapAt w.heap.size w v h) :
  Calls Tryz.prog 24 #[v, .int .u32 (k : Int)] w fun e w' => (∃ r, ((RightH h ∧ e = .returned (.tuple #[r, .int .i64 (dropE h k)]) ∧ OwnH w.heap.size w' r (dropH h k)) ∨ (¬ RightH h ∧ e = .returned (.tuple #[r, .int .i64 7]) ∧ OwnH w.heap.size w' r zeroHp))) ∧ Below w.heap.size w w' := by
 obtain ⟨p, cap, rfl⟩ := a.shape
 obtain ⟨W0, hW0⟩ : ∃ W0, W0 = w.alloc (.cells #[.int .u32 (h.size : Int), .slice p h.cells.length cap] 35) := ⟨_, rfl⟩
 obtain ⟨W1, hW1⟩ : ∃ W1, W1 = W0.alloc (.cells #[.int .u32 0, .slice none 0 0] 35) := ⟨_, rfl⟩
 have hbx0 : RowIs W0 w.heap.size 35 #[.int .u32 (h.size : Int), .slice p h.cells.length cap] := by rw [hW0]; exact RowIs.new w _ _
 have hbx : RowIs W1 w.heap.size 35 #[.int .u32 (h.size : Int), .slice p h.cells.length cap] := by rw [hW1]; exact hbx0.alloc _
 have hA : RowIs W1 W0.heap.size 35 #[.int .u32 0, .slice none 0 0] := by rw [hW1]; exact RowIs.new W0 _ _
 have hb0 : Below w.heap.size w W0 := by rw [hW0]; exact (Below.refl _ _).alloc (Nat.le_refl _) _
 have hb1 : Below w.heap.size w W1 := by rw [hW1]; exact hb0.alloc hb0.size _
 have hop := openB_calls p cap h w a W1 hb1
 have hsz : (Tryz.prog.info? 35).map (·.size) = some (#[.int .u32 (h.size : Int), .slice p h.cells.length cap] : Array Value).size := by kernel_rfl
 have hszH : ∀ x y : Value, (Tryz.prog.info? 35).map (·.size) = some (#[x, y] : Array Value).size := fun x y => by kernel_rfl
 have hCA : w.heap.size < W0.heap.size := hbx0.lt
 have hAlt : W0.heap.size < W1.heap.size := hA.lt
 have hWs : w.heap.size ≤ W1.heap.size := hb1.size
 have HW0 := Lib.hid hW0
 have HW1 := Lib.hid hW1
 clear hW0 hW1 a hbx0 hb0
 generalize hAg : W0.heap.size = A at *
 go_enter Tryz.func24, Tryz.ntmps24
 go_wp2_with (first | (refine wpList_world HW0.out ?_) | (refine wpList_world HW1.out ?_) | (refine wpList_load_row rfl 35 _ rfl w.heap.size rfl 35 #[.int .u32 (h.size : Int), .slice p h.cells.length cap] (0, 0) _ hbx Tryz.underlying35 rfl hsz ?_))
 refine hop.mono ?_
 rintro e w1 (⟨hno, rfl, hq⟩ | ⟨hr, S, vs, L, rfl, hLd, hLa, hst, hk⟩)
 ·have hA2 := hA.below hq hA.lt
  have hb2 := hb1.trans (hq.mono hb1.size)
  have hth := hA2.there 0 2 (by simp)
  have hst := store_row hA2 (D := #[.int .u32 0, .slice none 0 0]) rfl
  have hbs := setCells_below A w.heap.size (Nat.le_of_lt hCA) [.int .u32 0, .slice none 0 0] 0 _ _ hb2
  have HF := Lib.hid (And.intro hno (And.intro hst hbs))
  have hone2 : (#[.int .u32 0, .slice none 0 0] : Array Value).all (·.oneCell') = true := oneH 0 none 0 0
  have hsz2 := hszH (.int .u32 0) (.slice none 0 0)
  clear hop hno hq hst hbs hA hA2 hb2 hbx hb1
  go_wp2_with (first | (refine wpList_build_eqH rfl 35 [] rfl #[.int .u32 0, .slice none 0 0] built_heap0 ?_) | (refine wpList_store_mid rfl 35 _ _ rfl A 0 #[.int .u32 0, .slice none 0 0] rfl rfl hth hsz2 hone2 ?_))
  refine bodyPost_ret (v := .tuple #[.agg #[.int .u32 0, .slice none 0 0], .int .i64 7]) (results_cell_tmp (p := 4) (q := 5) (ty := 35) (by rfl) _ _ A 35 #[.int .u32 0, .slice none 0 0] (0, 0) _ (by rfl) HF.out.2.1 Tryz.underlying35 (by rfl) hsz2) (by rfl) ?_
  exact ⟨⟨_, .inr ⟨HF.out.1, rfl, own_zero _ _⟩⟩, HF.out.2.2⟩
 ·have hlen : L.length = h.cells.length := by rw [← hLd, List.length_map]
  have hcl := hr.okH.len
  have hat := at_calls W1.heap.size S h.size vs L k w1 hst (by rw [hLd]; exact hr.asc) (by omega)
  have hfm : findC h.cells k = (atM L k).map CellM.d := by rw [← hLd]; exact atM_map L k
  have hA1 := hk.row hA (.inl hAlt)
  have hb2 := hb1.trans (hk.toBelow.mono hb1.size)
  have HZ := Lib.hid hk.size
  have HFM := Lib.hid hfm
  clear hop hst hk hfm hlen
  go_wp2_with fail
  refine hat.mono ?_
  rintro e w2 ⟨rfl, hst2, hk2⟩
  have hA2 := hk2.row hA1 (.inl hAlt)
  have hb3 := hb2.trans ((hk2.below (show W1.heap.size ≤ w1.heap.size from HZ.out)).mono hb1.size)
  clear hat hA1 hb2
  cases hf : atM L k with
  | none =>
   have hfn : findC h.cells k = none := by rw [HFM.out, hf]; rfl
   have hE : dropE h k = 5 := by rw [dropE, hfn]
   have hH : dropH h k = ⟨h.size, h.cells⟩ := by rw [dropH, hE, if_neg (by decide)]
   rw [ptrV]
   have hlenN : L.length ≤ 65536 := by rw [← List.length_map (f := CellM.d), hLd]; exact hcl
   have hcall := heap_calls W1.heap.size S h.size vs L w2 hst2 hlenN
   rw [hLd] at hcall
   have hAW := hA2
   have hbW := hb3
   have HEH := Lib.hid (And.intro hr (And.intro hE hH))
   clear hE hH hst2 hk2 hA2 hb3 hA hb1 hbx hr HZ
   go_wp2_with fail
   refine hcall.mono ?_
   rintro e w9 ⟨v9, rfl, hown9, hb9⟩
   obtain ⟨p9, c9, rfl⟩ := own_shape hown9
   have hA9 := hAW.below hb9 hAW.lt
   have hle9 := hbW.size
   have hb10 := hbW.trans (hb9.mono hle9)
   have hth := hA9.there 0 2 (by simp)
   have hst9 := store_row hA9 (D := #[.int .u32 (h.size : Int), .slice p9 L.length c9]) rfl
   have hbs9 := setCells_below A w.heap.size (Nat.le_of_lt hCA) [.int .u32 (h.size : Int), .slice p9 L.length c9] 0 _ _ hb10
   have hbu9 := (But.refl A w9).setCells [.int .u32 (h.size : Int), .slice p9 L.length c9] 0
   have ho9 := ownsRow_but (ownsRow_base hown9 hle9) hbu9 (fun c hc => by have := row_type hA9 hc; revert this; decide)
   have HF := Lib.hid (And.intro hst9 (And.intro ho9 hbs9))
   have hone2 := oneH (h.size : Int) p9 L.length c9
   have hsz2 := hszH (.int .u32 (h.size : Int)) (.slice p9 L.length c9)
   have HLL := Lib.hid (show L.length = (h.cells).length by rw [← hLd, List.length_map])
   clear hcall hown9 hb9 hA9 hst9 hbs9 hbu9 ho9 hb10 hAW hbW
   go_wp2_with (refine wpList_store_mid rfl 35 _ _ rfl A 0 #[.int .u32 (h.size : Int), .slice p9 L.length c9] rfl rfl hth hsz2 hone2 ?_)
   refine bodyPost_ret (v := .tuple #[.agg #[.int .u32 (h.size : Int), .slice p9 L.length c9], .int .i64 5]) (results_cell_tmp (p := 4) (q := 5) (ty := 35) (by rfl) _ _ A 35 #[.int .u32 (h.size : Int), .slice p9 L.length c9] (0, 0) _ (by rfl) HF.out.1 Tryz.underlying35 (by rfl) hsz2) (by rfl) ?_
   exact ⟨⟨_, .inl ⟨HEH.out.1, by rw [HEH.out.2.1], by rw [HEH.out.2.2]; exact ⟨_, rfl, by rw [← HLL.out]; exact HF.out.2.1⟩⟩⟩, HF.out.2.2⟩
  | some c =>
   obtain ⟨hcm, hcn⟩ := atM_mem hf
   have hcd : c.d ∈ h.cells := by rw [← hLd]; exact List.mem_map_of_mem hcm
   have hca := hst2.cells c hcm
   have hfs : findC h.cells k = some c.d := by rw [HFM.out, hf]; rfl
   have cr : w2.cell? ⟨c.ptr, 2, none⟩ = some (.int .i64 c.d.refs) := by rw [hca.row.cell]; rfl
   have cl := row_led hca
   rw [(hLa c hcm).2] at cl
   have hcp : c.p = .pointer (some ⟨c.ptr, 0, none⟩) := rfl
   rw [ptrV, hcp]
   have hDE : dropE h k = if c.d.refs = (ledC h.cells c.d.num : Int) then 7 else 0 := by rw [dropE, hfs]
   have HQ := Lib.hid (fun n => And.intro (hst2.below (below_drewH _ w2 n) (Nat.le_refl _)) (And.intro (hA2.below (below_drewH _ w2 n) hA2.lt) (hb3.trans (below_drewH _ w2 n))))
   clear hcp hca hcn hcm hcd hfs
   generalize c.ptr = P at *
   generalize hrg : c.d.refs = rf at *
   generalize hlg : (ledC h.cells c.d.num : Int) = lg at *
   have HDE := Lib.hid hDE
   clear hrg hlg hDE
   by_cases hmx : rf = lg
   ·have hE : dropE h k = 7 := by rw [HDE.out, if_pos hmx]
    have hH : dropH h k = ⟨h.size, h.cells⟩ := by rw [dropH, hE, if_neg (by decide)]
    rw [hmx] at cr
    have HQE := Lib.hid (And.intro hr (And.intro hE (And.intro hH (And.intro hLd hcl))))
    clear hmx hE hH hr hLa hst2 hk2 hA2 hb3 hA hb1 hbx HZ hLd
    go_wp2_with fail
    go_quiet (fail)
    obtain ⟨hst3, hA3, hb4⟩ := HQ.out nq
    generalize w2.drewN nq = w3 at *
    obtain ⟨hr, hE, hH, hLd, hcl⟩ := HQE.out
    have hlenN : L.length ≤ 65536 := by rw [← List.length_map (f := CellM.d), hLd]; exact hcl
    have hcall := heap_calls W1.heap.size S h.size vs L w3 hst3 hlenN
    rw [hLd] at hcall
    have hAW := hA3
    have hbW := hb4
    have HEH := Lib.hid (And.intro hr (And.intro hE hH))
    clear hE hH hst3 hA3 hb4 hr cr cl HQE HQ
    go_wp2_with fail
    refine hcall.mono ?_
    rintro e w9 ⟨v9, rfl, hown9, hb9⟩
    obtain ⟨p9, c9, rfl⟩ := own_shape hown9
    have hA9 := hAW.below hb9 hAW.lt
    have hle9 := hbW.size
    have hb10 := hbW.trans (hb9.mono hle9)
    have hth := hA9.there 0 2 (by simp)
    have hst9 := store_row hA9 (D := #[.int .u32 (h.size : Int), .slice p9 L.length c9]) rfl
    have hbs9 := setCells_below A w.heap.size (Nat.le_of_lt hCA) [.int .u32 (h.size : Int), .slice p9 L.length c9] 0 _ _ hb10
    have hbu9 := (But.refl A w9).setCells [.int .u32 (h.size : Int), .slice p9 L.length c9] 0
    have ho9 := ownsRow_but (ownsRow_base hown9 hle9) hbu9 (fun c hc => by have := row_type hA9 hc; revert this; decide)
    have HF := Lib.hid (And.intro hst9 (And.intro ho9 hbs9))
    have hone2 := oneH (h.size : Int) p9 L.length c9
    have hsz2 := hszH (.int .u32 (h.size : Int)) (.slice p9 L.length c9)
    have HLL := Lib.hid (show L.length = (h.cells).length by rw [← hLd, List.length_map])
    clear hcall hown9 hb9 hA9 hst9 hbs9 hbu9 ho9 hb10 hAW hbW
    go_wp2_with (refine wpList_store_mid rfl 35 _ _ rfl A 0 #[.int .u32 (h.size : Int), .slice p9 L.length c9] rfl rfl hth hsz2 hone2 ?_)
    refine bodyPost_ret (v := .tuple #[.agg #[.int .u32 (h.size : Int), .slice p9 L.length c9], .int .i64 7]) (results_cell_tmp (p := 4) (q := 5) (ty := 35) (by rfl) _ _ A 35 #[.int .u32 (h.size : Int), .slice p9 L.length c9] (0, 0) _ (by rfl) HF.out.1 Tryz.underlying35 (by rfl) hsz2) (by rfl) ?_
    exact ⟨⟨_, .inl ⟨HEH.out.1, by rw [HEH.out.2.1], by rw [HEH.out.2.2]; exact ⟨_, rfl, by rw [← HLL.out]; exact HF.out.2.1⟩⟩⟩, HF.out.2.2⟩
   ·have hE : dropE h k = 0 := by rw [HDE.out, if_neg hmx]
    have hH : dropH h k = ⟨h.size, letF (h.cells.length + 1) h.cells k⟩ := by rw [dropH, hE, if_pos rfl]
    have hb : (rf == lg) = false := by simpa using hmx
    have hinv := drop_inv hr hE
    have hil := inv_let _ _ _ [] h.size (Nat.lt_succ_self _) hinv
    have HQE := Lib.hid (And.intro hr (And.intro hE (And.intro hH (And.intro hLd (And.intro hcl (And.intro hinv hil))))))
    clear hmx hE hH hr hLa hst2 hk2 hA2 hb3 hA hb1 hbx HZ hLd hinv hil
    go_wp2_with fail
    go_quiet (fail)
    obtain ⟨hst3, hA3, hb4⟩ := HQ.out nq
    have hlet := let_calls (h.cells.length + 1) W1.heap.size S h.size vs L h.cells k [] (w2.drewN nq) hst3 HQE.out.2.2.2.1 HQE.out.2.2.2.2.2.1 (Nat.lt_succ_self _) HQE.out.2.2.2.2.1
    have hB3 := hst3.hB
    generalize w2.drewN nq = w3 at *
    have HG := Lib.hid (And.intro hA3 (And.intro hb4 hB3))
    clear hst3 hA3 hb4 cr cl HQ hB3
    go_wp2_with fail
    refine hlet.mono ?_
    rintro e w4 ⟨vs4, L4, rfl, hL4, hst4, hk4⟩
    have hA5 := hk4.row HG.out.1 (.inl hAlt)
    have hb5 := HG.out.2.1.trans ((hk4.below HG.out.2.2).mono hWs)
    obtain ⟨hr, hE, hH, hLd, hcl, hinv, hil⟩ := HQE.out
    have hlenN : L4.length ≤ 65536 := by rw [← List.length_map (f := CellM.d), hL4]; exact (Nat.le_trans hil.2 hcl)
    have hcall := heap_calls W1.heap.size S h.size vs4 L4 w4 hst4 hlenN
    rw [hL4] at hcall
    have hAW := hA5
    have hbW := hb5
    have HEH := Lib.hid (And.intro hr (And.intro hE hH))
    clear hE hH hst4 hA5 hb5 hr hk4 hlet HQE hinv hil
    go_wp2_with fail
    refine hcall.mono ?_
    rintro e w9 ⟨v9, rfl, hown9, hb9⟩
    obtain ⟨p9, c9, rfl⟩ := own_shape hown9
    have hA9 := hAW.below hb9 hAW.lt
    have hle9 := hbW.size
    have hb10 := hbW.trans (hb9.mono hle9)
    have hth := hA9.there 0 2 (by simp)
    have hst9 := store_row hA9 (D := #[.int .u32 (h.size : Int), .slice p9 L4.length c9]) rfl
    have hbs9 := setCells_below A w.heap.size (Nat.le_of_lt hCA) [.int .u32 (h.size : Int), .slice p9 L4.length c9] 0 _ _ hb10
    have hbu9 := (But.refl A w9).setCells [.int .u32 (h.size : Int), .slice p9 L4.length c9] 0
    have ho9 := ownsRow_but (ownsRow_base hown9 hle9) hbu9 (fun c hc => by have := row_type hA9 hc; revert this; decide)
    have HF := Lib.hid (And.intro hst9 (And.intro ho9 hbs9))
    have hone2 := oneH (h.size : Int) p9 L4.length c9
    have hsz2 := hszH (.int .u32 (h.size : Int)) (.slice p9 L4.length c9)
    have HLL := Lib.hid (show L4.length = (letF (h.cells.length + 1) h.cells k).length by rw [← hL4, List.length_map])
    clear hcall hown9 hb9 hA9 hst9 hbs9 hbu9 ho9 hb10 hAW hbW
    go_wp2_with (refine wpList_store_mid rfl 35 _ _ rfl A 0 #[.int .u32 (h.size : Int), .slice p9 L4.length c9] rfl rfl hth hsz2 hone2 ?_)
    refine bodyPost_ret (v := .tuple #[.agg #[.int .u32 (h.size : Int), .slice p9 L4.length c9], .int .i64 0]) (results_cell_tmp (p := 4) (q := 5) (ty := 35) (by rfl) _ _ A 35 #[.int .u32 (h.size : Int), .slice p9 L4.length c9] (0, 0) _ (by rfl) HF.out.1 Tryz.underlying35 (by rfl) hsz2) (by rfl) ?_
    exact ⟨⟨_, .inl ⟨HEH.out.1, by rw [HEH.out.2.1], by rw [HEH.out.2.2]; exact ⟨_, rfl, by rw [← HLL.out]; exact HF.out.2.1⟩⟩⟩, HF.out.2.2⟩

end Go.Proofs.YtimkklaidodkdaaGreatDoor
