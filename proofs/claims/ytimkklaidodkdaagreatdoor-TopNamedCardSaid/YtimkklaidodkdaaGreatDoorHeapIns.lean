/- slices.Delete at []*heap.cell: walked. -/
/- slices.Insert at []*heap.cell: walked (after the kit's walk of it at []string). -/
import Derived.Test.YtimkklaidodkdaaGreatDoorHeapFree
import Derived.Lib.SliceRun
import Derived.Deep.RegionLaw
import Derived.Lib.JoinLaws
import Derived.Lib.AppendZeros
import Derived.Lib.AppendZerosOnto
import Derived.Lib.Overlaps
import Derived.Laws.Externs
import Derived.Laws.IdiomCopy
import Derived.Laws.NewBlocks
namespace Go.Proofs.YtimkklaidodkdaaGreatDoor
open Go.RowKit

set_option maxRecDepth 100000 in
set_option maxHeartbeats 4000000 in
/-- Its cells, one by one. -/
theorem delete_raw (blk off cap i j n : Nat) (xs : List Value) (w : World) (hl : xs.length = n) (hc : ∀ t u, xs[t]? = some u → w.cell? ⟨blk, off + t, none⟩ = some u) (hf : ∀ t, w.frozen? ⟨blk, t, none⟩ = false) (h1 : ∀ u ∈ xs, u.oneCell' = true)
    (hcap : n ≤ cap) (hij : i < j) (hj : j ≤ n) :
    Calls Tryz.prog 90 #[.slice (some ⟨blk, off, none⟩) n cap, .int .i64 (i : Int), .int .i64 (j : Int)] w fun e w' => e = .returned (.slice (some ⟨blk, off, none⟩) (i + (n - j)) cap) ∧ w' = (w.drew.setCells blk (off + i * 1) (xs.drop j)).setCells blk (off + (i + (n - j))) (List.replicate (n - (i + (n - j))) (.pointer none)) := by
  obtain ⟨i0, hi0, hz0, hz1, hz2⟩ := info_parts info_ptr
  have v3 : ∀ w, (zeroValue 106).run Tryz.prog w = .ok (.pointer none) w := fun w => by kernel_rfl
  obtain ⟨news, hnews⟩ : ∃ news, news = xs.drop j := ⟨_, rfl⟩
  have hlen : news.length = n - j := by rw [hnews, List.length_drop, hl]
  have hget : ∀ t u, news[t]? = some u → w.cell? ⟨blk, off + (j + t), none⟩ = some u := fun t u hu => by
    rw [hnews, List.getElem?_drop] at hu
    exact hc _ u hu
  obtain ⟨A, hA, hsrc⟩ : ∃ A : Addr, (if cap = j then some (⟨blk, off, none⟩ : Addr) else some ⟨blk, off + j, none⟩) = some A ∧ Hid (∀ t u, news[t]? = some u → w.drew.cell? (A.add t) = some u) := by
    by_cases h : cap = j
    · refine ⟨⟨blk, off, none⟩, by simp [h], fun t u hu => ?_⟩
      have h0 : news.length = 0 := by rw [hlen]; omega
      rw [List.length_eq_zero_iff.1 h0] at hu
      simp at hu
    · refine ⟨⟨blk, off + j, none⟩, by simp [h], fun t u hu => ?_⟩
      rw [Addr.add_mid, Nat.add_assoc]
      exact hget t u hu
  have hsome : ∀ t, t < n → (w.cell? ⟨blk, off + t, none⟩).isSome = true := fun t ht => by rw [hc t _ (List.getElem?_eq_getElem (by omega))]; rfl
  have s1 : Hid (news.length = (n - j) * 1) := by rw [Nat.mul_one]; exact hlen
  have s2 : Hid (∀ u ∈ news, u.oneCell' = true) := fun u hu => h1 u (List.mem_of_mem_drop (hnews ▸ hu))
  have s3 : Hid (∀ t, t < news.length → (w.drew.cell? ⟨blk, off + i * 1 + t, none⟩).isSome = true ∧ w.drew.frozen? ⟨blk, off + i * 1 + t, none⟩ = false) := by
    intro t ht
    rw [hlen] at ht
    rw [Nat.mul_one, Nat.add_assoc]
    exact ⟨hsome _ (by omega), hf _⟩
  obtain ⟨W1, hW1⟩ : ∃ W1, W1 = w.drew.setCells blk (off + i * 1) news := ⟨_, rfl⟩
  have hsome1 : ∀ t, t < n → (W1.cell? ⟨blk, off + t, none⟩).isSome = true := fun t ht => by
    rw [hW1]
    by_cases hin : off + i * 1 ≤ off + t ∧ off + t < off + i * 1 + news.length
    · have := World.cell?_setCells_in blk news (off + i * 1) w.drew (fun q hq => (s3 q hq).1) (off + t - (off + i * 1)) (by omega)
      rw [show off + i * 1 + (off + t - (off + i * 1)) = off + t by omega] at this
      rw [this]; rfl
    · rw [World.cell?_setCells_out blk news (off + i * 1) w.drew ⟨blk, off + t, none⟩ (fun _ _ => by show off + t < off + i * 1 ∨ off + i * 1 + news.length ≤ off + t; omega)]
      exact hsome t ht
  have hfr1 : ∀ t, W1.frozen? ⟨blk, t, none⟩ = false := fun t => by rw [hW1, World.frozen?_setCells]; exact hf t
  have hcl : ∀ ty, (Builtin.clear_ #[111] ty #[.slice (some ⟨blk, off + (i + (n - j)), none⟩) (n - (i + (n - j))) (cap - (i + (n - j)))]).run Tryz.prog W1 = .ok (.tuple #[]) (W1.setCells blk (off + (i + (n - j))) (List.replicate (n - (i + (n - j))) (.pointer none))) :=
    fun ty => Lib.run_clear_slice W1 _ _ ty _ Tryz.underlying111 v3 rfl rfl blk (off + (i + (n - j))) _ _ (by omega) (fun t ht => by rw [Nat.add_assoc]; exact hsome1 _ (by omega)) (fun t _ => hfr1 _)
  have hW : Hid (W1 = w.drew.setCells blk (off + i * 1) news) := hW1
  have HN := Lib.hid hnews
  have hic : i ≤ cap := by omega
  have hjc : j ≤ cap := by omega
  have hne : ¬ i = j := by omega
  have i1 : ¬ (i : Int) = (j : Int) := by omega
  clear hW1 hget hlen hsome hsome1 hfr1 hf hc h1 hl hnews
  go_enter Tryz.func90, Tryz.ntmps90
  go_wp2_with fail
  go_region_law (refine step_append_room rfl (.tmp 22) (.tmp 25) 111 rfl 106 i0 1 Tryz.underlying111 hi0 hz1 blk off i cap (by simp [Act.eval, Act.put]) A (n - j) (cap - j) news (by simp [Act.eval, Act.put]) s1.out hsrc.out s2.out (by omega) s3.out ?_; rw [← hW.out])
  go_wp2
  go_ret
  exact ⟨rfl, by rw [hW.out, HN.out]⟩

theorem delete_calls (B : Nat) (v : Value) (xs : List Value) (n i : Nat) (w : World) (h : w.ownsRow B 106 1 v n xs) (hi : i < n) (h1 : ∀ u ∈ xs, u.oneCell' = true) :
    Calls Tryz.prog 90 #[v, .int .i64 (i : Int), .int .i64 ((i + 1 : Nat) : Int)] w fun e w' => ∃ v', e = .returned v' ∧ w'.ownsRow B 106 1 v' (n - 1) (xs.eraseIdx i) ∧ w.grownBy w' v.ownBlock := by
  have hcs := fun g hg => h.cells (g := g) hg
  obtain ⟨hl, ⟨_, hn⟩ | ⟨g, cap, cur, rfl, hg, hh, hnc, hcm, hsz, hxs⟩⟩ := h
  · omega
  have hr : RowIs w g 106 cur := hh
  have hl' : xs.length = n := by omega
  have hsz' : cur.size = cap := by omega
  unfold maxLen at hcm
  refine (delete_raw g 0 cap i (i + 1) n xs w hl' (fun t u hu => by have := hcs g rfl t u hu; rwa [Addr.add_mid] at this) (fun t => hr.free t) h1 hnc (by omega) (by omega)).mono ?_
  rintro e w' ⟨rfl, rfl⟩
  have r1 := setCells_row g _ (xs.drop (i + 1)) (0 + i * 1) w.drew cur hr (by rw [List.length_drop]; omega)
  have hsz1 : (cur.toList.take (0 + i * 1) ++ xs.drop (i + 1) ++ cur.toList.drop (0 + i * 1 + (xs.drop (i + 1)).length)).toArray.size = cap := by
    simp only [List.size_toArray, List.length_append, List.length_take, List.length_drop, Array.length_toList]
    omega
  have e1 : (List.replicate (n - (i + (n - (i + 1)))) (Value.pointer none)).length = 1 := by rw [List.length_replicate]; omega
  have r2 := setCells_row g _ (List.replicate (n - (i + (n - (i + 1)))) (Value.pointer none)) (0 + (i + (n - (i + 1)))) _ _ r1 (by rw [e1, hsz1]; omega)
  refine ⟨_, rfl, ⟨by rw [List.length_eraseIdx, if_pos (by omega)]; omega, .inr ⟨g, cap, _, by rw [show i + (n - (i + 1)) = n - 1 by omega], hg, r2, by omega, by unfold maxLen; omega, ?_, ?_⟩⟩, ?_⟩
  · simp only [List.size_toArray, List.length_append, List.length_take, List.length_drop, e1, Array.length_toList]
    omega
  · have e2 : (0 + (i + (n - (i + 1)))) = n - 1 := by omega
    rw [e2, List.eraseIdx_eq_take_drop_succ]
    have e3 : cur.toList.take i = xs.take i := by rw [← hxs, List.take_take]; congr 1; omega
    simp only [Nat.zero_add, Nat.mul_one, List.append_assoc]
    rw [List.take_append_of_le_length (by simp only [List.length_take, List.length_append, List.length_drop, Array.length_toList]; omega), List.take_take, Nat.min_self, e3, ← List.append_assoc, List.take_append_of_le_length (by simp only [List.length_take, List.length_append, List.length_drop]; omega)]
    exact List.take_of_length_le (by simp only [List.length_take, List.length_append, List.length_drop]; omega)
  · have hb := ((But.refl g w).drew.setCells (xs.drop (i + 1)) (0 + i * 1)).setCells (List.replicate (n - (i + (n - (i + 1)))) (Value.pointer none)) (0 + (i + (n - (i + 1))))
    exact ⟨hb.os, hb.tape, hb.output, hb.size, fun k hk hne => hb.block k hk (fun e => hne (by rw [e]; rfl))⟩

end Go.Proofs.YtimkklaidodkdaaGreatDoor

namespace Go.Proofs.YtimkklaidodkdaaGreatDoor
open Go.RowKit Go.Lib

/-- The operation 'copy', where its run is known by an equation. -/
theorem wp_copy_runI {P : Program} (w : World) {o : Oper} {a : Act} {K : Act → World → Prop} {Q : Exit → Act → World → Prop} (d s : Operand) (t t' : TypeId)
    (ho : o.op = .call { callee := .builtin .copy, args := #[d, s], argTypes := #[t, t'] }) (v u : Value) (hd : a.eval d = v) (hs : a.eval s = u) {v' : Value} {w' : World}
    (hr : (Builtin.copy_ #[t, t'] o.type #[v, u]).run P w = .ok v' w') (h : K (a.put o.dst v') w') : o.wp P a w K Q := by
  unfold Oper.wp execOp
  simp only [ho, resolve, invoke, builtin, Sem.run_bind, Sem.run_pure, Result.andThen_ok, List.map_toArray, List.map_cons, List.map_nil, hd, hs, hr]
  exact h
theorem wpList_copy_runI {P : Program} (w : World) {ops : Array Oper} {rest : List Oper} {o : Oper} {a : Act} {Q : Exit → Act → World → Prop} (hgd : o.guard = none) (d s : Operand) (t t' : TypeId)
    (ho : o.op = .call { callee := .builtin .copy, args := #[d, s], argTypes := #[t, t'] }) (v u : Value) (hd : a.eval d = v) (hs : a.eval s = u) {v' : Value} {w' : World}
    (hr : (Builtin.copy_ #[t, t'] o.type #[v, u]).run P w = .ok v' w') (h : wpList P ops Q rest (a.put o.dst v') w') : wpList P ops Q (o :: rest) a w :=
  wpList_plain hgd fun _ hK => wp_copy_runI w d s t t' ho v u hd hs hr (hK _ _ h)
theorem step_copy_runI {P : Program} {ops : Array Oper} {o : Oper} {a : Act} {w : World} {K : Act → World → Prop} {Q : Exit → Act → World → Prop} {E : Prop}
    (hg : o.guard = none) (d x : Operand) (dT sT : TypeId) (hop : o.op = Op.call { callee := Callee.builtin Builtin.copy, args := #[d, x], argTypes := #[dT, sT] })
    (v u : Value) (hd : a.eval d = v) (hx : a.eval x = u) {v' : Value} {w' : World} (hr : (Builtin.copy_ #[dT, sT] o.type #[v, u]).run P w = .ok v' w') (hK : K (a.put o.dst v') w') :
    if Region.wanted o (yielded ops a.tmps) = true then Oper.wp P o a w K Q else E := by
  have hw : Region.wanted o (yielded ops a.tmps) = true := by simp [Region.wanted, hg]
  rw [if_pos hw]
  unfold Oper.wp
  simp [execOp, hop, resolve, invoke, builtin, hd, hx, hr, Result.andThen]
  exact hK
theorem isSome_setCells (b : Nat) (vs : List Value) (o : Nat) (w : World) (h : ∀ j, j < vs.length → (w.cell? ⟨b, o + j, none⟩).isSome = true) (k : Nat) (hk : (w.cell? ⟨b, k, none⟩).isSome = true) : ((w.setCells b o vs).cell? ⟨b, k, none⟩).isSome = true := by
  by_cases hin : o ≤ k ∧ k < o + vs.length
  · have := World.cell?_setCells_in b vs o w h (k - o) (by omega)
    rw [show o + (k - o) = k by omega] at this
    rw [this]; rfl
  · rw [World.cell?_setCells_out b vs o w ⟨b, k, none⟩ (fun _ _ => by show k < o ∨ o + vs.length ≤ k; omega)]
    exact hk

set_option maxHeartbeats 4000000 in
set_option maxRecDepth 100000 in
theorem insert_shift (b off n c i vb voff m vc : Nat) (cs vs : List Value) (w : World) (hi : i < n) (hm : 0 < m) (hroom : n + m ≤ c) (hc63 : c ≤ 9223372036854775807) (hvb : vb ≠ b)
    (hcl : cs.length = n) (hvl : vs.length = m)
    (hcs : ∀ j v, cs[j]? = some v → w.cell? ⟨b, off + j, none⟩ = some v) (hsp : ∀ j, j < n + m → (w.cell? ⟨b, off + j, none⟩).isSome = true) (hfz : ∀ j, j < n + m → w.frozen? ⟨b, off + j, none⟩ = false)
    (hvs : ∀ j v, vs[j]? = some v → w.cell? ⟨vb, voff + j, none⟩ = some v) (h1c : ∀ v ∈ cs, v.oneCell' = true) (h1v : ∀ v ∈ vs, v.oneCell' = true)
    (tA tB : TypeId) (kA kB : Nat) (hsa : w.shape? vb = some (tA, kA)) (hsb : w.shape? b = some (tB, kB)) (hkB : kB ≠ 0) (hfa : w.frozen? ⟨vb, voff, none⟩ = false) (hfe : w.frozen? ⟨vb, kA, none⟩ = false) :
    Calls Tryz.prog 81 #[.slice (some ⟨b, off, none⟩) n c, .int .i64 i, .slice (some ⟨vb, voff, none⟩) m vc] w fun e w' =>
      e = .returned (.slice (some ⟨b, off, none⟩) (n + m) c) ∧ w' = (w.drew.setCells b (off + (i + m)) (cs.drop i)).setCells b (off + i) vs := by
  have t0 := Tryz.underlying3; have t4 := Tryz.underlying4; have t9 := Tryz.underlying106; have t24 := Tryz.underlying111
  have z9 : ∀ w, (Go.sizeOf 106).run Tryz.prog w = .ok 1 w := fun w => by kernel_rfl
  have hz1 : ¬ ((m : Int) = 0) := by omega
  have hz2 : ¬ ((i : Int) = (n : Int)) := by omega
  have hsz : (Tryz.prog.info? 106).map (·.size) = some 1 := by
    obtain ⟨i0, hi0, h0, h1, h2⟩ := info_parts info_ptr
    rw [hi0]; simp [h1]
  have hov : ∀ lb cb, (callFunc 112 #[.slice (some ⟨vb, voff, none⟩) m vc, .slice (some ⟨b, off + (i + m), none⟩) lb cb]).run Tryz.prog w = .ok (.value (.bool false)) w := fun lb cb => by
    rw [run_callFunc_extern Tryz.func112 (by kernel_rfl) (by kernel_rfl) (by kernel_rfl) (e := Extern.SlicesOverlaps.overlaps #[111, 111] #[4]) (by kernel_rfl),
      Lib.run_overlaps_apart w 111 4 106 t24 1 z9 ⟨vb, voff, none⟩ ⟨b, off + (i + m), none⟩ m vc lb cb hvb tA tB kA kB hsa hsb hkB hfa hfe]
    rfl
  have hdl : (cs.drop i).length = n - i := by rw [List.length_drop, hcl]
  have hw1 : IntKind.i64.wrap ((i : Int) + (m : Int)) = (i : Int) + (m : Int) := by rw [IntKind.wrap_i64]; omega
  have hb1 : (0 : Int) ≤ (i : Int) + (m : Int) := by omega
  have hin : i ≤ n := by omega
  have htn : ((i : Int) + (m : Int)).toNat = i + m := by omega
  have hb2 : ¬ (c = i + m) := by omega
  have hb3 : (i : Int) ≤ (n : Int) + (m : Int) := by omega
  have hb4 : ¬ (c = i) := by omega
  have hcp1 : ∀ ty dc sc, (Builtin.copy_ #[111, 111] ty #[.slice (some ⟨b, off + (i + m), none⟩) (n + m - (i + m)) dc, .slice (some ⟨b, off + i, none⟩) (n + m - i) sc]).run Tryz.prog w.drew = .ok (goInt (cs.drop i).length) (w.drew.setCells b (off + (i + m)) (cs.drop i)) := fun ty dc sc =>
    run_copy_cells w.drew _ _ ty 106 b (off + (i + m)) (n + m - (i + m)) dc ⟨b, off + i, none⟩ (n + m - i) sc (cs.drop i) t24 hsz (by rw [hdl]; simp only [Nat.min_def]; split <;> omega)
      (fun j v hj => by rw [Addr.add_lit, Nat.add_assoc]; exact hcs (i + j) v (by rwa [List.getElem?_drop] at hj))
      (fun j hj => by rw [Nat.add_assoc]; exact hsp _ (by omega)) (fun j hj => by rw [Nat.add_assoc]; exact hfz _ (by omega)) (fun v hv => h1c v (List.mem_of_mem_drop hv))
  obtain ⟨W1, hW1⟩ : ∃ W1, W1 = w.drew.setCells b (off + (i + m)) (cs.drop i) := ⟨_, rfl⟩
  have hsp1 : ∀ k, k < n + m → (W1.cell? ⟨b, off + k, none⟩).isSome = true := fun k hk => by
    rw [hW1]
    exact isSome_setCells b _ _ _ (fun j hj => by rw [Nat.add_assoc]; exact hsp _ (by omega)) _ (hsp k hk)
  have hcp2 : ∀ (W : World), (∀ x, W.cell? x = W1.cell? x) → (∀ x, W.frozen? x = W1.frozen? x) → ∀ ty dc, (Builtin.copy_ #[111, 111] ty #[.slice (some ⟨b, off + i, none⟩) (n + m - i) dc, .slice (some ⟨vb, voff, none⟩) m vc]).run Tryz.prog W = .ok (goInt vs.length) (W.setCells b (off + i) vs) := fun W hWc hWf ty dc =>
    run_copy_cells W _ _ ty 106 b (off + i) (n + m - i) dc ⟨vb, voff, none⟩ m vc vs t24 hsz (by rw [hvl]; simp only [Nat.min_def]; split <;> omega)
      (fun j v hj => by
        rw [Addr.add_lit, hWc, hW1, World.cell?_setCells_out b _ _ _ _ (fun h _ => absurd h hvb)]
        exact hvs j v hj)
      (fun j hj => by rw [hWc, Nat.add_assoc]; exact hsp1 _ (by omega)) (fun j hj => by rw [hWf, hW1, World.frozen?_setCells, Nat.add_assoc]; exact hfz _ (by omega)) h1v
  rw [← hW1] at hcp1
  go_enter Tryz.func81, Tryz.ntmps81
  go_wp2_with (simp only [hov])
  go_region_law (refine step_copy_runI rfl _ _ 111 111 rfl _ _ (by simp [Act.eval, Act.put]) (by simp [Act.eval, Act.put]) (hcp1 _ _ _) ?_)
  go_wp2_with (at_builtin; refine wpList_copy_runI _ rfl _ _ 111 111 rfl _ _ rfl rfl (hcp2 _ (fun _ => rfl) (fun _ => rfl) _ _) ?_)
  go_ret
  first | exact ⟨rfl, rfl⟩ | exact ⟨rfl, by rw [hW1]⟩

set_option maxHeartbeats 4000000 in
set_option maxRecDepth 100000 in
theorem insert_end_room (b off n c vb voff m vc : Nat) (vs : List Value) (w : World) (hm : 0 < m) (hroom : n + m ≤ c)
    (hvl : vs.length = m) (hsp : ∀ j, j < m → (w.cell? ⟨b, off + n + j, none⟩).isSome = true) (hfz : ∀ j, j < m → w.frozen? ⟨b, off + n + j, none⟩ = false)
    (hvs : ∀ j v, vs[j]? = some v → w.cell? ⟨vb, voff + j, none⟩ = some v) (h1v : ∀ v ∈ vs, v.oneCell' = true) :
    Calls Tryz.prog 81 #[.slice (some ⟨b, off, none⟩) n c, .int .i64 n, .slice (some ⟨vb, voff, none⟩) m vc] w fun e w' =>
      e = .returned (.slice (some ⟨b, off, none⟩) (n + m) c) ∧ w' = w.setCells b (off + n) vs := by
  have t0 := Tryz.underlying3; have t4 := Tryz.underlying4; have t9 := Tryz.underlying106; have t24 := Tryz.underlying111
  have z9 : ∀ w, (Go.sizeOf 106).run Tryz.prog w = .ok 1 w := fun w => by kernel_rfl
  have hz1 : ¬ ((m : Int) = 0) := by omega
  have hsrc : Src Tryz.prog 1 111 (.slice (some ⟨vb, voff, none⟩) m vc) m vs w := Src.ofSlice w t24 ⟨vb, voff, none⟩ m vc vs (by omega) (fun j u hj => by rw [Addr.add_lit]; exact hvs j u hj) h1v
  go_enter Tryz.func81, Tryz.ntmps81
  go_wp2_with (at_builtin; refine wpList_append_room1 _ rfl _ _ 111 111 rfl 106 _ _ t24 info_ptr b off n c rfl _ rfl m vs hsrc hroom (by rw [hvl]; exact hsp) (by rw [hvl]; exact hfz) ?_)
  go_ret
  exact ⟨rfl, rfl⟩

set_option maxHeartbeats 4000000 in
set_option maxRecDepth 100000 in
theorem insert_end_grow (base : Option Addr) (n c vb voff m vc : Nat) (cs vs : List Value) (w : World) (hm : 0 < m) (hnc : n ≤ c) (hroom : c < n + m) (hbig : (n + m) * 8 ≤ 140737488355328)
    (hcl : cs.length = n) (hvl : vs.length = m) (hnil : base = none → n = 0)
    (hcs : ∀ a, base = some a → ∀ j v, cs[j]? = some v → w.cell? (a.add j) = some v)
    (hvs : ∀ j v, vs[j]? = some v → w.cell? ⟨vb, voff + j, none⟩ = some v) (h1v : ∀ v ∈ vs, v.oneCell' = true) :
    Calls Tryz.prog 81 #[.slice base n c, .int .i64 n, .slice (some ⟨vb, voff, none⟩) m vc] w fun e w' =>
      e = .returned (.slice (some ⟨w.heap.size, 0, none⟩) (n + m) (grownCap w (n + m) c 106)) ∧
      w' = w.drew.alloc (.cells ((cs ++ vs).toArray ++ Builtin.zeroCells (Value.pointer none).cells (grownCap w (n + m) c 106 - (n + m))) 106) := by
  have t0 := Tryz.underlying3; have t4 := Tryz.underlying4; have t9 := Tryz.underlying106; have t24 := Tryz.underlying111
  have z9 : ∀ w, (Go.sizeOf 106).run Tryz.prog w = .ok 1 w := fun w => by kernel_rfl
  obtain ⟨i0, hi0, hz0, hzs, hzb⟩ := info_parts info_ptr
  have hz1 : ¬ ((m : Int) = 0) := by omega
  have hsrc : Src Tryz.prog i0.size 111 (.slice (some ⟨vb, voff, none⟩) m vc) m vs w := by
    rw [hzs]
    exact Src.ofSlice w t24 ⟨vb, voff, none⟩ m vc vs (by omega) (fun j u hj => by rw [Addr.add_lit]; exact hvs j u hj) h1v
  have hold : (Builtin.firstCells i0.size n (.slice base n c)).run Tryz.prog w.drew = .ok cs.toArray w.drew := by
    rw [hzs]
    cases base with
    | none =>
      have h0 := hnil rfl
      subst h0
      rw [List.length_eq_zero_iff.1 hcl]
      exact run_firstCells_none w.drew 1 0 0 c
    | some a => exact run_firstCells_some w.drew 1 n a n c cs (by omega) (fun j v hj => hcs a rfl j v hj)
  have hrun : ∀ ty, (Builtin.append_ #[111, 111] ty #[.slice base n c, .slice (some ⟨vb, voff, none⟩) m vc]).run Tryz.prog w = _ := fun ty =>
    run_append_grow_src w 111 111 ty 106 i0 _ t24 hi0 hz0 base n c cs hold _ m vs hsrc hroom (by omega) (by rw [hzb]; exact growslice_fits hroom hbig)
  go_enter Tryz.func81, Tryz.ntmps81
  cases base with
  | none =>
    have h0 := hnil rfl
    subst h0
    go_wp2_with (at_builtin; refine Lib.wpList_append_run _ rfl _ _ _ _ rfl _ _ rfl rfl _ _ (hrun _) ?_)
    go_ret
    exact ⟨rfl, rfl⟩
  | some a =>
    obtain ⟨ab, ao, asp⟩ := a
    go_wp2_with (at_builtin; refine Lib.wpList_append_run _ rfl _ _ _ _ rfl _ _ rfl rfl _ _ (hrun _) ?_)
    all_goals (go_ret; exact ⟨rfl, rfl⟩)

set_option maxHeartbeats 4000000 in
set_option maxRecDepth 100000 in
theorem insert_grow (b off n c i vb voff m vc : Nat) (cs vs : List Value) (w : World) (hi : i < n) (hm : 0 < m) (hnc : n ≤ c) (hroom : c < n + m) (hbig : (n + m) * 8 ≤ 140737488355328)
    (hcl : cs.length = n) (hvl : vs.length = m)
    (hcs : ∀ j v, cs[j]? = some v → w.cell? ⟨b, off + j, none⟩ = some v)
    (hvs : ∀ j v, vs[j]? = some v → w.cell? ⟨vb, voff + j, none⟩ = some v) (h1c : ∀ v ∈ cs, v.oneCell' = true) (h1v : ∀ v ∈ vs, v.oneCell' = true) :
    Calls Tryz.prog 81 #[.slice (some ⟨b, off, none⟩) n c, .int .i64 i, .slice (some ⟨vb, voff, none⟩) m vc] w fun e w' =>
      e = .returned (.slice (some ⟨w.heap.size, 0, none⟩) (n + m) (grownCap w (n + m) c 106)) ∧
      w' = (((w.alloc (.cells ((cs.take i).toArray ++ Builtin.zeroCells (Value.pointer none).cells (n + m - i) ++ Builtin.zeroCells (Value.pointer none).cells (grownCap w (n + m) c 106 - (n + m))) 106)).drew.setCells w.heap.size i vs).drew).setCells w.heap.size (i + m) (cs.drop i) := by
  have t0 := Tryz.underlying3; have t4 := Tryz.underlying4; have t9 := Tryz.underlying106; have t24 := Tryz.underlying111
  have z9 : ∀ w, (Go.sizeOf 106).run Tryz.prog w = .ok 1 w := fun w => by kernel_rfl
  obtain ⟨i0, hi0, hz0, hzs, hzb⟩ := info_parts info_ptr
  have hz1 : ¬ ((m : Int) = 0) := by omega
  have hz2 : ¬ ((i : Int) = (n : Int)) := by omega
  have hz3 : (c : Int) < (n : Int) + (m : Int) := by omega
  have hsz : (Tryz.prog.info? 106).map (·.size) = some 1 := by rw [hi0]; simp [hzs]
  have hbw : b < w.heap.size := block_lt_of_cell (hcs 0 _ (List.getElem?_eq_getElem (by omega)))
  have hvw : vb < w.heap.size := block_lt_of_cell (hvs 0 _ (List.getElem?_eq_getElem (by omega)))
  have hkk : (n : Int) + (m : Int) - (i : Int) = ((n + m - i : Nat) : Int) := by omega
  have hik : i + (n + m - i) = n + m := by omega
  have hold : (Builtin.firstCells i0.size i (.slice (some ⟨b, off, none⟩) i c)).run Tryz.prog w.drew = .ok (cs.take i).toArray w.drew := by
    rw [hzs]
    exact run_firstCells_some w.drew 1 i ⟨b, off, none⟩ i c (cs.take i) (by rw [List.length_take]; omega) (fun j v hj => by
      rw [Addr.add_lit]
      rw [List.getElem?_take] at hj
      split at hj
      · exact hcs j v hj
      · cases hj)
  have hrz : ∀ ty, (Builtin.append_ #[111, 3] ty #[.slice (some ⟨b, off, none⟩) i c, .int .i64 ((n : Int) + (m : Int) - (i : Int))]).run Tryz.prog w =
      .ok (.slice (some ⟨w.heap.size, 0, none⟩) (n + m) (grownCap w (n + m) c 106)) (w.drew.alloc (.cells ((cs.take i).toArray ++ Builtin.zeroCells (Value.pointer none).cells (n + m - i) ++ Builtin.zeroCells (Value.pointer none).cells (grownCap w (n + m) c 106 - (n + m))) 106)) := fun ty => by
    have h := Lib.run_append_grow_zeros w 111 3 ty 106 i0 _ .i64 .i64 t24 Tryz.underlying3 hi0 hz0 (some ⟨b, off, none⟩) i c (cs.take i) hold (n + m - i) (by omega) (by omega) (by omega) (by omega) (by rw [hzb]; omega) (by rw [hzb, hik]; exact growslice_fits hroom hbig)
    rw [hik] at h
    rw [hkk]
    exact h
  obtain ⟨G, hG⟩ : ∃ G, G = grownCap w (n + m) c 106 := ⟨_, rfl⟩
  obtain ⟨ROW, hROW⟩ : ∃ ROW : Array Value, ROW = (cs.take i).toArray ++ Builtin.zeroCells (Value.pointer none).cells (n + m - i) ++ Builtin.zeroCells (Value.pointer none).cells (G - (n + m)) := ⟨_, rfl⟩
  rw [← hG] at hrz ⊢
  rw [← hROW] at hrz ⊢
  have hRl : n + m ≤ ROW.size := by
    rw [hROW]
    simp [Builtin.zeroCells, Value.cells]
    omega
  obtain ⟨W1, hW1⟩ : ∃ W1, W1 = w.drew.alloc (.cells ROW 106) := ⟨_, rfl⟩
  rw [← hW1] at hrz
  have hN : ∀ j, j < n + m → (W1.cell? ⟨w.heap.size, j, none⟩).isSome = true := fun j hj => by
    rw [hW1, World.cell?_alloc_at (w := w.drew) ROW _ w.heap.size j rfl, Array.getElem?_eq_getElem (by omega)]; rfl
  have hNf : ∀ j, W1.frozen? ⟨w.heap.size, j, none⟩ = false := fun j => by rw [hW1]; exact World.frozen?_alloc_at (w := w.drew) ROW _ w.heap.size j rfl
  have hOb : ∀ j v, w.cell? ⟨b, j, none⟩ = some v → W1.cell? ⟨b, j, none⟩ = some v := fun j v h => by rw [hW1, World.cell?_alloc_past (w := w.drew) _ b j hbw]; exact h
  have hOv : ∀ j v, w.cell? ⟨vb, j, none⟩ = some v → W1.cell? ⟨vb, j, none⟩ = some v := fun j v h => by rw [hW1, World.cell?_alloc_past (w := w.drew) _ vb j hvw]; exact h
  have hcpA : ∀ (W : World), (∀ x, W.cell? x = W1.cell? x) → (∀ x, W.frozen? x = W1.frozen? x) → ∀ ty dc, (Builtin.copy_ #[111, 111] ty #[.slice (some ⟨w.heap.size, i, none⟩) (n + m - i) dc, .slice (some ⟨vb, voff, none⟩) m vc]).run Tryz.prog W = .ok (goInt vs.length) (W.setCells w.heap.size i vs) := fun W hWc hWf ty dc =>
    run_copy_cells W _ _ ty 106 w.heap.size i (n + m - i) dc ⟨vb, voff, none⟩ m vc vs t24 hsz (by rw [hvl]; simp only [Nat.min_def]; split <;> omega)
      (fun j v hj => by rw [Addr.add_lit, hWc]; exact hOv _ v (hvs j v hj))
      (fun j hj => by rw [hWc]; exact hN _ (by omega)) (fun j hj => by rw [hWf]; exact hNf _) h1v
  have hGn : n + m ≤ G := by rw [hG]; exact grownCap_ge w _ _ _
  have hG63 : G ≤ 9223372036854775807 := by
    have := grownCap_le_maxLen w (n + m) c 106 (by unfold maxLen; omega)
    rw [← hG] at this
    unfold maxLen at this
    omega
  have hGi : ¬ (G = i) := by omega
  have hGim : ¬ (G = i + m) := by omega
  have hci : ¬ (c = i) := by omega
  have hbN : b ≠ w.heap.size := by omega
  have hdl : (cs.drop i).length = n - i := by rw [List.length_drop, hcl]
  have hcpB : ∀ (W : World), (∀ x, W.cell? x = (W1.setCells w.heap.size i vs).cell? x) → (∀ x, W.frozen? x = (W1.setCells w.heap.size i vs).frozen? x) → ∀ ty dc sc, (Builtin.copy_ #[111, 111] ty #[.slice (some ⟨w.heap.size, i + m, none⟩) (n + m - (i + m)) dc, .slice (some ⟨b, off + i, none⟩) (n - i) sc]).run Tryz.prog W = .ok (goInt (cs.drop i).length) (W.setCells w.heap.size (i + m) (cs.drop i)) := fun W hWc hWf ty dc sc =>
    run_copy_cells W _ _ ty 106 w.heap.size (i + m) (n + m - (i + m)) dc ⟨b, off + i, none⟩ (n - i) sc (cs.drop i) t24 hsz (by rw [hdl]; simp only [Nat.min_def]; split <;> omega)
      (fun j v hj => by
        rw [Addr.add_lit, hWc, World.cell?_setCells_out _ _ _ _ _ (fun h _ => absurd h hbN), Nat.add_assoc]
        exact hOb _ v (hcs (i + j) v (by rwa [List.getElem?_drop] at hj)))
      (fun j hj => by rw [hWc]; exact isSome_setCells _ _ _ _ (fun t ht => hN _ (by omega)) _ (hN _ (by omega)))
      (fun j hj => by rw [hWf, World.frozen?_setCells]; exact hNf _) (fun v hv => h1c v (List.mem_of_mem_drop hv))
  subst hW1
  have hE1 : ∀ x, ((w.alloc (.cells ROW 106)).drew).cell? x = (w.drew.alloc (.cells ROW 106)).cell? x := fun x => rfl
  have hE2 : ∀ x, ((w.alloc (.cells ROW 106)).drew).frozen? x = (w.drew.alloc (.cells ROW 106)).frozen? x := fun x => rfl
  have hF1 : ∀ x, (((w.alloc (.cells ROW 106)).drew.setCells w.heap.size i vs).drew).cell? x = ((w.drew.alloc (.cells ROW 106)).setCells w.heap.size i vs).cell? x := fun x => rfl
  have hF2 : ∀ x, (((w.alloc (.cells ROW 106)).drew.setCells w.heap.size i vs).drew).frozen? x = ((w.drew.alloc (.cells ROW 106)).setCells w.heap.size i vs).frozen? x := fun x => rfl
  have hw1 : IntKind.i64.wrap ((i : Int) + (m : Int)) = (i : Int) + (m : Int) := by rw [IntKind.wrap_i64]; omega
  have hb1 : (0 : Int) ≤ (i : Int) + (m : Int) := by omega
  have hin : i ≤ n := by omega
  have htn : ((i : Int) + (m : Int)).toNat = i + m := by omega
  have hb3 : (i : Int) ≤ (n : Int) := by omega
  clear hkk hik hold hROW hG hRl
  go_enter Tryz.func81, Tryz.ntmps81
  go_wp2_with (first
    | (at_builtin; refine Lib.wpList_append_run _ rfl _ _ _ _ rfl _ _ rfl rfl _ _ (hrz _) ?_)
    | (at_builtin; refine wpList_copy_runI _ rfl _ _ 111 111 rfl _ _ rfl rfl (hcpA _ hE1 hE2 _ _) ?_)
    | (at_builtin; refine wpList_copy_runI _ rfl _ _ 111 111 rfl _ _ rfl rfl (hcpB _ (fun _ => rfl) (fun _ => rfl) _ _ _) ?_))
  go_region_law (refine step_copy_runI rfl _ _ 111 111 rfl (.slice (some ⟨w.heap.size, i + m, none⟩) (n + m - (i + m)) (G - (i + m))) (.slice (some ⟨b, off + i, none⟩) (n - i) (c - i)) (by simp [Act.eval, Act.put]) (by simp [Act.eval, Act.put]) (hcpB _ hF1 hF2 3 (G - (i + m)) (c - i)) ?_)
  go_wp2
  go_ret
  exact ⟨rfl, rfl⟩

theorem insert_calls (B : Nat) (v : Value) (xs : List Value) (n i X : Nat) (x : Value) (w : World) (h : w.ownsRow B 106 1 v n xs) (hi : i ≤ n) (h1 : ∀ u ∈ xs, u.oneCell' = true) (hx : x.oneCell' = true) (hn : n ≤ 65536) (hX : RowIs w X 106 #[x]) (hne : v.ownBlock ≠ some X) (hB : B ≤ w.heap.size) :
    Calls Tryz.prog 81 #[v, .int .i64 (i : Int), .slice (some ⟨X, 0, none⟩) 1 1] w fun e w' => ∃ v', e = .returned v' ∧ w'.ownsRow B 106 1 v' (n + 1) (xs.take i ++ x :: xs.drop i) ∧ w.grownBy w' v.ownBlock := by
  have hcs := fun g hg => h.cells (g := g) hg
  have h1v : ∀ u ∈ [x], u.oneCell' = true := fun u hu => by rw [List.mem_singleton] at hu; subst hu; exact hx
  have hvs : ∀ j u, [x][j]? = some u → w.cell? ⟨X, 0 + j, none⟩ = some u := fun j u hj => by
    rw [hX.cell, Nat.zero_add, List.getElem?_toArray]; exact hj
  obtain ⟨hl, hh⟩ := h
  have hl' : xs.length = n := by omega
  have hlen : (xs.take i ++ x :: xs.drop i).length = (n + 1) * 1 := by
    simp only [List.length_append, List.length_take, List.length_cons, List.length_drop]; omega
  rcases hh with ⟨rfl, hn0⟩ | ⟨g, cap, cur, rfl, hg, hh, hnc, hcm, hsz, hxs⟩
  · subst hn0
    obtain rfl : i = 0 := by omega
    refine (insert_end_grow none 0 0 X 0 1 1 xs [x] w (by omega) (by omega) (by omega) (by omega) hl' rfl (fun _ => rfl) (fun a ha => by cases ha) hvs h1v).mono ?_
    rintro e w' ⟨rfl, rfl⟩
    have hxn : xs = [] := List.length_eq_zero_iff.1 hl'
    subst hxn
    have hge := grownCap_ge w 1 0 106
    have hle := grownCap_le_maxLen w 1 0 106 (by unfold maxLen; omega)
    refine ⟨_, rfl, ⟨hlen, .inr ⟨w.heap.size, _, _, rfl, hB, RowIs.new w.drew _ _, hge, hle, ?_, ?_⟩⟩, ?_⟩
    · simp [Builtin.zeroCells, Value.cells]; omega
    · simp
    · have hb := (But.refl w.heap.size w).drew.alloc (.cells (([] ++ [x] : List Value).toArray ++ Builtin.zeroCells (Value.pointer none).cells (grownCap w (0 + 1) 0 106 - (0 + 1))) 106)
      exact ⟨hb.os, hb.tape, hb.output, hb.size, fun k hk _ => hb.block k hk (by omega)⟩
  · have hr : RowIs w g 106 cur := hh
    have hsz' : cur.size = cap := by omega
    unfold maxLen at hcm
    have hgX : X ≠ g := fun e => hne (by rw [e]; rfl)
    have hce : ∀ j u, xs[j]? = some u → w.cell? ⟨g, 0 + j, none⟩ = some u := fun j u hj => by have := hcs g rfl j u hj; rwa [Addr.add_mid] at this
    have e3 : cur.toList.take n = xs := by rw [← hxs]; congr 1; omega
    by_cases hroom : n + 1 ≤ cap
    · have hall : ∀ j, j < cap → (w.cell? ⟨g, j, none⟩).isSome = true := fun j hj => by rw [hr.cell, Array.getElem?_eq_getElem (by omega)]; rfl
      have grow : ∀ W, But g w W → w.grownBy W (some g) := fun W hb => ⟨hb.os, hb.tape, hb.output, hb.size, fun k hk hq => hb.block k hk (fun e => hq (by rw [e]))⟩
      by_cases hin : i = n
      · subst hin
        refine (insert_end_room g 0 i cap X 0 1 1 [x] w (by omega) hroom rfl (fun j hj => by rw [Nat.zero_add]; exact hall _ (by omega)) (fun j _ => hr.free _) hvs h1v).mono ?_
        rintro e w' ⟨rfl, rfl⟩
        have r1 := setCells_row g _ [x] (0 + i) w cur hr (by simp; omega)
        refine ⟨_, rfl, ⟨hlen, .inr ⟨g, cap, _, rfl, hg, r1, hroom, by unfold maxLen; omega, ?_, ?_⟩⟩, grow _ ((But.refl g w).setCells [x] (0 + i))⟩
        · simp only [List.size_toArray, List.length_append, List.length_take, List.length_drop, List.length_cons, List.length_nil, Array.length_toList]
          omega
        · rw [Nat.zero_add, Nat.mul_one]
          show ((cur.toList.take i ++ [x] ++ _).take (i + 1)) = _
          rw [e3, List.take_append_of_le_length (by simp [hl']), List.take_of_length_le (by simp [hl']), List.take_of_length_le (by omega), List.drop_eq_nil_of_le (by omega)]
      · refine (insert_shift g 0 n cap i X 0 1 1 xs [x] w (by omega) (by omega) hroom (by omega) hgX hl' rfl hce (fun j hj => by rw [Nat.zero_add]; exact hall _ (by omega)) (fun j _ => hr.free _) hvs h1 h1v 106 106 1 cap (by simp [World.shape?, show w.heap[X]? = _ from hX]) (by simp [World.shape?, hh, hsz']) (by omega) (hX.free _) (hX.free _)).mono ?_
        rintro e w' ⟨rfl, rfl⟩
        have r1 := setCells_row g _ (xs.drop i) (0 + (i + 1)) w.drew cur hr (by simp; omega)
        have hs1 : (cur.toList.take (0 + (i + 1)) ++ xs.drop i ++ cur.toList.drop (0 + (i + 1) + (xs.drop i).length)).toArray.size = cap := by
          simp only [List.size_toArray, List.length_append, List.length_take, List.length_drop, Array.length_toList]
          omega
        have r2 := setCells_row g _ [x] (0 + i) _ _ r1 (by rw [hs1]; simp; omega)
        refine ⟨_, rfl, ⟨hlen, .inr ⟨g, cap, _, rfl, hg, r2, hroom, by unfold maxLen; omega, ?_, ?_⟩⟩, grow _ (((But.refl g w).drew.setCells (xs.drop i) (0 + (i + 1))).setCells [x] (0 + i))⟩
        · simp only [List.size_toArray, List.length_append, List.length_take, List.length_drop, List.length_cons, List.length_nil, Array.length_toList]
          omega
        · have e4 : cur.toList.take i = xs.take i := by rw [← e3, List.take_take]; congr 1; omega
          have e5 : (cur.toList.take (i + 1)).length = i + 1 := by rw [List.length_take, Array.length_toList]; omega
          simp only [Nat.zero_add, Nat.mul_one]
          have e6 : ((cur.toList.take (i + 1) ++ xs.drop i ++ cur.toList.drop (i + 1 + (xs.drop i).length)).take i) = xs.take i := by
            rw [List.append_assoc, List.take_append_of_le_length (by omega), List.take_take, ← e4]; congr 1; omega
          have e7 : ((cur.toList.take (i + 1) ++ xs.drop i ++ cur.toList.drop (i + 1 + (xs.drop i).length)).drop (i + 1)) = xs.drop i ++ cur.toList.drop (i + 1 + (xs.drop i).length) := by
            rw [List.append_assoc, List.drop_append_of_le_length (by omega), List.drop_of_length_le (by omega), List.nil_append]
          simp only [List.length_cons, List.length_nil]
          rw [e6, Nat.zero_add, e7, ← List.append_assoc, List.take_append_of_le_length (by simp; omega), List.take_of_length_le (by simp; omega)]
          simp
    · have hcn : cap = n := by omega
      have hge := grownCap_ge w (n + 1) cap 106
      have hle := grownCap_le_maxLen w (n + 1) cap 106 (by unfold maxLen; omega)
      by_cases hin : i = n
      · subst hin
        refine (insert_end_grow (some ⟨g, 0, none⟩) i cap X 0 1 1 xs [x] w (by omega) hnc (by omega) (by omega) hl' rfl (fun q => by cases q) (fun a ha j u hj => by injection ha with ha; subst ha; exact hcs g rfl j u hj) hvs h1v).mono ?_
        rintro e w' ⟨rfl, rfl⟩
        refine ⟨_, rfl, ⟨hlen, .inr ⟨w.heap.size, _, _, rfl, hB, RowIs.new w.drew _ _, hge, hle, ?_, ?_⟩⟩, ?_⟩
        · simp [Builtin.zeroCells, Value.cells]; omega
        · rw [List.take_of_length_le (show xs.length ≤ i by omega), List.drop_eq_nil_of_le (by omega), Array.toList_append, List.take_append_of_le_length (by simp; omega), List.take_of_length_le (by simp; omega)]
        · have hb := (But.refl w.heap.size w).drew.alloc (.cells ((xs ++ [x]).toArray ++ Builtin.zeroCells (Value.pointer none).cells (grownCap w (i + 1) cap 106 - (i + 1))) 106)
          exact ⟨hb.os, hb.tape, hb.output, hb.size, fun k hk _ => hb.block k hk (by omega)⟩
      · refine (insert_grow g 0 n cap i X 0 1 1 xs [x] w (by omega) (by omega) hnc (by omega) (by omega) hl' rfl hce hvs h1 h1v).mono ?_
        rintro e w' ⟨rfl, rfl⟩
        obtain ⟨G, hG⟩ : ∃ G, G = grownCap w (n + 1) cap 106 := ⟨_, rfl⟩
        rw [← hG] at hge hle ⊢
        obtain ⟨ROW, hROW⟩ : ∃ ROW : Array Value, ROW = (xs.take i).toArray ++ Builtin.zeroCells (Value.pointer none).cells (n + 1 - i) ++ Builtin.zeroCells (Value.pointer none).cells (G - (n + 1)) := ⟨_, rfl⟩
        rw [← hROW]
        have hRl : ROW.size = G := by rw [hROW]; simp [Builtin.zeroCells, Value.cells]; omega
        have hRt : ROW.toList.take i = xs.take i := by
          rw [hROW, Array.toList_append, Array.toList_append, List.append_assoc, List.take_append_of_le_length (by simp; omega), List.take_of_length_le (by simp; omega)]
        clear hROW
        have r0 : RowIs (w.alloc (.cells ROW 106)).drew w.heap.size 106 ROW := RowIs.new w _ _
        have r1 := setCells_row w.heap.size _ [x] i _ _ r0 (by simp; omega)
        have hs1 : (ROW.toList.take i ++ [x] ++ ROW.toList.drop (i + [x].length)).toArray.size = G := by
          simp only [List.size_toArray, List.length_append, List.length_take, List.length_drop, List.length_cons, List.length_nil, Array.length_toList]
          omega
        have r2 := setCells_row w.heap.size _ (xs.drop i) (i + 1) _ _ r1.drew (by rw [hs1]; simp; omega)
        refine ⟨_, rfl, ⟨hlen, .inr ⟨w.heap.size, G, _, rfl, hB, r2, hge, hle, ?_, ?_⟩⟩, ?_⟩
        · simp only [List.size_toArray, List.length_append, List.length_take, List.length_drop, List.length_cons, List.length_nil, Array.length_toList]
          omega
        · rw [Nat.mul_one]
          show (((ROW.toList.take i ++ [x] ++ ROW.toList.drop (i + 1)).take (i + 1) ++ xs.drop i ++ _).take (n + 1)) = _
          rw [List.take_append_of_le_length (by simp; omega), List.take_of_length_le (by simp; omega), hRt, List.take_append_of_le_length (by simp; omega), List.take_of_length_le (by simp; omega)]
          simp
        · have hb := ((((But.refl w.heap.size w).alloc (.cells ROW 106)).drew.setCells [x] i).drew).setCells (xs.drop i) (i + 1)
          exact ⟨hb.os, hb.tape, hb.output, hb.size, fun k hk _ => hb.block k hk (by omega)⟩

end Go.Proofs.YtimkklaidodkdaaGreatDoor
