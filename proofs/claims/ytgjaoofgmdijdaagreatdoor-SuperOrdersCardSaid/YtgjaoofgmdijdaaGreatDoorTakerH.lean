/- node.Taker: hash: walked. -/
import Derived.Test.YtgjaoofgmdijdaaGreatDoorTaker
import Derived.Lib.LazyBuf
namespace Go.Proofs.YtgjaoofgmdijdaaGreatDoor
open Go.RowKit

set_option maxRecDepth 20000 in
set_option maxHeartbeats 1600000 in
theorem thash_calls (b : Nat) (t : TkD) (w : World) (h : TkAt w b t) (hl : t.left.length ≤ 1048576) :
    Calls Tryz.prog 47 #[.pointer (some ⟨b, 0, none⟩)] w fun e w' => e = .returned (.agg (byteCells (hashT t))) ∧ TkAt w' b (tkNext t 32) ∧ But b w w' := by
  obtain ⟨H, hH⟩ : ∃ H, H = w.heap.size := ⟨_, rfl⟩
  obtain ⟨W, hW⟩ : ∃ W, W = w.alloc (.cells (byteCells (List.replicate 32 0)) 24) := ⟨_, rfl⟩
  have hHb : H ≠ b := by rw [hH]; have := RowIs.lt h; omega
  have hT1 : TkAt W b t := by rw [hW]; exact RowIs.alloc h _
  have hR1 : RowIs W H 24 (byteCells (List.replicate 32 0)) := by rw [hW, hH]; exact RowIs.new w _ _
  have hB1 : But b w W := by rw [hW]; exact (But.refl b w).alloc _
  have hHw : w.heap.size ≤ H := by rw [hH]; exact Nat.le_refl _
  have hso := fun w h => some_calls b t 32 w h hl
  have hRl := hashT_length t
  have hrow : ∀ w2, RowIs w2 H 24 (byteCells (List.replicate 32 0)) → RowIs (w2.setCells H 0 ((strOf (tkSome t 32)).data.toList.map fun x => Value.int .u8 (x.toNat : Int))) H 24 (byteCells (hashT t)) := by
    intro w2 h2
    have hd : (strOf (tkSome t 32)).data.toList = tkSome t 32 := rfl
    rw [hd]
    rcases some_length t 32 with q | q
    · have e : hashT t = tkSome t 32 := by rw [hashT, padTo, q]; simp
      rw [e]
      exact store_row (D := byteCells (tkSome t 32)) h2 (by rw [byteCells_size, byteCells_size, q]; rfl)
    · have e : hashT t = List.replicate 32 0 := by rw [hashT, q]; rfl
      rw [e, q]
      exact h2
  have hbut : ∀ w2, But b w w2 → ∀ (vs : List Value) (o : Nat), But b w (w2.setCells H o vs) := by
    intro w2 hb vs
    induction vs generalizing w2 with
    | nil => intro o; exact hb
    | cons x vs ih =>
      intro o
      refine ih _ ?_ _
      exact ⟨hb.os, hb.tape, hb.output, by simpa [World.setCell] using hb.size, fun k hk hne => by
        rw [← hb.block k hk hne]
        exact Below.heap_setCell _ _ _ _ (fun q => by simp at q; omega)⟩
  have hbut' := hbut
  have hSle : (strOf (tkSome t 32)).size ≤ 32 := by rw [strOf_size]; rcases some_length t 32 with q | q <;> rw [q] <;> simp
  have hone := byteCells_one (hashT t)
  have hsz : (Tryz.prog.info? 24).map (·.size) = some (byteCells (hashT t)).size := by rw [byteCells_size, hRl]; kernel_rfl
  have hcs : (byteCells (hashT t)).size = 32 := by rw [byteCells_size, hRl]
  generalize tkNext t 32 = T at *
  generalize hashT t = R at *
  generalize strOf (tkSome t 32) = S at *
  have HW := Lib.hid hW
  have HH := Lib.hid hH
  clear hW hH h hRl
  rw [show ((32 : Nat) : Int) = 32 from rfl] at hso
  go_enter Tryz.func47, Tryz.ntmps47
  go_wp2_with fail
  change Code.wp _ _ _ _ (w.alloc (.cells (byteCells (List.replicate 32 0)) 24))
  rw [← HW.out, ← HH.out]
  refine wp_region_held_drew (S := fun _ => True) (by kernel_rfl) trivial (fun hHeld => ?_)
  have hTv := RowIs.drew hT1
  have hRv := RowIs.drew hR1
  have hBv := But.drew hB1
  generalize W.drew = wv at *
  refine take_N (i := 0) (v := ?_) (some 3) #[true, false, false, false] rfl rfl (by kernel_rfl) (by kernel_rfl) (by kernel_rfl) (by kernel_rfl) (fun _ _ _ h => h) trivial (Or.inl ⟨by rfl, ?_⟩) ?_
  rotate_left
  · intro w_ hSw_; go_simp; try with_reducible rfl
  try simp only [Act.put, List.setIfInBounds_toArray, List.set_cons_zero, List.set_cons_succ]
  refine take_N (i := 1) (v := ?_) (some 4) #[true, true, false, false] rfl rfl (by kernel_rfl) (by kernel_rfl) (by kernel_rfl) (by kernel_rfl) (fun _ _ _ h => h) trivial (Or.inl ⟨by rfl, ?_⟩) ?_
  rotate_left
  · intro w_ hSw_; go_simp; try with_reducible rfl
  try simp only [Act.put, List.setIfInBounds_toArray, List.set_cons_zero, List.set_cons_succ]
  refine step_N (i := 2) #[true, true, true, false] rfl (by kernel_rfl) (by kernel_rfl) (fun K hK => ?_)
  rw [if_pos (by rfl)]
  go_simp
  refine (hso wv hTv).mono ?_
  rintro e w2 ⟨rfl, hT2, hb2⟩
  have hR2 := hRv.but hb2 hHb
  have hB2 := hBv.trans hb2
  clear hb2 hTv hRv hBv hso
  refine hK.out _ _ trivial ?_
  clear hK K
  refine step_N (i := 3) #[true, true, true, true] rfl (by kernel_rfl) (by kernel_rfl) (fun K hK => ?_)
  refine step_copy_string rfl _ _ 48 9 rfl 5 Tryz.underlying48 Tryz.sizeOf5 H 0 32 32 (by rfl) S (by rfl) hSle (fun j hj => by rw [Nat.zero_add, hR2.byte j (by simp; omega)]; rfl) (fun j _ => hR2.free _) ?_
  have hrw : RowIs (w2.setCells H 0 (S.data.toList.map fun x => Value.int .u8 (x.toNat : Int))) H 24 (byteCells R) := hrow w2 hR2
  have hT3 : TkAt (w2.setCells H 0 (S.data.toList.map fun x => Value.int .u8 (x.toNat : Int))) b T := (setCells_other H b (fun q => hHb q.symm) _ 0 w2).trans hT2
  have hB3 := hbut w2 hB2 (S.data.toList.map fun x => Value.int .u8 (x.toNat : Int)) 0
  generalize w2.setCells H 0 (S.data.toList.map fun x => Value.int .u8 (x.toNat : Int)) = w3 at *
  clear hrow hbut hR2 hT2 hB2
  refine hK.out _ _ trivial ?_
  clear hK K
  refine wpAnyH_done (by kernel_rfl) ?_ _
  clear hHeld

  have hthere := hrw.there 0 (byteCells R).size (by omega)
  have hst := store_row hrw (D := byteCells R) rfl
  have hT4 : TkAt (w3.setCells H 0 (byteCells R).toList) b T := (setCells_other H b (fun q => hHb q.symm) _ 0 w3).trans hT3
  have hB4 := hbut' w3 hB3 (byteCells R).toList 0
  have Hst := Lib.hid hst
  have HT4 := Lib.hid hT4
  have HB4 := Lib.hid hB4
  clear hst hT4 hB4 hbut'
  go_wp2_with (first | (refine wpList_load_row rfl 24 _ rfl H rfl 24 (byteCells R) (0, 0) _ hrw Tryz.underlying24 rfl hsz ?_) | (refine wpList_store_mid rfl 24 _ _ rfl H 0 (byteCells R) rfl rfl hthere hsz hone ?_))
  refine bodyPost_ret (v := .agg (byteCells R)) (results_cell_row (p := 2) (ty := 24) (by rfl) _ _ H 24 (byteCells R) (0, 0) _ (by rfl) Hst.out Tryz.underlying24 (by rfl) hsz) (by rfl) ?_
  exact ⟨rfl, HT4.out, HB4.out⟩

end Go.Proofs.YtgjaoofgmdijdaaGreatDoor
