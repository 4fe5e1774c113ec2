/- node.Taker: Some, Number, text: walked. -/
/- node.Taker: hash: walked. -/
import Derived.Test.YtimkklaidodkdaaGreatDoorNodeEnc
import Derived.Lib.LazyBuf
namespace Go.Proofs.YtimkklaidodkdaaGreatDoor
open Go.RowKit

/-- A Taker in memory. -/
def TkAt (w : World) (b : Nat) (t : TkD) : Prop := RowIs w b 184 #[.string (strOf t.left), .bool t.bad]
theorem strOf_size (l : List UInt8) : (strOf l).size = l.length := by show l.toArray.size = _; simp
theorem strOf_nil : strOf [] = ⟨#[]⟩ := rfl
theorem strOf_take (l : List UInt8) (n : Nat) : (strOf l).extract 0 n = strOf (l.take n) := by
 apply ByteArray.ext; simp [strOf]
theorem strOf_drop (l : List UInt8) (n : Nat) : (strOf l).extract n (strOf l).size = strOf (l.drop n) := by
 apply ByteArray.ext
 have e := strOf_size l
 rw [e]
 simp [strOf]
 rw [List.take_of_length_le]
 rw [List.length_drop]; omega

set_option maxRecDepth 20000 in
theorem some_calls (b : Nat) (t : TkD) (n : Nat) (w : World) (h : TkAt w b t) (_hl : t.left.length ≤ 1048576) :
  Calls Tryz.prog 158 #[.pointer (some ⟨b, 0, none⟩), .int .i64 (n : Int)] w fun e w' => e = .returned (.string (strOf (tkSome t n))) ∧ TkAt w' b (tkNext t n) ∧ But b w w' := by
 have c0 : w.cell? ⟨b, 0, none⟩ = some (.string (strOf t.left)) := by rw [h.cell]; rfl
 have c1 : w.cell? ⟨b, 1, none⟩ = some (.bool t.bad) := by rw [h.cell]; rfl
 have f0 := h.free 0
 have f1 := h.free 1
 have hsz := strOf_size t.left
 have hout : tkOut t n = (t.bad || decide (t.left.length < n)) := rfl
 have r1 : ∀ v, RowIs (w.setCell ⟨b, 1, none⟩ v) b 184 #[.string (strOf t.left), v] := fun v => h.set 1 v
 have r2 : ∀ v u, RowIs ((w.setCell ⟨b, 1, none⟩ v).setCell ⟨b, 0, none⟩ u) b 184 #[u, v] := fun v u => (r1 v).set 0 u
 cases hb : t.bad with
 | true =>
  rw [hb] at c1 hout
  have hS : tkSome t n = [] := by rw [tkSome, hout]; rfl
  have hN : tkNext t n = ⟨t.left, true⟩ := by rw [tkNext, hout]; rfl
  have hr : TkAt (w.setCell ⟨b, 1, none⟩ (.bool true)) b (tkNext t n) := by rw [hN]; exact r1 _
  have hbt := (But.refl b w).setCell 1 (.bool true)
  rw [hS, strOf_nil]
  generalize tkNext t n = N at *
  have HR := Lib.hid hr
  generalize strOf t.left = S at *
  clear h r1 r2 hS hN hr hout hb
  go_enter Tryz.func158, Tryz.ntmps158
  go_wp2_with fail
  go_ret
  exact ⟨rfl, HR.out, hbt⟩
 | false =>
  rw [hb] at c1 hout
  by_cases hn : t.left.length < n
  ·have i1 : ((strOf t.left).size : Int) < (n : Int) := by rw [hsz]; omega
   rw [decide_eq_true hn] at hout
   have hS : tkSome t n = [] := by rw [tkSome, hout]; rfl
   have hN : tkNext t n = ⟨t.left, true⟩ := by rw [tkNext, hout]; rfl
   have hr : TkAt (w.setCell ⟨b, 1, none⟩ (.bool true)) b (tkNext t n) := by rw [hN]; exact r1 _
   have hbt := (But.refl b w).setCell 1 (.bool true)
   rw [hS, strOf_nil]
   generalize tkNext t n = N at *
   have HR := Lib.hid hr
   generalize strOf t.left = S at *
   clear h r1 r2 hS hN hr hout hb hsz
   go_enter Tryz.func158, Tryz.ntmps158
   go_wp2_with fail
   go_ret
   exact ⟨rfl, HR.out, hbt⟩
  ·have i1 : ¬ ((strOf t.left).size : Int) < (n : Int) := by rw [hsz]; omega
   have i2 : (n : Int) ≤ ((strOf t.left).size : Int) := by rw [hsz]; omega
   rw [decide_eq_false hn] at hout
   have hS : strOf (tkSome t n) = (strOf t.left).extract 0 n := by rw [tkSome, hout, strOf_take]; rfl
   have hN : tkNext t n = ⟨t.left.drop n, false⟩ := by rw [tkNext, hout]; rfl
   have hr : TkAt ((w.setCell ⟨b, 1, none⟩ (.bool false)).setCell ⟨b, 0, none⟩ (.string ((strOf t.left).extract n (strOf t.left).size))) b (tkNext t n) := by rw [hN, strOf_drop]; exact r2 _ _
   have hbt := ((But.refl b w).setCell 1 (.bool false)).setCell 0 (.string ((strOf t.left).extract n (strOf t.left).size))
   rw [hS]
   generalize tkNext t n = N at *
   have HR := Lib.hid hr
   generalize strOf t.left = S at *
   clear h r1 r2 hS hN hr hout hb hsz
   go_enter Tryz.func158, Tryz.ntmps158
   go_wp2_with fail
   go_ret
   exact ⟨rfl, HR.out, hbt⟩

theorem some_length (t : TkD) (n : Nat) : (tkSome t n).length = n ∨ tkSome t n = [] := by
 unfold tkSome tkOut
 cases hb : t.bad with
 | true => right; rfl
 | false =>
  by_cases h : t.left.length < n
  ·right; simp [h]
  ·left; rw [decide_eq_false h]
   show (t.left.take n).length = n
   rw [List.length_take]; omega
theorem next_left (t : TkD) (n : Nat) : (tkNext t n).left.length ≤ t.left.length := by
 unfold tkNext
 split
 ·exact Nat.le_refl _
 ·show (t.left.drop n).length ≤ _
  rw [List.length_drop]; omega
theorem tkN_num (t : TkD) (k : Nat) (h1 : 1 ≤ k) (h8 : k ≤ 8) : tkN (strOf (tkSome t k)) (k : Int) = numT t k := by
 have hd : (strOf (tkSome t k)).data.toList = tkSome t k := rfl
 rcases some_length t k with h | h
 ·have hok : tkOk (strOf (tkSome t k)) (k : Int) := ⟨by omega, by omega, by rw [strOf_size, h]; exact Int.le_refl _⟩
  rw [tkN, if_pos hok, hd, Int.toNat_natCast, List.take_of_length_le (by omega)]
  rfl
 ·rw [numT, h]
  have hno : ¬ tkOk (strOf ([] : List UInt8)) (k : Int) := by
   rintro ⟨_, _, q⟩
   rw [strOf_size] at q
   simp at q; omega
  rw [tkN, if_neg hno]; rfl

set_option maxRecDepth 20000 in
theorem tnumber_calls (b : Nat) (t : TkD) (k : Nat) (w : World) (h : TkAt w b t) (hl : t.left.length ≤ 1048576) (h1 : 1 ≤ k) (h8 : k ≤ 8) :
  Calls Tryz.prog 134 #[.pointer (some ⟨b, 0, none⟩), .int .i64 (k : Int)] w fun e w' => e = .returned (.int .u64 (numT t k : Int)) ∧ TkAt w' b (tkNext t k) ∧ But b w w' := by
 have hso := some_calls b t k w h hl
 have htk := fun w => take_calls (strOf (tkSome t k)) (k : Int) w (by rw [strOf_size]; rcases some_length t k with q | q <;> rw [q] <;> unfold maxLen <;> first | omega | decide)
 rw [tkN_num t k h1 h8] at htk
 generalize numT t k = N at *
 generalize tkNext t k = T at *
 generalize strOf (tkSome t k) = S at *
 generalize tkS S (k : Int) = S2 at *
 generalize tkE S (k : Int) = E2 at *
 go_enter Tryz.func134, Tryz.ntmps134
 go_wp2_with fail
 refine hso.mono ?_
 rintro e w1 ⟨rfl, hT, hb⟩
 go_wp2_with fail
 refine (htk w1).mono ?_
 rintro e w2 ⟨rfl, hb2⟩
 have hT2 : TkAt w2 b T := RowIs.below hT hb2 (RowIs.lt hT)
 have hb3 := hb.trans (But.of hb2)
 have HT2 := Lib.hid hT2
 clear hT hb hb2 hT2
 go_wp2_with fail
 go_ret
 exact ⟨rfl, HT2.out, hb3⟩

set_option maxRecDepth 20000 in
theorem ttext_calls (b : Nat) (t : TkD) (w : World) (h : TkAt w b t) (hl : t.left.length ≤ 1048576) :
  Calls Tryz.prog 135 #[.pointer (some ⟨b, 0, none⟩)] w fun e w' => e = .returned (.string (strOf (txT t))) ∧ TkAt w' b (txN t) ∧ But b w w' := by
 have hnum := tnumber_calls b t 1 w h hl (by omega) (by omega)
 have hlt := numT_lt t 1
 have hnl := next_left t 1
 have hso := fun w h => some_calls b (tkNext t 1) (numT t 1) w h (by omega)
 have hT : tkSome (tkNext t 1) (numT t 1) = txT t := rfl
 have hN : tkNext (tkNext t 1) (numT t 1) = txN t := rfl
 rw [hT, hN] at hso
 rw [show ((1 : Nat) : Int) = 1 from rfl] at hnum
 have hw : IntKind.i64.wrap (numT t 1 : Int) = (numT t 1 : Int) := by rw [IntKind.wrap_i64]; omega
 generalize strOf (txT t) = S at *
 generalize txN t = T at *
 generalize numT t 1 = n at *
 generalize tkNext t 1 = T1 at *
 clear hT hN
 go_enter Tryz.func135, Tryz.ntmps135
 go_wp2_with fail
 refine hnum.mono ?_
 rintro e w1 ⟨rfl, hT1, hb⟩
 have hso1 := hso w1 hT1
 clear hso hT1
 go_wp2_with fail
 refine hso1.mono ?_
 rintro e w2 ⟨rfl, hT2, hb2⟩
 have hb3 := hb.trans hb2
 have HT2 := Lib.hid hT2
 clear hT2 hb hb2
 go_wp2_with fail
 go_ret
 exact ⟨rfl, HT2.out, hb3⟩

end Go.Proofs.YtimkklaidodkdaaGreatDoor

namespace Go.Proofs.YtimkklaidodkdaaGreatDoor
open Go.RowKit

set_option maxRecDepth 20000 in
set_option maxHeartbeats 1600000 in
theorem thash_calls (b : Nat) (t : TkD) (w : World) (h : TkAt w b t) (hl : t.left.length ≤ 1048576) :
  Calls Tryz.prog 136 #[.pointer (some ⟨b, 0, none⟩)] w fun e w' => e = .returned (.agg (byteCells (hashT t))) ∧ TkAt w' b (tkNext t 32) ∧ But b w w' := by
 obtain ⟨H, hH⟩ : ∃ H, H = w.heap.size := ⟨_, rfl⟩
 obtain ⟨W, hW⟩ : ∃ W, W = w.alloc (.cells (byteCells (List.replicate 32 0)) 36) := ⟨_, rfl⟩
 have hHb : H ≠ b := by rw [hH]; have := RowIs.lt h; omega
 have hT1 : TkAt W b t := by rw [hW]; exact RowIs.alloc h _
 have hR1 : RowIs W H 36 (byteCells (List.replicate 32 0)) := by rw [hW, hH]; exact RowIs.new w _ _
 have hB1 : But b w W := by rw [hW]; exact (But.refl b w).alloc _
 have hHw : w.heap.size ≤ H := by rw [hH]; exact Nat.le_refl _
 have hso := fun w h => some_calls b t 32 w h hl
 have hRl := hashT_length t
 have hrow : ∀ w2, RowIs w2 H 36 (byteCells (List.replicate 32 0)) → RowIs (w2.setCells H 0 ((strOf (tkSome t 32)).data.toList.map fun x => Value.int .u8 (x.toNat : Int))) H 36 (byteCells (hashT t)) := by
  intro w2 h2
  have hd : (strOf (tkSome t 32)).data.toList = tkSome t 32 := rfl
  rw [hd]
  rcases some_length t 32 with q | q
  ·have e : hashT t = tkSome t 32 := by rw [hashT, padTo, q]; simp
   rw [e]
   exact store_row (D := byteCells (tkSome t 32)) h2 (by rw [byteCells_size, byteCells_size, q]; rfl)
  ·have e : hashT t = List.replicate 32 0 := by rw [hashT, q]; rfl
   rw [e, q]
   exact h2
 have hbut : ∀ w2, But b w w2 → ∀ (vs : List Value) (o : Nat), But b w (w2.setCells H o vs) := by
  intro w2 hb vs
  induction vs generalizing w2 with
  | nil => intro o; exact hb
  | cons x vs ih =>
   intro o
   refine ih _ ?_ _
   exact ⟨hb.os, hb.tape, hb.output, by simpa [World.setCell] using hb.size, fun k hk hne => by
    rw [← hb.block k hk hne]
    exact Below.heap_setCell _ _ _ _ (fun q => by simp at q; omega)⟩
 have hbut' := hbut
 have hSle : (strOf (tkSome t 32)).size ≤ 32 := by rw [strOf_size]; rcases some_length t 32 with q | q <;> rw [q] <;> simp
 have hone := byteCells_one (hashT t)
 have hsz : (Tryz.prog.info? 36).map (·.size) = some (byteCells (hashT t)).size := by rw [byteCells_size, hRl]; kernel_rfl
 have hcs : (byteCells (hashT t)).size = 32 := by rw [byteCells_size, hRl]
 generalize tkNext t 32 = T at *
 generalize hashT t = R at *
 generalize strOf (tkSome t 32) = S at *
 have HW := Lib.hid hW
 have HH := Lib.hid hH
 clear hW hH h hRl
 rw [show ((32 : Nat) : Int) = 32 from rfl] at hso
 go_enter Tryz.func136, Tryz.ntmps136
 go_wp2_with fail
 change Code.wp _ _ _ _ (w.alloc (.cells (byteCells (List.replicate 32 0)) 36))
 rw [← HW.out, ← HH.out]
 refine wp_region_held_drew (S := fun _ => True) (by kernel_rfl) trivial (fun hHeld => ?_)
 have hTv := RowIs.drew hT1
 have hRv := RowIs.drew hR1
 have hBv := But.drew hB1
 generalize W.drew = wv at *
 refine take_N (i := 0) (v := ?_) (some 3) #[true, false, false, false] rfl rfl (by kernel_rfl) (by kernel_rfl) (by kernel_rfl) (by kernel_rfl) (fun _ _ _ h => h) trivial (Or.inl ⟨by rfl, ?_⟩) ?_
 rotate_left
 ·intro w_ hSw_; go_simp; try with_reducible rfl
 try simp only [Act.put, List.setIfInBounds_toArray, List.set_cons_zero, List.set_cons_succ]
 refine take_N (i := 1) (v := ?_) (some 4) #[true, true, false, false] rfl rfl (by kernel_rfl) (by kernel_rfl) (by kernel_rfl) (by kernel_rfl) (fun _ _ _ h => h) trivial (Or.inl ⟨by rfl, ?_⟩) ?_
 rotate_left
 ·intro w_ hSw_; go_simp; try with_reducible rfl
 try simp only [Act.put, List.setIfInBounds_toArray, List.set_cons_zero, List.set_cons_succ]
 refine step_N (i := 2) #[true, true, true, false] rfl (by kernel_rfl) (by kernel_rfl) (fun K hK => ?_)
 rw [if_pos (by rfl)]
 go_simp
 refine (hso wv hTv).mono ?_
 rintro e w2 ⟨rfl, hT2, hb2⟩
 have hR2 := hRv.but hb2 hHb
 have hB2 := hBv.trans hb2
 clear hb2 hTv hRv hBv hso
 refine hK.out _ _ trivial ?_
 clear hK K
 refine step_N (i := 3) #[true, true, true, true] rfl (by kernel_rfl) (by kernel_rfl) (fun K hK => ?_)
 refine step_copy_string rfl _ _ 75 9 rfl 5 Tryz.underlying75 Tryz.sizeOf5 H 0 32 32 (by rfl) S (by rfl) hSle (fun j hj => by rw [Nat.zero_add, hR2.byte j (by simp; omega)]; rfl) (fun j _ => hR2.free _) ?_
 have hrw : RowIs (w2.setCells H 0 (S.data.toList.map fun x => Value.int .u8 (x.toNat : Int))) H 36 (byteCells R) := hrow w2 hR2
 have hT3 : TkAt (w2.setCells H 0 (S.data.toList.map fun x => Value.int .u8 (x.toNat : Int))) b T := (setCells_other H b (fun q => hHb q.symm) _ 0 w2).trans hT2
 have hB3 := hbut w2 hB2 (S.data.toList.map fun x => Value.int .u8 (x.toNat : Int)) 0
 generalize w2.setCells H 0 (S.data.toList.map fun x => Value.int .u8 (x.toNat : Int)) = w3 at *
 clear hrow hbut hR2 hT2 hB2
 refine hK.out _ _ trivial ?_
 clear hK K
 refine wpAnyH_done (by kernel_rfl) ?_ _
 clear hHeld

 have hthere := hrw.there 0 (byteCells R).size (by omega)
 have hst := store_row hrw (D := byteCells R) rfl
 have hT4 : TkAt (w3.setCells H 0 (byteCells R).toList) b T := (setCells_other H b (fun q => hHb q.symm) _ 0 w3).trans hT3
 have hB4 := hbut' w3 hB3 (byteCells R).toList 0
 have Hst := Lib.hid hst
 have HT4 := Lib.hid hT4
 have HB4 := Lib.hid hB4
 clear hst hT4 hB4 hbut'
 go_wp2_with (first | (refine wpList_load_row rfl 36 _ rfl H rfl 36 (byteCells R) (0, 0) _ hrw Tryz.underlying36 rfl hsz ?_) | (refine wpList_store_mid rfl 36 _ _ rfl H 0 (byteCells R) rfl rfl hthere hsz hone ?_))
 refine bodyPost_ret (v := .agg (byteCells R)) (results_cell_row (p := 2) (ty := 36) (by rfl) _ _ H 36 (byteCells R) (0, 0) _ (by rfl) Hst.out Tryz.underlying36 (by rfl) hsz) (by rfl) ?_
 exact ⟨rfl, HT4.out, HB4.out⟩

end Go.Proofs.YtimkklaidodkdaaGreatDoor
