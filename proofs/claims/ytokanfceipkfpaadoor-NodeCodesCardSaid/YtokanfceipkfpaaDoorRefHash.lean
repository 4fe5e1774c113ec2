/- cambiumref05.Bag.hash: walked; what the reference takes, plainly. -/
import Derived.Test.YtokanfceipkfpaaDoorRefText
import Derived.Test.YtokanfceipkfpaaDoorTake5
namespace Go.Proofs.YtokanfceipkfpaaDoor
open Go.RowKit

theorem hashT_bg (t : TkD) : hashT t = bgSome t 32 := by
  unfold hashT bgSome tkSome
  cases h : tkOut t 32 with
  | true => rfl
  | false =>
    have h2 : ¬ t.left.length < 32 := by
      unfold tkOut at h
      rw [Bool.or_eq_false_iff, decide_eq_false_iff_not] at h
      exact h.2
    have h3 : (t.left.take 32).length = 32 := by rw [List.length_take]; omega
    show padTo 32 (t.left.take 32) = t.left.take 32
    rw [padTo, h3]; simp
theorem out_bad {t : TkD} {n : Nat} (h : (tkNext t n).bad = false) : tkOut t n = false := by
  unfold tkNext at h
  cases ho : tkOut t n with
  | true => rw [ho, if_pos rfl] at h; cases h
  | false => rfl
theorem next_ok {t : TkD} {n : Nat} (h : (tkNext t n).bad = false) : t.bad = false := by
  have := out_bad h
  unfold tkOut at this
  exact (Bool.or_eq_false_iff.1 this).1
theorem bgTx_ok {t : TkD} (h : (txN t).bad = false) : bgTx t = txT t := by
  unfold txN at h
  have := out_bad h
  unfold bgTx txT bgSome tkSome
  rw [this]; rfl
theorem txN_ok {t : TkD} (h : (txN t).bad = false) : t.bad = false := next_ok (next_ok h)

def itemTR (t : TkD) : ItemD := ⟨strOf (bgTx t), strOf (bgTx (txN t))⟩
def kidTR (t : TkD) : KidD := ⟨strOf (bgTx t), numT (txN t) 4, hashT (tkNext (txN t) 4)⟩
def volTR (t : TkD) : VolD := { volT t with name := strOf (bgTx t), frm := strOf (bgTx (txN t)) }
theorem itemTR_ok {t : TkD} (h : (itemN t).bad = false) : itemTR t = itemT t := by
  unfold itemTR itemT
  rw [bgTx_ok (txN_ok h), bgTx_ok h]
theorem kidTR_ok {t : TkD} (h : (kidN t).bad = false) : kidTR t = kidT t := by
  unfold kidTR kidT
  rw [bgTx_ok (next_ok (next_ok h))]
theorem volTR_ok {t : TkD} (h : (volN t).bad = false) : volTR t = volT t := by
  have h1 := next_ok (next_ok (next_ok (next_ok h)))
  unfold volTR
  rw [bgTx_ok h1, bgTx_ok (txN_ok h1)]
  rfl
/-- As manyT, manyN, but nothing is taken where it is bad ahead. -/
def manyTR {α : Type} (f : TkD → α) (g : TkD → TkD) (c : Nat) (t : TkD) : List α := if t.bad then [] else manyT f g c t
def manyNR (g : TkD → TkD) (c : Nat) (t : TkD) : TkD := if t.bad then t else manyN g c t
theorem manyR_end {α : Type} {f : TkD → α} {g : TkD → TkD} {c : Nat} {t : TkD} (h : c = 0 ∨ t.bad = true) : manyTR f g c t = [] ∧ manyNR g c t = t := by
  unfold manyTR manyNR
  rcases h with rfl | h
  · simp [manyT, manyN]
  · simp [h]
theorem manyR_more {α : Type} {f : TkD → α} {g : TkD → TkD} {c : Nat} {t : TkD} (hc : c ≠ 0) (h : t.bad = false) : manyTR f g c t = f t :: manyTR f g (c - 1) (g t) ∧ manyNR g c t = manyNR g (c - 1) (g t) := by
  cases c with
  | zero => exact absurd rfl hc
  | succ c =>
    unfold manyTR manyNR
    rw [h, manyT, manyN]
    exact ⟨rfl, rfl⟩
theorem many_congr {α : Type} {f f' : TkD → α} {g : TkD → TkD} (hf : ∀ t, (g t).bad = false → f t = f' t) : ∀ (c : Nat) (t : TkD), (manyN g c t).bad = false → manyT f g c t = manyT f' g c t
  | 0, _, _ => rfl
  | c + 1, t, h => by
    rw [manyN] at h
    rw [manyT, manyT]
    cases hb : (g t).bad with
    | true => rw [hb, if_pos rfl] at h; exact absurd (hb.symm.trans h) (by decide)
    | false =>
      rw [hb, if_neg (by decide)] at h
      rw [hf t hb, many_congr hf c (g t) h]
/-- A body that is bad has no count. -/
theorem body_count (t : TkD) (h : (bodyT t).bad = true) : countT t = 0 := by
  unfold bodyT tkNext at h
  unfold countT numT tkSome
  cases ho : tkOut (tkNext t 1) 1 with
  | true => rfl
  | false =>
    change (if tkOut (tkNext t 1) 1 = true then (⟨(tkNext t 1).left, true⟩ : TkD) else ⟨(tkNext t 1).left.drop 1, false⟩).bad = true at h
    rw [ho] at h
    cases h
theorem manyR_start {α : Type} (f : TkD → α) (g : TkD → TkD) (t : TkD) : manyTR f g (countT t) (bodyT t) = manyT f g (countT t) (bodyT t) ∧ manyNR g (countT t) (bodyT t) = manyN g (countT t) (bodyT t) := by
  unfold manyTR manyNR
  cases h : (bodyT t).bad with
  | false => exact ⟨rfl, rfl⟩
  | true => rw [body_count t h]; exact ⟨rfl, rfl⟩
/-- What the reference takes. -/
def takeNR (t : TkD) : NodeD :=
  if kindT t = 1 then ⟨1, manyT itemTR itemN (countT t) (bodyT t), [], []⟩
  else if kindT t = 2 then ⟨2, [], manyT kidTR kidN (countT t) (bodyT t), []⟩
  else if kindT t = 3 then ⟨3, [], [], manyT volTR volN (countT t) (bodyT t)⟩
  else ⟨kindT t, [], [], []⟩
theorem takeNR_ok (t : TkD) (h : (takeX t).bad = false) : takeNR t = takeN t := by
  unfold takeX at h
  unfold takeNR takeN
  by_cases h1 : kindT t = 1
  · rw [if_pos h1] at h
    rw [if_pos h1, if_pos h1, many_congr (fun t => itemTR_ok) _ _ h]
  rw [if_neg h1] at h
  rw [if_neg h1, if_neg h1]
  by_cases h2 : kindT t = 2
  · rw [if_pos h2] at h
    rw [if_pos h2, if_pos h2, many_congr (fun t => kidTR_ok) _ _ h]
  rw [if_neg h2] at h
  rw [if_neg h2, if_neg h2]
  by_cases h3 : kindT t = 3
  · rw [if_pos h3] at h
    rw [if_pos h3, if_pos h3, many_congr (fun t => volTR_ok) _ _ h]
  · rw [if_neg h3, if_neg h3]
theorem kidTR_wf (t : TkD) : (kidTR t).wf := ⟨numT_lt _ 4, hashT_length _⟩
theorem volTR_wf (t : TkD) : (volTR t).wf := volT_wf t
theorem takeNR_wf (t : TkD) : (takeNR t).wf := by
  have hk : kindT t < 256 := numT_lt t 1
  unfold takeNR
  split
  · exact ⟨by simp, by simp, by simp⟩
  · split
    · exact ⟨by simp, fun k hk => manyT_mem (p := KidD.wf) (fun t => kidTR_wf t) _ _ k hk, by simp⟩
    · split
      · exact ⟨by simp, by simp, fun v hv => manyT_mem (p := VolD.wf) (fun t => volTR_wf t) _ _ v hv⟩
      · exact ⟨hk, by simp, by simp⟩

set_option maxRecDepth 20000 in
set_option maxHeartbeats 1600000 in
theorem bghash_calls (b : Nat) (t : TkD) (w : World) (h : BgAt w b t) :
    Calls Tryd.prog 47 #[.pointer (some ⟨b, 0, none⟩)] w fun e w' => e = .returned (.agg (byteCells (hashT t))) ∧ BgAt w' b (tkNext t 32) ∧ But b w w' := by
  obtain ⟨G, hG⟩ : ∃ G, G = w.heap.size := ⟨_, rfl⟩
  obtain ⟨W0, hW0⟩ : ∃ W, W = w.alloc (.cells (byteCells (List.replicate 32 0)) 53) := ⟨_, rfl⟩
  obtain ⟨H, hH⟩ : ∃ H, H = W0.heap.size := ⟨_, rfl⟩
  obtain ⟨W, hW⟩ : ∃ W, W = W0.alloc (.cells (byteCells (List.replicate 32 0)) 53) := ⟨_, rfl⟩
  have hGb : G ≠ b := by rw [hG]; have := RowIs.lt h; omega
  have hT0 : BgAt W0 b t := by rw [hW0]; exact RowIs.alloc h _
  have hHb : H ≠ b := by rw [hH]; have := RowIs.lt hT0; omega
  have hP0 : RowIs W0 G 53 (byteCells (List.replicate 32 0)) := by rw [hW0, hG]; exact RowIs.new w _ _
  have hGH : G ≠ H := by rw [hH]; have := hP0.lt; omega
  have hT1 : BgAt W b t := by rw [hW]; exact RowIs.alloc hT0 _
  have hP1 : RowIs W G 53 (byteCells (List.replicate 32 0)) := by rw [hW]; exact RowIs.alloc hP0 _
  have hR1 : RowIs W H 53 (byteCells (List.replicate 32 0)) := by rw [hW, hH]; exact RowIs.new W0 _ _
  have hB0 : But b w W0 := by rw [hW0]; exact (But.refl b w).alloc _
  have hB1 : But b w W := by rw [hW]; exact hB0.alloc _
  have hGw : w.heap.size ≤ G := by rw [hG]; exact Nat.le_refl _
  have hHw : w.heap.size ≤ H := by rw [hH]; exact hB0.size
  have hso := fun w h => bgsome_calls b t 32 w h (by decide)
  have hRl := hashT_length t
  rw [← hashT_bg] at hso
  have hrow : ∀ w2, RowIs w2 H 53 (byteCells (List.replicate 32 0)) → RowIs (w2.setCells H 0 ((strOf (hashT t)).data.toList.map fun x => Value.int .u8 (x.toNat : Int))) H 53 (byteCells (hashT t)) := by
    intro w2 h2
    have hd : (strOf (hashT t)).data.toList = hashT t := rfl
    rw [hd]
    exact store_row (D := byteCells (hashT t)) h2 (by rw [byteCells_size, byteCells_size, hRl]; rfl)
  have hbut : ∀ (X : Nat), w.heap.size ≤ X → ∀ w2, But b w w2 → ∀ (vs : List Value) (o : Nat), But b w (w2.setCells X o vs) := by
    intro X hX w2 hb vs
    induction vs generalizing w2 with
    | nil => intro o; exact hb
    | cons x vs ih =>
      intro o
      refine ih _ ?_ _
      exact ⟨hb.os, hb.tape, hb.output, by simpa [World.setCell] using hb.size, fun k hk hne => by
        rw [← hb.block k hk hne]
        exact Below.heap_setCell _ _ _ _ (fun q => by simp at q; omega)⟩
  have hbutH := hbut H hHw
  have hbutG := hbut G hGw
  have hSle : (strOf (hashT t)).size ≤ 32 := by rw [strOf_size, hRl]; exact Nat.le_refl _
  have hone := byteCells_one (hashT t)
  have hsz : (Tryd.prog.info? 53).map (·.size) = some (byteCells (hashT t)).size := by rw [byteCells_size, hRl]; kernel_rfl
  have hcs : (byteCells (hashT t)).size = 32 := by rw [byteCells_size, hRl]
  generalize tkNext t 32 = T at *
  generalize hashT t = R at *
  generalize strOf R = S at *
  have HW := Lib.hid hW
  have HW0 := Lib.hid hW0
  have HH := Lib.hid hH
  have HG := Lib.hid hG
  have HGH := Lib.hid (show G + 1 = H by rw [hH, hW0, hG]; exact (Array.size_push _).symm)
  clear hW hH hW0 hG h hRl hbut hT0 hP0 hB0
  rw [show ((32 : Nat) : Int) = 32 from rfl] at hso
  go_enter Tryd.func47, Tryd.ntmps47
  go_wp2_with fail
  change Code.wp _ _ _ _ ((w.alloc (.cells (byteCells (List.replicate 32 0)) 53)).alloc (.cells (byteCells (List.replicate 32 0)) 53))
  rw [← HG.out, ← HW0.out, ← HW.out, HGH.out]
  refine wp_region_held_drew (S := fun _ => True) (by kernel_rfl) trivial (fun hHeld => ?_)
  have hTv := RowIs.drew hT1
  have hRv := RowIs.drew hR1
  have hPv := RowIs.drew hP1
  have hBv := But.drew hB1
  generalize W.drew = wv at *
  refine take_N (i := 0) (v := ?_) (some 4) #[true, false, false, false] rfl rfl (by kernel_rfl) (by kernel_rfl) (by kernel_rfl) (by kernel_rfl) (fun _ _ _ h => h) trivial (Or.inl ⟨by rfl, ?_⟩) ?_
  rotate_left
  · intro w_ hSw_; go_simp; try with_reducible rfl
  try simp only [Act.put, List.setIfInBounds_toArray, List.set_cons_zero, List.set_cons_succ]
  refine take_N (i := 1) (v := ?_) (some 5) #[true, true, false, false] rfl rfl (by kernel_rfl) (by kernel_rfl) (by kernel_rfl) (by kernel_rfl) (fun _ _ _ h => h) trivial (Or.inl ⟨by rfl, ?_⟩) ?_
  rotate_left
  · intro w_ hSw_; go_simp; try with_reducible rfl
  try simp only [Act.put, List.setIfInBounds_toArray, List.set_cons_zero, List.set_cons_succ]
  refine step_N (i := 2) #[true, true, true, false] rfl (by kernel_rfl) (by kernel_rfl) (fun K hK => ?_)
  rw [if_pos (by rfl)]
  go_simp
  refine (hso wv hTv).mono ?_
  rintro e w2 ⟨rfl, hT2, hb2⟩
  have hR2 := hRv.but hb2 hHb
  have hP2 := hPv.but hb2 hGb
  have hB2 := hBv.trans hb2
  clear hb2 hTv hRv hPv hBv hso
  refine hK.out _ _ trivial ?_
  clear hK K
  refine step_N (i := 3) #[true, true, true, true] rfl (by kernel_rfl) (by kernel_rfl) (fun K hK => ?_)
  refine step_copy_string rfl _ _ 43 9 rfl 5 Tryd.underlying43 Tryd.sizeOf5 H 0 32 32 (by rfl) S (by rfl) hSle (fun j hj => by rw [Nat.zero_add, hR2.byte j (by simp; omega)]; rfl) (fun j _ => hR2.free _) ?_
  have hrw : RowIs (w2.setCells H 0 (S.data.toList.map fun x => Value.int .u8 (x.toNat : Int))) H 53 (byteCells R) := hrow w2 hR2
  have hT3 : BgAt (w2.setCells H 0 (S.data.toList.map fun x => Value.int .u8 (x.toNat : Int))) b T := (setCells_other H b (fun q => hHb q.symm) _ 0 w2).trans hT2
  have hP3 : RowIs (w2.setCells H 0 (S.data.toList.map fun x => Value.int .u8 (x.toNat : Int))) G 53 (byteCells (List.replicate 32 0)) := (setCells_other H G hGH _ 0 w2).trans hP2
  have hB3 := hbutH w2 hB2 (S.data.toList.map fun x => Value.int .u8 (x.toNat : Int)) 0
  generalize w2.setCells H 0 (S.data.toList.map fun x => Value.int .u8 (x.toNat : Int)) = w3 at *
  clear hrow hbutH hR2 hT2 hB2 hP2
  refine hK.out _ _ trivial ?_
  clear hK K
  refine wpAnyH_done (by kernel_rfl) ?_ _
  clear hHeld
  have hthere := hP3.there 0 (byteCells R).size (by rw [hcs, byteCells_size]; exact Nat.le_refl _)
  have hst := store_row hP3 (D := byteCells R) (by rw [hcs, byteCells_size]; rfl)
  have hT4 : BgAt (w3.setCells G 0 (byteCells R).toList) b T := (setCells_other G b (fun q => hGb q.symm) _ 0 w3).trans hT3
  have hB4 := hbutG w3 hB3 (byteCells R).toList 0
  have Hst := Lib.hid hst
  have HT4 := Lib.hid hT4
  have HB4 := Lib.hid hB4
  clear hst hT4 hB4 hbutG
  go_wp2_with (first | (refine wpList_load_row rfl 53 _ rfl H rfl 53 (byteCells R) (0, 0) _ hrw Tryd.underlying53 rfl hsz ?_) | (refine wpList_store_mid rfl 53 _ _ rfl G 0 (byteCells R) rfl rfl hthere hsz hone ?_))
  refine bodyPost_ret (v := .agg (byteCells R)) (results_cell_row (p := 2) (ty := 53) (by rfl) _ _ G 53 (byteCells R) (0, 0) _ (by rfl) Hst.out Tryd.underlying53 (by rfl) hsz) (by rfl) ?_
  exact ⟨rfl, HT4.out, HB4.out⟩

end Go.Proofs.YtokanfceipkfpaaDoor
