/- cambiumref04.key, Check; cambiumref05.num, kids: walked. -/
/- cambiumref05.Size: walked. -/
/- cambiumref05.kids, volumes and Check: walked. -/
/- cambiumref05.Check: walked. -/
import Derived.Test.YtimkklaidodkdaaGreatDoorNodeVols
import Derived.Test.YtimkklaidodkdaaGreatDoorNodeShaped
import Derived.BigQuiet
import Derived.Laws.StructEq
namespace Go.Proofs.YtimkklaidodkdaaGreatDoor
open Go.RowKit

theorem rkey_calls (k : ByteArray) (w : World) : Calls Tryz.prog 160 #[.string k] w fun e w' => e = .returned (.bool (decide (k.size ≠ 0) && decide (k.size ≤ 48))) ∧ w' = w := by
 have hz : (k.toList == ByteArray.toList ⟨#[]⟩) = decide (k.size = 0) := by
  rw [ByteArray.toList_eq, ByteArray.toList_eq]
  have e : k.data.toList.length = k.size := Array.length_toList
  cases h : k.data.toList with
  | nil => rw [h] at e; simp at e; simp [← e]
  | cons a l => rw [h, List.length_cons] at e; rw [decide_eq_false (show ¬ k.size = 0 by omega)]; rfl
 have hz2 : (k.toList == []) = decide (k.size = 0) := by rw [← hz]; rw [ByteArray.toList_eq ⟨#[]⟩]
 by_cases h0 : k.size = 0
 ·have hr : (decide (k.size ≠ 0) && decide (k.size ≤ 48)) = false := by simp [h0]
  rw [hr]
  rw [decide_eq_true h0] at hz hz2
  clear hr
  go_enter Tryz.func160, Tryz.ntmps160
  go_wp2_with fail
  go_ret
  exact ⟨rfl, rfl⟩
 ·rw [decide_eq_false h0] at hz hz2
  by_cases h1 : k.size ≤ 48
  ·have i1 : (k.size : Int) ≤ 48 := by omega
   have hr : (decide (k.size ≠ 0) && decide (k.size ≤ 48)) = true := by simp [h0, h1]
   rw [hr]
   clear hr
   go_enter Tryz.func160, Tryz.ntmps160
   go_wp2_with fail
   go_ret
   exact ⟨rfl, rfl⟩
  ·have i1 : ¬ (k.size : Int) ≤ 48 := by omega
   have hr : (decide (k.size ≠ 0) && decide (k.size ≤ 48)) = false := by simp [h1]
   rw [hr]
   clear hr
   go_enter Tryz.func160, Tryz.ntmps160
   go_wp2_with fail
   go_ret
   exact ⟨rfl, rfl⟩

theorem rnum_calls (n : Nat) (w : World) : Calls Tryz.prog 161 #[.int .u32 (n : Int)] w fun e w' => e = .returned (.bool (blockN n)) ∧ w' = w := by
 have h : (2 ≤ n ∧ n < 65536 ∧ blockN n = true) ∨ (2 ≤ n ∧ ¬ n < 65536 ∧ blockN n = false) ∨ (¬ 2 ≤ n ∧ blockN n = false) := by
  unfold blockN
  by_cases h1 : 2 ≤ n <;> by_cases h2 : n < 65536 <;> simp [h1, h2]
 generalize blockN n = R at *
 rcases h with ⟨h1, h2, rfl⟩ | ⟨h1, h2, rfl⟩ | ⟨h1, rfl⟩
 ·have i1 : (2 : Int) ≤ (n : Int) := by omega
  have i2 : (n : Int) < 65536 := by omega
  go_enter Tryz.func161, Tryz.ntmps161
  go_wp2_with fail
  go_ret
  exact ⟨rfl, rfl⟩
 ·have i1 : (2 : Int) ≤ (n : Int) := by omega
  have i2 : ¬ (n : Int) < 65536 := by omega
  go_enter Tryz.func161, Tryz.ntmps161
  go_wp2_with fail
  go_ret
  exact ⟨rfl, rfl⟩
 ·have i1 : ¬ (2 : Int) ≤ (n : Int) := by omega
  go_enter Tryz.func161, Tryz.ntmps161
  go_wp2_with fail
  go_ret
  exact ⟨rfl, rfl⟩

theorem itemOk_ref (b : ByteArray) (x : ItemD) : itemOk b x = ((decide (x.key.size ≠ 0) && decide (x.key.size ≤ 48)) && (decide (x.val.size ≤ 160) && lessB b x.key)) := by
 rw [itemOk]
 cases h : lessB b x.key with
 | false => simp
 | true => simp [less_nonempty h]
theorem itemOk_ref0 (x : ItemD) : itemOk noName x = ((decide (x.key.size ≠ 0) && decide (x.key.size ≤ 48)) && decide (x.val.size ≤ 160)) := by
 rw [itemOk_ref, less_empty]
 by_cases h : x.key.size = 0 <;> simp [h]

set_option maxRecDepth 20000 in
set_option maxHeartbeats 3200000 in
theorem ritemCheck_calls (B : Nat) (v : Value) (l : List ItemD) (w : World) (h : ItemsAt B w v l) (hB : B ≤ w.heap.size) :
  Calls Tryz.prog 142 #[v] w fun e w' => e = .returned (.int .i64 (if itemsOk noName l then 0 else 4)) ∧ Below w.heap.size w w' := by
 obtain ⟨a, cap, rfl, hn, hr⟩ := h
 have hz : ∀ R : Int, (itemsOk noName l = true → R = 0) → (itemsOk noName l = false → R = 4) → (if itemsOk noName l then 0 else 4) = R := fun R h1 h2 => by
  cases hq : itemsOk noName l with
  | true => rw [h1 hq]; rfl
  | false => rw [h2 hq]; rfl
 generalize (if itemsOk noName l = true then (0 : Int) else 4) = X at *
 have HZ := Lib.hid hz
 have hnot : ∀ (x : Bool) (w : World), (Op.unary .not (.bool x)).run Tryz.prog w = .ok (.bool (!x)) w := fun _ _ => rfl
 clear hz
 unfold maxLen at hn
 go_enter Tryz.func142, Tryz.ntmps142
 go_wp2_with fail
 go_loopw [7] (fun v wr => ∃ t : Nat, t ≤ l.length ∧ v = .int .i64 t ∧ itemsOk noName l = itemsOk (prevKey l t) (l.drop t) ∧ Below w.heap.size w wr) (fun v _ => l.length - (intOf v).toNat)
 case atStart => exact ⟨0, by omega, rfl, rfl, Below.refl _ _⟩
 case round =>
  obtain ⟨t, ht, rfl, hok, hb⟩ := hrel
  by_cases hlt : t < l.length
  ·obtain ⟨b, o, rfl, hbB, hc⟩ := hr (by omega)
   have hci : wr.rangeAt b (o + t * 2) (itemV l[t]) := by
    have := rangeAt_below (hc t hlt) hb (by omega)
    rwa [List.getElem?_eq_getElem hlt] at this
   have c0 : wr.cell? ⟨b, o + t * 2, none⟩ = some (.string l[t].key) := hci 0 _ rfl
   have c1 : wr.cell? ⟨b, o + t * 2 + 1, none⟩ = some (.string l[t].val) := hci 1 _ rfl
   have hlti : (t : Int) < (l.length : Int) := by omega
   have HC := Lib.hid hc
   have Hok := Lib.hid hok
   clear hc hok hr hci
   have hdrop : l.drop t = l[t] :: l.drop (t + 1) := List.drop_eq_getElem_cons hlt
   have hprev : prevKey l (t + 1) = l[t].key := by simp [prevKey, List.getElem?_eq_getElem hlt]
   have hok' : itemsOk noName l = (itemOk (prevKey l t) l[t] && itemsOk (prevKey l (t + 1)) (l.drop (t + 1))) := by rw [Hok.out, hdrop, hprev]; rfl
   have hbW : Below w.heap.size w (wr.alloc (.cells #[.string l[t].key, .string l[t].val] 44)) := hb.alloc hb.size _
   have hfirst := itemOk_ref0 l[t]
   have hnext := itemOk_ref (prevKey l t) l[t]
   have hprv : ∀ h0 : 0 < t, prevKey l t = (l[t - 1]'(by omega)).key := fun h0 => by
    rw [prevKey, if_neg (by omega), List.getElem?_eq_getElem (by omega)]; rfl
   have hcp : ∀ h0 : 0 < t, wr.cell? ⟨b, o + (t - 1) * 2, none⟩ = some (.string (prevKey l t)) := fun h0 => by
    have := rangeAt_below (HC.out (t - 1) (by omega)) hb (by omega)
    rw [List.getElem?_eq_getElem (by omega)] at this
    rw [hprv h0]
    exact this 0 _ rfl
   have hbw : b < wr.heap.size := Nat.lt_of_lt_of_le (Nat.lt_of_lt_of_le hbB hB) hb.size
   have hzero : t = 0 → prevKey l t = noName := fun h0 => by rw [h0]; rfl
   go_wp2_with fail
   generalize hK : l[t].key = key at *
   generalize hV : l[t].val = val at *
   generalize hP : prevKey l t = prev at *
   have hc0' : (wr.alloc (.cells #[.string key, .string val] 44)).cell? ⟨wr.heap.size, 0, none⟩ = some (.string key) := by simp
   have hc1' : (wr.alloc (.cells #[.string key, .string val] 44)).cell? ⟨wr.heap.size, 1, none⟩ = some (.string val) := by simp
   have hcp' : ∀ h0 : 0 < t, (wr.alloc (.cells #[.string key, .string val] 44)).cell? ⟨b, o + (t - 1) * 2, none⟩ = some (.string prev) := fun h0 => by
    rw [World.cell?_alloc_past _ _ _ hbw]; exact hcp h0
   generalize wr.alloc (.cells #[.string key, .string val] 44) = W at *
   generalize wr.heap.size = G at *
   clear c0 c1 hcp hprv hb hbw hK hV hP
   have Hok' := Lib.hid hok'
   clear hok' hdrop hprev
   have hkc := fun w => rkey_calls key w
   generalize (decide (key.size ≠ 0) && decide (key.size ≤ 48)) = kb at *
   have Hfirst := Lib.hid hfirst
   have Hnext := Lib.hid hnext
   clear hfirst hnext
   cases kb with
   | false =>
    have hbad : itemsOk noName l = false := by rw [Hok'.out, Hnext.out]; rfl
    have hX := HZ.out 4 (fun h => by rw [hbad] at h; cases h) (fun _ => rfl)
    have HX := Lib.hid hX
    clear hX hbad
    go_quiet ((go_at_call 160; exact Calls.quiet_of_same (hkc _)))
    go_wp2_with fail
    go_ret
    exact ⟨by rw [HX.out]; rfl, below_drewN hbW _⟩
   | true =>
    by_cases hv : 160 < val.size
    ·have i1 : (160 : Int) < (val.size : Int) := by omega
     have i1d : decide ((160 : Int) < (val.size : Int)) = true := decide_eq_true i1
     have hbad : itemsOk noName l = false := by rw [Hok'.out, Hnext.out, decide_eq_false (show ¬ val.size ≤ 160 by omega)]; rfl
     have hX := HZ.out 4 (fun h => by rw [hbad] at h; cases h) (fun _ => rfl)
     have HX := Lib.hid hX
     clear hX hbad
     go_quiet ((go_at_call 160; exact Calls.quiet_of_same (hkc _)))
     go_wp2_with fail
     go_ret
     exact ⟨by rw [HX.out]; rfl, below_drewN hbW _⟩
    ·have i1 : ¬ (160 : Int) < (val.size : Int) := by omega
     have i1d : decide ((160 : Int) < (val.size : Int)) = false := decide_eq_false i1
     have hvd : decide (val.size ≤ 160) = true := decide_eq_true (by omega)
     by_cases h0 : t = 0
     ·subst h0
      have hgo : itemsOk noName l = itemsOk (prevKey l (0 + 1)) (l.drop (0 + 1)) := by
       rw [Hok'.out, hzero rfl, Hfirst.out, hvd]; rfl
      have Hgo := Lib.hid hgo
      clear hgo hvd
      go_quiet ((go_at_call 160; exact Calls.quiet_of_same (hkc _)))
      go_wp2_with fail
      go_roundw
      case rel => exact ⟨1, by omega, by go_num, Hgo.out, below_drewN hbW _⟩
      case measure => simp [intOf]; omega
     ·have hpos : (0 : Int) < (t : Int) := by omega
      have hcq := hcp' (by omega)
      have hposN : 0 < t := by omega
      have hdec : decide (0 < t) = true := decide_eq_true hposN
      have hm1 : ((t : Int) - 1).toNat = t - 1 := by omega
      have hm2 : (0 : Int) ≤ (t : Int) - 1 := by omega
      have hm3 : (t : Int) - 1 < (l.length : Int) := by omega
      have hls : Op.bytesLess prev.toList key.toList = lessB prev key := by rw [ByteArray.toList_eq, ByteArray.toList_eq]; rfl
      cases hle : lessB prev key with
      | true =>
       rw [hle] at hls
       have hgo : itemsOk noName l = itemsOk (prevKey l (t + 1)) (l.drop (t + 1)) := by
        rw [Hok'.out, Hnext.out, hvd, hle]; rfl
       have Hgo := Lib.hid hgo
       clear hgo hvd hle
       go_quiet ((go_at_call 160; exact Calls.quiet_of_same (hkc _)))
       go_wp2_with fail
       go_roundw
       case rel => exact ⟨t + 1, by omega, by go_num, Hgo.out, below_drewN hbW _⟩
       case measure => simp [intOf]; omega
      | false =>
       rw [hle] at hls
       have hbad : itemsOk noName l = false := by rw [Hok'.out, Hnext.out, hvd, hle]; rfl
       have hX := HZ.out 4 (fun h => by rw [hbad] at h; cases h) (fun _ => rfl)
       have HX := Lib.hid hX
       clear hX hbad hvd hle
       go_quiet ((go_at_call 160; exact Calls.quiet_of_same (hkc _)))
       go_wp2_with fail
       go_ret
       exact ⟨by rw [HX.out]; rfl, below_drewN hbW _⟩
  ·have htl : t = l.length := by omega
   have hgood : itemsOk noName l = true := by rw [hok, htl, List.drop_length]; rfl
   have hX := HZ.out 0 (fun _ => rfl) (fun h => by rw [hgood] at h; cases h)
   have HX := Lib.hid hX
   clear hX hgood hok
   go_wp2_with fail
   go_ret
   exact ⟨by rw [HX.out]; rfl, hb⟩

end Go.Proofs.YtimkklaidodkdaaGreatDoor

namespace Go.Proofs.YtimkklaidodkdaaGreatDoor
open Go.RowKit

set_option maxRecDepth 20000 in
set_option maxHeartbeats 3200000 in
theorem rsizew_calls (B : Nat) (v : Value) (n : NodeD) (w : World) (h : NodeAt B w v n) (hB : B ≤ w.heap.size) (hz : fitN n) :
  Calls Tryz.prog 145 #[v] w fun e w' => e = .returned (.int .i64 (sw (sizeN n))) ∧ Below w.heap.size w w' := by
 obtain ⟨hw, vi, vk, vv, rfl, h1, h2, h3⟩ := h
 obtain ⟨kind, items, kids, vols⟩ := n
 simp only [] at h1 h2 h3
 generalize hX : sizeN ⟨kind, items, kids, vols⟩ = X at *
 have HX := Lib.hid hX
 clear hX
 have hbW : Below w.heap.size w (w.alloc (.cells #[.int .u8 (kind : Int), vi, vk, vv] 28)) := (Below.refl _ _).alloc (Nat.le_refl _) _
 show Calls Tryz.prog 145 #[.agg #[.int .u8 (kind : Int), vi, vk, vv]] w _
 go_enter Tryz.func145, Tryz.ntmps145
 by_cases hk1 : kind = 1
 ·have i1 : (kind : Int) = 1 := by omega
  subst hk1
  have hX : X = 2 + (items.map itemS).sum := by rw [← HX.out, sizeN]; simp
  have hzz := hz.2.1
  simp only [] at hzz
  replace HX := Lib.hid hX
  clear hX hz
  clear h2
  clear h3
  generalize hl : (items.map itemS).sum = total at *
  generalize items = l at *
  obtain ⟨a, cap, rfl, hn, hr⟩ := h1
  unfold maxLen at hn
  go_wp2_with fail
  go_loopw [3, 17] (fun v3 v wr => ∃ t : Nat, t ≤ l.length ∧ v = .int .i64 t ∧ v3 = .int .i64 (sw (2 + ((l.take t).map itemS).sum)) ∧ Below w.heap.size w wr) (fun _ v _ => l.length - (intOf v).toNat)
  case atStart => exact ⟨0, by omega, rfl, sw_two, hbW⟩
  case round =>
   obtain ⟨t, ht, rfl, rfl, hb⟩ := hrel
   by_cases hlt : t < l.length
   ·obtain ⟨b, o, rfl, hbB, hc⟩ := hr (by omega)
    have hci : wr.rangeAt b (o + t * 2) (itemV l[t]) := by
     have := rangeAt_below (hc t hlt) hb (by omega)
     rwa [List.getElem?_eq_getElem hlt] at this
    have hst := sum_take_succ itemS l t hlt
    have hzt := hzz _ (List.getElem_mem hlt)
    have hlti : (t : Int) < (l.length : Int) := by omega
    have c0 : wr.cell? ⟨b, o + t * 2, none⟩ = some (.string l[t].key) := hci 0 _ rfl
    have c1 : wr.cell? ⟨b, o + t * 2 + 1, none⟩ = some (.string l[t].val) := hci 1 _ rfl
    have hS : itemS l[t] = 2 + l[t].key.size + l[t].val.size := rfl
    have hbW2 := hb.alloc hb.size (.cells #[.string l[t].key, .string l[t].val] 44)
    rw [hS] at hst
    generalize l[t].key = key at *
    generalize l[t].val = val at *
    generalize hq1 : ((l.take t).map itemS).sum = s1 at *
    generalize hq2 : ((l.take (t + 1)).map itemS).sum = s2 at *
    subst hst
    have Hq2 := Lib.hid hq2
    clear hc hr hb hS hq1 hq2 hzz
    generalize hy : sw (2 + s1) = y at *
    have Hy := Lib.hid hy
    clear hy
    go_wp2_with fail
    go_roundw
    case rel => exact ⟨t + 1, by omega, by go_num, by rw [Hq2.out, ← Nat.add_assoc]; exact sw_step (x := _) Hy.out (by first | (push_cast; omega) | omega), hbW2⟩
    case measure => simp [intOf]; omega
   ·have htl : t = l.length := by omega
    subst htl
    rw [List.take_length, hl]
    clear hr
    go_wp2_with fail
    go_ret
    exact ⟨by rw [HX.out]; rfl, hb⟩
 by_cases hk2 : kind = 2
 ·have i2 : (kind : Int) = 2 := by omega
  subst hk2
  have hX : X = 2 + (kids.map kidS).sum := by rw [← HX.out, sizeN]; simp
  have hzz := hz.2.2.1
  simp only [] at hzz
  replace HX := Lib.hid hX
  clear hX hz
  have hwf := hw.2.1
  clear h1
  clear h3
  generalize hl : (kids.map kidS).sum = total at *
  generalize kids = l at *
  obtain ⟨a, cap, rfl, hn, hr⟩ := h2
  unfold maxLen at hn
  go_wp2_with fail
  go_loopw [3, 37] (fun v3 v wr => ∃ t : Nat, t ≤ l.length ∧ v = .int .i64 t ∧ v3 = .int .i64 (sw (2 + ((l.take t).map kidS).sum)) ∧ Below w.heap.size w wr) (fun _ v _ => l.length - (intOf v).toNat)
  case atStart => exact ⟨0, by omega, rfl, sw_two, hbW⟩
  case round =>
   obtain ⟨t, ht, rfl, rfl, hb⟩ := hrel
   by_cases hlt : t < l.length
   ·obtain ⟨b, o, rfl, hbB, hc⟩ := hr (by omega)
    have hci : wr.rangeAt b (o + t * 34) (kidV l[t]) := by
     have := rangeAt_below (hc t hlt) hb (by omega)
     rwa [List.getElem?_eq_getElem hlt] at this
    have hst := sum_take_succ kidS l t hlt
    have hzt := hzz _ (List.getElem_mem hlt)
    have hlti : (t : Int) < (l.length : Int) := by omega
    have hwk := hwf l[t] (List.getElem_mem hlt)
    have hkl := kidV_length hwk.2
    have hone := kidV_one l[t]
    have hksz : (Tryz.prog.info? 38).map (·.size) = some (kidV l[t]).length := by rw [hkl]; kernel_rfl
    have hksz2 : (Tryz.prog.info? 38).map (·.size) = some (kidV l[t]).toArray.size := by rw [List.size_toArray, hkl]; kernel_rfl
    obtain ⟨W, W2, hW, hW2, hG, hb2, hthere⟩ := alloc_fill wr kidZ (kidV l[t]).toArray 38 (by rw [List.size_toArray, hkl]; rfl)
    have hbW2 := hb.trans (hb2.mono hb.size)
    have c0 : W2.cell? ⟨wr.heap.size, 0, none⟩ = some (.string l[t].key) := by rw [hG.cell]; rfl
    have hS : kidS l[t] = 37 + l[t].key.size := rfl
    have HW := Lib.hid hW
    have HW2 := Lib.hid hW2
    clear hW hW2 hG hb2 hkl hwk
    rw [hS] at hst
    generalize hkv : kidV l[t] = cs at *
    generalize l[t].key = key at *
    generalize hq1 : ((l.take t).map kidS).sum = s1 at *
    generalize hq2 : ((l.take (t + 1)).map kidS).sum = s2 at *
    subst hst
    have Hq2 := Lib.hid hq2
    clear hc hr hb hS hq1 hq2 hzz
    generalize hy : sw (2 + s1) = y at *
    have Hy := Lib.hid hy
    clear hy
    go_wp2_with (first | (refine wpList_world HW.out ?_) | (refine wpList_load_mid rfl 38 _ rfl b (o + t * 34) rfl cs _ hci Tryz.underlying38 rfl hksz ?_) | (refine wpList_store_mid rfl 38 _ _ rfl wr.heap.size 0 cs.toArray rfl rfl hthere hksz2 hone ?_; refine wpList_world HW2.out ?_))
    go_roundw
    case rel => exact ⟨t + 1, by omega, by go_num, by rw [Hq2.out, ← Nat.add_assoc]; exact sw_step (x := _) Hy.out (by first | (push_cast; omega) | omega), hbW2⟩
    case measure => simp [intOf]; omega
   ·have htl : t = l.length := by omega
    subst htl
    rw [List.take_length, hl]
    clear hr
    go_wp2_with fail
    go_ret
    exact ⟨by rw [HX.out]; rfl, hb⟩
 by_cases hk3 : kind = 3
 ·have i3 : (kind : Int) = 3 := by omega
  subst hk3
  have hX : X = 2 + (vols.map volS).sum := by rw [← HX.out, sizeN]; simp
  have hzz := hz.2.2.2
  simp only [] at hzz
  replace HX := Lib.hid hX
  clear hX hz
  have hwf := hw.2.2
  clear h1
  clear h2
  generalize hl : (vols.map volS).sum = total at *
  generalize vols = l at *
  obtain ⟨a, cap, rfl, hn, hr⟩ := h3
  unfold maxLen at hn
  go_wp2_with fail
  go_loopw [3, 53] (fun v3 v wr => ∃ t : Nat, t ≤ l.length ∧ v = .int .i64 t ∧ v3 = .int .i64 (sw (2 + ((l.take t).map volS).sum)) ∧ Below w.heap.size w wr) (fun _ v _ => l.length - (intOf v).toNat)
  case atStart => exact ⟨0, by omega, rfl, sw_two, hbW⟩
  case round =>
   obtain ⟨t, ht, rfl, rfl, hb⟩ := hrel
   by_cases hlt : t < l.length
   ·obtain ⟨b, o, rfl, hbB, hc⟩ := hr (by omega)
    have hci : wr.rangeAt b (o + t * 37) (volV l[t]) := by
     have := rangeAt_below (hc t hlt) hb (by omega)
     rwa [List.getElem?_eq_getElem hlt] at this
    have hst := sum_take_succ volS l t hlt
    have hzt := hzz _ (List.getElem_mem hlt)
    have hlti : (t : Int) < (l.length : Int) := by omega
    have hwk := hwf l[t] (List.getElem_mem hlt)
    have hkl := volV_length hwk.2.2.2
    have hone := volV_one l[t]
    have hksz : (Tryz.prog.info? 89).map (·.size) = some (volV l[t]).length := by rw [hkl]; kernel_rfl
    have hksz2 : (Tryz.prog.info? 89).map (·.size) = some (volV l[t]).toArray.size := by rw [List.size_toArray, hkl]; kernel_rfl
    obtain ⟨W, W2, hW, hW2, hG, hb2, hthere⟩ := alloc_fill wr volZ (volV l[t]).toArray 89 (by rw [List.size_toArray, hkl]; rfl)
    have hbW2 := hb.trans (hb2.mono hb.size)
    have c0 : W2.cell? ⟨wr.heap.size, 0, none⟩ = some (.string l[t].name) := by rw [hG.cell]; rfl
    have c2 : W2.cell? ⟨wr.heap.size, 2, none⟩ = some (.string l[t].frm) := by rw [hG.cell]; rfl
    have hS : volS l[t] = 47 + l[t].name.size + l[t].frm.size := rfl
    have HW := Lib.hid hW
    have HW2 := Lib.hid hW2
    clear hW hW2 hG hb2 hkl hwk
    rw [hS] at hst
    generalize hkv : volV l[t] = cs at *
    generalize l[t].name = key at *
    generalize l[t].frm = val at *
    generalize hq1 : ((l.take t).map volS).sum = s1 at *
    generalize hq2 : ((l.take (t + 1)).map volS).sum = s2 at *
    subst hst
    have Hq2 := Lib.hid hq2
    clear hc hr hb hS hq1 hq2 hzz
    generalize hy : sw (2 + s1) = y at *
    have Hy := Lib.hid hy
    clear hy
    go_wp2_with (first | (refine wpList_world HW.out ?_) | (refine wpList_load_mid rfl 89 _ rfl b (o + t * 37) rfl cs _ hci Tryz.underlying89 rfl hksz ?_) | (refine wpList_store_mid rfl 89 _ _ rfl wr.heap.size 0 cs.toArray rfl rfl hthere hksz2 hone ?_; refine wpList_world HW2.out ?_))
    go_roundw
    case rel => exact ⟨t + 1, by omega, by go_num, by rw [Hq2.out, ← Nat.add_assoc]; exact sw_step (x := _) Hy.out (by first | (push_cast; omega) | omega), hbW2⟩
    case measure => simp [intOf]; omega
   ·have htl : t = l.length := by omega
    subst htl
    rw [List.take_length, hl]
    clear hr
    go_wp2_with fail
    go_ret
    exact ⟨by rw [HX.out]; rfl, hb⟩
 ·clear hz
  have j1 : ¬ (kind : Int) = 1 := by omega
  have j2 : ¬ (kind : Int) = 2 := by omega
  have j3 : ¬ (kind : Int) = 3 := by omega
  have hX : X = 2 := by rw [← HX.out, sizeN]; simp [hk1, hk2, hk3]
  replace HX := Lib.hid hX
  clear hX
  go_wp2_with fail
  go_ret
  exact ⟨by rw [HX.out, ← sw_two]; rfl, hbW⟩

end Go.Proofs.YtimkklaidodkdaaGreatDoor

namespace Go.Proofs.YtimkklaidodkdaaGreatDoor
open Go.RowKit

end Go.Proofs.YtimkklaidodkdaaGreatDoor

namespace Go.Proofs.YtimkklaidodkdaaGreatDoor
open Go.RowKit

theorem str_empty (k : ByteArray) : (k.toList == ByteArray.toList ⟨#[]⟩) = decide (k.size = 0) ∧ (k.toList == []) = decide (k.size = 0) := by
 have hz : (k.toList == ByteArray.toList ⟨#[]⟩) = decide (k.size = 0) := by
  rw [ByteArray.toList_eq, ByteArray.toList_eq]
  have e : k.data.toList.length = k.size := Array.length_toList
  cases h : k.data.toList with
  | nil => rw [h] at e; simp at e; simp [← e]
  | cons a l => rw [h, List.length_cons] at e; rw [decide_eq_false (show ¬ k.size = 0 by omega)]; rfl
 exact ⟨hz, by rw [← hz]; rw [ByteArray.toList_eq ⟨#[]⟩]⟩
theorem wpList_skip {P : Program} {ops : Array Oper} {rest : List Oper} {o : Oper} {a : Act} {w : World} {Q : Exit → Act → World → Prop} (hw : Region.wanted o (yielded ops a.tmps) = false) (k : wpList P ops Q rest (a.put o.dst undef) w) : wpList P ops Q (o :: rest) a w := by
 unfold wpList
 rw [if_neg (by rw [hw]; exact Bool.false_ne_true)]
 exact k
theorem exec_neqR {P : Program} {o : Oper} {ev : Operand → Value} {w : World} {t t' : TypeId} {x y : Operand} {va vb : Array Value} {r : Bool} (ho : o.op = .binOp .neq t x y t') (hx : ev x = .agg va) (hy : ev y = .agg vb)
  (hg : P.eqGuardType P.depth t = false) (h : (binOp .neq t (.agg va) (.agg vb)).run P w = .ok (.bool r) w) : (execOp ev o).run P w = .ok (.value (.bool r)) w := by
 unfold execOp
 simp only [ho, hx, hy, Sem.run_bind, run_eqGuard_agg w .neq t x y va vb hg, Result.andThen_ok, h, Sem.run_pure]
theorem guard_32R : Tryz.prog.eqGuardType Tryz.prog.depth 36 = false := by kernel_rfl
theorem less_size0 {b k : ByteArray} (h : k.size = 0) : lessB b k = false := by
 cases q : lessB b k with
 | false => rfl
 | true =>
  have h2 := less_nonempty q
  simp [h] at h2
set_option maxRecDepth 20000 in
set_option maxHeartbeats 6400000 in
theorem rkids_calls (B : Nat) (v : Value) (l : List KidD) (w : World) (h : KidsAt B w v l) (hB : B ≤ w.heap.size) (hwf : ∀ k ∈ l, k.wf) :
  Calls Tryz.prog 143 #[v] w fun e w' => e = .returned (.bool (decide (0 < l.length) && decide (l.length ≤ 255) && kidsOk noName l)) ∧ Below w.heap.size w w' := by
 obtain ⟨a, cap, rfl, hn, hr⟩ := h
 generalize hX : (decide (0 < l.length) && decide (l.length ≤ 255) && kidsOk noName l) = X at *
 have HX := Lib.hid hX
 clear hX
 have hnot : ∀ (x : Bool) (w : World), (Op.unary .not (.bool x)).run Tryz.prog w = .ok (.bool (!x)) w := fun _ _ => rfl
 unfold maxLen at hn
 go_enter Tryz.func143, Tryz.ntmps143
 go_wp2_with fail
 go_loopw [7] (fun v wr => ∃ t : Nat, t ≤ l.length ∧ v = .int .i64 t ∧ kidsOk noName l = kidsOk (prevKid l t) (l.drop t) ∧ Below w.heap.size w wr) (fun v _ => l.length - (intOf v).toNat)
 case atStart => exact ⟨0, by omega, rfl, rfl, Below.refl _ _⟩
 case round =>
  obtain ⟨t, ht, rfl, hok, hb⟩ := hrel
  by_cases hlt : t < l.length
  ·obtain ⟨b, o, rfl, hbB, hc⟩ := hr (by omega)
   have hkw := hwf l[t] (List.getElem_mem hlt)
   have hci : wr.rangeAt b (o + t * 34) (kidV l[t]) := by
    have := rangeAt_below (hc t hlt) hb (by omega)
    rwa [List.getElem?_eq_getElem hlt] at this
   have hdrop : l.drop t = l[t] :: l.drop (t + 1) := List.drop_eq_getElem_cons hlt
   have hprev : prevKid l (t + 1) = l[t].key := by simp [prevKid, List.getElem?_eq_getElem hlt]
   have hok' : kidsOk noName l = (kidOk (prevKid l t) l[t] && kidsOk (prevKid l (t + 1)) (l.drop (t + 1))) := by rw [hok, hdrop, hprev]; rfl
   have hlti : (t : Int) < (l.length : Int) := by omega
   have hkl := kidV_length hkw.2
   have hone := kidV_one l[t]
   have hksz : (Tryz.prog.info? 38).map (·.size) = some (kidV l[t]).length := by rw [hkl]; kernel_rfl
   have hksz2 : (Tryz.prog.info? 38).map (·.size) = some (kidV l[t]).toArray.size := by rw [List.size_toArray, hkl]; kernel_rfl
   obtain ⟨W, W2, hW, hW2, hG, hb2, hthere⟩ := alloc_fill wr kidZ (kidV l[t]).toArray 38 (by rw [List.size_toArray, hkl]; rfl)
   have hbW := hb.trans (hb2.mono hb.size)
   have hprv : ∀ h0 : 0 < t, prevKid l t = (l[t - 1]'(by omega)).key := fun h0 => by
    rw [prevKid, if_neg (by omega), List.getElem?_eq_getElem (by omega)]; rfl
   have hcp : ∀ h0 : 0 < t, W2.cell? ⟨b, o + (t - 1) * 34, none⟩ = some (.string (prevKid l t)) := fun h0 => by
    have := rangeAt_below (rangeAt_below (hc (t - 1) (by omega)) hb (by omega)) hb2 (by have := hb.size; omega)
    rw [List.getElem?_eq_getElem (by omega)] at this
    rw [hprv h0]
    exact this 0 _ rfl
   have hzero : t = 0 → prevKid l t = noName := fun h0 => by rw [h0]; rfl
   have c0 : W2.cell? ⟨wr.heap.size, 0, none⟩ = some (.string l[t].key) := by rw [hG.cell]; rfl
   have c1 : W2.cell? ⟨wr.heap.size, 1, none⟩ = some (.int .u32 (l[t].num : Int)) := by rw [hG.cell]; rfl
   have hkO : kidOk (prevKid l t) l[t] = ((lessB (prevKid l t) l[t].key && decide (l[t].key.size ≤ 48)) && blockN l[t].num) := rfl
   have HW := Lib.hid hW
   have HW2 := Lib.hid hW2
   have Hok := Lib.hid hok'
   have HkO := Lib.hid hkO
   have Hp := Lib.hid hprev
   clear hc hok hr hW hW2 hG hb hb2 hok' hkO hdrop hprev hkl hkw hwf hprv
   generalize hkv : kidV l[t] = cs at *
   generalize hK : l[t].key = key at *
   generalize hN : l[t].num = num at *
   generalize prevKid l t = prev at *
   generalize kidOk prev l[t] = ok1 at *
   clear hkv hK hN
   have C1 := Lib.hid c1
   have hse := str_empty key
   have hs1 := hse.1
   have hs2 := hse.2
   clear hse
   go_wp2_with (first | (refine wpList_world HW.out ?_) | (refine wpList_load_mid rfl 38 _ rfl b (o + t * 34) rfl cs _ hci Tryz.underlying38 rfl hksz ?_) | (refine wpList_store_mid rfl 38 _ _ rfl wr.heap.size 0 cs.toArray rfl rfl hthere hksz2 hone ?_; refine wpList_world HW2.out ?_))
   have hbl := fun w => rnum_calls num w
   clear c1 hci hthere hksz hksz2 hone
   have c1 : W2.cell? ⟨wr.heap.size, 1, none⟩ = some (.int .u32 (num : Int)) := C1.out
   generalize blockN num = bl at *
   by_cases hz0 : key.size = 0
   ·rw [decide_eq_true hz0] at hs1 hs2
    have hX : X = false := by rw [← HX.out, Hok.out, HkO.out]; simp [less_size0 hz0]
    have HXf := Lib.hid hX
    clear hX
    go_quiet ((go_at_call 161; exact Calls.quiet_of_same (hbl _)))
    go_wp2_with fail
    go_ret
    exact ⟨by rw [HXf.out]; rfl, below_drewN hbW _⟩
   ·have hne0 : key.size ≠ 0 := hz0
    rw [decide_eq_false hz0] at hs1 hs2
    clear hz0
    by_cases hz1 : 48 < key.size
    ·have i1 : (48 : Int) < (key.size : Int) := by omega
     have i1d : decide ((48 : Int) < (key.size : Int)) = true := decide_eq_true i1
     have hX : X = false := by rw [← HX.out, Hok.out, HkO.out]; simp [show ¬ key.size ≤ 48 by omega]
     have HXf := Lib.hid hX
     clear hX
     go_quiet ((go_at_call 161; exact Calls.quiet_of_same (hbl _)))
     go_wp2_with fail
     go_ret
     exact ⟨by rw [HXf.out]; rfl, below_drewN hbW _⟩
    ·have i1 : ¬ (48 : Int) < (key.size : Int) := by omega
     have i1d : decide ((48 : Int) < (key.size : Int)) = false := decide_eq_false i1
     have hle48 : key.size ≤ 48 := by omega
     clear hz1
     cases bl with
     | false =>
      have hX : X = false := by rw [← HX.out, Hok.out, HkO.out]; simp []
      have HXf := Lib.hid hX
      clear hX
      go_quiet ((go_at_call 161; exact Calls.quiet_of_same (hbl _)))
      go_wp2_with fail
      go_ret
      exact ⟨by rw [HXf.out]; rfl, below_drewN hbW _⟩
     | true =>
      by_cases h0 : t = 0
      ·have hnp : ¬ (0 : Int) < (t : Int) := by omega
       have hnd : decide ((0 : Int) < (t : Int)) = false := decide_eq_false hnp
       have hndN : decide (0 < t) = false := decide_eq_false (by omega)
       have hle : lessB prev key = true := by rw [hzero h0, less_empty]; simp [hne0]
       have HLE := Lib.hid hle
       clear hle h0
       have hok2 : kidsOk noName l = kidsOk (prevKid l (t + 1)) (l.drop (t + 1)) := by rw [Hok.out, HkO.out, HLE.out]; simp [hle48]
       have Hok2 := Lib.hid hok2
       clear hok2
       go_quiet ((go_at_call 161; exact Calls.quiet_of_same (hbl _)))
       go_wp2_with fail
       go_roundw
       case rel => exact ⟨t + 1, by omega, by go_num, Hok2.out, below_drewN hbW _⟩
       case measure => simp [intOf]; omega
      ·have hpos : (0 : Int) < (t : Int) := by omega
       have hpd : decide ((0 : Int) < (t : Int)) = true := decide_eq_true hpos
       have hposN : 0 < t := by omega
       have hdec : decide (0 < t) = true := decide_eq_true hposN
       have hcq := hcp (by omega)
       have hm1 : ((t : Int) - 1).toNat = t - 1 := by omega
       have hm2 : (0 : Int) ≤ (t : Int) - 1 := by omega
       have hm3 : (t : Int) - 1 < (l.length : Int) := by omega
       have hls : Op.bytesLess prev.toList key.toList = lessB prev key := by rw [ByteArray.toList_eq, ByteArray.toList_eq]; rfl
       cases hle : lessB prev key with
       | true =>
        rw [hle] at hls
        have HLE := Lib.hid hle
        clear hle
        have hok2 : kidsOk noName l = kidsOk (prevKid l (t + 1)) (l.drop (t + 1)) := by rw [Hok.out, HkO.out, HLE.out]; simp [hle48]
        have Hok2 := Lib.hid hok2
        clear hok2
        go_quiet ((go_at_call 161; exact Calls.quiet_of_same (hbl _)))
        go_wp2_with fail
        go_roundw
        case rel => exact ⟨t + 1, by omega, by go_num, Hok2.out, below_drewN hbW _⟩
        case measure => simp [intOf]; omega
       | false =>
        rw [hle] at hls
        have HLE := Lib.hid hle
        have hX : X = false := by rw [← HX.out, Hok.out, HkO.out, HLE.out]; simp
        have HXf := Lib.hid hX
        clear hX hle
        go_quiet ((go_at_call 161; exact Calls.quiet_of_same (hbl _)))
        go_wp2_with fail
        go_ret
        exact ⟨by rw [HXf.out]; rfl, below_drewN hbW _⟩
  ·have htl : t = l.length := by omega
   have hgood : kidsOk noName l = true := by rw [hok, htl, List.drop_length]; rfl
   rw [hgood, Bool.and_true] at HX
   clear hok hgood hr hwf
   by_cases h1 : 0 < l.length
   ·have i1 : (1 : Int) ≤ (l.length : Int) := by omega
    by_cases h2 : l.length ≤ 255
    ·have i2 : (l.length : Int) ≤ 255 := by omega
     have hX : X = true := by rw [← HX.out]; simp [h1, h2]
     have HXf := Lib.hid hX
     clear hX
     go_wp2_with fail
     go_ret
     exact ⟨by rw [HXf.out]; rfl, hb⟩
    ·have i2 : ¬ (l.length : Int) ≤ 255 := by omega
     have hX : X = false := by rw [← HX.out]; simp [h2]
     have HXf := Lib.hid hX
     clear hX
     go_wp2_with fail
     go_ret
     exact ⟨by rw [HXf.out]; rfl, hb⟩
   ·have i1 : ¬ (1 : Int) ≤ (l.length : Int) := by omega
    have hX : X = false := by rw [← HX.out]; simp [h1]
    have HXf := Lib.hid hX
    clear hX
    go_wp2_with fail
    go_ret
    exact ⟨by rw [HXf.out]; rfl, hb⟩
set_option maxRecDepth 20000 in
set_option maxHeartbeats 6400000 in
theorem rvolumes_calls (B : Nat) (v : Value) (l : List VolD) (w : World) (h : VolsAt B w v l) (hB : B ≤ w.heap.size) (hwf : ∀ k ∈ l, k.wf) :
  Calls Tryz.prog 144 #[v] w fun e w' => e = .returned (.bool (decide (l.length ≤ 6) && volsOk noName l)) ∧ Below w.heap.size w w' := by
 obtain ⟨a, cap, rfl, hn, hr⟩ := h
 generalize hX : (decide (l.length ≤ 6) && volsOk noName l) = X at *
 have HX := Lib.hid hX
 clear hX
 have hnot : ∀ (x : Bool) (w : World), (Op.unary .not (.bool x)).run Tryz.prog w = .ok (.bool (!x)) w := fun _ _ => rfl
 unfold maxLen at hn
 go_enter Tryz.func144, Tryz.ntmps144
 go_wp2_with fail
 go_loopw [7] (fun v wr => ∃ t : Nat, t ≤ l.length ∧ v = .int .i64 t ∧ volsOk noName l = volsOk (prevVol l t) (l.drop t) ∧ Below w.heap.size w wr) (fun v _ => l.length - (intOf v).toNat)
 case atStart => exact ⟨0, by omega, rfl, rfl, Below.refl _ _⟩
 case round =>
  obtain ⟨t, ht, rfl, hok, hb⟩ := hrel
  by_cases hlt : t < l.length
  ·obtain ⟨b, o, rfl, hbB, hc⟩ := hr (by omega)
   have hkw := hwf l[t] (List.getElem_mem hlt)
   have hci : wr.rangeAt b (o + t * 37) (volV l[t]) := by
    have := rangeAt_below (hc t hlt) hb (by omega)
    rwa [List.getElem?_eq_getElem hlt] at this
   have hdrop : l.drop t = l[t] :: l.drop (t + 1) := List.drop_eq_getElem_cons hlt
   have hprev : prevVol l (t + 1) = l[t].name := by simp [prevVol, List.getElem?_eq_getElem hlt]
   have hok' : volsOk noName l = (volOk (prevVol l t) l[t] && volsOk (prevVol l (t + 1)) (l.drop (t + 1))) := by rw [hok, hdrop, hprev]; rfl
   have hlti : (t : Int) < (l.length : Int) := by omega
   have hkl := volV_length hkw.2.2.2
   have hone := volV_one l[t]
   have hksz : (Tryz.prog.info? 89).map (·.size) = some (volV l[t]).length := by rw [hkl]; kernel_rfl
   have hksz2 : (Tryz.prog.info? 89).map (·.size) = some (volV l[t]).toArray.size := by rw [List.size_toArray, hkl]; kernel_rfl
   obtain ⟨W, W2, hW, hW2, hG, hb2, hthere⟩ := alloc_fill wr volZ (volV l[t]).toArray 89 (by rw [List.size_toArray, hkl]; rfl)
   have hbW := hb.trans (hb2.mono hb.size)
   have hprv : ∀ h0 : 0 < t, prevVol l t = (l[t - 1]'(by omega)).name := fun h0 => by
    rw [prevVol, if_neg (by omega), List.getElem?_eq_getElem (by omega)]; rfl
   have hcp : ∀ h0 : 0 < t, W2.cell? ⟨b, o + (t - 1) * 37, none⟩ = some (.string (prevVol l t)) := fun h0 => by
    have := rangeAt_below (rangeAt_below (hc (t - 1) (by omega)) hb (by omega)) hb2 (by have := hb.size; omega)
    rw [List.getElem?_eq_getElem (by omega)] at this
    rw [hprv h0]
    exact this 0 _ rfl
   have hzero : t = 0 → prevVol l t = noName := fun h0 => by rw [h0]; rfl
   have c0 : W2.cell? ⟨wr.heap.size, 0, none⟩ = some (.string l[t].name) := by rw [hG.cell]; rfl
   have c1 : W2.cell? ⟨wr.heap.size, 1, none⟩ = some (.int .u8 (l[t].kind : Int)) := by rw [hG.cell]; rfl
   have c2 : W2.cell? ⟨wr.heap.size, 2, none⟩ = some (.string l[t].frm) := by rw [hG.cell]; rfl
   have c4 : W2.cell? ⟨wr.heap.size, 4, none⟩ = some (.int .u32 (l[t].root : Int)) := by rw [hG.cell]; rfl
   have hrng : W2.rangeAt wr.heap.size 5 (bytesV l[t].hash) := fun j v hv => by
    rw [hG.cell]
    rw [← hv]
    simp [volV, Nat.add_comm 5 j]
   have hhl := hkw.2.2.2
   have hhsz : (Tryz.prog.info? 36).map (·.size) = some (bytesV l[t].hash).length := by rw [bytesV, List.length_map, hhl]; kernel_rfl
   have heq : ∀ w, (Op.equalIn 10000 36 (.agg (bytesV l[t].hash).toArray) (.agg (byteCells noHash))).run Tryz.prog w = .ok (l[t].hash == noHash) w := fun w => eq_hash l[t].hash noHash w hhl (by simp [noHash])
   have hkO : volOk (prevVol l t) l[t] = (((((blockN l[t].root || (l[t].root == 0 && l[t].hash == noHash)) && (decide (l[t].name.size ≤ 16) && lessB (prevVol l t) l[t].name)) && decide (l[t].frm.size ≤ 16)) && decide (0 < l[t].kind)) && decide (l[t].kind < 3)) := by
    rw [volOk]
    generalize (blockN l[t].root || (l[t].root == 0 && l[t].hash == noHash)) = b1
    generalize lessB (prevVol l t) l[t].name = b2
    generalize decide (l[t].name.size ≤ 16) = b3
    cases b1 <;> cases b2 <;> cases b3 <;> rfl
   have HW := Lib.hid hW
   have HW2 := Lib.hid hW2
   have Hok := Lib.hid hok'
   have HkO := Lib.hid hkO
   have Hp := Lib.hid hprev
   clear hc hok hr hW hW2 hG hb hb2 hok' hkO hdrop hprev hkl hkw hwf hprv hhl
   generalize volOk (prevVol l t) l[t] = ok1 at *
   generalize hkv : volV l[t] = cs at *
   generalize hK : l[t].name = name at *
   generalize hN : l[t].root = root at *
   generalize hF : l[t].frm = frm at *
   generalize hD : l[t].kind = kind at *
   generalize prevVol l t = prev at *
   generalize (l[t].hash == noHash) = hq at *
   generalize hb32d : bytesV l[t].hash = hb32 at *
   clear hkv hK hN hF hD hb32d
   have hse := str_empty name
   have hs1 := hse.1
   have hs2 := hse.2
   clear hse
   have HC := Lib.hid (And.intro c0 (And.intro c1 (And.intro c2 c4)))
   go_wp2_with (first | (refine wpList_world HW.out ?_) | (refine wpList_load_mid rfl 89 _ rfl b (o + t * 37) rfl cs _ hci Tryz.underlying89 rfl hksz ?_) | (refine wpList_store_mid rfl 89 _ _ rfl wr.heap.size 0 cs.toArray rfl rfl hthere hksz2 hone ?_; refine wpList_world HW2.out ?_))
   clear c0 c1 c2 c4 hci hthere hksz hksz2 hone
   obtain ⟨c0, c1, c2, c4⟩ := HC.out
   generalize wr.heap.size = G at *
   have hblN : blockN 0 = false := rfl
   by_cases hz0 : name.size = 0
   ·rw [decide_eq_true hz0] at hs1 hs2
    have hX : X = false := by rw [← HX.out, Hok.out, HkO.out]; simp [less_size0 hz0]
    have HXf := Lib.hid hX
    clear hX
    go_quiet (fail)
    go_wp2_with fail
    go_ret
    exact ⟨by rw [HXf.out]; rfl, below_drewN hbW _⟩
   ·have hne0 : name.size ≠ 0 := hz0
    rw [decide_eq_false hz0] at hs1 hs2
    clear hz0
    by_cases hz1 : 16 < name.size
    ·have i1 : (16 : Int) < (name.size : Int) := by omega
     have i1d : decide ((16 : Int) < (name.size : Int)) = true := decide_eq_true i1
     have hX : X = false := by rw [← HX.out, Hok.out, HkO.out]; simp [show ¬ name.size ≤ 16 by omega]
     have HXf := Lib.hid hX
     clear hX
     go_quiet (fail)
     go_wp2_with fail
     go_ret
     exact ⟨by rw [HXf.out]; rfl, below_drewN hbW _⟩
    ·have i1 : ¬ (16 : Int) < (name.size : Int) := by omega
     have i1d : decide ((16 : Int) < (name.size : Int)) = false := decide_eq_false i1
     have hn16 : name.size ≤ 16 := by omega
     clear hz1
     by_cases hz2 : 16 < frm.size
     ·have i2 : (16 : Int) < (frm.size : Int) := by omega
      have i2d : decide ((16 : Int) < (frm.size : Int)) = true := decide_eq_true i2
      have hX : X = false := by rw [← HX.out, Hok.out, HkO.out]; simp [show ¬ frm.size ≤ 16 by omega]
      have HXf := Lib.hid hX
      clear hX
      go_quiet (fail)
      go_wp2_with fail
      go_ret
      exact ⟨by rw [HXf.out]; rfl, below_drewN hbW _⟩
     ·have i2 : ¬ (16 : Int) < (frm.size : Int) := by omega
      have i2d : decide ((16 : Int) < (frm.size : Int)) = false := decide_eq_false i2
      have hf16 : frm.size ≤ 16 := by omega
      clear hz2
      by_cases hz3 : kind = 0
      ·have i3 : (kind : Int) ≤ (0 : Int) := by omega
       have i3d : decide ((kind : Int) ≤ (0 : Int)) = true := decide_eq_true i3
       have i3n : decide (kind = 0) = true := decide_eq_true hz3
       have hX : X = false := by rw [← HX.out, Hok.out, HkO.out]; simp [hz3]
       have HXf := Lib.hid hX
       clear hX
       go_quiet (fail)
       go_wp2_with fail
       go_ret
       exact ⟨by rw [HXf.out]; rfl, below_drewN hbW _⟩
      ·have i3 : ¬ (kind : Int) ≤ (0 : Int) := by omega
       have i3d : decide ((kind : Int) ≤ (0 : Int)) = false := decide_eq_false i3
       have i3n : decide (kind = 0) = false := decide_eq_false hz3
       have hk0 : 0 < kind := by omega
       clear hz3
       by_cases hz4 : 3 ≤ kind
       ·have i4 : (3 : Int) ≤ (kind : Int) := by omega
        have i4d : decide ((3 : Int) ≤ (kind : Int)) = true := decide_eq_true i4
        have i4n : decide (3 ≤ kind) = true := decide_eq_true hz4
        have hX : X = false := by rw [← HX.out, Hok.out, HkO.out]; simp [show ¬ kind < 3 by omega]
        have HXf := Lib.hid hX
        clear hX
        go_quiet (fail)
        go_wp2_with fail
        go_ret
        exact ⟨by rw [HXf.out]; rfl, below_drewN hbW _⟩
       ·have i4 : ¬ (3 : Int) ≤ (kind : Int) := by omega
        have i4d : decide ((3 : Int) ≤ (kind : Int)) = false := decide_eq_false i4
        have i4n : decide (3 ≤ kind) = false := decide_eq_false hz4
        have hk3 : kind < 3 := by omega
        clear hz4
        by_cases h0 : t = 0
        ·have hnp : ¬ (0 : Int) < (t : Int) := by omega
         have hnd : decide ((0 : Int) < (t : Int)) = false := decide_eq_false hnp
         have hndN : decide (0 < t) = false := decide_eq_false (by omega)
         have hle : lessB prev name = true := by rw [hzero h0, less_empty]; simp [hne0]
         have HLE := Lib.hid hle
         clear hle h0
         have c5 : ∀ n, (W2.drewN n).cell? ⟨G, 4, none⟩ = some (.int .u32 (root : Int)) := fun _ => c4
         have hrd : ∀ n, (W2.drewN n).rangeAt G 5 hb32 := fun n => hrng
         go_quiet (fail)
         have c6 := c5 nq
         have hr6 := hrd nq
         have hbW2 := below_drewN hbW nq
         generalize W2.drewN nq = W3 at *
         have hbl := fun w => rnum_calls root w
         clear c5 hrd c0 c1 c2 c4 hs1 hs2
         by_cases hr0 : root = 0
         ·subst hr0
          cases hq with
          | true =>
           have hok2 : volsOk noName l = volsOk (prevVol l (t + 1)) (l.drop (t + 1)) := by rw [Hok.out, HkO.out, HLE.out]; simp [hn16, hf16, hk0, hk3]
           have Hok2 := Lib.hid hok2
           clear hok2 hbl
           go_wp2_with (first | (refine wpList_exec ?_ (exec_load_mid 36 _ (by rfl) G 5 (by rfl) hb32 _ hr6 Tryz.underlying36 (by rfl) hhsz) ?_; · rfl) | (refine wpList_exec ?_ (exec_zeroHash (by rfl) _) ?_; · rfl))
           go_roundw
           case rel => exact ⟨t + 1, by omega, by go_num, Hok2.out, hbW2⟩
           case measure => simp [intOf]; omega
          | false =>
           have hX : X = false := by rw [← HX.out, Hok.out, HkO.out, hblN]; simp only [Bool.and_false, Bool.false_and, Bool.or_false]
           have HXf := Lib.hid hX
           have hneq : ∀ w, (binOp .neq 36 (.agg hb32.toArray) (.agg (byteCells noHash))).run Tryz.prog w = .ok (.bool true) w := fun w => by rw [run_neq_struct, heq]; rfl
           clear hX hbl hneq
           go_wp2_with (first | (refine @Go.wpList_skip _ _ _ _ _ _ _ ?_ ?_; (· rfl); simp only [Act.put, List.setIfInBounds_toArray, List.set_cons_succ, List.set_cons_zero]) | (refine wpList_exec ?_ (exec_load_mid 36 _ (by rfl) G 5 (by rfl) hb32 _ hr6 Tryz.underlying36 (by rfl) hhsz) ?_; · rfl) | (refine wpList_exec ?_ (exec_zeroHash (by rfl) _) ?_; · rfl))
           go_ret
           exact ⟨by rw [HXf.out]; rfl, hbW2⟩
         ·have r1 : ((root : Int) == 0) = false := by simpa using fun e => hr0 (by omega)
          have r2 : ((root : Int) != 0) = true := by simpa using fun e => hr0 (by omega)
          have hrb : (root == 0) = false := by simpa using hr0
          cases hbn : blockN root with
          | true =>
           have hok2 : volsOk noName l = volsOk (prevVol l (t + 1)) (l.drop (t + 1)) := by rw [Hok.out, HkO.out, HLE.out, hbn]; simp [hn16, hf16, hk0, hk3]
           have Hok2 := Lib.hid hok2
           rw [hbn] at hbl
           clear hok2 hbn
           go_wp2_with fail
           refine (hbl _).mono ?_
           rintro e W4 ⟨rfl, rfl⟩
           go_wp2_with fail
           go_roundw
           case rel => exact ⟨t + 1, by omega, by go_num, Hok2.out, hbW2⟩
           case measure => simp [intOf]; omega
          | false =>
           have hX : X = false := by rw [← HX.out, Hok.out, HkO.out, hbn, hrb]; simp
           have HXf := Lib.hid hX
           rw [hbn] at hbl
           clear hX hbn
           go_wp2_with fail
           refine (hbl _).mono ?_
           rintro e W4 ⟨rfl, rfl⟩
           go_wp2_with fail
           go_ret
           exact ⟨by rw [HXf.out]; rfl, hbW2⟩
        ·have hpos : (0 : Int) < (t : Int) := by omega
         have hpd : decide ((0 : Int) < (t : Int)) = true := decide_eq_true hpos
         have hposN : 0 < t := by omega
         have hdec : decide (0 < t) = true := decide_eq_true hposN
         have hcq := hcp (by omega)
         have hm1 : ((t : Int) - 1).toNat = t - 1 := by omega
         have hm2 : (0 : Int) ≤ (t : Int) - 1 := by omega
         have hm3 : (t : Int) - 1 < (l.length : Int) := by omega
         have hls : Op.bytesLess prev.toList name.toList = lessB prev name := by rw [ByteArray.toList_eq, ByteArray.toList_eq]; rfl
         cases hle : lessB prev name with
         | true =>
          rw [hle] at hls
          have HLE := Lib.hid hle
          clear hle
          have c5 : ∀ n, (W2.drewN n).cell? ⟨G, 4, none⟩ = some (.int .u32 (root : Int)) := fun _ => c4
          have hrd : ∀ n, (W2.drewN n).rangeAt G 5 hb32 := fun n => hrng
          go_quiet (fail)
          have c6 := c5 nq
          have hr6 := hrd nq
          have hbW2 := below_drewN hbW nq
          generalize W2.drewN nq = W3 at *
          have hbl := fun w => rnum_calls root w
          clear c5 hrd c0 c1 c2 c4 hs1 hs2
          by_cases hr0 : root = 0
          ·subst hr0
           cases hq with
           | true =>
            have hok2 : volsOk noName l = volsOk (prevVol l (t + 1)) (l.drop (t + 1)) := by rw [Hok.out, HkO.out, HLE.out]; simp [hn16, hf16, hk0, hk3]
            have Hok2 := Lib.hid hok2
            clear hok2 hbl
            go_wp2_with (first | (refine wpList_exec ?_ (exec_load_mid 36 _ (by rfl) G 5 (by rfl) hb32 _ hr6 Tryz.underlying36 (by rfl) hhsz) ?_; · rfl) | (refine wpList_exec ?_ (exec_zeroHash (by rfl) _) ?_; · rfl))
            go_roundw
            case rel => exact ⟨t + 1, by omega, by go_num, Hok2.out, hbW2⟩
            case measure => simp [intOf]; omega
           | false =>
            have hX : X = false := by rw [← HX.out, Hok.out, HkO.out, hblN]; simp only [Bool.and_false, Bool.false_and, Bool.or_false]
            have HXf := Lib.hid hX
            have hneq : ∀ w, (binOp .neq 36 (.agg hb32.toArray) (.agg (byteCells noHash))).run Tryz.prog w = .ok (.bool true) w := fun w => by rw [run_neq_struct, heq]; rfl
            clear hX hbl hneq
            go_wp2_with (first | (refine @Go.wpList_skip _ _ _ _ _ _ _ ?_ ?_; (· rfl); simp only [Act.put, List.setIfInBounds_toArray, List.set_cons_succ, List.set_cons_zero]) | (refine wpList_exec ?_ (exec_load_mid 36 _ (by rfl) G 5 (by rfl) hb32 _ hr6 Tryz.underlying36 (by rfl) hhsz) ?_; · rfl) | (refine wpList_exec ?_ (exec_zeroHash (by rfl) _) ?_; · rfl))
            go_ret
            exact ⟨by rw [HXf.out]; rfl, hbW2⟩
          ·have r1 : ((root : Int) == 0) = false := by simpa using fun e => hr0 (by omega)
           have r2 : ((root : Int) != 0) = true := by simpa using fun e => hr0 (by omega)
           have hrb : (root == 0) = false := by simpa using hr0
           cases hbn : blockN root with
           | true =>
            have hok2 : volsOk noName l = volsOk (prevVol l (t + 1)) (l.drop (t + 1)) := by rw [Hok.out, HkO.out, HLE.out, hbn]; simp [hn16, hf16, hk0, hk3]
            have Hok2 := Lib.hid hok2
            rw [hbn] at hbl
            clear hok2 hbn
            go_wp2_with fail
            refine (hbl _).mono ?_
            rintro e W4 ⟨rfl, rfl⟩
            go_wp2_with fail
            go_roundw
            case rel => exact ⟨t + 1, by omega, by go_num, Hok2.out, hbW2⟩
            case measure => simp [intOf]; omega
           | false =>
            have hX : X = false := by rw [← HX.out, Hok.out, HkO.out, hbn, hrb]; simp
            have HXf := Lib.hid hX
            rw [hbn] at hbl
            clear hX hbn
            go_wp2_with fail
            refine (hbl _).mono ?_
            rintro e W4 ⟨rfl, rfl⟩
            go_wp2_with fail
            go_ret
            exact ⟨by rw [HXf.out]; rfl, hbW2⟩
         | false =>
          rw [hle] at hls
          have HLE := Lib.hid hle
          have hX : X = false := by rw [← HX.out, Hok.out, HkO.out, HLE.out]; simp
          have HXf := Lib.hid hX
          clear hX hle
          go_quiet (fail)
          go_wp2_with fail
          go_ret
          exact ⟨by rw [HXf.out]; rfl, below_drewN hbW _⟩
  ·have htl : t = l.length := by omega
   have hgood : volsOk noName l = true := by rw [hok, htl, List.drop_length]; rfl
   rw [hgood, Bool.and_true] at HX
   clear hok hgood hr hwf
   by_cases h2 : l.length ≤ 6
   ·have i2 : (l.length : Int) ≤ 6 := by omega
    have hX : X = true := by rw [← HX.out]; simp [h2]
    have HXf := Lib.hid hX
    clear hX
    go_wp2_with fail
    go_ret
    exact ⟨by rw [HXf.out]; rfl, hb⟩
   ·have i2 : ¬ (l.length : Int) ≤ 6 := by omega
    have hX : X = false := by rw [← HX.out]; simp [h2]
    have HXf := Lib.hid hX
    clear hX
    go_wp2_with fail
    go_ret
    exact ⟨by rw [HXf.out]; rfl, hb⟩
end Go.Proofs.YtimkklaidodkdaaGreatDoor

namespace Go.Proofs.YtimkklaidodkdaaGreatDoor
open Go.RowKit

set_option maxRecDepth 20000 in
set_option maxHeartbeats 6400000 in
theorem rcheck_calls (B : Nat) (v : Value) (n : NodeD) (w : World) (h : NodeAt B w v n) (hB : B ≤ w.heap.size) (hz : fitN n) :
  Calls Tryz.prog 118 #[v] w fun e w' => e = .returned (.int .i64 (checkN n)) ∧ Below w.heap.size w w' := by
 have hsi : shapedN n = true → ∀ w', Below w.heap.size w w' → Calls Tryz.prog 145 #[v] w' fun e w2 => e = .returned (.int .i64 (sizeN n : Int)) ∧ Below w'.heap.size w' w2 := fun hs w' hb => by
  have := rsizew_calls B v n w' (h.below hb hB) (Nat.le_trans hB hb.size) hz
  rwa [sw_small (Nat.le_trans (shaped_small n hs) (by decide))] at this
 have hlen := hz.1
 obtain ⟨hw, vi, vk, vv, rfl, h1, h2, h3⟩ := h
 obtain ⟨kind, items, kids, vols⟩ := n
 simp only [] at h1 h2 h3 hlen
 have hnot : ∀ (x : Bool) (w : World), (Op.unary .not (.bool x)).run Tryz.prog w = .ok (.bool (!x)) w := fun _ _ => rfl
 have hc1 := fun w' (h : Below w.heap.size w w') => ritemCheck_calls B vi items w' (h1.below h hB) (Nat.le_trans hB h.size)
 have hc2 := fun w' (h : Below w.heap.size w w') => rkids_calls B vk kids w' (h2.below h hB) (Nat.le_trans hB h.size) hw.2.1
 have hc3 := fun w' (h : Below w.heap.size w w') => rvolumes_calls B vv vols w' (h3.below h hB) (Nat.le_trans hB h.size) hw.2.2
 obtain ⟨ai, ci, rfl, _, _⟩ := h1
 obtain ⟨ak, ck, rfl, _, _⟩ := h2
 obtain ⟨av, cv, rfl, _, _⟩ := h3
 have hX : (shapedN ⟨kind, items, kids, vols⟩ = true → sizeN ⟨kind, items, kids, vols⟩ ≤ 508 → checkN ⟨kind, items, kids, vols⟩ = 0) ∧ (shapedN ⟨kind, items, kids, vols⟩ = true → ¬ sizeN ⟨kind, items, kids, vols⟩ ≤ 508 → checkN ⟨kind, items, kids, vols⟩ = 2) ∧ (shapedN ⟨kind, items, kids, vols⟩ = false → checkN ⟨kind, items, kids, vols⟩ = 4) := by
  refine ⟨fun h1 h2 => ?_, fun h1 h2 => ?_, fun h1 => ?_⟩
  ·rw [checkN, if_pos h1, if_pos h2]
  ·rw [checkN, if_pos h1, if_neg h2]
  ·rw [checkN, if_neg (by rw [h1]; simp)]
 generalize hsh : shapedN ⟨kind, items, kids, vols⟩ = sh at *
 generalize checkN ⟨kind, items, kids, vols⟩ = X at *
 generalize sizeN ⟨kind, items, kids, vols⟩ = sz at *
 obtain ⟨l1, l2, l3⟩ := hlen
 have HX := Lib.hid hX
 have HS := Lib.hid hsh
 clear hX hz hsh hw
 obtain ⟨W, hW⟩ : ∃ W, W = w.alloc (.cells #[.int .u8 (kind : Int), .slice ai items.length ci, .slice ak kids.length ck, .slice av vols.length cv] 28) := ⟨_, rfl⟩
 have hg : RowIs W w.heap.size 28 #[.int .u8 (kind : Int), .slice ai items.length ci, .slice ak kids.length ck, .slice av vols.length cv] := by rw [hW]; exact RowIs.new w _ _
 have hb : Below w.heap.size w W := by rw [hW]; exact (Below.refl _ _).alloc (Nat.le_refl _) _
 have HW := Lib.hid hW
 clear hW
 show Calls Tryz.prog 118 #[.agg #[.int .u8 (kind : Int), .slice ai items.length ci, .slice ak kids.length ck, .slice av vols.length cv]] w _
 have g0 : W.cell? ⟨w.heap.size, 0, none⟩ = some (.int .u8 (kind : Int)) := by rw [hg.cell]; rfl
 have g1 : W.cell? ⟨w.heap.size, 1, none⟩ = some (.slice ai items.length ci) := by rw [hg.cell]; rfl
 have g2 : W.cell? ⟨w.heap.size, 2, none⟩ = some (.slice ak kids.length ck) := by rw [hg.cell]; rfl
 have g3 : W.cell? ⟨w.heap.size, 3, none⟩ = some (.slice av vols.length cv) := by rw [hg.cell]; rfl
 go_enter Tryz.func118, Tryz.ntmps118
 by_cases hk1 : kind = 1
 ·subst hk1
  rw [shaped1] at HS
  by_cases hA : kids.length + vols.length = 0
  ·have a1 : (kids.length : Int) + (vols.length : Int) = 0 := by omega
   by_cases h0 : 1 ≤ items.length
   ·have a2 : (1 : Int) ≤ (items.length : Int) := by omega
    by_cases h255 : items.length ≤ 255
    ·have a3 : (items.length : Int) ≤ 255 := by omega
     have hS : sh = itemsOk noName items := by rw [← HS.out]; simp [hA, show 0 < items.length from h0, h255]
     have hcc := hc1 W hb
     generalize itemsOk noName items = ok at *
     subst hS
     cases sh with
     | true =>
      rw [if_pos rfl] at hcc
      clear hc1 hc2 hc3
      go_wp2_with (refine wpList_world HW.out ?_)
      refine hcc.mono ?_
      rintro e w2 ⟨rfl, hq⟩
      have hg2 := hg.below hq hg.lt
      have hb2 := hb.trans (hq.mono hb.size)
      clear hcc hq g0 g1 g2 g3 hg hb
      have g0 : w2.cell? ⟨w.heap.size, 0, none⟩ = some (.int .u8 (((1 : Nat)) : Int)) := by rw [hg2.cell]; rfl
      have g1 : w2.cell? ⟨w.heap.size, 1, none⟩ = some (.slice ai items.length ci) := by rw [hg2.cell]; rfl
      have g2 : w2.cell? ⟨w.heap.size, 2, none⟩ = some (.slice ak kids.length ck) := by rw [hg2.cell]; rfl
      have g3 : w2.cell? ⟨w.heap.size, 3, none⟩ = some (.slice av vols.length cv) := by rw [hg2.cell]; rfl
      have hcall := hsi (trivial) w2 hb2
      have HB := Lib.hid (And.intro hb2 (trivial))
      clear hsi hg2 hb2
      go_wp2_with fail
      refine hcall.mono ?_
      rintro e w3 ⟨rfl, hq⟩
      have hb3 := HB.out.1.trans (hq.mono HB.out.1.size)
      clear hcall hq g0 g1 g2 g3
      by_cases hs : sz ≤ 508
      ·have q1 : ¬ (508 : Int) < (sz : Int) := by omega
       have hX := HX.out.1 HB.out.2 hs
       have HXf := Lib.hid hX
       clear hX
       go_wp2_with fail
       go_ret
       exact ⟨by rw [HXf.out]; rfl, hb3⟩
      ·have q1 : (508 : Int) < (sz : Int) := by omega
       have hX := HX.out.2.1 HB.out.2 hs
       have HXf := Lib.hid hX
       clear hX
       go_wp2_with fail
       go_ret
       exact ⟨by rw [HXf.out]; rfl, hb3⟩
     | false =>
      rw [if_neg (by simp)] at hcc
      clear hc1 hc2 hc3
      go_wp2_with (refine wpList_world HW.out ?_)
      refine hcc.mono ?_
      rintro e w2 ⟨rfl, hq⟩
      have hg2 := hg.below hq hg.lt
      have hb2 := hb.trans (hq.mono hb.size)
      clear hcc hq g0 g1 g2 g3 hg hb
      have hX := HX.out.2.2 (trivial)
      have HXf := Lib.hid hX
      clear hX hsi
      go_wp2_with fail
      go_ret
      exact ⟨by rw [HXf.out]; rfl, hb2⟩
    ·have a3 : ¬ (items.length : Int) ≤ 255 := by omega
     have hS : sh = false := by rw [← HS.out]; simp [h255]
     clear hc1 hc2 hc3
     have hX := HX.out.2.2 (hS)
     have HXf := Lib.hid hX
     clear hX hsi
     go_wp2_with (refine wpList_world HW.out ?_)
     go_ret
     exact ⟨by rw [HXf.out]; rfl, hb⟩
   ·have a2 : ¬ (1 : Int) ≤ (items.length : Int) := by omega
    have hS : sh = false := by rw [← HS.out]; simp [show ¬ 0 < items.length from h0]
    clear hc1 hc2 hc3
    have hX := HX.out.2.2 (hS)
    have HXf := Lib.hid hX
    clear hX hsi
    go_wp2_with (refine wpList_world HW.out ?_)
    go_ret
    exact ⟨by rw [HXf.out]; rfl, hb⟩
  ·have a1 : ¬ (kids.length : Int) + (vols.length : Int) = 0 := by omega
   have hS : sh = false := by rw [← HS.out, decide_eq_false hA]; rfl
   clear hc1 hc2 hc3
   have hX := HX.out.2.2 (hS)
   have HXf := Lib.hid hX
   clear hX hsi
   go_wp2_with (refine wpList_world HW.out ?_)
   go_ret
   exact ⟨by rw [HXf.out]; rfl, hb⟩
 ·have j1 : ¬ (kind : Int) = 1 := by omega
  by_cases hk2 : kind = 2
  ·subst hk2
   rw [shaped2] at HS
   by_cases hA : items.length + vols.length = 0
   ·have a1 : (items.length : Int) + (vols.length : Int) = 0 := by omega
    rw [decide_eq_true hA, Bool.true_and] at HS
    have hcc := hc2 W hb
    rw [HS.out] at hcc
    cases sh with
    | true =>
     clear hc1 hc2 hc3
     go_wp2_with (refine wpList_world HW.out ?_)
     refine hcc.mono ?_
     rintro e w2 ⟨rfl, hq⟩
     have hg2 := hg.below hq hg.lt
     have hb2 := hb.trans (hq.mono hb.size)
     clear hcc hq g0 g1 g2 g3 hg hb
     have g0 : w2.cell? ⟨w.heap.size, 0, none⟩ = some (.int .u8 (((2 : Nat)) : Int)) := by rw [hg2.cell]; rfl
     have g1 : w2.cell? ⟨w.heap.size, 1, none⟩ = some (.slice ai items.length ci) := by rw [hg2.cell]; rfl
     have g2 : w2.cell? ⟨w.heap.size, 2, none⟩ = some (.slice ak kids.length ck) := by rw [hg2.cell]; rfl
     have g3 : w2.cell? ⟨w.heap.size, 3, none⟩ = some (.slice av vols.length cv) := by rw [hg2.cell]; rfl
     have hcall := hsi (trivial) w2 hb2
     have HB := Lib.hid (And.intro hb2 (trivial))
     clear hsi hg2 hb2
     go_wp2_with fail
     refine hcall.mono ?_
     rintro e w3 ⟨rfl, hq⟩
     have hb3 := HB.out.1.trans (hq.mono HB.out.1.size)
     clear hcall hq g0 g1 g2 g3
     by_cases hs : sz ≤ 508
     ·have q1 : ¬ (508 : Int) < (sz : Int) := by omega
      have hX := HX.out.1 HB.out.2 hs
      have HXf := Lib.hid hX
      clear hX
      go_wp2_with fail
      go_ret
      exact ⟨by rw [HXf.out]; rfl, hb3⟩
     ·have q1 : (508 : Int) < (sz : Int) := by omega
      have hX := HX.out.2.1 HB.out.2 hs
      have HXf := Lib.hid hX
      clear hX
      go_wp2_with fail
      go_ret
      exact ⟨by rw [HXf.out]; rfl, hb3⟩
    | false =>
     clear hc1 hc2 hc3
     go_wp2_with (refine wpList_world HW.out ?_)
     refine hcc.mono ?_
     rintro e w2 ⟨rfl, hq⟩
     have hg2 := hg.below hq hg.lt
     have hb2 := hb.trans (hq.mono hb.size)
     clear hcc hq g0 g1 g2 g3 hg hb
     have hX := HX.out.2.2 (trivial)
     have HXf := Lib.hid hX
     clear hX hsi
     go_wp2_with fail
     go_ret
     exact ⟨by rw [HXf.out]; rfl, hb2⟩
   ·have a1 : ¬ (items.length : Int) + (vols.length : Int) = 0 := by omega
    have hS : sh = false := by rw [← HS.out, decide_eq_false hA]; rfl
    clear hc1 hc2 hc3
    have hX := HX.out.2.2 (hS)
    have HXf := Lib.hid hX
    clear hX hsi
    go_wp2_with (refine wpList_world HW.out ?_)
    go_ret
    exact ⟨by rw [HXf.out]; rfl, hb⟩
  ·have j2 : ¬ (kind : Int) = 2 := by omega
   by_cases hk3 : kind = 3
   ·subst hk3
    rw [shaped3] at HS
    by_cases hA : items.length + kids.length = 0
    ·have a1 : (items.length : Int) + (kids.length : Int) = 0 := by omega
     rw [decide_eq_true hA, Bool.true_and] at HS
     have hcc := hc3 W hb
     rw [HS.out] at hcc
     cases sh with
     | true =>
      clear hc1 hc2 hc3
      go_wp2_with (refine wpList_world HW.out ?_)
      refine hcc.mono ?_
      rintro e w2 ⟨rfl, hq⟩
      have hg2 := hg.below hq hg.lt
      have hb2 := hb.trans (hq.mono hb.size)
      clear hcc hq g0 g1 g2 g3 hg hb
      have g0 : w2.cell? ⟨w.heap.size, 0, none⟩ = some (.int .u8 (((3 : Nat)) : Int)) := by rw [hg2.cell]; rfl
      have g1 : w2.cell? ⟨w.heap.size, 1, none⟩ = some (.slice ai items.length ci) := by rw [hg2.cell]; rfl
      have g2 : w2.cell? ⟨w.heap.size, 2, none⟩ = some (.slice ak kids.length ck) := by rw [hg2.cell]; rfl
      have g3 : w2.cell? ⟨w.heap.size, 3, none⟩ = some (.slice av vols.length cv) := by rw [hg2.cell]; rfl
      have hcall := hsi (trivial) w2 hb2
      have HB := Lib.hid (And.intro hb2 (trivial))
      clear hsi hg2 hb2
      go_wp2_with fail
      refine hcall.mono ?_
      rintro e w3 ⟨rfl, hq⟩
      have hb3 := HB.out.1.trans (hq.mono HB.out.1.size)
      clear hcall hq g0 g1 g2 g3
      by_cases hs : sz ≤ 508
      ·have q1 : ¬ (508 : Int) < (sz : Int) := by omega
       have hX := HX.out.1 HB.out.2 hs
       have HXf := Lib.hid hX
       clear hX
       go_wp2_with fail
       go_ret
       exact ⟨by rw [HXf.out]; rfl, hb3⟩
      ·have q1 : (508 : Int) < (sz : Int) := by omega
       have hX := HX.out.2.1 HB.out.2 hs
       have HXf := Lib.hid hX
       clear hX
       go_wp2_with fail
       go_ret
       exact ⟨by rw [HXf.out]; rfl, hb3⟩
     | false =>
      clear hc1 hc2 hc3
      go_wp2_with (refine wpList_world HW.out ?_)
      refine hcc.mono ?_
      rintro e w2 ⟨rfl, hq⟩
      have hg2 := hg.below hq hg.lt
      have hb2 := hb.trans (hq.mono hb.size)
      clear hcc hq g0 g1 g2 g3 hg hb
      have hX := HX.out.2.2 (trivial)
      have HXf := Lib.hid hX
      clear hX hsi
      go_wp2_with fail
      go_ret
      exact ⟨by rw [HXf.out]; rfl, hb2⟩
    ·have a1 : ¬ (items.length : Int) + (kids.length : Int) = 0 := by omega
     have hS : sh = false := by rw [← HS.out, decide_eq_false hA]; rfl
     clear hc1 hc2 hc3
     have hX := HX.out.2.2 (hS)
     have HXf := Lib.hid hX
     clear hX hsi
     go_wp2_with (refine wpList_world HW.out ?_)
     go_ret
     exact ⟨by rw [HXf.out]; rfl, hb⟩
   ·have j3 : ¬ (kind : Int) = 3 := by omega
    have hS : sh = false := by rw [← HS.out, shapedN]; simp [hk1, hk2, hk3]
    clear hc1 hc2 hc3
    have hX := HX.out.2.2 (hS)
    have HXf := Lib.hid hX
    clear hX hsi
    go_wp2_with (refine wpList_world HW.out ?_)
    go_ret
    exact ⟨by rw [HXf.out]; rfl, hb⟩
end Go.Proofs.YtimkklaidodkdaaGreatDoor
