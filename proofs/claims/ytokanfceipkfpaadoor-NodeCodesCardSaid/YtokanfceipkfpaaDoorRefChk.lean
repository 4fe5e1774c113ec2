/- cambiumref04.key, Check; cambiumref05.num, kids: walked. -/
import Derived.Test.YtokanfceipkfpaaDoorNodeVols
namespace Go.Proofs.YtokanfceipkfpaaDoor
open Go.RowKit

theorem rkey_calls (k : ByteArray) (w : World) : Calls Tryd.prog 51 #[.string k] w fun e w' => e = .returned (.bool (decide (k.size ≠ 0) && decide (k.size ≤ 48))) ∧ w' = w := by
  have hz : (k.toList == ByteArray.toList ⟨#[]⟩) = decide (k.size = 0) := by
    rw [ByteArray.toList_eq, ByteArray.toList_eq]
    have e : k.data.toList.length = k.size := Array.length_toList
    cases h : k.data.toList with
    | nil => rw [h] at e; simp at e; simp [← e]
    | cons a l => rw [h, List.length_cons] at e; rw [decide_eq_false (show ¬ k.size = 0 by omega)]; rfl
  have hz2 : (k.toList == []) = decide (k.size = 0) := by rw [← hz]; rw [ByteArray.toList_eq ⟨#[]⟩]
  by_cases h0 : k.size = 0
  · have hr : (decide (k.size ≠ 0) && decide (k.size ≤ 48)) = false := by simp [h0]
    rw [hr]
    rw [decide_eq_true h0] at hz hz2
    clear hr
    go_enter Tryd.func51, Tryd.ntmps51
    go_wp2_with fail
    go_ret
    exact ⟨rfl, rfl⟩
  · rw [decide_eq_false h0] at hz hz2
    by_cases h1 : k.size ≤ 48
    · have i1 : (k.size : Int) ≤ 48 := by omega
      have hr : (decide (k.size ≠ 0) && decide (k.size ≤ 48)) = true := by simp [h0, h1]
      rw [hr]
      clear hr
      go_enter Tryd.func51, Tryd.ntmps51
      go_wp2_with fail
      go_ret
      exact ⟨rfl, rfl⟩
    · have i1 : ¬ (k.size : Int) ≤ 48 := by omega
      have hr : (decide (k.size ≠ 0) && decide (k.size ≤ 48)) = false := by simp [h1]
      rw [hr]
      clear hr
      go_enter Tryd.func51, Tryd.ntmps51
      go_wp2_with fail
      go_ret
      exact ⟨rfl, rfl⟩

theorem rnum_calls (n : Nat) (w : World) : Calls Tryd.prog 52 #[.int .u32 (n : Int)] w fun e w' => e = .returned (.bool (blockN n)) ∧ w' = w := by
  have h : (2 ≤ n ∧ n < 65536 ∧ blockN n = true) ∨ (2 ≤ n ∧ ¬ n < 65536 ∧ blockN n = false) ∨ (¬ 2 ≤ n ∧ blockN n = false) := by
    unfold blockN
    by_cases h1 : 2 ≤ n <;> by_cases h2 : n < 65536 <;> simp [h1, h2]
  generalize blockN n = R at *
  rcases h with ⟨h1, h2, rfl⟩ | ⟨h1, h2, rfl⟩ | ⟨h1, rfl⟩
  · have i1 : (2 : Int) ≤ (n : Int) := by omega
    have i2 : (n : Int) < 65536 := by omega
    go_enter Tryd.func52, Tryd.ntmps52
    go_wp2_with fail
    go_ret
    exact ⟨rfl, rfl⟩
  · have i1 : (2 : Int) ≤ (n : Int) := by omega
    have i2 : ¬ (n : Int) < 65536 := by omega
    go_enter Tryd.func52, Tryd.ntmps52
    go_wp2_with fail
    go_ret
    exact ⟨rfl, rfl⟩
  · have i1 : ¬ (2 : Int) ≤ (n : Int) := by omega
    go_enter Tryd.func52, Tryd.ntmps52
    go_wp2_with fail
    go_ret
    exact ⟨rfl, rfl⟩

theorem itemOk_ref (b : ByteArray) (x : ItemD) : itemOk b x = ((decide (x.key.size ≠ 0) && decide (x.key.size ≤ 48)) && (decide (x.val.size ≤ 160) && lessB b x.key)) := by
  rw [itemOk]
  cases h : lessB b x.key with
  | false => simp
  | true => simp [less_nonempty h]
theorem itemOk_ref0 (x : ItemD) : itemOk noName x = ((decide (x.key.size ≠ 0) && decide (x.key.size ≤ 48)) && decide (x.val.size ≤ 160)) := by
  rw [itemOk_ref, less_empty]
  by_cases h : x.key.size = 0 <;> simp [h]

set_option maxRecDepth 20000 in
set_option maxHeartbeats 3200000 in
theorem ritemCheck_calls (B : Nat) (v : Value) (l : List ItemD) (w : World) (h : ItemsAt B w v l) (hB : B ≤ w.heap.size) :
    Calls Tryd.prog 30 #[v] w fun e w' => e = .returned (.int .i64 (if itemsOk noName l then 0 else 4)) ∧ Below w.heap.size w w' := by
  obtain ⟨a, cap, rfl, hn, hr⟩ := h
  have hz : ∀ R : Int, (itemsOk noName l = true → R = 0) → (itemsOk noName l = false → R = 4) → (if itemsOk noName l then 0 else 4) = R := fun R h1 h2 => by
    cases hq : itemsOk noName l with
    | true => rw [h1 hq]; rfl
    | false => rw [h2 hq]; rfl
  generalize (if itemsOk noName l = true then (0 : Int) else 4) = X at *
  have HZ := Lib.hid hz
  have hnot : ∀ (x : Bool) (w : World), (Op.unary .not (.bool x)).run Tryd.prog w = .ok (.bool (!x)) w := fun _ _ => rfl
  clear hz
  unfold maxLen at hn
  go_enter Tryd.func30, Tryd.ntmps30
  go_wp2_with fail
  go_loopw [7] (fun v wr => ∃ t : Nat, t ≤ l.length ∧ v = .int .i64 t ∧ itemsOk noName l = itemsOk (prevKey l t) (l.drop t) ∧ Below w.heap.size w wr) (fun v _ => l.length - (intOf v).toNat)
  case atStart => exact ⟨0, by omega, rfl, rfl, Below.refl _ _⟩
  case round =>
    obtain ⟨t, ht, rfl, hok, hb⟩ := hrel
    by_cases hlt : t < l.length
    · obtain ⟨b, o, rfl, hbB, hc⟩ := hr (by omega)
      have hci : wr.rangeAt b (o + t * 2) (itemV l[t]) := by
        have := rangeAt_below (hc t hlt) hb (by omega)
        rwa [List.getElem?_eq_getElem hlt] at this
      have c0 : wr.cell? ⟨b, o + t * 2, none⟩ = some (.string l[t].key) := hci 0 _ rfl
      have c1 : wr.cell? ⟨b, o + t * 2 + 1, none⟩ = some (.string l[t].val) := hci 1 _ rfl
      have hlti : (t : Int) < (l.length : Int) := by omega
      have HC := Lib.hid hc
      have Hok := Lib.hid hok
      clear hc hok hr hci
      have hdrop : l.drop t = l[t] :: l.drop (t + 1) := List.drop_eq_getElem_cons hlt
      have hprev : prevKey l (t + 1) = l[t].key := by simp [prevKey, List.getElem?_eq_getElem hlt]
      have hok' : itemsOk noName l = (itemOk (prevKey l t) l[t] && itemsOk (prevKey l (t + 1)) (l.drop (t + 1))) := by rw [Hok.out, hdrop, hprev]; rfl
      have hbW : Below w.heap.size w (wr.alloc (.cells #[.string l[t].key, .string l[t].val] 51)) := hb.alloc hb.size _
      have hfirst := itemOk_ref0 l[t]
      have hnext := itemOk_ref (prevKey l t) l[t]
      have hprv : ∀ h0 : 0 < t, prevKey l t = (l[t - 1]'(by omega)).key := fun h0 => by
        rw [prevKey, if_neg (by omega), List.getElem?_eq_getElem (by omega)]; rfl
      have hcp : ∀ h0 : 0 < t, wr.cell? ⟨b, o + (t - 1) * 2, none⟩ = some (.string (prevKey l t)) := fun h0 => by
        have := rangeAt_below (HC.out (t - 1) (by omega)) hb (by omega)
        rw [List.getElem?_eq_getElem (by omega)] at this
        rw [hprv h0]
        exact this 0 _ rfl
      have hbw : b < wr.heap.size := Nat.lt_of_lt_of_le (Nat.lt_of_lt_of_le hbB hB) hb.size
      have hzero : t = 0 → prevKey l t = noName := fun h0 => by rw [h0]; rfl
      go_wp2_with fail
      generalize hK : l[t].key = key at *
      generalize hV : l[t].val = val at *
      generalize hP : prevKey l t = prev at *
      have hc0' : (wr.alloc (.cells #[.string key, .string val] 51)).cell? ⟨wr.heap.size, 0, none⟩ = some (.string key) := by simp
      have hc1' : (wr.alloc (.cells #[.string key, .string val] 51)).cell? ⟨wr.heap.size, 1, none⟩ = some (.string val) := by simp
      have hcp' : ∀ h0 : 0 < t, (wr.alloc (.cells #[.string key, .string val] 51)).cell? ⟨b, o + (t - 1) * 2, none⟩ = some (.string prev) := fun h0 => by
        rw [World.cell?_alloc_past _ _ _ hbw]; exact hcp h0
      generalize wr.alloc (.cells #[.string key, .string val] 51) = W at *
      generalize wr.heap.size = G at *
      clear c0 c1 hcp hprv hb hbw hK hV hP
      have Hok' := Lib.hid hok'
      clear hok' hdrop hprev
      have hkc := fun w => rkey_calls key w
      generalize (decide (key.size ≠ 0) && decide (key.size ≤ 48)) = kb at *
      have Hfirst := Lib.hid hfirst
      have Hnext := Lib.hid hnext
      clear hfirst hnext
      cases kb with
      | false =>
        have hbad : itemsOk noName l = false := by rw [Hok'.out, Hnext.out]; rfl
        have hX := HZ.out 4 (fun h => by rw [hbad] at h; cases h) (fun _ => rfl)
        have HX := Lib.hid hX
        clear hX hbad
        go_quiet ((go_at_call 51; exact Calls.quiet_of_same (hkc _)))
        go_wp2_with fail
        go_ret
        exact ⟨by rw [HX.out]; rfl, below_drewN hbW _⟩
      | true =>
        by_cases hv : 160 < val.size
        · have i1 : (160 : Int) < (val.size : Int) := by omega
          have i1d : decide ((160 : Int) < (val.size : Int)) = true := decide_eq_true i1
          have hbad : itemsOk noName l = false := by rw [Hok'.out, Hnext.out, decide_eq_false (show ¬ val.size ≤ 160 by omega)]; rfl
          have hX := HZ.out 4 (fun h => by rw [hbad] at h; cases h) (fun _ => rfl)
          have HX := Lib.hid hX
          clear hX hbad
          go_quiet ((go_at_call 51; exact Calls.quiet_of_same (hkc _)))
          go_wp2_with fail
          go_ret
          exact ⟨by rw [HX.out]; rfl, below_drewN hbW _⟩
        · have i1 : ¬ (160 : Int) < (val.size : Int) := by omega
          have i1d : decide ((160 : Int) < (val.size : Int)) = false := decide_eq_false i1
          have hvd : decide (val.size ≤ 160) = true := decide_eq_true (by omega)
          by_cases h0 : t = 0
          · subst h0
            have hgo : itemsOk noName l = itemsOk (prevKey l (0 + 1)) (l.drop (0 + 1)) := by
              rw [Hok'.out, hzero rfl, Hfirst.out, hvd]; rfl
            have Hgo := Lib.hid hgo
            clear hgo hvd
            go_quiet ((go_at_call 51; exact Calls.quiet_of_same (hkc _)))
            go_wp2_with fail
            go_roundw
            case rel => exact ⟨1, by omega, by go_num, Hgo.out, below_drewN hbW _⟩
            case measure => simp [intOf]; omega
          · have hpos : (0 : Int) < (t : Int) := by omega
            have hcq := hcp' (by omega)
            have hposN : 0 < t := by omega
            have hdec : decide (0 < t) = true := decide_eq_true hposN
            have hm1 : ((t : Int) - 1).toNat = t - 1 := by omega
            have hm2 : (0 : Int) ≤ (t : Int) - 1 := by omega
            have hm3 : (t : Int) - 1 < (l.length : Int) := by omega
            have hls : Op.bytesLess prev.toList key.toList = lessB prev key := by rw [ByteArray.toList_eq, ByteArray.toList_eq]; rfl
            cases hle : lessB prev key with
            | true =>
              rw [hle] at hls
              have hgo : itemsOk noName l = itemsOk (prevKey l (t + 1)) (l.drop (t + 1)) := by
                rw [Hok'.out, Hnext.out, hvd, hle]; rfl
              have Hgo := Lib.hid hgo
              clear hgo hvd hle
              go_quiet ((go_at_call 51; exact Calls.quiet_of_same (hkc _)))
              go_wp2_with fail
              go_roundw
              case rel => exact ⟨t + 1, by omega, by go_num, Hgo.out, below_drewN hbW _⟩
              case measure => simp [intOf]; omega
            | false =>
              rw [hle] at hls
              have hbad : itemsOk noName l = false := by rw [Hok'.out, Hnext.out, hvd, hle]; rfl
              have hX := HZ.out 4 (fun h => by rw [hbad] at h; cases h) (fun _ => rfl)
              have HX := Lib.hid hX
              clear hX hbad hvd hle
              go_quiet ((go_at_call 51; exact Calls.quiet_of_same (hkc _)))
              go_wp2_with fail
              go_ret
              exact ⟨by rw [HX.out]; rfl, below_drewN hbW _⟩
    · have htl : t = l.length := by omega
      have hgood : itemsOk noName l = true := by rw [hok, htl, List.drop_length]; rfl
      have hX := HZ.out 0 (fun _ => rfl) (fun h => by rw [hgood] at h; cases h)
      have HX := Lib.hid hX
      clear hX hgood hok
      go_wp2_with fail
      go_ret
      exact ⟨by rw [HX.out]; rfl, hb⟩

end Go.Proofs.YtokanfceipkfpaaDoor
