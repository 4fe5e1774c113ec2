/- item.Check, kids, volumes: walked. -/
import Derived.Test.YtgjaoofgmdijdaaGreatDoorNodeMem
namespace Go.Proofs.YtgjaoofgmdijdaaGreatDoor
open Go.RowKit

def prevKey (l : List ItemD) (i : Nat) : ByteArray := if i = 0 then noName else (l[i - 1]?.map (·.key)).getD noName
theorem below_drewN {B : Nat} {a w : World} (h : Below B a w) (n : Nat) : Below B a (w.drewN n) := h.trans ⟨rfl, rfl, rfl, Nat.le_refl _, fun _ _ => rfl⟩
theorem less_nonempty {b s : ByteArray} (h : lessB b s = true) : s.size ≠ 0 := by
  intro h0
  have e : s.data.toList.length = s.size := Array.length_toList
  rw [h0] at e
  have : s.data.toList = [] := List.length_eq_zero_iff.1 e
  unfold lessB at h
  rw [this] at h
  cases hb : b.data.toList <;> rw [hb] at h <;> simp [Op.bytesLess] at h
theorem itemOk_first (x : ItemD) : itemOk noName x = rightB x.key x.val := by
  rw [itemOk, less_empty, rightB]
theorem itemOk_next (b : ByteArray) (x : ItemD) : itemOk b x = (rightB x.key x.val && lessB b x.key) := by
  rw [itemOk, rightB]
  cases h : lessB b x.key with
  | false => simp
  | true => simp [less_nonempty h]

set_option maxRecDepth 20000 in
set_option maxHeartbeats 1600000 in
theorem itemCheck_calls (B : Nat) (v : Value) (l : List ItemD) (w : World) (h : ItemsAt B w v l) (hB : B ≤ w.heap.size) :
    Calls Tryz.prog 93 #[v] w fun e w' => e = .returned (.int .i64 (if itemsOk noName l then 0 else 4)) ∧ Below w.heap.size w w' := by
  obtain ⟨a, cap, rfl, hn, hr⟩ := h
  have hz : ∀ R : Int, (itemsOk noName l = true → R = 0) → (itemsOk noName l = false → R = 4) → (if itemsOk noName l then 0 else 4) = R := fun R h1 h2 => by
    cases hq : itemsOk noName l with
    | true => rw [h1 hq]; rfl
    | false => rw [h2 hq]; rfl
  generalize (if itemsOk noName l = true then (0 : Int) else 4) = X at *
  have HZ := Lib.hid hz
  clear hz
  unfold maxLen at hn
  go_enter Tryz.func93, Tryz.ntmps93
  go_wp2_with fail
  go_loopw [7] (fun v wr => ∃ t : Nat, t ≤ l.length ∧ v = .int .i64 t ∧ itemsOk noName l = itemsOk (prevKey l t) (l.drop t) ∧ Below w.heap.size w wr) (fun v _ => l.length - (intOf v).toNat)
  case atStart => exact ⟨0, by omega, rfl, rfl, Below.refl _ _⟩
  case round =>
    obtain ⟨t, ht, rfl, hok, hb⟩ := hrel
    by_cases hlt : t < l.length
    · obtain ⟨b, o, rfl, hbB, hc⟩ := hr (by omega)
      have hci : wr.rangeAt b (o + t * 2) (itemV l[t]) := by
        have := rangeAt_below (hc t hlt) hb (by omega)
        rwa [List.getElem?_eq_getElem hlt] at this
      have c0 : wr.cell? ⟨b, o + t * 2, none⟩ = some (.string l[t].key) := hci 0 _ rfl
      have c1 : wr.cell? ⟨b, o + t * 2 + 1, none⟩ = some (.string l[t].val) := hci 1 _ rfl
      have hlti : (t : Int) < (l.length : Int) := by omega
      have HC := Lib.hid hc
      have Hok := Lib.hid hok
      have Hci := Lib.hid hci
      clear hc hok hr hci
      have hdrop : l.drop t = l[t] :: l.drop (t + 1) := List.drop_eq_getElem_cons hlt
      have hprev : prevKey l (t + 1) = l[t].key := by simp [prevKey, List.getElem?_eq_getElem hlt]
      have hok' : itemsOk noName l = (itemOk (prevKey l t) l[t] && itemsOk (prevKey l (t + 1)) (l.drop (t + 1))) := by rw [Hok.out, hdrop, hprev]; rfl
      have hbW : Below w.heap.size w (wr.alloc (.cells #[.string l[t].key, .string l[t].val] 92)) := hb.alloc hb.size _
      have hN := heap_alloc_new wr (.cells #[.string l[t].key, .string l[t].val] 92)
      have hfirst := itemOk_first l[t]
      have hnext := itemOk_next (prevKey l t) l[t]
      have hprv : ∀ h0 : 0 < t, prevKey l t = (l[t - 1]'(by omega)).key := fun h0 => by
        rw [prevKey, if_neg (by omega), List.getElem?_eq_getElem (by omega)]; rfl
      have hcp : ∀ h0 : 0 < t, wr.cell? ⟨b, o + (t - 1) * 2, none⟩ = some (.string (prevKey l t)) := fun h0 => by
        have := rangeAt_below (HC.out (t - 1) (by omega)) hb (by omega)
        rw [List.getElem?_eq_getElem (by omega)] at this
        rw [hprv h0]
        exact this 0 _ rfl
      have hbw : b < wr.heap.size := Nat.lt_of_lt_of_le (Nat.lt_of_lt_of_le hbB hB) hb.size
      have hzero : t = 0 → prevKey l t = noName := fun h0 => by rw [h0]; rfl
      go_wp2_with fail
      generalize hK : l[t].key = key at *
      generalize hV : l[t].val = val at *
      generalize hP : prevKey l t = prev at *
      have hc0' : (wr.alloc (.cells #[.string key, .string val] 92)).cell? ⟨wr.heap.size, 0, none⟩ = some (.string key) := by simp
      have hc1' : (wr.alloc (.cells #[.string key, .string val] 92)).cell? ⟨wr.heap.size, 1, none⟩ = some (.string val) := by simp
      have hcp' : ∀ h0 : 0 < t, (wr.alloc (.cells #[.string key, .string val] 92)).cell? ⟨b, o + (t - 1) * 2, none⟩ = some (.string prev) := fun h0 => by
        rw [World.cell?_alloc_past _ _ _ hbw]; exact hcp h0
      generalize wr.alloc (.cells #[.string key, .string val] 92) = W at *
      generalize wr.heap.size = G at *
      clear c0 c1 hN hcp hprv hb hbw hK hV hP
      have Hok' := Lib.hid hok'
      clear hok' hdrop hprev
      cases hrg : rightB key val with
      | false =>
        rw [hrg] at hfirst hnext
        have hbad : itemsOk noName l = false := by rw [Hok'.out, hnext]; rfl
        have hX := HZ.out 4 (fun h => by rw [hbad] at h; cases h) (fun _ => rfl)
        go_quiet ((go_at_call 111; exact Calls.quiet_of_same (right_calls key val _)))
        have HX := Lib.hid hX
        clear hX
        go_wp2_with fail
        go_ret
        exact ⟨by rw [HX.out]; rfl, below_drewN hbW _⟩
      | true =>
        rw [hrg, Bool.true_and] at hnext
        by_cases h0 : t = 0
        · subst h0
          rw [hrg] at hfirst
          rw [hzero rfl, hfirst, Bool.true_and] at Hok'
          go_quiet ((go_at_call 111; exact Calls.quiet_of_same (right_calls key val _)))
          go_wp2_with fail
          go_roundw
          case rel => exact ⟨1, by omega, by go_num, Hok'.out, below_drewN hbW _⟩
          case measure => simp [intOf]; omega
        · have hpos : (0 : Int) < (t : Int) := by omega
          have hcq := hcp' (by omega)
          have hposN : 0 < t := by omega
          have hdec : decide (0 < t) = true := decide_eq_true hposN
          have hm1 : ((t : Int) - 1).toNat = t - 1 := by omega
          have hm2 : (0 : Int) ≤ (t : Int) - 1 := by omega
          have hm3 : (t : Int) - 1 < (l.length : Int) := by omega
          have hls : Op.bytesLess prev.toList key.toList = lessB prev key := by rw [ByteArray.toList_eq, ByteArray.toList_eq]; rfl
          cases hle : lessB prev key with
          | true =>
            rw [hle] at hls hnext
            have hok2 := Hok'.out
            rw [hnext, Bool.true_and] at hok2
            have Hok2 := Lib.hid hok2
            clear hok2
            go_quiet ((go_at_call 111; exact Calls.quiet_of_same (right_calls key val _)))
            go_wp2_with fail
            go_roundw
            case rel => exact ⟨t + 1, by omega, by go_num, Hok2.out, below_drewN hbW _⟩
            case measure => simp [intOf]; omega
          | false =>
            rw [hle] at hls hnext
            have hbad : itemsOk noName l = false := by rw [Hok'.out, hnext]; rfl
            have hX := HZ.out 4 (fun h => by rw [hbad] at h; cases h) (fun _ => rfl)
            have HX := Lib.hid hX
            clear hX hbad
            go_quiet ((go_at_call 111; exact Calls.quiet_of_same (right_calls key val _)))
            go_wp2_with fail
            go_ret
            exact ⟨by rw [HX.out]; rfl, below_drewN hbW _⟩
    · have htl : t = l.length := by omega
      have hgood : itemsOk noName l = true := by rw [hok, htl, List.drop_length]; rfl
      have hX := HZ.out 0 (fun _ => rfl) (fun h => by rw [hgood] at h; cases h)
      have HX := Lib.hid hX
      clear hX hgood hok
      go_wp2_with fail
      go_ret
      exact ⟨by rw [HX.out]; rfl, hb⟩

end Go.Proofs.YtgjaoofgmdijdaaGreatDoor
