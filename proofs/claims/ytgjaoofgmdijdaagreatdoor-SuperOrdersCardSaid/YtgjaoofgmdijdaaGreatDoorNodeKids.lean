/- node.kids: walked. -/
import Derived.Test.YtgjaoofgmdijdaaGreatDoorNodeChk
namespace Go.Proofs.YtgjaoofgmdijdaaGreatDoor
open Go.RowKit

/-- A fresh row, then filled whole. -/
theorem alloc_fill (w : World) (Z C : Array Value) (T : TypeId) (h : C.size = Z.size) : ∃ W W2, W = w.alloc (.cells Z T) ∧ W2 = W.setCells w.heap.size 0 C.toList ∧ RowIs W2 w.heap.size T C ∧ Below w.heap.size w W2 ∧ W.there w.heap.size 0 C.size := by
  have hr := RowIs.new w T Z
  exact ⟨_, _, rfl, rfl, store_row hr h, setCells_below _ _ (Nat.le_refl _) _ _ _ _ ((Below.refl _ _).alloc (Nat.le_refl _) _), hr.there 0 _ (by rw [h]; omega)⟩

theorem one_bytesV (l : List UInt8) : ∀ v ∈ bytesV l, v.oneCell' = true := by
  intro v hv
  obtain ⟨c, _, rfl⟩ := List.mem_map.1 hv
  rfl
theorem kidV_one (k : KidD) : (kidV k).toArray.all (·.oneCell') = true := all_oneCell_toArray fun v hv => by
  rw [kidV, List.mem_append] at hv
  rcases hv with h | h
  · simp only [List.mem_cons, List.not_mem_nil, or_false] at h
    rcases h with rfl | rfl <;> rfl
  · exact one_bytesV _ v h

def kidZ : Array Value := (kidV ⟨⟨#[]⟩, 0, List.replicate 32 0⟩).toArray
def prevKid (l : List KidD) (i : Nat) : ByteArray := if i = 0 then noName else (l[i - 1]?.map (·.key)).getD noName

set_option maxRecDepth 20000 in
set_option maxHeartbeats 1600000 in
theorem kids_calls (B : Nat) (v : Value) (l : List KidD) (w : World) (h : KidsAt B w v l) (hB : B ≤ w.heap.size) (hwf : ∀ k ∈ l, k.wf) :
    Calls Tryz.prog 94 #[v] w fun e w' => e = .returned (.bool (decide (0 < l.length) && decide (l.length ≤ 255) && kidsOk noName l)) ∧ Below w.heap.size w w' := by
  obtain ⟨a, cap, rfl, hn, hr⟩ := h
  have hz : ∀ R : Bool, (decide (0 < l.length) && decide (l.length ≤ 255) && kidsOk noName l) = R → (decide (0 < l.length) && decide (l.length ≤ 255) && kidsOk noName l) = R := fun R h => h
  generalize hX : (decide (0 < l.length) && decide (l.length ≤ 255) && kidsOk noName l) = X at *
  have HX := Lib.hid hX
  clear hX hz
  have hnot : ∀ (x : Bool) (w : World), (Op.unary .not (.bool x)).run Tryz.prog w = .ok (.bool (!x)) w := fun _ _ => rfl
  unfold maxLen at hn
  go_enter Tryz.func94, Tryz.ntmps94
  go_wp2_with fail
  go_loopw [3, 8] (fun v3 v wr => ∃ t : Nat, t ≤ l.length ∧ v = .int .i64 t ∧ v3 = .string (prevKid l t) ∧ kidsOk noName l = kidsOk (prevKid l t) (l.drop t) ∧ Below w.heap.size w wr) (fun _ v _ => l.length - (intOf v).toNat)
  case atStart => exact ⟨0, by omega, rfl, rfl, rfl, Below.refl _ _⟩
  case round =>
    obtain ⟨t, ht, rfl, rfl, hok, hb⟩ := hrel
    by_cases hlt : t < l.length
    · obtain ⟨b, o, rfl, hbB, hc⟩ := hr (by omega)
      have hkw := hwf l[t] (List.getElem_mem hlt)
      have hci : wr.rangeAt b (o + t * 34) (kidV l[t]) := by
        have := rangeAt_below (hc t hlt) hb (by omega)
        rwa [List.getElem?_eq_getElem hlt] at this
      have hdrop : l.drop t = l[t] :: l.drop (t + 1) := List.drop_eq_getElem_cons hlt
      have hprev : prevKid l (t + 1) = l[t].key := by simp [prevKid, List.getElem?_eq_getElem hlt]
      have hok' : kidsOk noName l = (kidOk (prevKid l t) l[t] && kidsOk (prevKid l (t + 1)) (l.drop (t + 1))) := by rw [hok, hdrop, hprev]; rfl
      rw [hprev] at hok'
      have hlti : (t : Int) < (l.length : Int) := by omega
      have hkl := kidV_length hkw.2
      have hone := kidV_one l[t]
      have hksz : (Tryz.prog.info? 95).map (·.size) = some (kidV l[t]).length := by rw [hkl]; kernel_rfl
      have hksz2 : (Tryz.prog.info? 95).map (·.size) = some (kidV l[t]).toArray.size := by rw [List.size_toArray, hkl]; kernel_rfl
      obtain ⟨W, W2, hW, hW2, hG, hb2, hthere⟩ := alloc_fill wr kidZ (kidV l[t]).toArray 95 (by rw [List.size_toArray, hkl]; rfl)
      have hbW := hb.trans (hb2.mono hb.size)
      have c0 : W2.cell? ⟨wr.heap.size, 0, none⟩ = some (.string l[t].key) := by rw [hG.cell]; rfl
      have c1 : W2.cell? ⟨wr.heap.size, 1, none⟩ = some (.int .u32 (l[t].num : Int)) := by rw [hG.cell]; rfl
      have hkO : kidOk (prevKid l t) l[t] = ((decide (l[t].key.size ≤ 48) && lessB (prevKid l t) l[t].key) && blockN l[t].num) := by
        rw [kidOk, Bool.and_comm (lessB _ _)]
      have HW := Lib.hid hW
      have HW2 := Lib.hid hW2
      have Hok := Lib.hid hok'
      have HkO := Lib.hid hkO
      have Hp := Lib.hid hprev
      clear hc hok hr hW hW2 hG hb hb2 hok' hkO hdrop hprev hkl hkw hwf
      generalize hkv : kidV l[t] = cs at *
      generalize hK : l[t].key = key at *
      generalize hN : l[t].num = num at *
      generalize prevKid l t = prev at *
      generalize kidOk prev l[t] = ok1 at *
      clear hkv hK hN
      go_wp2_with (first | (refine wpList_world HW.out ?_) | (refine wpList_load_mid rfl 95 _ rfl b (o + t * 34) rfl cs _ hci Tryz.underlying95 rfl hksz ?_) | (refine wpList_store_mid rfl 95 _ _ rfl wr.heap.size 0 cs.toArray rfl rfl hthere hksz2 hone ?_; refine wpList_world HW2.out ?_))
      have hnm := named_calls prev key 48 W2
      rw [show ((48 : Nat) : Int) = 48 from rfl] at hnm
      generalize (decide (key.size ≤ 48) && lessB prev key) = nm at *
      have hbl := block_calls num W2
      generalize blockN num = bl at *
      refine hnm.mono ?_
      rintro e W2 ⟨rfl, rfl⟩
      cases nm with
      | false =>
        have hX : X = false := by rw [← HX.out, Hok.out, HkO.out]; simp
        have HXf := Lib.hid hX
        clear hX
        go_wp2_with fail
        go_ret
        exact ⟨by rw [HXf.out]; rfl, hbW⟩
      | true =>
        go_wp2_with fail
        refine hbl.mono ?_
        rintro e W2 ⟨rfl, rfl⟩
        cases bl with
        | false =>
          have hX : X = false := by rw [← HX.out, Hok.out, HkO.out]; simp
          have HXf := Lib.hid hX
          clear hX
          go_wp2_with fail
          go_ret
          exact ⟨by rw [HXf.out]; rfl, hbW⟩
        | true =>
          have hok2 : kidsOk noName l = kidsOk key (l.drop (t + 1)) := by rw [Hok.out, HkO.out]; rfl
          have Hok2 := Lib.hid hok2
          clear hok2
          go_wp2_with fail
          go_roundw
          case rel => exact ⟨t + 1, by omega, by go_num, by rw [Hp.out], by rw [Hp.out]; exact Hok2.out, hbW⟩
          case measure => simp [intOf]; omega
    · have htl : t = l.length := by omega
      have hgood : kidsOk noName l = true := by rw [hok, htl, List.drop_length]; rfl
      rw [hgood, Bool.and_true] at HX
      clear hok hgood hr hwf
      by_cases h1 : 0 < l.length
      · have i1 : (0 : Int) < (l.length : Int) := by omega
        by_cases h2 : l.length ≤ 255
        · have i2 : (l.length : Int) ≤ 255 := by omega
          have hX : X = true := by rw [← HX.out]; simp [h1, h2]
          have HXf := Lib.hid hX
          clear hX
          go_wp2_with fail
          go_ret
          exact ⟨by rw [HXf.out]; rfl, hb⟩
        · have i2 : ¬ (l.length : Int) ≤ 255 := by omega
          have hX : X = false := by rw [← HX.out]; simp [h2]
          have HXf := Lib.hid hX
          clear hX
          go_wp2_with fail
          go_ret
          exact ⟨by rw [HXf.out]; rfl, hb⟩
      · have i1 : ¬ (0 : Int) < (l.length : Int) := by omega
        have hX : X = false := by rw [← HX.out]; simp [h1]
        have HXf := Lib.hid hX
        clear hX
        go_wp2_with fail
        go_ret
        exact ⟨by rw [HXf.out]; rfl, hb⟩

end Go.Proofs.YtgjaoofgmdijdaaGreatDoor
