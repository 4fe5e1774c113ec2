/- cambiumref05.kids, volumes and Check: walked. -/
import Derived.Test.YtokanfceipkfpaaDoorRefChk
import Derived.Test.YtokanfceipkfpaaDoorRefSize
import Derived.BigQuiet
import Derived.Laws.StructEq
namespace Go.Proofs.YtokanfceipkfpaaDoor
open Go.RowKit

theorem str_empty (k : ByteArray) : (k.toList == ByteArray.toList ⟨#[]⟩) = decide (k.size = 0) ∧ (k.toList == []) = decide (k.size = 0) := by
  have hz : (k.toList == ByteArray.toList ⟨#[]⟩) = decide (k.size = 0) := by
    rw [ByteArray.toList_eq, ByteArray.toList_eq]
    have e : k.data.toList.length = k.size := Array.length_toList
    cases h : k.data.toList with
    | nil => rw [h] at e; simp at e; simp [← e]
    | cons a l => rw [h, List.length_cons] at e; rw [decide_eq_false (show ¬ k.size = 0 by omega)]; rfl
  exact ⟨hz, by rw [← hz]; rw [ByteArray.toList_eq ⟨#[]⟩]⟩
theorem wpList_skip {P : Program} {ops : Array Oper} {rest : List Oper} {o : Oper} {a : Act} {w : World} {Q : Exit → Act → World → Prop} (hw : Region.wanted o (yielded ops a.tmps) = false) (k : wpList P ops Q rest (a.put o.dst undef) w) : wpList P ops Q (o :: rest) a w := by
  unfold wpList
  rw [if_neg (by rw [hw]; exact Bool.false_ne_true)]
  exact k
theorem exec_neqR {P : Program} {o : Oper} {ev : Operand → Value} {w : World} {t t' : TypeId} {x y : Operand} {va vb : Array Value} {r : Bool} (ho : o.op = .binOp .neq t x y t') (hx : ev x = .agg va) (hy : ev y = .agg vb)
    (hg : P.eqGuardType P.depth t = false) (h : (binOp .neq t (.agg va) (.agg vb)).run P w = .ok (.bool r) w) : (execOp ev o).run P w = .ok (.value (.bool r)) w := by
  unfold execOp
  simp only [ho, hx, hy, Sem.run_bind, run_eqGuard_agg w .neq t x y va vb hg, Result.andThen_ok, h, Sem.run_pure]
theorem guard_32R : Tryd.prog.eqGuardType Tryd.prog.depth 53 = false := by kernel_rfl
theorem less_size0 {b k : ByteArray} (h : k.size = 0) : lessB b k = false := by
  cases q : lessB b k with
  | false => rfl
  | true =>
    have h2 := less_nonempty q
    simp [h] at h2
set_option maxRecDepth 20000 in
set_option maxHeartbeats 6400000 in
theorem rkids_calls (B : Nat) (v : Value) (l : List KidD) (w : World) (h : KidsAt B w v l) (hB : B ≤ w.heap.size) (hwf : ∀ k ∈ l, k.wf) :
    Calls Tryd.prog 31 #[v] w fun e w' => e = .returned (.bool (decide (0 < l.length) && decide (l.length ≤ 255) && kidsOk noName l)) ∧ Below w.heap.size w w' := by
  obtain ⟨a, cap, rfl, hn, hr⟩ := h
  generalize hX : (decide (0 < l.length) && decide (l.length ≤ 255) && kidsOk noName l) = X at *
  have HX := Lib.hid hX
  clear hX
  have hnot : ∀ (x : Bool) (w : World), (Op.unary .not (.bool x)).run Tryd.prog w = .ok (.bool (!x)) w := fun _ _ => rfl
  unfold maxLen at hn
  go_enter Tryd.func31, Tryd.ntmps31
  go_wp2_with fail
  go_loopw [7] (fun v wr => ∃ t : Nat, t ≤ l.length ∧ v = .int .i64 t ∧ kidsOk noName l = kidsOk (prevKid l t) (l.drop t) ∧ Below w.heap.size w wr) (fun v _ => l.length - (intOf v).toNat)
  case atStart => exact ⟨0, by omega, rfl, rfl, Below.refl _ _⟩
  case round =>
    obtain ⟨t, ht, rfl, hok, hb⟩ := hrel
    by_cases hlt : t < l.length
    · obtain ⟨b, o, rfl, hbB, hc⟩ := hr (by omega)
      have hkw := hwf l[t] (List.getElem_mem hlt)
      have hci : wr.rangeAt b (o + t * 34) (kidV l[t]) := by
        have := rangeAt_below (hc t hlt) hb (by omega)
        rwa [List.getElem?_eq_getElem hlt] at this
      have hdrop : l.drop t = l[t] :: l.drop (t + 1) := List.drop_eq_getElem_cons hlt
      have hprev : prevKid l (t + 1) = l[t].key := by simp [prevKid, List.getElem?_eq_getElem hlt]
      have hok' : kidsOk noName l = (kidOk (prevKid l t) l[t] && kidsOk (prevKid l (t + 1)) (l.drop (t + 1))) := by rw [hok, hdrop, hprev]; rfl
      have hlti : (t : Int) < (l.length : Int) := by omega
      have hkl := kidV_length hkw.2
      have hone := kidV_one l[t]
      have hksz : (Tryd.prog.info? 55).map (·.size) = some (kidV l[t]).length := by rw [hkl]; kernel_rfl
      have hksz2 : (Tryd.prog.info? 55).map (·.size) = some (kidV l[t]).toArray.size := by rw [List.size_toArray, hkl]; kernel_rfl
      obtain ⟨W, W2, hW, hW2, hG, hb2, hthere⟩ := alloc_fill wr kidZ (kidV l[t]).toArray 55 (by rw [List.size_toArray, hkl]; rfl)
      have hbW := hb.trans (hb2.mono hb.size)
      have hprv : ∀ h0 : 0 < t, prevKid l t = (l[t - 1]'(by omega)).key := fun h0 => by
        rw [prevKid, if_neg (by omega), List.getElem?_eq_getElem (by omega)]; rfl
      have hcp : ∀ h0 : 0 < t, W2.cell? ⟨b, o + (t - 1) * 34, none⟩ = some (.string (prevKid l t)) := fun h0 => by
        have := rangeAt_below (rangeAt_below (hc (t - 1) (by omega)) hb (by omega)) hb2 (by have := hb.size; omega)
        rw [List.getElem?_eq_getElem (by omega)] at this
        rw [hprv h0]
        exact this 0 _ rfl
      have hzero : t = 0 → prevKid l t = noName := fun h0 => by rw [h0]; rfl
      have c0 : W2.cell? ⟨wr.heap.size, 0, none⟩ = some (.string l[t].key) := by rw [hG.cell]; rfl
      have c1 : W2.cell? ⟨wr.heap.size, 1, none⟩ = some (.int .u32 (l[t].num : Int)) := by rw [hG.cell]; rfl
      have hkO : kidOk (prevKid l t) l[t] = ((lessB (prevKid l t) l[t].key && decide (l[t].key.size ≤ 48)) && blockN l[t].num) := rfl
      have HW := Lib.hid hW
      have HW2 := Lib.hid hW2
      have Hok := Lib.hid hok'
      have HkO := Lib.hid hkO
      have Hp := Lib.hid hprev
      clear hc hok hr hW hW2 hG hb hb2 hok' hkO hdrop hprev hkl hkw hwf hprv
      generalize hkv : kidV l[t] = cs at *
      generalize hK : l[t].key = key at *
      generalize hN : l[t].num = num at *
      generalize prevKid l t = prev at *
      generalize kidOk prev l[t] = ok1 at *
      clear hkv hK hN
      have C1 := Lib.hid c1
      have hse := str_empty key
      have hs1 := hse.1
      have hs2 := hse.2
      clear hse
      go_wp2_with (first | (refine wpList_world HW.out ?_) | (refine wpList_load_mid rfl 55 _ rfl b (o + t * 34) rfl cs _ hci Tryd.underlying55 rfl hksz ?_) | (refine wpList_store_mid rfl 55 _ _ rfl wr.heap.size 0 cs.toArray rfl rfl hthere hksz2 hone ?_; refine wpList_world HW2.out ?_))
      have hbl := fun w => rnum_calls num w
      clear c1 hci hthere hksz hksz2 hone
      have c1 : W2.cell? ⟨wr.heap.size, 1, none⟩ = some (.int .u32 (num : Int)) := C1.out
      generalize blockN num = bl at *
      by_cases hz0 : key.size = 0
      · rw [decide_eq_true hz0] at hs1 hs2
        have hX : X = false := by rw [← HX.out, Hok.out, HkO.out]; simp [less_size0 hz0]
        have HXf := Lib.hid hX
        clear hX
        go_quiet ((go_at_call 52; exact Calls.quiet_of_same (hbl _)))
        go_wp2_with fail
        go_ret
        exact ⟨by rw [HXf.out]; rfl, below_drewN hbW _⟩
      · have hne0 : key.size ≠ 0 := hz0
        rw [decide_eq_false hz0] at hs1 hs2
        clear hz0
        by_cases hz1 : 48 < key.size
        · have i1 : (48 : Int) < (key.size : Int) := by omega
          have i1d : decide ((48 : Int) < (key.size : Int)) = true := decide_eq_true i1
          have hX : X = false := by rw [← HX.out, Hok.out, HkO.out]; simp [show ¬ key.size ≤ 48 by omega]
          have HXf := Lib.hid hX
          clear hX
          go_quiet ((go_at_call 52; exact Calls.quiet_of_same (hbl _)))
          go_wp2_with fail
          go_ret
          exact ⟨by rw [HXf.out]; rfl, below_drewN hbW _⟩
        · have i1 : ¬ (48 : Int) < (key.size : Int) := by omega
          have i1d : decide ((48 : Int) < (key.size : Int)) = false := decide_eq_false i1
          have hle48 : key.size ≤ 48 := by omega
          clear hz1
          cases bl with
          | false =>
            have hX : X = false := by rw [← HX.out, Hok.out, HkO.out]; simp []
            have HXf := Lib.hid hX
            clear hX
            go_quiet ((go_at_call 52; exact Calls.quiet_of_same (hbl _)))
            go_wp2_with fail
            go_ret
            exact ⟨by rw [HXf.out]; rfl, below_drewN hbW _⟩
          | true =>
            by_cases h0 : t = 0
            · have hnp : ¬ (0 : Int) < (t : Int) := by omega
              have hnd : decide ((0 : Int) < (t : Int)) = false := decide_eq_false hnp
              have hndN : decide (0 < t) = false := decide_eq_false (by omega)
              have hle : lessB prev key = true := by rw [hzero h0, less_empty]; simp [hne0]
              have HLE := Lib.hid hle
              clear hle h0
              have hok2 : kidsOk noName l = kidsOk (prevKid l (t + 1)) (l.drop (t + 1)) := by rw [Hok.out, HkO.out, HLE.out]; simp [hle48]
              have Hok2 := Lib.hid hok2
              clear hok2
              go_quiet ((go_at_call 52; exact Calls.quiet_of_same (hbl _)))
              go_wp2_with fail
              go_roundw
              case rel => exact ⟨t + 1, by omega, by go_num, Hok2.out, below_drewN hbW _⟩
              case measure => simp [intOf]; omega
            · have hpos : (0 : Int) < (t : Int) := by omega
              have hpd : decide ((0 : Int) < (t : Int)) = true := decide_eq_true hpos
              have hposN : 0 < t := by omega
              have hdec : decide (0 < t) = true := decide_eq_true hposN
              have hcq := hcp (by omega)
              have hm1 : ((t : Int) - 1).toNat = t - 1 := by omega
              have hm2 : (0 : Int) ≤ (t : Int) - 1 := by omega
              have hm3 : (t : Int) - 1 < (l.length : Int) := by omega
              have hls : Op.bytesLess prev.toList key.toList = lessB prev key := by rw [ByteArray.toList_eq, ByteArray.toList_eq]; rfl
              cases hle : lessB prev key with
              | true =>
                rw [hle] at hls
                have HLE := Lib.hid hle
                clear hle
                have hok2 : kidsOk noName l = kidsOk (prevKid l (t + 1)) (l.drop (t + 1)) := by rw [Hok.out, HkO.out, HLE.out]; simp [hle48]
                have Hok2 := Lib.hid hok2
                clear hok2
                go_quiet ((go_at_call 52; exact Calls.quiet_of_same (hbl _)))
                go_wp2_with fail
                go_roundw
                case rel => exact ⟨t + 1, by omega, by go_num, Hok2.out, below_drewN hbW _⟩
                case measure => simp [intOf]; omega
              | false =>
                rw [hle] at hls
                have HLE := Lib.hid hle
                have hX : X = false := by rw [← HX.out, Hok.out, HkO.out, HLE.out]; simp
                have HXf := Lib.hid hX
                clear hX hle
                go_quiet ((go_at_call 52; exact Calls.quiet_of_same (hbl _)))
                go_wp2_with fail
                go_ret
                exact ⟨by rw [HXf.out]; rfl, below_drewN hbW _⟩
    · have htl : t = l.length := by omega
      have hgood : kidsOk noName l = true := by rw [hok, htl, List.drop_length]; rfl
      rw [hgood, Bool.and_true] at HX
      clear hok hgood hr hwf
      by_cases h1 : 0 < l.length
      · have i1 : (1 : Int) ≤ (l.length : Int) := by omega
        by_cases h2 : l.length ≤ 255
        · have i2 : (l.length : Int) ≤ 255 := by omega
          have hX : X = true := by rw [← HX.out]; simp [h1, h2]
          have HXf := Lib.hid hX
          clear hX
          go_wp2_with fail
          go_ret
          exact ⟨by rw [HXf.out]; rfl, hb⟩
        · have i2 : ¬ (l.length : Int) ≤ 255 := by omega
          have hX : X = false := by rw [← HX.out]; simp [h2]
          have HXf := Lib.hid hX
          clear hX
          go_wp2_with fail
          go_ret
          exact ⟨by rw [HXf.out]; rfl, hb⟩
      · have i1 : ¬ (1 : Int) ≤ (l.length : Int) := by omega
        have hX : X = false := by rw [← HX.out]; simp [h1]
        have HXf := Lib.hid hX
        clear hX
        go_wp2_with fail
        go_ret
        exact ⟨by rw [HXf.out]; rfl, hb⟩
set_option maxRecDepth 20000 in
set_option maxHeartbeats 6400000 in
theorem rvolumes_calls (B : Nat) (v : Value) (l : List VolD) (w : World) (h : VolsAt B w v l) (hB : B ≤ w.heap.size) (hwf : ∀ k ∈ l, k.wf) :
    Calls Tryd.prog 32 #[v] w fun e w' => e = .returned (.bool (decide (l.length ≤ 6) && volsOk noName l)) ∧ Below w.heap.size w w' := by
  obtain ⟨a, cap, rfl, hn, hr⟩ := h
  generalize hX : (decide (l.length ≤ 6) && volsOk noName l) = X at *
  have HX := Lib.hid hX
  clear hX
  have hnot : ∀ (x : Bool) (w : World), (Op.unary .not (.bool x)).run Tryd.prog w = .ok (.bool (!x)) w := fun _ _ => rfl
  unfold maxLen at hn
  go_enter Tryd.func32, Tryd.ntmps32
  go_wp2_with fail
  go_loopw [7] (fun v wr => ∃ t : Nat, t ≤ l.length ∧ v = .int .i64 t ∧ volsOk noName l = volsOk (prevVol l t) (l.drop t) ∧ Below w.heap.size w wr) (fun v _ => l.length - (intOf v).toNat)
  case atStart => exact ⟨0, by omega, rfl, rfl, Below.refl _ _⟩
  case round =>
    obtain ⟨t, ht, rfl, hok, hb⟩ := hrel
    by_cases hlt : t < l.length
    · obtain ⟨b, o, rfl, hbB, hc⟩ := hr (by omega)
      have hkw := hwf l[t] (List.getElem_mem hlt)
      have hci : wr.rangeAt b (o + t * 37) (volV l[t]) := by
        have := rangeAt_below (hc t hlt) hb (by omega)
        rwa [List.getElem?_eq_getElem hlt] at this
      have hdrop : l.drop t = l[t] :: l.drop (t + 1) := List.drop_eq_getElem_cons hlt
      have hprev : prevVol l (t + 1) = l[t].name := by simp [prevVol, List.getElem?_eq_getElem hlt]
      have hok' : volsOk noName l = (volOk (prevVol l t) l[t] && volsOk (prevVol l (t + 1)) (l.drop (t + 1))) := by rw [hok, hdrop, hprev]; rfl
      have hlti : (t : Int) < (l.length : Int) := by omega
      have hkl := volV_length hkw.2.2.2
      have hone := volV_one l[t]
      have hksz : (Tryd.prog.info? 62).map (·.size) = some (volV l[t]).length := by rw [hkl]; kernel_rfl
      have hksz2 : (Tryd.prog.info? 62).map (·.size) = some (volV l[t]).toArray.size := by rw [List.size_toArray, hkl]; kernel_rfl
      obtain ⟨W, W2, hW, hW2, hG, hb2, hthere⟩ := alloc_fill wr volZ (volV l[t]).toArray 62 (by rw [List.size_toArray, hkl]; rfl)
      have hbW := hb.trans (hb2.mono hb.size)
      have hprv : ∀ h0 : 0 < t, prevVol l t = (l[t - 1]'(by omega)).name := fun h0 => by
        rw [prevVol, if_neg (by omega), List.getElem?_eq_getElem (by omega)]; rfl
      have hcp : ∀ h0 : 0 < t, W2.cell? ⟨b, o + (t - 1) * 37, none⟩ = some (.string (prevVol l t)) := fun h0 => by
        have := rangeAt_below (rangeAt_below (hc (t - 1) (by omega)) hb (by omega)) hb2 (by have := hb.size; omega)
        rw [List.getElem?_eq_getElem (by omega)] at this
        rw [hprv h0]
        exact this 0 _ rfl
      have hzero : t = 0 → prevVol l t = noName := fun h0 => by rw [h0]; rfl
      have c0 : W2.cell? ⟨wr.heap.size, 0, none⟩ = some (.string l[t].name) := by rw [hG.cell]; rfl
      have c1 : W2.cell? ⟨wr.heap.size, 1, none⟩ = some (.int .u8 (l[t].kind : Int)) := by rw [hG.cell]; rfl
      have c2 : W2.cell? ⟨wr.heap.size, 2, none⟩ = some (.string l[t].frm) := by rw [hG.cell]; rfl
      have c4 : W2.cell? ⟨wr.heap.size, 4, none⟩ = some (.int .u32 (l[t].root : Int)) := by rw [hG.cell]; rfl
      have hrng : W2.rangeAt wr.heap.size 5 (bytesV l[t].hash) := fun j v hv => by
        rw [hG.cell]
        rw [← hv]
        simp [volV, Nat.add_comm 5 j]
      have hhl := hkw.2.2.2
      have hhsz : (Tryd.prog.info? 53).map (·.size) = some (bytesV l[t].hash).length := by rw [bytesV, List.length_map, hhl]; kernel_rfl
      have heq : ∀ w, (Op.equalIn 10000 53 (.agg (bytesV l[t].hash).toArray) (.agg (byteCells noHash))).run Tryd.prog w = .ok (l[t].hash == noHash) w := fun w => eq_hash l[t].hash noHash w hhl (by simp [noHash])
      have hkO : volOk (prevVol l t) l[t] = (((((blockN l[t].root || (l[t].root == 0 && l[t].hash == noHash)) && (decide (l[t].name.size ≤ 16) && lessB (prevVol l t) l[t].name)) && decide (l[t].frm.size ≤ 16)) && decide (0 < l[t].kind)) && decide (l[t].kind < 3)) := by
        rw [volOk]
        generalize (blockN l[t].root || (l[t].root == 0 && l[t].hash == noHash)) = b1
        generalize lessB (prevVol l t) l[t].name = b2
        generalize decide (l[t].name.size ≤ 16) = b3
        cases b1 <;> cases b2 <;> cases b3 <;> rfl
      have HW := Lib.hid hW
      have HW2 := Lib.hid hW2
      have Hok := Lib.hid hok'
      have HkO := Lib.hid hkO
      have Hp := Lib.hid hprev
      clear hc hok hr hW hW2 hG hb hb2 hok' hkO hdrop hprev hkl hkw hwf hprv hhl
      generalize volOk (prevVol l t) l[t] = ok1 at *
      generalize hkv : volV l[t] = cs at *
      generalize hK : l[t].name = name at *
      generalize hN : l[t].root = root at *
      generalize hF : l[t].frm = frm at *
      generalize hD : l[t].kind = kind at *
      generalize prevVol l t = prev at *
      generalize (l[t].hash == noHash) = hq at *
      generalize hb32d : bytesV l[t].hash = hb32 at *
      clear hkv hK hN hF hD hb32d
      have hse := str_empty name
      have hs1 := hse.1
      have hs2 := hse.2
      clear hse
      have HC := Lib.hid (And.intro c0 (And.intro c1 (And.intro c2 c4)))
      go_wp2_with (first | (refine wpList_world HW.out ?_) | (refine wpList_load_mid rfl 62 _ rfl b (o + t * 37) rfl cs _ hci Tryd.underlying62 rfl hksz ?_) | (refine wpList_store_mid rfl 62 _ _ rfl wr.heap.size 0 cs.toArray rfl rfl hthere hksz2 hone ?_; refine wpList_world HW2.out ?_))
      clear c0 c1 c2 c4 hci hthere hksz hksz2 hone
      obtain ⟨c0, c1, c2, c4⟩ := HC.out
      generalize wr.heap.size = G at *
      have hblN : blockN 0 = false := rfl
      by_cases hz0 : name.size = 0
      · rw [decide_eq_true hz0] at hs1 hs2
        have hX : X = false := by rw [← HX.out, Hok.out, HkO.out]; simp [less_size0 hz0]
        have HXf := Lib.hid hX
        clear hX
        go_quiet (fail)
        go_wp2_with fail
        go_ret
        exact ⟨by rw [HXf.out]; rfl, below_drewN hbW _⟩
      · have hne0 : name.size ≠ 0 := hz0
        rw [decide_eq_false hz0] at hs1 hs2
        clear hz0
        by_cases hz1 : 16 < name.size
        · have i1 : (16 : Int) < (name.size : Int) := by omega
          have i1d : decide ((16 : Int) < (name.size : Int)) = true := decide_eq_true i1
          have hX : X = false := by rw [← HX.out, Hok.out, HkO.out]; simp [show ¬ name.size ≤ 16 by omega]
          have HXf := Lib.hid hX
          clear hX
          go_quiet (fail)
          go_wp2_with fail
          go_ret
          exact ⟨by rw [HXf.out]; rfl, below_drewN hbW _⟩
        · have i1 : ¬ (16 : Int) < (name.size : Int) := by omega
          have i1d : decide ((16 : Int) < (name.size : Int)) = false := decide_eq_false i1
          have hn16 : name.size ≤ 16 := by omega
          clear hz1
          by_cases hz2 : 16 < frm.size
          · have i2 : (16 : Int) < (frm.size : Int) := by omega
            have i2d : decide ((16 : Int) < (frm.size : Int)) = true := decide_eq_true i2
            have hX : X = false := by rw [← HX.out, Hok.out, HkO.out]; simp [show ¬ frm.size ≤ 16 by omega]
            have HXf := Lib.hid hX
            clear hX
            go_quiet (fail)
            go_wp2_with fail
            go_ret
            exact ⟨by rw [HXf.out]; rfl, below_drewN hbW _⟩
          · have i2 : ¬ (16 : Int) < (frm.size : Int) := by omega
            have i2d : decide ((16 : Int) < (frm.size : Int)) = false := decide_eq_false i2
            have hf16 : frm.size ≤ 16 := by omega
            clear hz2
            by_cases hz3 : kind = 0
            · have i3 : (kind : Int) ≤ (0 : Int) := by omega
              have i3d : decide ((kind : Int) ≤ (0 : Int)) = true := decide_eq_true i3
              have i3n : decide (kind = 0) = true := decide_eq_true hz3
              have hX : X = false := by rw [← HX.out, Hok.out, HkO.out]; simp [hz3]
              have HXf := Lib.hid hX
              clear hX
              go_quiet (fail)
              go_wp2_with fail
              go_ret
              exact ⟨by rw [HXf.out]; rfl, below_drewN hbW _⟩
            · have i3 : ¬ (kind : Int) ≤ (0 : Int) := by omega
              have i3d : decide ((kind : Int) ≤ (0 : Int)) = false := decide_eq_false i3
              have i3n : decide (kind = 0) = false := decide_eq_false hz3
              have hk0 : 0 < kind := by omega
              clear hz3
              by_cases hz4 : 3 ≤ kind
              · have i4 : (3 : Int) ≤ (kind : Int) := by omega
                have i4d : decide ((3 : Int) ≤ (kind : Int)) = true := decide_eq_true i4
                have i4n : decide (3 ≤ kind) = true := decide_eq_true hz4
                have hX : X = false := by rw [← HX.out, Hok.out, HkO.out]; simp [show ¬ kind < 3 by omega]
                have HXf := Lib.hid hX
                clear hX
                go_quiet (fail)
                go_wp2_with fail
                go_ret
                exact ⟨by rw [HXf.out]; rfl, below_drewN hbW _⟩
              · have i4 : ¬ (3 : Int) ≤ (kind : Int) := by omega
                have i4d : decide ((3 : Int) ≤ (kind : Int)) = false := decide_eq_false i4
                have i4n : decide (3 ≤ kind) = false := decide_eq_false hz4
                have hk3 : kind < 3 := by omega
                clear hz4
                by_cases h0 : t = 0
                · have hnp : ¬ (0 : Int) < (t : Int) := by omega
                  have hnd : decide ((0 : Int) < (t : Int)) = false := decide_eq_false hnp
                  have hndN : decide (0 < t) = false := decide_eq_false (by omega)
                  have hle : lessB prev name = true := by rw [hzero h0, less_empty]; simp [hne0]
                  have HLE := Lib.hid hle
                  clear hle h0
                  have c5 : ∀ n, (W2.drewN n).cell? ⟨G, 4, none⟩ = some (.int .u32 (root : Int)) := fun _ => c4
                  have hrd : ∀ n, (W2.drewN n).rangeAt G 5 hb32 := fun n => hrng
                  go_quiet (fail)
                  have c6 := c5 nq
                  have hr6 := hrd nq
                  have hbW2 := below_drewN hbW nq
                  generalize W2.drewN nq = W3 at *
                  have hbl := fun w => rnum_calls root w
                  clear c5 hrd c0 c1 c2 c4 hs1 hs2
                  by_cases hr0 : root = 0
                  · subst hr0
                    cases hq with
                    | true =>
                      have hok2 : volsOk noName l = volsOk (prevVol l (t + 1)) (l.drop (t + 1)) := by rw [Hok.out, HkO.out, HLE.out]; simp [hn16, hf16, hk0, hk3]
                      have Hok2 := Lib.hid hok2
                      clear hok2 hbl
                      go_wp2_with (first | (refine wpList_exec ?_ (exec_load_mid 53 _ (by rfl) G 5 (by rfl) hb32 _ hr6 Tryd.underlying53 (by rfl) hhsz) ?_; · rfl) | (refine wpList_exec ?_ (exec_zeroHash (by rfl) _) ?_; · rfl))
                      go_roundw
                      case rel => exact ⟨t + 1, by omega, by go_num, Hok2.out, hbW2⟩
                      case measure => simp [intOf]; omega
                    | false =>
                      have hX : X = false := by rw [← HX.out, Hok.out, HkO.out, hblN]; simp only [Bool.and_false, Bool.false_and, Bool.or_false]
                      have HXf := Lib.hid hX
                      have hneq : ∀ w, (binOp .neq 53 (.agg hb32.toArray) (.agg (byteCells noHash))).run Tryd.prog w = .ok (.bool true) w := fun w => by rw [run_neq_struct, heq]; rfl
                      clear hX hbl hneq
                      go_wp2_with (first | (refine @Go.wpList_skip _ _ _ _ _ _ _ ?_ ?_; (· rfl); simp only [Act.put, List.setIfInBounds_toArray, List.set_cons_succ, List.set_cons_zero]) | (refine wpList_exec ?_ (exec_load_mid 53 _ (by rfl) G 5 (by rfl) hb32 _ hr6 Tryd.underlying53 (by rfl) hhsz) ?_; · rfl) | (refine wpList_exec ?_ (exec_zeroHash (by rfl) _) ?_; · rfl))
                      go_ret
                      exact ⟨by rw [HXf.out]; rfl, hbW2⟩
                  · have r1 : ((root : Int) == 0) = false := by simpa using fun e => hr0 (by omega)
                    have r2 : ((root : Int) != 0) = true := by simpa using fun e => hr0 (by omega)
                    have hrb : (root == 0) = false := by simpa using hr0
                    cases hbn : blockN root with
                    | true =>
                      have hok2 : volsOk noName l = volsOk (prevVol l (t + 1)) (l.drop (t + 1)) := by rw [Hok.out, HkO.out, HLE.out, hbn]; simp [hn16, hf16, hk0, hk3]
                      have Hok2 := Lib.hid hok2
                      rw [hbn] at hbl
                      clear hok2 hbn
                      go_wp2_with fail
                      refine (hbl _).mono ?_
                      rintro e W4 ⟨rfl, rfl⟩
                      go_wp2_with fail
                      go_roundw
                      case rel => exact ⟨t + 1, by omega, by go_num, Hok2.out, hbW2⟩
                      case measure => simp [intOf]; omega
                    | false =>
                      have hX : X = false := by rw [← HX.out, Hok.out, HkO.out, hbn, hrb]; simp
                      have HXf := Lib.hid hX
                      rw [hbn] at hbl
                      clear hX hbn
                      go_wp2_with fail
                      refine (hbl _).mono ?_
                      rintro e W4 ⟨rfl, rfl⟩
                      go_wp2_with fail
                      go_ret
                      exact ⟨by rw [HXf.out]; rfl, hbW2⟩
                · have hpos : (0 : Int) < (t : Int) := by omega
                  have hpd : decide ((0 : Int) < (t : Int)) = true := decide_eq_true hpos
                  have hposN : 0 < t := by omega
                  have hdec : decide (0 < t) = true := decide_eq_true hposN
                  have hcq := hcp (by omega)
                  have hm1 : ((t : Int) - 1).toNat = t - 1 := by omega
                  have hm2 : (0 : Int) ≤ (t : Int) - 1 := by omega
                  have hm3 : (t : Int) - 1 < (l.length : Int) := by omega
                  have hls : Op.bytesLess prev.toList name.toList = lessB prev name := by rw [ByteArray.toList_eq, ByteArray.toList_eq]; rfl
                  cases hle : lessB prev name with
                  | true =>
                    rw [hle] at hls
                    have HLE := Lib.hid hle
                    clear hle
                    have c5 : ∀ n, (W2.drewN n).cell? ⟨G, 4, none⟩ = some (.int .u32 (root : Int)) := fun _ => c4
                    have hrd : ∀ n, (W2.drewN n).rangeAt G 5 hb32 := fun n => hrng
                    go_quiet (fail)
                    have c6 := c5 nq
                    have hr6 := hrd nq
                    have hbW2 := below_drewN hbW nq
                    generalize W2.drewN nq = W3 at *
                    have hbl := fun w => rnum_calls root w
                    clear c5 hrd c0 c1 c2 c4 hs1 hs2
                    by_cases hr0 : root = 0
                    · subst hr0
                      cases hq with
                      | true =>
                        have hok2 : volsOk noName l = volsOk (prevVol l (t + 1)) (l.drop (t + 1)) := by rw [Hok.out, HkO.out, HLE.out]; simp [hn16, hf16, hk0, hk3]
                        have Hok2 := Lib.hid hok2
                        clear hok2 hbl
                        go_wp2_with (first | (refine wpList_exec ?_ (exec_load_mid 53 _ (by rfl) G 5 (by rfl) hb32 _ hr6 Tryd.underlying53 (by rfl) hhsz) ?_; · rfl) | (refine wpList_exec ?_ (exec_zeroHash (by rfl) _) ?_; · rfl))
                        go_roundw
                        case rel => exact ⟨t + 1, by omega, by go_num, Hok2.out, hbW2⟩
                        case measure => simp [intOf]; omega
                      | false =>
                        have hX : X = false := by rw [← HX.out, Hok.out, HkO.out, hblN]; simp only [Bool.and_false, Bool.false_and, Bool.or_false]
                        have HXf := Lib.hid hX
                        have hneq : ∀ w, (binOp .neq 53 (.agg hb32.toArray) (.agg (byteCells noHash))).run Tryd.prog w = .ok (.bool true) w := fun w => by rw [run_neq_struct, heq]; rfl
                        clear hX hbl hneq
                        go_wp2_with (first | (refine @Go.wpList_skip _ _ _ _ _ _ _ ?_ ?_; (· rfl); simp only [Act.put, List.setIfInBounds_toArray, List.set_cons_succ, List.set_cons_zero]) | (refine wpList_exec ?_ (exec_load_mid 53 _ (by rfl) G 5 (by rfl) hb32 _ hr6 Tryd.underlying53 (by rfl) hhsz) ?_; · rfl) | (refine wpList_exec ?_ (exec_zeroHash (by rfl) _) ?_; · rfl))
                        go_ret
                        exact ⟨by rw [HXf.out]; rfl, hbW2⟩
                    · have r1 : ((root : Int) == 0) = false := by simpa using fun e => hr0 (by omega)
                      have r2 : ((root : Int) != 0) = true := by simpa using fun e => hr0 (by omega)
                      have hrb : (root == 0) = false := by simpa using hr0
                      cases hbn : blockN root with
                      | true =>
                        have hok2 : volsOk noName l = volsOk (prevVol l (t + 1)) (l.drop (t + 1)) := by rw [Hok.out, HkO.out, HLE.out, hbn]; simp [hn16, hf16, hk0, hk3]
                        have Hok2 := Lib.hid hok2
                        rw [hbn] at hbl
                        clear hok2 hbn
                        go_wp2_with fail
                        refine (hbl _).mono ?_
                        rintro e W4 ⟨rfl, rfl⟩
                        go_wp2_with fail
                        go_roundw
                        case rel => exact ⟨t + 1, by omega, by go_num, Hok2.out, hbW2⟩
                        case measure => simp [intOf]; omega
                      | false =>
                        have hX : X = false := by rw [← HX.out, Hok.out, HkO.out, hbn, hrb]; simp
                        have HXf := Lib.hid hX
                        rw [hbn] at hbl
                        clear hX hbn
                        go_wp2_with fail
                        refine (hbl _).mono ?_
                        rintro e W4 ⟨rfl, rfl⟩
                        go_wp2_with fail
                        go_ret
                        exact ⟨by rw [HXf.out]; rfl, hbW2⟩
                  | false =>
                    rw [hle] at hls
                    have HLE := Lib.hid hle
                    have hX : X = false := by rw [← HX.out, Hok.out, HkO.out, HLE.out]; simp
                    have HXf := Lib.hid hX
                    clear hX hle
                    go_quiet (fail)
                    go_wp2_with fail
                    go_ret
                    exact ⟨by rw [HXf.out]; rfl, below_drewN hbW _⟩
    · have htl : t = l.length := by omega
      have hgood : volsOk noName l = true := by rw [hok, htl, List.drop_length]; rfl
      rw [hgood, Bool.and_true] at HX
      clear hok hgood hr hwf
      by_cases h2 : l.length ≤ 6
      · have i2 : (l.length : Int) ≤ 6 := by omega
        have hX : X = true := by rw [← HX.out]; simp [h2]
        have HXf := Lib.hid hX
        clear hX
        go_wp2_with fail
        go_ret
        exact ⟨by rw [HXf.out]; rfl, hb⟩
      · have i2 : ¬ (l.length : Int) ≤ 6 := by omega
        have hX : X = false := by rw [← HX.out]; simp [h2]
        have HXf := Lib.hid hX
        clear hX
        go_wp2_with fail
        go_ret
        exact ⟨by rw [HXf.out]; rfl, hb⟩
end Go.Proofs.YtokanfceipkfpaaDoor
