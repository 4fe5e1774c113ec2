/- item.Check, kids, volumes: walked. -/
/- node.kids: walked. -/
/- node.volumes: walked. -/
import Derived.Test.YtimkklaidodkdaaGreatDoorNodeMem
import Derived.Stop.BytesEq
namespace Go.Proofs.YtimkklaidodkdaaGreatDoor
open Go.RowKit

def prevKey (l : List ItemD) (i : Nat) : ByteArray := if i = 0 then noName else (l[i - 1]?.map (·.key)).getD noName
theorem below_drewN {B : Nat} {a w : World} (h : Below B a w) (n : Nat) : Below B a (w.drewN n) := h.trans ⟨rfl, rfl, rfl, Nat.le_refl _, fun _ _ => rfl⟩
theorem less_nonempty {b s : ByteArray} (h : lessB b s = true) : s.size ≠ 0 := by
 intro h0
 have e : s.data.toList.length = s.size := Array.length_toList
 rw [h0] at e
 have : s.data.toList = [] := List.length_eq_zero_iff.1 e
 unfold lessB at h
 rw [this] at h
 cases hb : b.data.toList <;> rw [hb] at h <;> simp [Op.bytesLess] at h
theorem itemOk_first (x : ItemD) : itemOk noName x = rightB x.key x.val := by
 rw [itemOk, less_empty, rightB]
theorem itemOk_next (b : ByteArray) (x : ItemD) : itemOk b x = (rightB x.key x.val && lessB b x.key) := by
 rw [itemOk, rightB]
 cases h : lessB b x.key with
 | false => simp
 | true => simp [less_nonempty h]

set_option maxRecDepth 20000 in
set_option maxHeartbeats 1600000 in
theorem itemCheck_calls (B : Nat) (v : Value) (l : List ItemD) (w : World) (h : ItemsAt B w v l) (hB : B ≤ w.heap.size) :
  Calls Tryz.prog 92 #[v] w fun e w' => e = .returned (.int .i64 (if itemsOk noName l then 0 else 4)) ∧ Below w.heap.size w w' := by
 obtain ⟨a, cap, rfl, hn, hr⟩ := h
 have hz : ∀ R : Int, (itemsOk noName l = true → R = 0) → (itemsOk noName l = false → R = 4) → (if itemsOk noName l then 0 else 4) = R := fun R h1 h2 => by
  cases hq : itemsOk noName l with
  | true => rw [h1 hq]; rfl
  | false => rw [h2 hq]; rfl
 generalize (if itemsOk noName l = true then (0 : Int) else 4) = X at *
 have HZ := Lib.hid hz
 clear hz
 unfold maxLen at hn
 go_enter Tryz.func92, Tryz.ntmps92
 go_wp2_with fail
 go_loopw [7] (fun v wr => ∃ t : Nat, t ≤ l.length ∧ v = .int .i64 t ∧ itemsOk noName l = itemsOk (prevKey l t) (l.drop t) ∧ Below w.heap.size w wr) (fun v _ => l.length - (intOf v).toNat)
 case atStart => exact ⟨0, by omega, rfl, rfl, Below.refl _ _⟩
 case round =>
  obtain ⟨t, ht, rfl, hok, hb⟩ := hrel
  by_cases hlt : t < l.length
  ·obtain ⟨b, o, rfl, hbB, hc⟩ := hr (by omega)
   have hci : wr.rangeAt b (o + t * 2) (itemV l[t]) := by
    have := rangeAt_below (hc t hlt) hb (by omega)
    rwa [List.getElem?_eq_getElem hlt] at this
   have c0 : wr.cell? ⟨b, o + t * 2, none⟩ = some (.string l[t].key) := hci 0 _ rfl
   have c1 : wr.cell? ⟨b, o + t * 2 + 1, none⟩ = some (.string l[t].val) := hci 1 _ rfl
   have hlti : (t : Int) < (l.length : Int) := by omega
   have HC := Lib.hid hc
   have Hok := Lib.hid hok
   have Hci := Lib.hid hci
   clear hc hok hr hci
   have hdrop : l.drop t = l[t] :: l.drop (t + 1) := List.drop_eq_getElem_cons hlt
   have hprev : prevKey l (t + 1) = l[t].key := by simp [prevKey, List.getElem?_eq_getElem hlt]
   have hok' : itemsOk noName l = (itemOk (prevKey l t) l[t] && itemsOk (prevKey l (t + 1)) (l.drop (t + 1))) := by rw [Hok.out, hdrop, hprev]; rfl
   have hbW : Below w.heap.size w (wr.alloc (.cells #[.string l[t].key, .string l[t].val] 44)) := hb.alloc hb.size _
   have hN := heap_alloc_new wr (.cells #[.string l[t].key, .string l[t].val] 44)
   have hfirst := itemOk_first l[t]
   have hnext := itemOk_next (prevKey l t) l[t]
   have hprv : ∀ h0 : 0 < t, prevKey l t = (l[t - 1]'(by omega)).key := fun h0 => by
    rw [prevKey, if_neg (by omega), List.getElem?_eq_getElem (by omega)]; rfl
   have hcp : ∀ h0 : 0 < t, wr.cell? ⟨b, o + (t - 1) * 2, none⟩ = some (.string (prevKey l t)) := fun h0 => by
    have := rangeAt_below (HC.out (t - 1) (by omega)) hb (by omega)
    rw [List.getElem?_eq_getElem (by omega)] at this
    rw [hprv h0]
    exact this 0 _ rfl
   have hbw : b < wr.heap.size := Nat.lt_of_lt_of_le (Nat.lt_of_lt_of_le hbB hB) hb.size
   have hzero : t = 0 → prevKey l t = noName := fun h0 => by rw [h0]; rfl
   go_wp2_with fail
   generalize hK : l[t].key = key at *
   generalize hV : l[t].val = val at *
   generalize hP : prevKey l t = prev at *
   have hc0' : (wr.alloc (.cells #[.string key, .string val] 44)).cell? ⟨wr.heap.size, 0, none⟩ = some (.string key) := by simp
   have hc1' : (wr.alloc (.cells #[.string key, .string val] 44)).cell? ⟨wr.heap.size, 1, none⟩ = some (.string val) := by simp
   have hcp' : ∀ h0 : 0 < t, (wr.alloc (.cells #[.string key, .string val] 44)).cell? ⟨b, o + (t - 1) * 2, none⟩ = some (.string prev) := fun h0 => by
    rw [World.cell?_alloc_past _ _ _ hbw]; exact hcp h0
   generalize wr.alloc (.cells #[.string key, .string val] 44) = W at *
   generalize wr.heap.size = G at *
   clear c0 c1 hN hcp hprv hb hbw hK hV hP
   have Hok' := Lib.hid hok'
   clear hok' hdrop hprev
   cases hrg : rightB key val with
   | false =>
    rw [hrg] at hfirst hnext
    have hbad : itemsOk noName l = false := by rw [Hok'.out, hnext]; rfl
    have hX := HZ.out 4 (fun h => by rw [hbad] at h; cases h) (fun _ => rfl)
    go_quiet ((go_at_call 124; exact Calls.quiet_of_same (right_calls key val _)))
    have HX := Lib.hid hX
    clear hX
    go_wp2_with fail
    go_ret
    exact ⟨by rw [HX.out]; rfl, below_drewN hbW _⟩
   | true =>
    rw [hrg, Bool.true_and] at hnext
    by_cases h0 : t = 0
    ·subst h0
     rw [hrg] at hfirst
     rw [hzero rfl, hfirst, Bool.true_and] at Hok'
     go_quiet ((go_at_call 124; exact Calls.quiet_of_same (right_calls key val _)))
     go_wp2_with fail
     go_roundw
     case rel => exact ⟨1, by omega, by go_num, Hok'.out, below_drewN hbW _⟩
     case measure => simp [intOf]; omega
    ·have hpos : (0 : Int) < (t : Int) := by omega
     have hcq := hcp' (by omega)
     have hposN : 0 < t := by omega
     have hdec : decide (0 < t) = true := decide_eq_true hposN
     have hm1 : ((t : Int) - 1).toNat = t - 1 := by omega
     have hm2 : (0 : Int) ≤ (t : Int) - 1 := by omega
     have hm3 : (t : Int) - 1 < (l.length : Int) := by omega
     have hls : Op.bytesLess prev.toList key.toList = lessB prev key := by rw [ByteArray.toList_eq, ByteArray.toList_eq]; rfl
     cases hle : lessB prev key with
     | true =>
      rw [hle] at hls hnext
      have hok2 := Hok'.out
      rw [hnext, Bool.true_and] at hok2
      have Hok2 := Lib.hid hok2
      clear hok2
      go_quiet ((go_at_call 124; exact Calls.quiet_of_same (right_calls key val _)))
      go_wp2_with fail
      go_roundw
      case rel => exact ⟨t + 1, by omega, by go_num, Hok2.out, below_drewN hbW _⟩
      case measure => simp [intOf]; omega
     | false =>
      rw [hle] at hls hnext
      have hbad : itemsOk noName l = false := by rw [Hok'.out, hnext]; rfl
      have hX := HZ.out 4 (fun h => by rw [hbad] at h; cases h) (fun _ => rfl)
      have HX := Lib.hid hX
      clear hX hbad
      go_quiet ((go_at_call 124; exact Calls.quiet_of_same (right_calls key val _)))
      go_wp2_with fail
      go_ret
      exact ⟨by rw [HX.out]; rfl, below_drewN hbW _⟩
  ·have htl : t = l.length := by omega
   have hgood : itemsOk noName l = true := by rw [hok, htl, List.drop_length]; rfl
   have hX := HZ.out 0 (fun _ => rfl) (fun h => by rw [hgood] at h; cases h)
   have HX := Lib.hid hX
   clear hX hgood hok
   go_wp2_with fail
   go_ret
   exact ⟨by rw [HX.out]; rfl, hb⟩

end Go.Proofs.YtimkklaidodkdaaGreatDoor

namespace Go.Proofs.YtimkklaidodkdaaGreatDoor
open Go.RowKit

/-- A fresh row, then filled whole. -/
theorem alloc_fill (w : World) (Z C : Array Value) (T : TypeId) (h : C.size = Z.size) : ∃ W W2, W = w.alloc (.cells Z T) ∧ W2 = W.setCells w.heap.size 0 C.toList ∧ RowIs W2 w.heap.size T C ∧ Below w.heap.size w W2 ∧ W.there w.heap.size 0 C.size := by
 have hr := RowIs.new w T Z
 exact ⟨_, _, rfl, rfl, store_row hr h, setCells_below _ _ (Nat.le_refl _) _ _ _ _ ((Below.refl _ _).alloc (Nat.le_refl _) _), hr.there 0 _ (by rw [h]; omega)⟩

theorem one_bytesV (l : List UInt8) : ∀ v ∈ bytesV l, v.oneCell' = true := by
 intro v hv
 obtain ⟨c, _, rfl⟩ := List.mem_map.1 hv
 rfl
theorem kidV_one (k : KidD) : (kidV k).toArray.all (·.oneCell') = true := all_oneCell_toArray fun v hv => by
 rw [kidV, List.mem_append] at hv
 rcases hv with h | h
 ·simp only [List.mem_cons, List.not_mem_nil, or_false] at h
  rcases h with rfl | rfl <;> rfl
 ·exact one_bytesV _ v h

def kidZ : Array Value := (kidV ⟨⟨#[]⟩, 0, List.replicate 32 0⟩).toArray
def prevKid (l : List KidD) (i : Nat) : ByteArray := if i = 0 then noName else (l[i - 1]?.map (·.key)).getD noName

set_option maxRecDepth 20000 in
set_option maxHeartbeats 1600000 in
theorem kids_calls (B : Nat) (v : Value) (l : List KidD) (w : World) (h : KidsAt B w v l) (hB : B ≤ w.heap.size) (hwf : ∀ k ∈ l, k.wf) :
  Calls Tryz.prog 93 #[v] w fun e w' => e = .returned (.bool (decide (0 < l.length) && decide (l.length ≤ 255) && kidsOk noName l)) ∧ Below w.heap.size w w' := by
 obtain ⟨a, cap, rfl, hn, hr⟩ := h
 have hz : ∀ R : Bool, (decide (0 < l.length) && decide (l.length ≤ 255) && kidsOk noName l) = R → (decide (0 < l.length) && decide (l.length ≤ 255) && kidsOk noName l) = R := fun R h => h
 generalize hX : (decide (0 < l.length) && decide (l.length ≤ 255) && kidsOk noName l) = X at *
 have HX := Lib.hid hX
 clear hX hz
 have hnot : ∀ (x : Bool) (w : World), (Op.unary .not (.bool x)).run Tryz.prog w = .ok (.bool (!x)) w := fun _ _ => rfl
 unfold maxLen at hn
 go_enter Tryz.func93, Tryz.ntmps93
 go_wp2_with fail
 go_loopw [3, 8] (fun v3 v wr => ∃ t : Nat, t ≤ l.length ∧ v = .int .i64 t ∧ v3 = .string (prevKid l t) ∧ kidsOk noName l = kidsOk (prevKid l t) (l.drop t) ∧ Below w.heap.size w wr) (fun _ v _ => l.length - (intOf v).toNat)
 case atStart => exact ⟨0, by omega, rfl, rfl, rfl, Below.refl _ _⟩
 case round =>
  obtain ⟨t, ht, rfl, rfl, hok, hb⟩ := hrel
  by_cases hlt : t < l.length
  ·obtain ⟨b, o, rfl, hbB, hc⟩ := hr (by omega)
   have hkw := hwf l[t] (List.getElem_mem hlt)
   have hci : wr.rangeAt b (o + t * 34) (kidV l[t]) := by
    have := rangeAt_below (hc t hlt) hb (by omega)
    rwa [List.getElem?_eq_getElem hlt] at this
   have hdrop : l.drop t = l[t] :: l.drop (t + 1) := List.drop_eq_getElem_cons hlt
   have hprev : prevKid l (t + 1) = l[t].key := by simp [prevKid, List.getElem?_eq_getElem hlt]
   have hok' : kidsOk noName l = (kidOk (prevKid l t) l[t] && kidsOk (prevKid l (t + 1)) (l.drop (t + 1))) := by rw [hok, hdrop, hprev]; rfl
   rw [hprev] at hok'
   have hlti : (t : Int) < (l.length : Int) := by omega
   have hkl := kidV_length hkw.2
   have hone := kidV_one l[t]
   have hksz : (Tryz.prog.info? 38).map (·.size) = some (kidV l[t]).length := by rw [hkl]; kernel_rfl
   have hksz2 : (Tryz.prog.info? 38).map (·.size) = some (kidV l[t]).toArray.size := by rw [List.size_toArray, hkl]; kernel_rfl
   obtain ⟨W, W2, hW, hW2, hG, hb2, hthere⟩ := alloc_fill wr kidZ (kidV l[t]).toArray 38 (by rw [List.size_toArray, hkl]; rfl)
   have hbW := hb.trans (hb2.mono hb.size)
   have c0 : W2.cell? ⟨wr.heap.size, 0, none⟩ = some (.string l[t].key) := by rw [hG.cell]; rfl
   have c1 : W2.cell? ⟨wr.heap.size, 1, none⟩ = some (.int .u32 (l[t].num : Int)) := by rw [hG.cell]; rfl
   have hkO : kidOk (prevKid l t) l[t] = ((decide (l[t].key.size ≤ 48) && lessB (prevKid l t) l[t].key) && blockN l[t].num) := by
    rw [kidOk, Bool.and_comm (lessB _ _)]
   have HW := Lib.hid hW
   have HW2 := Lib.hid hW2
   have Hok := Lib.hid hok'
   have HkO := Lib.hid hkO
   have Hp := Lib.hid hprev
   clear hc hok hr hW hW2 hG hb hb2 hok' hkO hdrop hprev hkl hkw hwf
   generalize hkv : kidV l[t] = cs at *
   generalize hK : l[t].key = key at *
   generalize hN : l[t].num = num at *
   generalize prevKid l t = prev at *
   generalize kidOk prev l[t] = ok1 at *
   clear hkv hK hN
   go_wp2_with (first | (refine wpList_world HW.out ?_) | (refine wpList_load_mid rfl 38 _ rfl b (o + t * 34) rfl cs _ hci Tryz.underlying38 rfl hksz ?_) | (refine wpList_store_mid rfl 38 _ _ rfl wr.heap.size 0 cs.toArray rfl rfl hthere hksz2 hone ?_; refine wpList_world HW2.out ?_))
   have hnm := named_calls prev key 48 W2
   rw [show ((48 : Nat) : Int) = 48 from rfl] at hnm
   generalize (decide (key.size ≤ 48) && lessB prev key) = nm at *
   have hbl := block_calls num W2
   generalize blockN num = bl at *
   refine hnm.mono ?_
   rintro e W2 ⟨rfl, rfl⟩
   cases nm with
   | false =>
    have hX : X = false := by rw [← HX.out, Hok.out, HkO.out]; simp
    have HXf := Lib.hid hX
    clear hX
    go_wp2_with fail
    go_ret
    exact ⟨by rw [HXf.out]; rfl, hbW⟩
   | true =>
    go_wp2_with fail
    refine hbl.mono ?_
    rintro e W2 ⟨rfl, rfl⟩
    cases bl with
    | false =>
     have hX : X = false := by rw [← HX.out, Hok.out, HkO.out]; simp
     have HXf := Lib.hid hX
     clear hX
     go_wp2_with fail
     go_ret
     exact ⟨by rw [HXf.out]; rfl, hbW⟩
    | true =>
     have hok2 : kidsOk noName l = kidsOk key (l.drop (t + 1)) := by rw [Hok.out, HkO.out]; rfl
     have Hok2 := Lib.hid hok2
     clear hok2
     go_wp2_with fail
     go_roundw
     case rel => exact ⟨t + 1, by omega, by go_num, by rw [Hp.out], by rw [Hp.out]; exact Hok2.out, hbW⟩
     case measure => simp [intOf]; omega
  ·have htl : t = l.length := by omega
   have hgood : kidsOk noName l = true := by rw [hok, htl, List.drop_length]; rfl
   rw [hgood, Bool.and_true] at HX
   clear hok hgood hr hwf
   by_cases h1 : 0 < l.length
   ·have i1 : (0 : Int) < (l.length : Int) := by omega
    by_cases h2 : l.length ≤ 255
    ·have i2 : (l.length : Int) ≤ 255 := by omega
     have hX : X = true := by rw [← HX.out]; simp [h1, h2]
     have HXf := Lib.hid hX
     clear hX
     go_wp2_with fail
     go_ret
     exact ⟨by rw [HXf.out]; rfl, hb⟩
    ·have i2 : ¬ (l.length : Int) ≤ 255 := by omega
     have hX : X = false := by rw [← HX.out]; simp [h2]
     have HXf := Lib.hid hX
     clear hX
     go_wp2_with fail
     go_ret
     exact ⟨by rw [HXf.out]; rfl, hb⟩
   ·have i1 : ¬ (0 : Int) < (l.length : Int) := by omega
    have hX : X = false := by rw [← HX.out]; simp [h1]
    have HXf := Lib.hid hX
    clear hX
    go_wp2_with fail
    go_ret
    exact ⟨by rw [HXf.out]; rfl, hb⟩

end Go.Proofs.YtimkklaidodkdaaGreatDoor

namespace Go.Proofs.YtimkklaidodkdaaGreatDoor
open Go.RowKit

/-- An operation that yields a value and leaves the world, guarded or not. -/
theorem wpList_exec {P : Program} {ops : Array Oper} {rest : List Oper} {o : Oper} {a : Act} {w : World} {Q : Exit → Act → World → Prop} {v : Value} (hwn : Region.wanted o (yielded ops a.tmps) = true)
  (h : (execOp a.eval o).run P w = .ok (.value v) w) (k : wpList P ops Q rest (a.put o.dst v) w) : wpList P ops Q (o :: rest) a w := by
 unfold wpList
 rw [if_pos hwn]
 refine .inl ?_
 unfold Oper.wp
 rw [h]
 exact k
theorem exec_load_mid {P : Program} {o : Oper} {ev : Operand → Value} {w : World} (ty : TypeId) (x : Operand) (ho : o.op = .load ty x) (b off : Nat) (hx : ev x = .pointer (some ⟨b, off, none⟩)) (cs : List Value) (d : TypeDesc) (hc : w.rangeAt b off cs)
  (hu : P.underlying ty = some d) (hd : d.isRow = true) (hi : (P.info? ty).map (·.size) = some cs.length) : (execOp ev o).run P w = .ok (.value (.agg cs.toArray)) w := by
 unfold execOp
 simp only [ho, hx, Instr.loadAt, Instr.sureAddr, Sem.run_bind, Sem.run_pure, Result.andThen_ok, run_loadVar_mid w b off ty cs d hc hu hd hi]
theorem bytesV_cells (l : List UInt8) : (bytesV l).toArray = byteCells l := rfl
theorem exec_zeroHash {o : Oper} {ev : Operand → Value} (ho : o.op = .build 36 #[]) (w : World) : (execOp ev o).run Tryz.prog w = .ok (.value (.agg (byteCells noHash))) w := by
 unfold execOp
 simp only [ho]
 simp [Instr.build, Tryz.zeroValue36]
 rfl
theorem eq_hash (xs ys : List UInt8) (w : World) (hx : xs.length = 32) (hy : ys.length = 32) : (Op.equalIn 10000 36 (.agg (byteCells xs)) (.agg (byteCells ys))).run Tryz.prog w = .ok (xs == ys) w :=
 run_equalIn_bytes w 9998 36 5 32 Tryz.underlying36 Tryz.underlying5 Tryz.sizeOf5 xs ys hx hy
theorem volV_one (k : VolD) : (volV k).toArray.all (·.oneCell') = true := all_oneCell_toArray fun v hv => by
 rw [volV, List.mem_append] at hv
 rcases hv with h | h
 ·simp only [List.mem_cons, List.not_mem_nil, or_false] at h
  rcases h with rfl | rfl | rfl | rfl | rfl <;> rfl
 ·exact one_bytesV _ v h

def volZ : Array Value := (volV ⟨⟨#[]⟩, 0, ⟨#[]⟩, 0, 0, List.replicate 32 0⟩).toArray
def prevVol (l : List VolD) (i : Nat) : ByteArray := if i = 0 then noName else (l[i - 1]?.map (·.name)).getD noName

set_option maxRecDepth 20000 in
set_option maxHeartbeats 3200000 in
theorem volumes_calls (B : Nat) (v : Value) (l : List VolD) (w : World) (h : VolsAt B w v l) (hB : B ≤ w.heap.size) (hwf : ∀ k ∈ l, k.wf) :
  Calls Tryz.prog 94 #[v] w fun e w' => e = .returned (.bool (decide (l.length ≤ 6) && volsOk noName l)) ∧ Below w.heap.size w w' := by
 obtain ⟨a, cap, rfl, hn, hr⟩ := h
 generalize hX : (decide (l.length ≤ 6) && volsOk noName l) = X at *
 have HX := Lib.hid hX
 clear hX
 have hnot : ∀ (x : Bool) (w : World), (Op.unary .not (.bool x)).run Tryz.prog w = .ok (.bool (!x)) w := fun _ _ => rfl
 unfold maxLen at hn
 go_enter Tryz.func94, Tryz.ntmps94
 go_wp2_with fail
 go_loopw [3, 9] (fun v3 v wr => ∃ t : Nat, t ≤ l.length ∧ v = .int .i64 t ∧ v3 = .string (prevVol l t) ∧ volsOk noName l = volsOk (prevVol l t) (l.drop t) ∧ Below w.heap.size w wr) (fun _ v _ => l.length - (intOf v).toNat)
 case atStart => exact ⟨0, by omega, rfl, rfl, rfl, Below.refl _ _⟩
 case round =>
  obtain ⟨t, ht, rfl, rfl, hok, hb⟩ := hrel
  by_cases hlt : t < l.length
  ·obtain ⟨b, o, rfl, hbB, hc⟩ := hr (by omega)
   have hkw := hwf l[t] (List.getElem_mem hlt)
   have hci : wr.rangeAt b (o + t * 37) (volV l[t]) := by
    have := rangeAt_below (hc t hlt) hb (by omega)
    rwa [List.getElem?_eq_getElem hlt] at this
   have hdrop : l.drop t = l[t] :: l.drop (t + 1) := List.drop_eq_getElem_cons hlt
   have hprev : prevVol l (t + 1) = l[t].name := by simp [prevVol, List.getElem?_eq_getElem hlt]
   have hok' : volsOk noName l = (volOk (prevVol l t) l[t] && volsOk (prevVol l (t + 1)) (l.drop (t + 1))) := by rw [hok, hdrop, hprev]; rfl
   rw [hprev] at hok'
   have hlti : (t : Int) < (l.length : Int) := by omega
   have hkl := volV_length hkw.2.2.2
   have hone := volV_one l[t]
   have hksz : (Tryz.prog.info? 89).map (·.size) = some (volV l[t]).length := by rw [hkl]; kernel_rfl
   have hksz2 : (Tryz.prog.info? 89).map (·.size) = some (volV l[t]).toArray.size := by rw [List.size_toArray, hkl]; kernel_rfl
   obtain ⟨W, W2, hW, hW2, hG, hb2, hthere⟩ := alloc_fill wr volZ (volV l[t]).toArray 89 (by rw [List.size_toArray, hkl]; rfl)
   have hbW := hb.trans (hb2.mono hb.size)
   have c0 : W2.cell? ⟨wr.heap.size, 0, none⟩ = some (.string l[t].name) := by rw [hG.cell]; rfl
   have c1 : W2.cell? ⟨wr.heap.size, 1, none⟩ = some (.int .u8 (l[t].kind : Int)) := by rw [hG.cell]; rfl
   have c2 : W2.cell? ⟨wr.heap.size, 2, none⟩ = some (.string l[t].frm) := by rw [hG.cell]; rfl
   have c4 : W2.cell? ⟨wr.heap.size, 4, none⟩ = some (.int .u32 (l[t].root : Int)) := by rw [hG.cell]; rfl
   have hb32 : List Value := bytesV l[t].hash
   have hrng : W2.rangeAt wr.heap.size 5 (bytesV l[t].hash) := fun j v hv => by
    rw [hG.cell]
    rw [← hv]
    simp [volV, Nat.add_comm 5 j]
   have hhl := hkw.2.2.2
   have hhsz : (Tryz.prog.info? 36).map (·.size) = some (bytesV l[t].hash).length := by rw [bytesV, List.length_map, hhl]; kernel_rfl
   have heq : ∀ w, (Op.equalIn 10000 36 (.agg (bytesV l[t].hash).toArray) (.agg (byteCells noHash))).run Tryz.prog w = .ok (l[t].hash == noHash) w := fun w => eq_hash l[t].hash noHash w hhl (by simp [noHash])
   have hvO : volOk (prevVol l t) l[t] = (((((blockN l[t].root || (l[t].root == 0 && l[t].hash == noHash)) && (decide (l[t].name.size ≤ 16) && lessB (prevVol l t) l[t].name)) && decide (l[t].frm.size ≤ 16)) && decide (0 < l[t].kind)) && decide (l[t].kind < 3)) := by
    rw [volOk]
    generalize (blockN l[t].root || (l[t].root == 0 && l[t].hash == noHash)) = b1
    generalize lessB (prevVol l t) l[t].name = b2
    generalize decide (l[t].name.size ≤ 16) = b3
    cases b1 <;> cases b2 <;> cases b3 <;> rfl
   have HW := Lib.hid hW
   have HW2 := Lib.hid hW2
   have Hok := Lib.hid hok'
   have HvO := Lib.hid hvO
   have Hp := Lib.hid hprev
   clear hc hok hr hW hW2 hG hb hb2 hok' hvO hdrop hprev hkl hkw hwf hhl hb32
   generalize volOk (prevVol l t) l[t] = ok1 at *
   generalize hkv : volV l[t] = cs at *
   generalize hK : l[t].name = name at *
   generalize hN : l[t].root = root at *
   generalize hF : l[t].frm = frm at *
   generalize hD : l[t].kind = kind at *
   generalize prevVol l t = prev at *
   generalize (l[t].hash == noHash) = hq at *
   generalize hb32d : bytesV l[t].hash = hb32 at *
   clear hkv hK hN hF hD hb32d
   have hnm := named_calls prev name 16 W2
   rw [show ((16 : Nat) : Int) = 16 from rfl] at hnm
   generalize (decide (name.size ≤ 16) && lessB prev name) = nm at *
   have hbl := block_calls root W2
   generalize blockN root = bl at *
   go_wp2_with (first | (refine wpList_world HW.out ?_) | (refine wpList_load_mid rfl 89 _ rfl b (o + t * 37) rfl cs _ hci Tryz.underlying89 rfl hksz ?_) | (refine wpList_store_mid rfl 89 _ _ rfl wr.heap.size 0 cs.toArray rfl rfl hthere hksz2 hone ?_; refine wpList_world HW2.out ?_))
   refine hbl.mono ?_
   rintro e W2 ⟨rfl, rfl⟩
   cases bl with
   | true =>
    go_wp2_with fail
    refine hnm.mono ?_
    rintro e W2 ⟨rfl, rfl⟩
    cases nm with
    | false =>
     have hX : X = false := by rw [← HX.out, Hok.out, HvO.out]; simp
     have HXf := Lib.hid hX
     clear hX
     go_wp2_with fail
     go_ret
     exact ⟨by rw [HXf.out]; rfl, hbW⟩
    | true =>
     by_cases hf : frm.size ≤ 16
     ·have f1 : ¬ (16 : Int) < (frm.size : Int) := by omega
      by_cases hk0 : 0 < kind
      ·have f2 : ¬ (kind : Int) ≤ 0 := by omega
       by_cases hk3 : kind < 3
       ·have f3 : ¬ (3 : Int) ≤ (kind : Int) := by omega
        have hok2 : volsOk noName l = volsOk name (l.drop (t + 1)) := by rw [Hok.out, HvO.out]; simp [hf, hk0, hk3]
        have Hok2 := Lib.hid hok2
        clear hok2
        go_wp2_with fail
        go_roundw
        case rel => exact ⟨t + 1, by omega, by go_num, by rw [Hp.out], by rw [Hp.out]; exact Hok2.out, hbW⟩
        case measure => simp [intOf]; omega
       ·have f3 : (3 : Int) ≤ (kind : Int) := by omega
        have hX : X = false := by rw [← HX.out, Hok.out, HvO.out]; simp [hk3]
        have HXf := Lib.hid hX
        clear hX
        go_wp2_with fail
        go_ret
        exact ⟨by rw [HXf.out]; rfl, hbW⟩
      ·have f2 : (kind : Int) ≤ 0 := by omega
       have hX : X = false := by rw [← HX.out, Hok.out, HvO.out]; simp [hk0]
       have HXf := Lib.hid hX
       clear hX
       go_wp2_with fail
       go_ret
       exact ⟨by rw [HXf.out]; rfl, hbW⟩
     ·have f1 : (16 : Int) < (frm.size : Int) := by omega
      have hX : X = false := by rw [← HX.out, Hok.out, HvO.out]; simp [hf]
      have HXf := Lib.hid hX
      clear hX
      go_wp2_with fail
      go_ret
      exact ⟨by rw [HXf.out]; rfl, hbW⟩
   | false =>
    by_cases hr0 : root = 0
    ·have r1 : (root : Int) = 0 := by omega
     subst hr0
     cases hq with
     | true =>
      go_wp2_with (first | (refine wpList_exec (by rfl) (exec_load_mid 36 _ (by rfl) wr.heap.size 5 (by rfl) hb32 _ hrng Tryz.underlying36 (by rfl) hhsz) ?_) | (refine wpList_exec (by rfl) (exec_zeroHash (by rfl) _) ?_))
      refine hnm.mono ?_
      rintro e W2 ⟨rfl, rfl⟩
      cases nm with
      | false =>
       have hX : X = false := by rw [← HX.out, Hok.out, HvO.out]; simp
       have HXf := Lib.hid hX
       clear hX
       go_wp2_with fail
       go_ret
       exact ⟨by rw [HXf.out]; rfl, hbW⟩
      | true =>
       by_cases hf : frm.size ≤ 16
       ·have f1 : ¬ (16 : Int) < (frm.size : Int) := by omega
        by_cases hk0 : 0 < kind
        ·have f2 : ¬ (kind : Int) ≤ 0 := by omega
         by_cases hk3 : kind < 3
         ·have f3 : ¬ (3 : Int) ≤ (kind : Int) := by omega
          have hok2 : volsOk noName l = volsOk name (l.drop (t + 1)) := by rw [Hok.out, HvO.out]; simp [hf, hk0, hk3]
          have Hok2 := Lib.hid hok2
          clear hok2
          go_wp2_with fail
          go_roundw
          case rel => exact ⟨t + 1, by omega, by go_num, by rw [Hp.out], by rw [Hp.out]; exact Hok2.out, hbW⟩
          case measure => simp [intOf]; omega
         ·have f3 : (3 : Int) ≤ (kind : Int) := by omega
          have hX : X = false := by rw [← HX.out, Hok.out, HvO.out]; simp [hk3]
          have HXf := Lib.hid hX
          clear hX
          go_wp2_with fail
          go_ret
          exact ⟨by rw [HXf.out]; rfl, hbW⟩
        ·have f2 : (kind : Int) ≤ 0 := by omega
         have hX : X = false := by rw [← HX.out, Hok.out, HvO.out]; simp [hk0]
         have HXf := Lib.hid hX
         clear hX
         go_wp2_with fail
         go_ret
         exact ⟨by rw [HXf.out]; rfl, hbW⟩
       ·have f1 : (16 : Int) < (frm.size : Int) := by omega
        have hX : X = false := by rw [← HX.out, Hok.out, HvO.out]; simp [hf]
        have HXf := Lib.hid hX
        clear hX
        go_wp2_with fail
        go_ret
        exact ⟨by rw [HXf.out]; rfl, hbW⟩
     | false =>
      have hX : X = false := by rw [← HX.out, Hok.out, HvO.out]; simp
      have HXf := Lib.hid hX
      clear hX
      go_wp2_with (first | (refine wpList_exec (by rfl) (exec_load_mid 36 _ (by rfl) wr.heap.size 5 (by rfl) hb32 _ hrng Tryz.underlying36 (by rfl) hhsz) ?_) | (refine wpList_exec (by rfl) (exec_zeroHash (by rfl) _) ?_))
      go_ret
      exact ⟨by rw [HXf.out]; rfl, hbW⟩
    ·have r1 : ¬ (root : Int) = 0 := by omega
     have hX : X = false := by rw [← HX.out, Hok.out, HvO.out]; simp [hr0]
     have HXf := Lib.hid hX
     clear hX
     go_wp2_with fail
     go_ret
     exact ⟨by rw [HXf.out]; rfl, hbW⟩
  ·have htl : t = l.length := by omega
   have hgood : volsOk noName l = true := by rw [hok, htl, List.drop_length]; rfl
   rw [hgood, Bool.and_true] at HX
   clear hok hgood hr hwf
   by_cases h2 : l.length ≤ 6
   ·have i2 : (l.length : Int) ≤ 6 := by omega
    have hX : X = true := by rw [← HX.out]; simp [h2]
    have HXf := Lib.hid hX
    clear hX
    go_wp2_with fail
    go_ret
    exact ⟨by rw [HXf.out]; rfl, hb⟩
   ·have i2 : ¬ (l.length : Int) ≤ 6 := by omega
    have hX : X = false := by rw [← HX.out]; simp [h2]
    have HXf := Lib.hid hX
    clear hX
    go_wp2_with fail
    go_ret
    exact ⟨by rw [HXf.out]; rfl, hb⟩

end Go.Proofs.YtimkklaidodkdaaGreatDoor
