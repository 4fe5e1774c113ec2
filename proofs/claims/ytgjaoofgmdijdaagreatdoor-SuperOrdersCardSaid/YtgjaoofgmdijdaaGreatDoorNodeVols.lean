/- node.volumes: walked. -/
import Derived.Test.YtgjaoofgmdijdaaGreatDoorNodeKids
import Derived.Stop.BytesEq
namespace Go.Proofs.YtgjaoofgmdijdaaGreatDoor
open Go.RowKit

/-- An operation that yields a value and leaves the world, guarded or not. -/
theorem wpList_exec {P : Program} {ops : Array Oper} {rest : List Oper} {o : Oper} {a : Act} {w : World} {Q : Exit → Act → World → Prop} {v : Value} (hwn : Region.wanted o (yielded ops a.tmps) = true)
    (h : (execOp a.eval o).run P w = .ok (.value v) w) (k : wpList P ops Q rest (a.put o.dst v) w) : wpList P ops Q (o :: rest) a w := by
  unfold wpList
  rw [if_pos hwn]
  refine .inl ?_
  unfold Oper.wp
  rw [h]
  exact k
theorem exec_load_mid {P : Program} {o : Oper} {ev : Operand → Value} {w : World} (ty : TypeId) (x : Operand) (ho : o.op = .load ty x) (b off : Nat) (hx : ev x = .pointer (some ⟨b, off, none⟩)) (cs : List Value) (d : TypeDesc) (hc : w.rangeAt b off cs)
    (hu : P.underlying ty = some d) (hd : d.isRow = true) (hi : (P.info? ty).map (·.size) = some cs.length) : (execOp ev o).run P w = .ok (.value (.agg cs.toArray)) w := by
  unfold execOp
  simp only [ho, hx, Instr.loadAt, Instr.sureAddr, Sem.run_bind, Sem.run_pure, Result.andThen_ok, run_loadVar_mid w b off ty cs d hc hu hd hi]
theorem bytesV_cells (l : List UInt8) : (bytesV l).toArray = byteCells l := rfl
theorem exec_zeroHash {o : Oper} {ev : Operand → Value} (ho : o.op = .build 24 #[]) (w : World) : (execOp ev o).run Tryz.prog w = .ok (.value (.agg (byteCells noHash))) w := by
  unfold execOp
  simp only [ho]
  simp [Instr.build, Tryz.zeroValue24]
  rfl
theorem eq_hash (xs ys : List UInt8) (w : World) (hx : xs.length = 32) (hy : ys.length = 32) : (Op.equalIn 10000 24 (.agg (byteCells xs)) (.agg (byteCells ys))).run Tryz.prog w = .ok (xs == ys) w :=
  run_equalIn_bytes w 9998 24 5 32 Tryz.underlying24 Tryz.underlying5 Tryz.sizeOf5 xs ys hx hy
theorem volV_one (k : VolD) : (volV k).toArray.all (·.oneCell') = true := all_oneCell_toArray fun v hv => by
  rw [volV, List.mem_append] at hv
  rcases hv with h | h
  · simp only [List.mem_cons, List.not_mem_nil, or_false] at h
    rcases h with rfl | rfl | rfl | rfl | rfl <;> rfl
  · exact one_bytesV _ v h

def volZ : Array Value := (volV ⟨⟨#[]⟩, 0, ⟨#[]⟩, 0, 0, List.replicate 32 0⟩).toArray
def prevVol (l : List VolD) (i : Nat) : ByteArray := if i = 0 then noName else (l[i - 1]?.map (·.name)).getD noName

set_option maxRecDepth 20000 in
set_option maxHeartbeats 3200000 in
theorem volumes_calls (B : Nat) (v : Value) (l : List VolD) (w : World) (h : VolsAt B w v l) (hB : B ≤ w.heap.size) (hwf : ∀ k ∈ l, k.wf) :
    Calls Tryz.prog 95 #[v] w fun e w' => e = .returned (.bool (decide (l.length ≤ 6) && volsOk noName l)) ∧ Below w.heap.size w w' := by
  obtain ⟨a, cap, rfl, hn, hr⟩ := h
  generalize hX : (decide (l.length ≤ 6) && volsOk noName l) = X at *
  have HX := Lib.hid hX
  clear hX
  have hnot : ∀ (x : Bool) (w : World), (Op.unary .not (.bool x)).run Tryz.prog w = .ok (.bool (!x)) w := fun _ _ => rfl
  unfold maxLen at hn
  go_enter Tryz.func95, Tryz.ntmps95
  go_wp2_with fail
  go_loopw [3, 9] (fun v3 v wr => ∃ t : Nat, t ≤ l.length ∧ v = .int .i64 t ∧ v3 = .string (prevVol l t) ∧ volsOk noName l = volsOk (prevVol l t) (l.drop t) ∧ Below w.heap.size w wr) (fun _ v _ => l.length - (intOf v).toNat)
  case atStart => exact ⟨0, by omega, rfl, rfl, rfl, Below.refl _ _⟩
  case round =>
    obtain ⟨t, ht, rfl, rfl, hok, hb⟩ := hrel
    by_cases hlt : t < l.length
    · obtain ⟨b, o, rfl, hbB, hc⟩ := hr (by omega)
      have hkw := hwf l[t] (List.getElem_mem hlt)
      have hci : wr.rangeAt b (o + t * 37) (volV l[t]) := by
        have := rangeAt_below (hc t hlt) hb (by omega)
        rwa [List.getElem?_eq_getElem hlt] at this
      have hdrop : l.drop t = l[t] :: l.drop (t + 1) := List.drop_eq_getElem_cons hlt
      have hprev : prevVol l (t + 1) = l[t].name := by simp [prevVol, List.getElem?_eq_getElem hlt]
      have hok' : volsOk noName l = (volOk (prevVol l t) l[t] && volsOk (prevVol l (t + 1)) (l.drop (t + 1))) := by rw [hok, hdrop, hprev]; rfl
      rw [hprev] at hok'
      have hlti : (t : Int) < (l.length : Int) := by omega
      have hkl := volV_length hkw.2.2.2
      have hone := volV_one l[t]
      have hksz : (Tryz.prog.info? 98).map (·.size) = some (volV l[t]).length := by rw [hkl]; kernel_rfl
      have hksz2 : (Tryz.prog.info? 98).map (·.size) = some (volV l[t]).toArray.size := by rw [List.size_toArray, hkl]; kernel_rfl
      obtain ⟨W, W2, hW, hW2, hG, hb2, hthere⟩ := alloc_fill wr volZ (volV l[t]).toArray 98 (by rw [List.size_toArray, hkl]; rfl)
      have hbW := hb.trans (hb2.mono hb.size)
      have c0 : W2.cell? ⟨wr.heap.size, 0, none⟩ = some (.string l[t].name) := by rw [hG.cell]; rfl
      have c1 : W2.cell? ⟨wr.heap.size, 1, none⟩ = some (.int .u8 (l[t].kind : Int)) := by rw [hG.cell]; rfl
      have c2 : W2.cell? ⟨wr.heap.size, 2, none⟩ = some (.string l[t].frm) := by rw [hG.cell]; rfl
      have c4 : W2.cell? ⟨wr.heap.size, 4, none⟩ = some (.int .u32 (l[t].root : Int)) := by rw [hG.cell]; rfl
      have hb32 : List Value := bytesV l[t].hash
      have hrng : W2.rangeAt wr.heap.size 5 (bytesV l[t].hash) := fun j v hv => by
        rw [hG.cell]
        rw [← hv]
        simp [volV, Nat.add_comm 5 j]
      have hhl := hkw.2.2.2
      have hhsz : (Tryz.prog.info? 24).map (·.size) = some (bytesV l[t].hash).length := by rw [bytesV, List.length_map, hhl]; kernel_rfl
      have heq : ∀ w, (Op.equalIn 10000 24 (.agg (bytesV l[t].hash).toArray) (.agg (byteCells noHash))).run Tryz.prog w = .ok (l[t].hash == noHash) w := fun w => eq_hash l[t].hash noHash w hhl (by simp [noHash])
      have hvO : volOk (prevVol l t) l[t] = (((((blockN l[t].root || (l[t].root == 0 && l[t].hash == noHash)) && (decide (l[t].name.size ≤ 16) && lessB (prevVol l t) l[t].name)) && decide (l[t].frm.size ≤ 16)) && decide (0 < l[t].kind)) && decide (l[t].kind < 3)) := by
        rw [volOk]
        generalize (blockN l[t].root || (l[t].root == 0 && l[t].hash == noHash)) = b1
        generalize lessB (prevVol l t) l[t].name = b2
        generalize decide (l[t].name.size ≤ 16) = b3
        cases b1 <;> cases b2 <;> cases b3 <;> rfl
      have HW := Lib.hid hW
      have HW2 := Lib.hid hW2
      have Hok := Lib.hid hok'
      have HvO := Lib.hid hvO
      have Hp := Lib.hid hprev
      clear hc hok hr hW hW2 hG hb hb2 hok' hvO hdrop hprev hkl hkw hwf hhl hb32
      generalize volOk (prevVol l t) l[t] = ok1 at *
      generalize hkv : volV l[t] = cs at *
      generalize hK : l[t].name = name at *
      generalize hN : l[t].root = root at *
      generalize hF : l[t].frm = frm at *
      generalize hD : l[t].kind = kind at *
      generalize prevVol l t = prev at *
      generalize (l[t].hash == noHash) = hq at *
      generalize hb32d : bytesV l[t].hash = hb32 at *
      clear hkv hK hN hF hD hb32d
      have hnm := named_calls prev name 16 W2
      rw [show ((16 : Nat) : Int) = 16 from rfl] at hnm
      generalize (decide (name.size ≤ 16) && lessB prev name) = nm at *
      have hbl := block_calls root W2
      generalize blockN root = bl at *
      go_wp2_with (first | (refine wpList_world HW.out ?_) | (refine wpList_load_mid rfl 98 _ rfl b (o + t * 37) rfl cs _ hci Tryz.underlying98 rfl hksz ?_) | (refine wpList_store_mid rfl 98 _ _ rfl wr.heap.size 0 cs.toArray rfl rfl hthere hksz2 hone ?_; refine wpList_world HW2.out ?_))
      refine hbl.mono ?_
      rintro e W2 ⟨rfl, rfl⟩
      cases bl with
      | true =>
        go_wp2_with fail
        refine hnm.mono ?_
        rintro e W2 ⟨rfl, rfl⟩
        cases nm with
        | false =>
          have hX : X = false := by rw [← HX.out, Hok.out, HvO.out]; simp
          have HXf := Lib.hid hX
          clear hX
          go_wp2_with fail
          go_ret
          exact ⟨by rw [HXf.out]; rfl, hbW⟩
        | true =>
          by_cases hf : frm.size ≤ 16
          · have f1 : ¬ (16 : Int) < (frm.size : Int) := by omega
            by_cases hk0 : 0 < kind
            · have f2 : ¬ (kind : Int) ≤ 0 := by omega
              by_cases hk3 : kind < 3
              · have f3 : ¬ (3 : Int) ≤ (kind : Int) := by omega
                have hok2 : volsOk noName l = volsOk name (l.drop (t + 1)) := by rw [Hok.out, HvO.out]; simp [hf, hk0, hk3]
                have Hok2 := Lib.hid hok2
                clear hok2
                go_wp2_with fail
                go_roundw
                case rel => exact ⟨t + 1, by omega, by go_num, by rw [Hp.out], by rw [Hp.out]; exact Hok2.out, hbW⟩
                case measure => simp [intOf]; omega
              · have f3 : (3 : Int) ≤ (kind : Int) := by omega
                have hX : X = false := by rw [← HX.out, Hok.out, HvO.out]; simp [hk3]
                have HXf := Lib.hid hX
                clear hX
                go_wp2_with fail
                go_ret
                exact ⟨by rw [HXf.out]; rfl, hbW⟩
            · have f2 : (kind : Int) ≤ 0 := by omega
              have hX : X = false := by rw [← HX.out, Hok.out, HvO.out]; simp [hk0]
              have HXf := Lib.hid hX
              clear hX
              go_wp2_with fail
              go_ret
              exact ⟨by rw [HXf.out]; rfl, hbW⟩
          · have f1 : (16 : Int) < (frm.size : Int) := by omega
            have hX : X = false := by rw [← HX.out, Hok.out, HvO.out]; simp [hf]
            have HXf := Lib.hid hX
            clear hX
            go_wp2_with fail
            go_ret
            exact ⟨by rw [HXf.out]; rfl, hbW⟩
      | false =>
        by_cases hr0 : root = 0
        · have r1 : (root : Int) = 0 := by omega
          subst hr0
          cases hq with
          | true =>
            go_wp2_with (first | (refine wpList_exec (by rfl) (exec_load_mid 24 _ (by rfl) wr.heap.size 5 (by rfl) hb32 _ hrng Tryz.underlying24 (by rfl) hhsz) ?_) | (refine wpList_exec (by rfl) (exec_zeroHash (by rfl) _) ?_))
            refine hnm.mono ?_
            rintro e W2 ⟨rfl, rfl⟩
            cases nm with
            | false =>
              have hX : X = false := by rw [← HX.out, Hok.out, HvO.out]; simp
              have HXf := Lib.hid hX
              clear hX
              go_wp2_with fail
              go_ret
              exact ⟨by rw [HXf.out]; rfl, hbW⟩
            | true =>
              by_cases hf : frm.size ≤ 16
              · have f1 : ¬ (16 : Int) < (frm.size : Int) := by omega
                by_cases hk0 : 0 < kind
                · have f2 : ¬ (kind : Int) ≤ 0 := by omega
                  by_cases hk3 : kind < 3
                  · have f3 : ¬ (3 : Int) ≤ (kind : Int) := by omega
                    have hok2 : volsOk noName l = volsOk name (l.drop (t + 1)) := by rw [Hok.out, HvO.out]; simp [hf, hk0, hk3]
                    have Hok2 := Lib.hid hok2
                    clear hok2
                    go_wp2_with fail
                    go_roundw
                    case rel => exact ⟨t + 1, by omega, by go_num, by rw [Hp.out], by rw [Hp.out]; exact Hok2.out, hbW⟩
                    case measure => simp [intOf]; omega
                  · have f3 : (3 : Int) ≤ (kind : Int) := by omega
                    have hX : X = false := by rw [← HX.out, Hok.out, HvO.out]; simp [hk3]
                    have HXf := Lib.hid hX
                    clear hX
                    go_wp2_with fail
                    go_ret
                    exact ⟨by rw [HXf.out]; rfl, hbW⟩
                · have f2 : (kind : Int) ≤ 0 := by omega
                  have hX : X = false := by rw [← HX.out, Hok.out, HvO.out]; simp [hk0]
                  have HXf := Lib.hid hX
                  clear hX
                  go_wp2_with fail
                  go_ret
                  exact ⟨by rw [HXf.out]; rfl, hbW⟩
              · have f1 : (16 : Int) < (frm.size : Int) := by omega
                have hX : X = false := by rw [← HX.out, Hok.out, HvO.out]; simp [hf]
                have HXf := Lib.hid hX
                clear hX
                go_wp2_with fail
                go_ret
                exact ⟨by rw [HXf.out]; rfl, hbW⟩
          | false =>
            have hX : X = false := by rw [← HX.out, Hok.out, HvO.out]; simp
            have HXf := Lib.hid hX
            clear hX
            go_wp2_with (first | (refine wpList_exec (by rfl) (exec_load_mid 24 _ (by rfl) wr.heap.size 5 (by rfl) hb32 _ hrng Tryz.underlying24 (by rfl) hhsz) ?_) | (refine wpList_exec (by rfl) (exec_zeroHash (by rfl) _) ?_))
            go_ret
            exact ⟨by rw [HXf.out]; rfl, hbW⟩
        · have r1 : ¬ (root : Int) = 0 := by omega
          have hX : X = false := by rw [← HX.out, Hok.out, HvO.out]; simp [hr0]
          have HXf := Lib.hid hX
          clear hX
          go_wp2_with fail
          go_ret
          exact ⟨by rw [HXf.out]; rfl, hbW⟩
    · have htl : t = l.length := by omega
      have hgood : volsOk noName l = true := by rw [hok, htl, List.drop_length]; rfl
      rw [hgood, Bool.and_true] at HX
      clear hok hgood hr hwf
      by_cases h2 : l.length ≤ 6
      · have i2 : (l.length : Int) ≤ 6 := by omega
        have hX : X = true := by rw [← HX.out]; simp [h2]
        have HXf := Lib.hid hX
        clear hX
        go_wp2_with fail
        go_ret
        exact ⟨by rw [HXf.out]; rfl, hb⟩
      · have i2 : ¬ (l.length : Int) ≤ 6 := by omega
        have hX : X = false := by rw [← HX.out]; simp [h2]
        have HXf := Lib.hid hX
        clear hX
        go_wp2_with fail
        go_ret
        exact ⟨by rw [HXf.out]; rfl, hb⟩

end Go.Proofs.YtgjaoofgmdijdaaGreatDoor
