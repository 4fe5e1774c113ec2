/- hash's take, walked. -/
import Derived.Test.YtjbnnfdhmpeoeaaSha2
import Derived.BigQuiet
namespace Go.Proofs.Ytjbnnfdhmpeoeaa
open Go.RowKit

theorem rt1_int (s : St) (k w : BitVec 32) : IntKind.u32.wrap (IntKind.u32.wrap (IntKind.u32.wrap (IntKind.u32.wrap (uw s.h + bits .xor .u32 (bits .xor .u32 (uw (rotr s.e 6)) (uw (rotr s.e 11))) (uw (rotr s.e 25))) +
    bits .xor .u32 (uw s.g) (bits .and .u32 (uw s.e) (bits .xor .u32 (uw s.f) (uw s.g)))) + uw k) + uw w) = uw (rt1 s k w) := by
  simp only [IntKind.wrap_u32]
  rw [uw_xor, uw_xor, uw_xor, uw_and, uw_xor, uw_add, uw_add, uw_add, uw_add]
  rfl
theorem rt1_int' (s : St) (k w : BitVec 32) : ((uw s.h + bits .xor .u32 (bits .xor .u32 (uw (rotr s.e 6)) (uw (rotr s.e 11))) (uw (rotr s.e 25)) +
    bits .xor .u32 (uw s.g) (bits .and .u32 (uw s.e) (bits .xor .u32 (uw s.f) (uw s.g))) + uw k) % 4294967296 + uw w) % 4294967296 = uw (rt1 s k w) := by
  rw [← rt1_int]
  simp only [IntKind.wrap_u32]
  omega
theorem rt2_int (s : St) : IntKind.u32.wrap (bits .xor .u32 (bits .xor .u32 (uw (rotr s.a 2)) (uw (rotr s.a 13))) (uw (rotr s.a 22)) +
    bits .or .u32 (bits .and .u32 (uw s.a) (uw s.b)) (bits .and .u32 (uw s.c) (bits .or .u32 (uw s.a) (uw s.b)))) = uw (rt2 s) := by
  simp only [IntKind.wrap_u32]
  rw [uw_xor, uw_xor, uw_or, uw_and, uw_and, uw_or, uw_add]
  rfl
theorem rt2_int' (s : St) : (bits .xor .u32 (bits .xor .u32 (uw (rotr s.a 2)) (uw (rotr s.a 13))) (uw (rotr s.a 22)) +
    bits .or .u32 (bits .and .u32 (uw s.a) (uw s.b)) (bits .and .u32 (uw s.c) (bits .or .u32 (uw s.a) (uw s.b)))) % 4294967296 = uw (rt2 s) := by
  rw [← rt2_int, IntKind.wrap_u32]
theorem add_int (x y : BitVec 32) : IntKind.u32.wrap (uw x + uw y) = uw (x + y) := by simp only [IntKind.wrap_u32]; exact uw_add x y

def addTo (s r : St) (j : Nat) : List (BitVec 32) := (s.add r).list.take j ++ s.list.drop j
theorem addTo_length (s r : St) (j : Nat) (h : j ≤ 8) : (addTo s r j).length = 8 := by simp [addTo, St.list, St.add]; omega
theorem addTo_at (s r : St) (j : Nat) (h : j < 8) : ∃ x y : BitVec 32, s.list[j]? = some x ∧ r.list[j]? = some y ∧ (addTo s r j)[j]? = some x ∧ (addTo s r j).set j (x + y) = addTo s r (j + 1) := by
  rcases j with _ | _ | _ | _ | _ | _ | _ | _ | j
  all_goals first | exact ⟨_, _, rfl, rfl, rfl, rfl⟩ | omega

set_option maxRecDepth 20000 in
set_option maxHeartbeats 3200000 in
theorem statetake_calls (s : St) (l : ByteArray) (w : World) (bh bk : Nat) (hl : l.size = 64)
    (hh : RowIs w bh 75 (wordCells s.list)) (hk : RowIs w bk 101 (wordCells shaK)) :
    Calls Try.prog 48 #[.pointer (some ⟨bh, 0, none⟩), .string l, .pointer (some ⟨bk, 0, none⟩)] w fun e w' =>
      e = .returned (.tuple #[]) ∧ RowIs w' bh 75 (wordCells (compress s l.data.toList).list) ∧ But bh w w' := by
  obtain ⟨a, b, c, d, e, f, g, z⟩ := s
  have c0 := hh.word 0 (by simp [St.list])
  have c1 := hh.word 1 (by simp [St.list])
  have c2 := hh.word 2 (by simp [St.list])
  have c3 := hh.word 3 (by simp [St.list])
  have c4 := hh.word 4 (by simp [St.list])
  have c5 := hh.word 5 (by simp [St.list])
  have c6 := hh.word 6 (by simp [St.list])
  have c7 := hh.word 7 (by simp [St.list])
  simp only [St.list, List.getElem_cons_zero, List.getElem_cons_succ] at c0 c1 c2 c3 c4 c5 c6 c7
  have Hh := Lib.hid hh
  have Hk := Lib.hid hk
  clear hh hk
  go_enter Try.func48, Try.ntmps48
  go_wp2_with fail
  go_quiet (fail)
  have hh1 : RowIs (w.drewN nq) bh 75 (wordCells (St.mk a b c d e f g z).list) := Hh.out
  have hk1 : RowIs (w.drewN nq) bk 101 (wordCells shaK) := Hk.out
  have hb1 : But bh w (w.drewN nq) := But.of (below_drewN (Below.refl _ _) nq)
  clear c0 c1 c2 c3 c4 c5 c6 c7
  generalize w.drewN nq = w1 at *
  have Hh1 := Lib.hid hh1
  have Hk1 := Lib.hid hk1
  clear hh1 hk1 Hh Hk
  go_wp2_with fail
  refine (words_calls l _ hl).mono ?_
  rintro e2 w2 ⟨rfl, hb2⟩
  have hh2 := Hh1.out.below hb2 Hh1.out.lt
  have hk2 := Hk1.out.below hb2 Hk1.out.lt
  have hb3 := hb1.trans (But.of hb2)
  clear hb1 hb2 Hh1 Hk1
  have hlen : (sched l.data.toList).length = 64 := schedTo_length _ _
  have hcomp : compress ⟨a, b, c, d, e, f, g, z⟩ l.data.toList = (St.mk a b c d e f g z).add (roundsTo shaK (sched l.data.toList) ⟨a, b, c, d, e, f, g, z⟩ 64) := rfl
  generalize sched l.data.toList = W at *
  have Hcomp := Lib.hid hcomp
  clear hcomp
  have hkl : ∀ w : World, RowIs w bk 101 (wordCells shaK) → ∀ t : Nat, t < 64 → w.cell? ⟨bk, t, none⟩ = some (.int .u32 (uw (shaK.getD t 0#32))) := fun w h t ht => by
    rw [h.word t (show t < shaK.length from ht), List.getD_eq_getElem?_getD, List.getElem?_eq_getElem (show t < shaK.length from ht)]; rfl
  generalize shaK = K at *
  have hS0 : roundsTo K W ⟨a, b, c, d, e, f, g, z⟩ 0 = ⟨a, b, c, d, e, f, g, z⟩ := rfl
  generalize hs0 : St.mk a b c d e f g z = s0 at *
  have Hs0 := Lib.hid hs0
  clear hs0
  have hA : ∀ (w : World) (t : Nat), t < 64 → Sem.run Try.prog (Instr.index 101 (.agg (wordCells W)) (.int .i64 (t : Int))) w = .ok (.int .u32 (uw (W.getD t 0#32))) w := fun w t ht => by
    have := index_word Try.underlying101 W t (by omega) hlen w
    rw [List.getD_eq_getElem?_getD, List.getElem?_eq_getElem (by omega)]; exact this
  go_wp2
  go_loopw [6, 7, 8, 9, 10, 11, 12, 13, 14, 15, 16, 17, 54] (fun va vb vc vd ve vf vg vz _ _ _ _ vt wr => ∃ t : Nat, t ≤ 64 ∧ vt = .int .i64 t ∧ (∃ r : St, r = roundsTo K W s0 t ∧
      va = .int .u32 (uw r.a) ∧ vb = .int .u32 (uw r.b) ∧ vc = .int .u32 (uw r.c) ∧ vd = .int .u32 (uw r.d) ∧ ve = .int .u32 (uw r.e) ∧ vf = .int .u32 (uw r.f) ∧ vg = .int .u32 (uw r.g) ∧ vz = .int .u32 (uw r.h)) ∧
      RowIs wr bh 75 (wordCells s0.list) ∧ RowIs wr bk 101 (wordCells K) ∧ But bh w wr) (fun _ _ _ _ _ _ _ _ _ _ _ _ vt _ => 64 - (intOf vt).toNat)
  case atStart => exact ⟨0, by omega, rfl, ⟨s0, hS0.symm, by rw [← Hs0.out], by rw [← Hs0.out], by rw [← Hs0.out], by rw [← Hs0.out], by rw [← Hs0.out], by rw [← Hs0.out], by rw [← Hs0.out], by rw [← Hs0.out]⟩, hh2, hk2, hb3⟩
  case round =>
    clear hh2 hk2 hb3
    obtain ⟨t, ht, rfl, ⟨r, hr, rfl, rfl, rfl, rfl, rfl, rfl, rfl, rfl⟩, hh, hk, hb⟩ := hrel
    have HA := Lib.hid hA
    clear hA
    by_cases hlt : t < 64
    · have hKt := hkl wr hk t hlt
      have hround : roundsTo K W s0 (t + 1) = round r (K.getD t 0#32) (W.getD t 0#32) := by rw [roundsTo, ← hr]
      have hi := HA.out wr t hlt
      generalize K.getD t 0#32 = kt at *
      generalize W.getD t 0#32 = wt at *
      have Hround := Lib.hid hround
      have Hh := Lib.hid hh
      have Hk := Lib.hid hk
      have Hb := Lib.hid hb
      clear hround hh hk hb hr hlen hkl HA
      have h64 : (t : Int) < 64 := by omega
      obtain ⟨wo, rfl⟩ : ∃ wo : World, wo = wr := ⟨_, rfl⟩
      go_wp2_with fail
      go_quiet ((go_at_call 57; exact Calls.quiet_of_same (right_calls _ _ _ (by omega) (by omega))))
      have Hh2 : Hid (RowIs (wo.drewN nq) bh 75 (wordCells s0.list)) := Hh.out
      have Hk2 : Hid (RowIs (wo.drewN nq) bk 101 (wordCells K)) := Hk.out
      have Hb2 : Hid (But bh w (wo.drewN nq)) := Lib.hid (Hb.out.trans (But.of (below_drewN (Below.refl _ _) nq)))
      clear hKt hi Hh Hk Hb
      generalize wo.drewN nq = wz at *
      rw [rt1_int' r kt wt]
      go_wp2_with fail
      refine (right_calls _ _ _ (by omega) (by omega)).mono ?_
      rintro e3 w3 ⟨rfl, rfl⟩
      go_wp2_with fail
      refine (right_calls _ _ _ (by omega) (by omega)).mono ?_
      rintro e3 w3 ⟨rfl, rfl⟩
      go_wp2_with fail
      refine (right_calls _ _ _ (by omega) (by omega)).mono ?_
      rintro e3 w3 ⟨rfl, rfl⟩
      go_wp2_with fail
      rw [rt2_int', uw_add, uw_add]
      go_roundw
      case rel => exact ⟨t + 1, by omega, by go_num, ⟨round r kt wt, Hround.out.symm, rfl, rfl, rfl, rfl, rfl, rfl, rfl, rfl⟩, Hh2.out, Hk2.out, Hb2.out⟩
      case measure => simp [intOf]; omega
    · have ht64 : t = 64 := by omega
      subst ht64
      rw [← hr] at Hcomp
      clear hr HA hkl hlen hS0 hk
      rw [show (((64 : Nat) : Int)) = 64 from rfl]
      have hbuild : #[Value.int .u32 (uw r.a), .int .u32 (uw r.b), .int .u32 (uw r.c), .int .u32 (uw r.d), .int .u32 (uw r.e), .int .u32 (uw r.f), .int .u32 (uw r.g), .int .u32 (uw r.h)] = wordCells r.list := rfl
      have hR : ∀ (w : World) (t : Nat) (y : BitVec 32), t < 8 → r.list[t]? = some y → Sem.run Try.prog (Instr.index 74 (.agg (wordCells r.list)) (.int .i64 (t : Int))) w = .ok (.int .u32 (uw y)) w := fun w t y ht hy => by
        have := index_word Try.underlying74 r.list t ht rfl w
        rw [this]
        congr 3
        rw [List.getElem?_eq_getElem ht] at hy
        exact Option.some.inj hy
      go_wp2
      have HR := Lib.hid hR
      have h0 : RowIs wr bh 75 (wordCells (addTo s0 r 0)) := by simpa [addTo] using hh
      clear hR hbuild hh
      go_loopw [18, 19, 124] (fun _ _ vj wr => ∃ j : Nat, j ≤ 8 ∧ vj = .int .i64 j ∧ RowIs wr bh 75 (wordCells (addTo s0 r j)) ∧ But bh w wr) (fun _ _ vj _ => 8 - (intOf vj).toNat)
      case atStart => exact ⟨0, by omega, rfl, h0, hb⟩
      case round =>
        clear h0 hb
        obtain ⟨j, hj, rfl, hh, hb⟩ := hrel
        by_cases hlt : j < 8
        · obtain ⟨x, y, hx, hy, hxy, hset⟩ := addTo_at s0 r j hlt
          have hi := HR.out wr j y hlt hy
          have hal := addTo_length s0 r j hj
          have hc : wr.cell? ⟨bh, j, none⟩ = some (.int .u32 (uw x)) := by
            rw [hh.word j (by omega)]
            rw [List.getElem?_eq_getElem (by omega)] at hxy
            rw [Option.some.inj hxy]
          have hf := hh.free j
          have hs := hh.setWord j (x + y)
          rw [hset] at hs
          have Hs := Lib.hid hs
          have Hb := Lib.hid (hb.setCell j (.int .u32 (uw (x + y))))
          clear hh hb hs hset hxy hx hy HR hal
          have h8 : (j : Int) < 8 := by omega
          go_wp2_with fail
          go_region
          go_wp2
          rw [uw_add]
          go_roundw
          case rel => exact ⟨j + 1, by omega, by go_num, Hs.out.drew, Hb.out.drew⟩
          case measure => simp [intOf]; omega
        · have hj8 : j = 8 := by omega
          subst hj8
          have hfin : addTo s0 r 8 = (s0.add r).list := by simp [addTo, St.list, St.add]
          rw [hfin] at hh
          go_wp2
          go_end0
          refine ⟨rfl, ?_, hb⟩
          rw [Hs0.out, Hcomp.out]
          exact hh

end Go.Proofs.Ytjbnnfdhmpeoeaa
