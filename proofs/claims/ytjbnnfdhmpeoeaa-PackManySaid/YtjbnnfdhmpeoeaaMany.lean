/- PackMany returns true: texts put one behind the other are taken one by one. -/
import Derived.Test.YtjbnnfdhmpeoeaaNumLaws2
import Derived.OwnWalk
import Derived.Laws.OwnMore
namespace Go.Proofs.Ytjbnnfdhmpeoeaa
open Go.RowKit

/-- The texts that are put, of the first k. -/
def putOf (ss : List ByteArray) (k : Nat) : List ByteArray := ((ss.take k).take 20).filter (fun t => decide (t.size ≤ 65535))
/-- Their bytes, one behind the other. -/
def flat : List ByteArray → ByteArray
  | [] => ⟨#[]⟩
  | t :: l => txtS t ++ flat l

theorem flat_snoc (l : List ByteArray) (t : ByteArray) : flat (l ++ [t]) = flat l ++ txtS t := by
  induction l with
  | nil => apply ByteArray.ext; simp [flat]
  | cons c l ih => simp only [List.cons_append, flat, ih]; exact (ByteArray.append_assoc ..).symm
theorem flat_size (l : List ByteArray) (h : ∀ t ∈ l, t.size ≤ 65535) : (flat l).size ≤ l.length * 65537 := by
  induction l with
  | nil => exact Nat.zero_le _
  | cons t l ih =>
    have h1 := h t (by simp)
    have h2 := ih (fun x hx => h x (by simp [hx]))
    have h3 : (txtS t).size ≤ 65537 := by rw [txtS, if_pos h1, ByteArray.size_append, beN_size]; omega
    simp only [flat, ByteArray.size_append, List.length_cons]
    omega
theorem putOf_le (ss : List ByteArray) (k : Nat) : (putOf ss k).length ≤ 20 := by
  unfold putOf
  refine Nat.le_trans (List.length_filter_le ..) ?_
  rw [List.length_take]; omega
theorem putOf_fit (ss : List ByteArray) (k : Nat) : ∀ t ∈ putOf ss k, t.size ≤ 65535 := fun t ht => by
  have := (List.mem_filter.1 ht).2
  simpa using this
theorem putOf_yes (ss : List ByteArray) (k : Nat) (h : k < ss.length) (h20 : k < 20) (hf : ss[k].size ≤ 65535) : putOf ss (k + 1) = putOf ss k ++ [ss[k]] := by
  unfold putOf
  rw [List.take_of_length_le (l := ss.take (k + 1)) (by rw [List.length_take]; omega), List.take_of_length_le (l := ss.take k) (by rw [List.length_take]; omega),
    List.take_succ_eq_append_getElem h, List.filter_append]
  simp [hf]
theorem putOf_late (ss : List ByteArray) (k : Nat) (h20 : ¬ k < 20) : putOf ss (k + 1) = putOf ss k := by
  unfold putOf
  rw [List.take_take, List.take_take, Nat.min_eq_left (by omega), Nat.min_eq_left (by omega)]
theorem putOf_long (ss : List ByteArray) (k : Nat) (h : k < ss.length) (hf : ¬ ss[k].size ≤ 65535) : putOf ss (k + 1) = putOf ss k := by
  by_cases h20 : k < 20
  · unfold putOf
    rw [List.take_of_length_le (l := ss.take (k + 1)) (by rw [List.length_take]; omega), List.take_of_length_le (l := ss.take k) (by rw [List.length_take]; omega),
      List.take_succ_eq_append_getElem h, List.filter_append]
    simp [hf]
  · exact putOf_late ss k h20

theorem info_str : (Try.prog.info? 9).map (fun i => (i.zero, i.size, i.bytes)) = some (some (.string ⟨#[]⟩), 1, 16) := by kernel_rfl

theorem ownsRow_below {w w' : World} {base : Nat} {e : TypeId} {size : Nat} {v : Value} {n : Nat} {xs : List Value} (h : w.ownsRow base e size v n xs) (hb : Below w.heap.size w w') : w'.ownsRow base e size v n xs := by
  refine ⟨h.1, ?_⟩
  rcases h.2 with h2 | ⟨g, cap, cur, hv, hg, hh, r⟩
  · exact .inl h2
  · exact .inr ⟨g, cap, cur, hv, hg, (hb.block g (lt_of_block hh)).trans hh, r⟩

/-- The slice's elements, read. -/
def StrSl (w : World) (a : Option Addr) (ss : List ByteArray) : Prop := ∀ i (h : i < ss.length), ∃ b off, a = some ⟨b, off, none⟩ ∧ b < w.heap.size ∧ w.cell? ⟨b, off + i, none⟩ = some (.string ss[i])

theorem own_strSl {w : World} {base : Nat} {v : Value} {P : List ByteArray} (h : w.ownsRow base 9 1 v P.length (P.map Value.string)) : ∃ a cap, v = .slice a P.length cap ∧ StrSl w a P := by
  rcases h.2 with ⟨hv, h0⟩ | ⟨g, cap, cur, hv, hg, hh, hn, hc, hs, ht⟩
  · refine ⟨none, 0, by rw [hv, h0], fun i hi => by omega⟩
  · refine ⟨some ⟨g, 0, none⟩, cap, hv, fun i hi => ⟨g, 0, rfl, lt_of_block hh, ?_⟩⟩
    rw [Nat.zero_add, cell_of_row w g i cur _ _ hh]
    have : (cur.toList.take (P.length * 1))[i]? = (P.map Value.string)[i]? := by rw [ht]
    rw [List.getElem?_take_of_lt (by omega), Array.getElem?_toList] at this
    rw [this]; simp [hi]

theorem flat_drop (P : List ByteArray) (j : Nat) (h : j < P.length) : flat (P.drop j) = txtS P[j] ++ flat (P.drop (j + 1)) := by
  rw [List.drop_eq_getElem_cons h]; rfl

set_option maxRecDepth 20000 in
set_option maxHeartbeats 1600000 in
theorem packMany_calls (a : Option Addr) (cap : Nat) (ss : List ByteArray) (w : World) (hl : StrSl w a ss) (hn : ss.length ≤ maxLen) (hz : ∀ s ∈ ss, s.size ≤ maxLen) :
    Calls Try.prog 14 #[.slice a ss.length cap] w fun e w' => e = .returned (.bool true) ∧ Below w.heap.size w w' := by
  unfold maxLen at hn
  obtain ⟨i0, hi, hz0, hz1, hz2⟩ := info_parts info_str
  have HI := Lib.hid hi
  have HZ := Lib.hid (And.intro hz0 (And.intro hz1 hz2))
  clear hi hz0 hz1 hz2
  go_enter Try.func14, Try.ntmps14
  go_wp2_with fail
  refine (texts_calls _).mono ?_
  rintro e w1 ⟨rfl, hb1⟩
  go_wp2_with fail
  go_loopw [3, 4, 18] (fun s v i wr => ∃ k : Nat, k ≤ ss.length ∧ i = .int .i64 k ∧ s = .string (flat (putOf ss k)) ∧
    wr.ownsRow w.heap.size 9 1 v (putOf ss k).length ((putOf ss k).map Value.string) ∧ Below w.heap.size w wr) (fun _ _ i _ => ss.length - (intOf i).toNat)
  case atStart => exact ⟨0, by omega, rfl, rfl, World.ownsRow_nil _ _ _ _, hb1⟩
  case round =>
    obtain ⟨k, hk, rfl, rfl, hown, hbel⟩ := hrel
    have h20 := putOf_le ss k
    have hfs := flat_size _ (putOf_fit ss k)
    by_cases hlt : k < ss.length
    · obtain ⟨b, off, rfl, hbw, hcell⟩ := hl k hlt
      have hc : wr.cell? ⟨b, off + k, none⟩ = some (.string ss[k]) := (hbel.cell (p := ⟨b, off + k, none⟩) hbw).trans hcell
      have ht : ss[k].size ≤ maxLen := hz _ (List.getElem_mem hlt)
      have hyes := putOf_yes ss k hlt
      have hlate := putOf_late ss k
      have hlong := putOf_long ss k hlt
      have Hsz := Lib.hid hbel.size
      have Hown := Lib.hid hown
      have Hyes := Lib.hid hyes
      have Hlate := Lib.hid hlate
      have Hlong := Lib.hid hlong
      clear hcell hown hl hz hyes hlate hlong
      generalize hT : ss[k] = T at hc ht
      have HT := Lib.hid hT
      clear hT
      generalize hpl : (putOf ss k).length = np at h20 hfs
      have Hpl := Lib.hid hpl
      clear hpl
      generalize hF : flat (putOf ss k) = F at hfs
      have HF := Lib.hid hF
      clear hF
      have hFs : F.size ≤ 2000000 := by omega
      go_wp2_with fail
      refine (text_calls T _ ht).mono ?_
      rintro e w2 ⟨rfl, hb2⟩
      rcases txt_cases T with ⟨hfit, hS, hE⟩ | ⟨hfit, hS, hE⟩
      · have hUs : (txtS T).size ≤ 70000 := by rw [hS, ByteArray.size_append, beN_size]; omega
        rw [hE]
        generalize hU : txtS T = U at hUs
        have HU := Lib.hid hU
        clear hS hE hU
        have hown2 := ownsRow_below Hown.out hb2
        by_cases hk20 : k < 20
        · go_wp2_with (at_builtin; refine wpList_append_own _ rfl _ _ 49 rfl w.heap.size 9 i0 (.string ⟨#[]⟩) 1 16 Try.underlying49 HI.out HZ.out.1 HZ.out.2.1 HZ.out.2.2 rfl (by decide) _ _ _ rfl (hown2.alloc _) ⟨w2.heap.size, 0, none⟩ 1 1 [.string T] rfl rfl ?c1 ?c2 ?c3 ?c4 ?c5 ?_)
          case c1 =>
            intro j u hj
            match j, hj with
            | 0, hj => simp at hj; subst hj; simp [Addr.add]
          case c2 => intro u hu; simp at hu; subst hu; rfl
          case c3 => rw [Hpl.out]; unfold maxLen; omega
          case c4 => rw [Hpl.out]; omega
          case c5 => have := Hsz.out; have := hbel.size; have := hb2.size; simp; omega
          intro v' w3 hown' hgrow _
          have Hown' := Lib.hid hown'
          have hbel3 : Below w.heap.size w w3 := ((hbel.trans (hb2.mono Hsz.out)).alloc (by have := hb2.size; have := Hsz.out; omega) _).grown hgrow (by have := hb2.size; have := Hsz.out; simp; omega) (fun q hq => (hown2.lt q hq).1)
          clear hown' hgrow hown2
          go_wp2
          go_roundw
          case rel =>
            have hput := Hyes.out hk20 (by rw [HT.out]; exact hfit)
            rw [HT.out] at hput
            exact ⟨k + 1, by omega, by go_num, by rw [hput, flat_snoc, HF.out, HU.out], by rw [hput, List.length_append, List.map_append]; exact Hown'.out, hbel3⟩
          case measure => simp [intOf]; omega
        · clear hown2
          go_wp2
          go_roundw
          case rel =>
            have hput := Hlate.out hk20
            exact ⟨k + 1, by omega, by go_num, by rw [hput, HF.out], by rw [hput]; exact ownsRow_below Hown.out hb2, hbel.trans (hb2.mono Hsz.out)⟩
          case measure => simp [intOf]; omega
      · rw [hS, hE]
        clear hS hE
        by_cases hk20 : k < 20
        all_goals
          go_wp2
          go_roundw
          case rel =>
            have hput := Hlong.out (by rw [HT.out]; omega)
            exact ⟨k + 1, by omega, by go_num, by rw [hput, HF.out], by rw [hput]; exact ownsRow_below Hown.out hb2, hbel.trans (hb2.mono Hsz.out)⟩
          case measure => simp [intOf]; omega
    · have hfits := putOf_fit ss k
      generalize putOf ss k = P at *
      obtain ⟨a', cap', rfl, hsl⟩ := own_strSl hown
      clear hown hl hz
      have Hfits := Lib.hid hfits
      have Hsl := Lib.hid hsl
      have Hfs := Lib.hid hfs
      clear hfits hsl
      generalize hnp : P.length = np at h20
      have Hnp := Lib.hid hnp
      clear hnp hfs
      obtain ⟨wo, rfl⟩ : ∃ wo : World, wo = wr := ⟨_, rfl⟩
      go_wp2_with fail
      go_loopw [3, 44] (fun s i wr2 => ∃ j : Nat, j ≤ np ∧ i = .int .i64 j ∧ s = .string (flat (P.drop j)) ∧ Below wo.heap.size wo wr2) (fun _ i _ => np - (intOf i).toNat)
      case atStart => exact ⟨0, by omega, rfl, rfl, Below.refl _ _⟩
      case round =>
        obtain ⟨j, hj, rfl, rfl, hbel2⟩ := hrel
        by_cases hlt2 : j < np
        · have hjP : j < P.length := by rw [Hnp.out]; exact hlt2
          obtain ⟨g, off, rfl, hgw, hcell⟩ := Hsl.out j hjP
          have hc : wr.cell? ⟨g, off + j, none⟩ = some (.string P[j]) := (hbel2.cell (p := ⟨g, off + j, none⟩) hgw).trans hcell
          have hpf : P[j].size ≤ 65535 := Hfits.out _ (List.getElem_mem hjP)
          obtain ⟨c1, c2, c3⟩ := tt_back P[j] (flat (P.drop (j + 1))) hpf
          rw [flat_drop P j hjP]
          have hfl : (txtS P[j] ++ flat (P.drop (j + 1))).size ≤ maxLen := by
            rw [← flat_drop P j hjP]
            have h1 := flat_size (P.drop j) (fun t ht => Hfits.out t (List.mem_of_mem_drop ht))
            have h2 : (P.drop j).length ≤ 20 := by rw [List.length_drop, Hnp.out]; omega
            have h3 : (P.drop j).length * 65537 ≤ 20 * 65537 := Nat.mul_le_mul_right _ h2
            unfold maxLen; omega
          have Hc := Lib.hid (And.intro c1 (And.intro c2 c3))
          clear c1 c2 c3 hcell
          generalize hT : P[j] = T at *
          have HT := Lib.hid hT
          clear hT
          generalize hR : flat (P.drop (j + 1)) = R at *
          have HR := Lib.hid hR
          clear hR
          generalize hX : txtS T ++ R = X at *
          have HX := Lib.hid hX
          clear hX
          go_wp2_with fail
          refine (taketext_calls X _ hfl).mono ?_
          rintro e w2 ⟨rfl, hb2⟩
          rw [Hc.out.1, Hc.out.2.1, Hc.out.2.2]
          have hsz := hbel2.size
          have hbel3 := hbel2.trans (hb2.mono hsz)
          go_wp2
          go_roundw
          case rel => exact ⟨j + 1, by omega, by go_num, by rw [HR.out], hbel3⟩
          case measure => simp [intOf]; omega
        · have hjn : j = P.length := by rw [Hnp.out]; omega
          have he : flat (P.drop j) = ⟨#[]⟩ := by rw [hjn, List.drop_length]; rfl
          rw [he]
          clear he hjn
          go_wp2
          go_ret
          exact ⟨rfl, hbel.trans (hbel2.mono hbel.size)⟩

end Go.Proofs.Ytjbnnfdhmpeoeaa
