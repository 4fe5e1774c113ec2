/- The law HeapSwept: walked. -/
import Derived.Test.YtimkklaidodkdaaGreatDoorHeapEnv
import Derived.Test.YtimkklaidodkdaaGreatDoorHeapLawP
import Derived.Test.YtimkklaidodkdaaGreatDoorHeapLives
import Derived.Test.YtimkklaidodkdaaGreatDoorHeapSame
namespace Go.Proofs.YtimkklaidodkdaaGreatDoor
open Go.RowKit

/-- heap.Held at a right heap. -/
theorem held_right (v : Value) (h : HeapD) (k : Nat) (w : World) (a : HeapAt w.heap.size w v h) (hr : RightH h) : Calls Tryz.prog 23 #[v, .int .u32 (k : Int)] w fun e w' => ∃ x y : Int, e = .returned (.tuple #[.int .i64 x, .int .i64 y]) ∧ ((∃ c, findC h.cells k = some c ∧ x = heldC h c ∧ y = 0) ∨ (findC h.cells k = none ∧ x = 0 ∧ y = 5)) ∧ 0 ≤ x ∧ x ≤ 16777216 ∧ Below w.heap.size w w' := (held_calls v h k w a).mono (by
  rintro e w' ⟨⟨_, ⟨c, hc, he⟩ | ⟨hn, he⟩⟩ | ⟨hno, _⟩, hb⟩
  · have hm := hr.led c (find_mem hc).1
    have hM := hr.most c (find_mem hc).1
    exact ⟨_, _, he, .inl ⟨c, hc, rfl, rfl⟩, by unfold heldC; omega, by unfold heldC; omega, hb⟩
  · exact ⟨_, _, he, .inr ⟨hn, rfl, rfl⟩, by decide, by decide, hb⟩
  · exact absurd hr hno)

set_option maxRecDepth 100000 in
set_option maxHeartbeats 6400000 in
theorem swept_calls (v : Value) (h : HeapD) (w : World) (a : HeapAt w.heap.size w v h) :
    Calls Tryz.prog 11 #[v] w fun e w' => e = .returned (.bool true) ∧ Below w.heap.size w w' := by
  obtain ⟨p, cap, rfl⟩ := a.shape
  obtain ⟨W0, hW0⟩ : ∃ W0, W0 = w.alloc (.cells #[.int .u32 (h.size : Int), .slice p h.cells.length cap] 35) := ⟨_, rfl⟩
  have E0 := (Env.start (hs := [(.agg #[.int .u32 (h.size : Int), .slice p h.cells.length cap], h)]) (ns := []) (by simpa using a) (by simp)).alloc hW0
  have hlv := hlives_calls W0
  have hszH : ∀ x y : Value, (Tryz.prog.info? 35).map (·.size) = some (#[x, y] : Array Value).size := fun x y => by kernel_rfl
  have hsz := hszH (.int .u32 (h.size : Int)) (.slice p h.cells.length cap)
  have HSZ := Lib.hid hszH
  have HW0 := Lib.hid hW0
  have HE0 := Lib.hid E0
  clear hW0 a E0 hszH
  generalize hXg : w.heap.size = X at *
  go_enter Tryz.func11, Tryz.ntmps11
  go_wp2_with (refine wpList_world HW0.out ?_)
  refine hlv.mono ?_
  rintro e w1 ⟨rfl, hq⟩
  have E1 := HE0.out.call hq
  have hx := E1.rowAt 0 rfl
  have hcall := sweep_calls _ h w1 (E1.heap 0 rfl)
  have HE1 := Lib.hid E1
  clear hlv hq E1 HE0
  go_wp2_with (refine wpList_load_row rfl 35 _ rfl X rfl 35 #[.int .u32 (h.size : Int), .slice p h.cells.length cap] (0, 0) _ hx Tryz.underlying35 rfl hsz ?_)
  refine hcall.mono ?_
  rintro e w2 ⟨⟨r, ⟨hr, rfl, ho⟩ | ⟨hno, rfl, ho⟩⟩, hq⟩
  · obtain ⟨p3, c3, rfl⟩ := ho.shape
    have hrG := sweepH_right hr
    have hsr := swept_refs hr
    have hse := swept_end hr
    have hsh := fun c (hc : c ∈ h.cells) => swept_held hr hc
    have hoG := ho.heap hrG
    obtain ⟨G, hG⟩ : ∃ G, G = sweepH h := ⟨_, rfl⟩
    rw [← hG] at hrG hsr hse hsh hoG
    simp only [← hG]
    clear ho hG
    have E := (HE1.out.call hq).addH hoG
    obtain ⟨W1, hW1⟩ : ∃ W1, W1 = w2.alloc (.cells #[.int .u32 0, .slice none 0 0] 35) := ⟨_, rfl⟩
    obtain ⟨W2, hW2⟩ : ∃ W2, W2 = W1.setCells w2.heap.size 0 [.int .u32 (G.size : Int), .slice p3 G.cells.length c3] := ⟨_, rfl⟩
    have hth3 : W1.there w2.heap.size 0 2 := ((E.alloc hW1).rowAt 0 rfl).there 0 2 (by simp)
    have E2 := E.var hW1 hW2 rfl
    have hone3 := oneH (G.size : Int) p3 G.cells.length c3
    have hsz3 := HSZ.out (.int .u32 (G.size : Int)) (.slice p3 G.cells.length c3)
    have hg := E2.rowAt 0 rfl
    have hcall2 := sweep_calls _ G W2 (E2.heap 0 rfl)
    rw [hse] at hcall2
    have HW1 := Lib.hid hW1
    have HW2 := Lib.hid hW2
    have HE2 := Lib.hid E2
    have HG := Lib.hid (And.intro hr (And.intro hrG (And.intro hsr hsh)))
    clear hcall hq E E2 hW1 hW2 hoG hrG hsr hse hsh hx HE1 hr
    generalize hT3 : w2.heap.size = T3 at *
    go_wp2_with (first | (refine wpList_world HW1.out ?_) | (refine wpList_store_mid rfl 35 _ _ rfl T3 0 #[.int .u32 (G.size : Int), .slice p3 G.cells.length c3] rfl rfl hth3 hsz3 hone3 ?_; refine wpList_world HW2.out ?_) | (refine wpList_load_row rfl 35 _ rfl T3 rfl 35 #[.int .u32 (G.size : Int), .slice p3 G.cells.length c3] (0, 0) _ hg Tryz.underlying35 rfl hsz3 ?_))
    refine hcall2.mono ?_
    rintro e w5 ⟨⟨r, ⟨_, rfl, ho⟩ | ⟨hno, _⟩⟩, hq⟩
    · obtain ⟨p5, c5, rfl⟩ := ho.shape
      have hoG := ho.heap HG.out.2.1
      have E := (HE2.out.call hq).addH hoG
      obtain ⟨W3, hW3⟩ : ∃ W3, W3 = w5.alloc (.cells #[.int .u32 0, .slice none 0 0] 35) := ⟨_, rfl⟩
      obtain ⟨W4, hW4⟩ : ∃ W4, W4 = W3.setCells w5.heap.size 0 [.int .u32 (G.size : Int), .slice p5 G.cells.length c5] := ⟨_, rfl⟩
      have hth5 : W3.there w5.heap.size 0 2 := ((E.alloc hW3).rowAt 0 rfl).there 0 2 (by simp)
      have E4 := E.var hW3 hW4 rfl
      have hone5 := oneH (G.size : Int) p5 G.cells.length c5
      have hsz5 := HSZ.out (.int .u32 (G.size : Int)) (.slice p5 G.cells.length c5)
      have hg4 := E4.rowAt 1 rfl
      have cg : W4.cell? ⟨T3, 1, none⟩ = some (.slice p3 G.cells.length c3) := by rw [hg4.cell]; rfl
      have hX4 : h.cells.length ≤ 65536 ∧ G.cells.length ≤ 65536 := by
        have h1 := HG.out.1.okH.len
        have h3 := HG.out.2.1.okH.len
        omega
      have HW3 := Lib.hid hW3
      have HW4 := Lib.hid hW4
      have HE4 := Lib.hid E4
      clear hcall2 ho hoG hq E E4 hW3 hW4 hg4 HE2 hth3 hone3 HW1 HW2 hg
      generalize hT5 : w5.heap.size = T5 at *
      obtain ⟨hXn, hXm⟩ := hX4
      generalize hng : h.cells.length = n at *
      generalize hmg : G.cells.length = m at *
      go_wp2_with (first | (refine wpList_world HW3.out ?_) | (refine wpList_store_mid rfl 35 _ _ rfl T5 0 #[.int .u32 (G.size : Int), .slice p5 m c5] rfl rfl hth5 hsz5 hone5 ?_; refine wpList_world HW4.out ?_))
      go_loopg [36] m (fun g s36 wx => ∃ t : Nat, t ≤ m ∧ g = m - t ∧ s36 = .int .i64 t ∧ Env X T5 w wx [⟨T5, 35, #[.int .u32 (G.size : Int), .slice p5 m c5]⟩, ⟨T3, 35, #[.int .u32 (G.size : Int), .slice p3 m c3]⟩, ⟨X, 35, #[.int .u32 (h.size : Int), .slice p n cap]⟩] [(.agg #[.int .u32 (G.size : Int), .slice p5 m c5], G), (.agg #[.int .u32 (G.size : Int), .slice p3 m c3], G), (.agg #[.int .u32 (h.size : Int), .slice p n cap], h)] [])
      case atStart => exact ⟨0, by omega, by omega, rfl, HE4.out⟩
      case round =>
        obtain ⟨t, ht, rfl, rfl, E⟩ := hrel
        by_cases hlt : t < m
        · have i1 : (t : Int) < (m : Int) := by omega
          have hltc : t < G.cells.length := by omega
          obtain ⟨b, o, hpb, c0, c1, c2⟩ := E.cells 1 rfl t hltc
          subst hpb
          obtain ⟨W57, hW57⟩ : ∃ W57, W57 = wr.alloc (.cells #[.int .u32 (G.cells[t].num : Int), .string G.cells[t].data, .int .i64 G.cells[t].refs] 57) := ⟨_, rfl⟩
          have hN : RowIs W57 wr.heap.size 57 #[.int .u32 (G.cells[t].num : Int), .string G.cells[t].data, .int .i64 G.cells[t].refs] := by rw [hW57]; exact RowIs.new _ _ _
          have cn : W57.cell? ⟨wr.heap.size, 0, none⟩ = some (.int .u32 (G.cells[t].num : Int)) := by rw [hN.cell]; rfl
          have cr : W57.cell? ⟨wr.heap.size, 2, none⟩ = some (.int .i64 G.cells[t].refs) := by rw [hN.cell]; rfl
          have hq57 : Below wr.heap.size wr W57 := by rw [hW57]; exact (Below.refl _ _).alloc (Nat.le_refl _) _
          have hnz : G.cells[t].refs ≠ 0 := HG.out.2.2.1 _ (List.getElem_mem hltc)
          have HW57 := Lib.hid hW57
          have HE57 := Lib.hid (E.call hq57)
          clear hW57 hN E hq57 cn
          generalize G.cells[t].num = num at *
          generalize G.cells[t].data = dat at *
          generalize G.cells[t].refs = rf at *
          have hne : (rf == 0) = false := by simpa using hnz
          go_wp2_with (refine wpList_world HW57.out ?_)
          go_roundg (m - (t + 1))
          case measure => omega
          case rel => exact ⟨t + 1, by omega, rfl, by go_num, HE57.out⟩
        · obtain rfl : t = m := by omega
          have i1 : ¬ (t : Int) < (t : Int) := by omega
          have hx := E.rowAt 2 rfl
          have cx : wr.cell? ⟨X, 1, none⟩ = some (.slice p n cap) := by rw [hx.cell]; rfl
          have HE := Lib.hid E
          clear E hx
          go_wp2_with fail
          go_loopg [47] n (fun g s47 wx => ∃ i : Nat, i ≤ n ∧ g = n - i ∧ s47 = .int .i64 i ∧ Env X T5 w wx [⟨T5, 35, #[.int .u32 (G.size : Int), .slice p5 t c5]⟩, ⟨T3, 35, #[.int .u32 (G.size : Int), .slice p3 t c3]⟩, ⟨X, 35, #[.int .u32 (h.size : Int), .slice p n cap]⟩] [(.agg #[.int .u32 (G.size : Int), .slice p5 t c5], G), (.agg #[.int .u32 (G.size : Int), .slice p3 t c3], G), (.agg #[.int .u32 (h.size : Int), .slice p n cap], h)] [])
          case atStart => exact ⟨0, by omega, by omega, rfl, HE.out⟩
          case round =>
            clear HE cx
            obtain ⟨i, hi, rfl, rfl, E⟩ := hrel
            by_cases hli : i < n
            · have i2 : (i : Int) < (n : Int) := by omega
              have hltc : i < h.cells.length := by omega
              obtain ⟨b, o, hpb, c0, c1, c2⟩ := E.cells 2 rfl i hltc
              subst hpb
              obtain ⟨W57, hW57⟩ : ∃ W57, W57 = wr.alloc (.cells #[.int .u32 (h.cells[i].num : Int), .string h.cells[i].data, .int .i64 h.cells[i].refs] 57) := ⟨_, rfl⟩
              have E57 := E.alloc hW57
              have hN := E57.rowAt 0 rfl
              have cn : W57.cell? ⟨wr.heap.size, 0, none⟩ = some (.int .u32 (h.cells[i].num : Int)) := by rw [hN.cell]; rfl
              have hx := E57.rowAt 3 rfl
              have hf : findC h.cells h.cells[i].num = some h.cells[i] := find_of HG.out.1.asc (List.getElem_mem hltc)
              have hsh := HG.out.2.2.2 h.cells[i] (List.getElem_mem hltc)
              have hheld := held_right _ h h.cells[i].num W57 (E57.heap 2 rfl) HG.out.1
              have HW57 := Lib.hid hW57
              have HE57 := Lib.hid E57
              have HSH := Lib.hid hsh
              have HF := Lib.hid hf
              clear hW57 hN E E57 hsh hf
              generalize h.cells[i] = C at *
              obtain ⟨num, dat, rf⟩ := C
              simp only [] at c0 c1 c2 cn hheld
              go_wp2_with (first | (refine wpList_world HW57.out ?_) | (refine wpList_load_row rfl 35 _ rfl X rfl 35 #[.int .u32 (h.size : Int), .slice (some ⟨b, o, none⟩) n cap] (0, 0) _ hx Tryz.underlying35 rfl hsz ?_))
              refine hheld.mono ?_
              rintro e w7 ⟨x, y, rfl, hxy, hx0, hx1, hq⟩
              have hxv : x = heldC h ⟨num, dat, rf⟩ := by
                rcases hxy with ⟨c, hc, hxc, _⟩ | ⟨hc, _⟩
                · have := HF.out.symm.trans hc
                  injection this with this
                  subst this
                  exact hxc
                · have := HF.out.symm.trans hc
                  cases this
              have E7 := HE57.out.call hq
              have hg := E7.rowAt 2 rfl
              have cn7 : w7.cell? ⟨wr.heap.size, 0, none⟩ = some (.int .u32 (num : Int)) := by rw [(E7.rowAt 0 rfl).cell]; rfl
              have hheld2 := held_right _ G num w7 (E7.heap 1 rfl) HG.out.2.1
              have HE7 := Lib.hid E7
              have HXV := Lib.hid hxv
              clear hheld hq HE57 hxy E7 hxv cn c0 c1 c2 hx HW57
              go_wp2_with (refine wpList_load_row rfl 35 _ rfl T3 rfl 35 #[.int .u32 (G.size : Int), .slice p3 t c3] (0, 0) _ hg Tryz.underlying35 rfl hsz3 ?_)
              refine hheld2.mono ?_
              rintro e w8 ⟨x2, y2, rfl, hxy, hz0, hz1, hq⟩
              have hok : 0 < x → y2 = 0 ∧ x2 = x := fun h0 => by
                rw [HXV.out] at h0
                obtain ⟨d, hd, hdx⟩ := HSH.out h0
                rcases hxy with ⟨c, hc, hxc, hy⟩ | ⟨hc, _⟩
                · have := hd.symm.trans hc
                  injection this with this
                  subst this
                  exact ⟨hy, by rw [hxc, hdx, HXV.out]⟩
                · have := hd.symm.trans hc
                  cases this
              have E8 := HE7.out.call hq
              have HE8 := Lib.hid (show Env X T5 w w8 [⟨T5, 35, #[.int .u32 (G.size : Int), .slice p5 t c5]⟩, ⟨T3, 35, #[.int .u32 (G.size : Int), .slice p3 t c3]⟩, ⟨X, 35, #[.int .u32 (h.size : Int), .slice (some ⟨b, o, none⟩) n cap]⟩] [(.agg #[.int .u32 (G.size : Int), .slice p5 t c5], G), (.agg #[.int .u32 (G.size : Int), .slice p3 t c3], G), (.agg #[.int .u32 (h.size : Int), .slice (some ⟨b, o, none⟩) n cap], h)] [] from ⟨E8.below, E8.hX, E8.hB, fun r hr => E8.rowsI r (List.mem_cons_of_mem _ hr), (List.nodup_cons.1 E8.nd).2, E8.heaps, E8.nodes⟩)
              clear hheld2 hq HE7 hxy E8 HXV HSH HF hg cn7
              by_cases hp : 0 < x
              · obtain ⟨rfl, rfl⟩ := hok hp
                clear hok
                go_wp2_with fail
                go_roundg (n - (i + 1))
                case measure => omega
                case rel => exact ⟨i + 1, by omega, rfl, by go_num, HE8.out⟩
              · have hp2 : ¬ (x > 0) := hp
                clear hok
                go_wp2_with fail
                go_roundg (n - (i + 1))
                case measure => omega
                case rel => exact ⟨i + 1, by omega, rfl, by go_num, HE8.out⟩
            · obtain rfl : i = n := by omega
              have i2 : ¬ (i : Int) < (i : Int) := by omega
              have hg := E.rowAt 1 rfl
              have hk := E.rowAt 0 rfl
              have hsame := same06_calls _ _ _ G wr (E.heap 1 rfl) (E.heap 0 rfl) (Nat.le_refl _)
              have HE := Lib.hid E
              clear E
              go_wp2_with (first | (refine wpList_load_rowG 35 _ rfl T3 rfl (by rfl) 35 #[.int .u32 (G.size : Int), .slice p3 t c3] (0, 0) _ hg Tryz.underlying35 rfl hsz3 ?_) | (refine wpList_load_rowG 35 _ rfl T5 rfl (by rfl) 35 #[.int .u32 (G.size : Int), .slice p5 t c5] (0, 0) _ hk Tryz.underlying35 rfl hsz5 ?_))
              refine hsame.mono ?_
              rintro e w9 ⟨rfl, hq⟩
              have E9 := HE.out.call hq
              have hg9 := E9.rowAt 1 rfl
              have hchk := check2_calls _ G w9 (E9.heap 1 rfl)
              have HE9 := Lib.hid E9
              clear hsame hq E9 HE hg hk
              go_wp2_with (refine wpList_load_rowG 35 _ rfl T3 rfl (by rfl) 35 #[.int .u32 (G.size : Int), .slice p3 t c3] (0, 0) _ hg9 Tryz.underlying35 rfl hsz3 ?_)
              refine hchk.mono ?_
              rintro e wa ⟨⟨_, rfl⟩ | ⟨hno, _⟩, hq⟩
              · have HF := Lib.hid (HE9.out.call hq).below
                clear hchk hq hg9
                go_wp2_with fail
                go_ret
                exact ⟨rfl, HF.out⟩
              · exact absurd HG.out.2.1 hno
    · exact absurd HG.out.2.1 hno
  · obtain ⟨p3, c3, rfl⟩ := ho.shape
    have ho2 : OwnH w1.heap.size w2 (.agg #[.int .u32 0, .slice p3 0 c3]) zeroHp := ho
    have E := HE1.out.call hq
    obtain ⟨W1, hW1⟩ : ∃ W1, W1 = w2.alloc (.cells #[.int .u32 0, .slice none 0 0] 35) := ⟨_, rfl⟩
    obtain ⟨W2, hW2⟩ : ∃ W2, W2 = W1.setCells w2.heap.size 0 [.int .u32 0, .slice p3 0 c3] := ⟨_, rfl⟩
    have hth3 : W1.there w2.heap.size 0 2 := ((E.alloc hW1).rowAt 0 rfl).there 0 2 (by simp)
    have E2 := E.var hW1 hW2 rfl
    have hone3 := oneH 0 p3 0 c3
    have hsz3 := HSZ.out (.int .u32 0) (.slice p3 0 c3)
    have cz : W2.cell? ⟨w2.heap.size, 1, none⟩ = some (.slice p3 0 c3) := by rw [(E2.rowAt 0 rfl).cell]; rfl
    have HW1 := Lib.hid hW1
    have HW2 := Lib.hid hW2
    have HF := Lib.hid E2.below
    clear hcall hq E E2 hW1 hW2 hx HE1 ho ho2 hno
    generalize hT3 : w2.heap.size = T3 at *
    go_wp2_with (first | (refine wpList_world HW1.out ?_) | (refine wpList_store_mid rfl 35 _ _ rfl T3 0 #[.int .u32 0, .slice p3 0 c3] rfl rfl hth3 hsz3 hone3 ?_; refine wpList_world HW2.out ?_))
    go_ret
    exact ⟨rfl, HF.out⟩

end Go.Proofs.YtimkklaidodkdaaGreatDoor
