/- cambiumlaw09.SuperNewest: walked. -/
import Derived.Test.YtgjaoofgmdijdaaGreatDoorSuperRng
import Derived.BigQuiet
namespace Go.Proofs.YtgjaoofgmdijdaaGreatDoor
open Go.RowKit Go.Sort

theorem toList_same (a b : ByteArray) (l : List UInt8) (ha : a.data.toList = l) (hb : b.data.toList = l) : (a.toList != b.toList) = false ∧ (a.toList == b.toList) = true := by
  constructor
  · rw [bne, ByteArray.toList_eq, ByteArray.toList_eq, ha, hb]; simp
  · rw [ByteArray.toList_eq, ByteArray.toList_eq, ha, hb]; simp

set_option maxRecDepth 100000 in
set_option maxHeartbeats 6400000 in
theorem newest_calls (a b : ByteArray) (w : World) (ha : a.size ≤ 140737488351232) (hb : b.size ≤ 140737488351232) :
    Calls Tryz.prog 5 #[.string a, .string b] w fun e w' => e = .returned (.bool true) ∧ Below w.heap.size w w' := by
  have hlv := livesS_calls w
  have ho := fun W => orderS_calls a b W ha hb
  have ho1 := fun W => orderS_calls a ⟨#[]⟩ W ha (by decide)
  have ho2 := fun W => orderS_calls ⟨#[]⟩ b W (by decide) hb
  rw [show (⟨#[]⟩ : ByteArray).data.toList = [] from rfl] at ho1 ho2
  have hL := orderS_length a.data.toList b.data.toList
  have hL2 := orderS_length2 a.data.toList b.data.toList
  have hmem := fun s => @orderS_mem a.data.toList b.data.toList s
  have hfst := fun x y => @orderS_first a.data.toList b.data.toList x y
  generalize orderS a.data.toList b.data.toList = O at *
  generalize orderS a.data.toList [] = O1 at *
  generalize orderS [] b.data.toList = O2 at *
  generalize hB : w.heap.size = B at *
  go_enter Tryz.func5, Tryz.ntmps5
  go_wp2_with fail
  refine hlv.mono ?_
  rintro e w1 ⟨rfl, hb1⟩
  have hs1 : B ≤ w1.heap.size := by rw [← hB]; exact hb1.size
  go_wp2_with fail
  refine (ho w1).mono ?_
  rintro e w2 ⟨v, l, rfl, hl, hown, hq⟩
  have hb2 := hb1.trans (hq.mono hs1)
  have hs2 : B ≤ w2.heap.size := by rw [← hB]; exact hb2.size
  obtain ⟨p, cap, rfl, hr⟩ := own_rng hown
  have hll : l.length = O.length := by rw [← hl, List.length_map]
  have Hlen := Lib.hid (show O1.length + O2.length = l.length by omega)
  have HB2 := Lib.hid hb2
  clear hown hq hb1 hs1 ho hlv hb2 hL
  have h012 : l.length = 0 ∨ l.length = 1 ∨ l.length = 2 := by omega
  rcases h012 with hlN | hlN | hlN
  · rw [hlN]
    go_wp2_with fail
    go_quiet (fail)
    go_wp2_with fail
    go_loopw [38] (fun x wr => ∃ t : Nat, t ≤ 0 ∧ x = .int .i64 t ∧ Below w2.heap.size w2 wr) (fun x _ => 0 - (intOf x).toNat)
    case atStart => exact ⟨0, by omega, rfl, ⟨rfl, rfl, rfl, Nat.le_refl _, fun _ _ => rfl⟩⟩
    case round =>
      obtain ⟨t, ht, rfl, hbl⟩ := hrel
      obtain rfl : t = 0 := by omega
      clear hmem hfst hr
      go_wp2_with fail
      refine (ho1 wr).mono ?_
      rintro e w8 ⟨v8, l8, rfl, hl8, hown8, hq8⟩
      obtain ⟨p8, cap8, rfl, _⟩ := own_rng hown8
      have hl8' : l8.length = O1.length := by rw [← hl8, List.length_map]
      have hbl8 := hbl.trans (hq8.mono hbl.size)
      clear hown8 hl8 hq8 hbl ho1
      rw [hl8']
      go_wp2_with fail
      refine (ho2 w8).mono ?_
      rintro e w9 ⟨v9, l9, rfl, hl9, hown9, hq9⟩
      obtain ⟨p9, cap9, rfl, _⟩ := own_rng hown9
      have hl9' : l9.length = O2.length := by rw [← hl9, List.length_map]
      have HB9 := Lib.hid (HB2.out.trans ((hbl8.trans (hq9.mono hbl8.size)).mono hs2))
      clear hown9 hl9 hq9 hbl8 ho2
      rw [hl9']
      have Hl := Hlen.out
      rw [hlN] at Hl
      clear hl8' hl9' hll hL2 Hlen hl hlN
      generalize O1.length = n1 at *
      generalize O2.length = n2 at *
      have hcs : (n1 = 0 ∧ n2 = 0) := by omega
      clear Hl
      obtain ⟨rfl, rfl⟩ := hcs
      go_wp2_with fail
      go_ret
      exact ⟨rfl, HB9.out⟩
  · rw [hlN]
    obtain ⟨g, rfl, hg1, hg2, hr0⟩ := hr 0 (by omega)
    clear hr0
    go_wp2_with fail
    go_quiet (fail)
    go_wp2_with fail
    go_loopw [38] (fun x wr => ∃ t : Nat, t ≤ 1 ∧ x = .int .i64 t ∧ Below w2.heap.size w2 wr) (fun x _ => 1 - (intOf x).toNat)
    case atStart => exact ⟨0, by omega, rfl, ⟨rfl, rfl, rfl, Nat.le_refl _, fun _ _ => rfl⟩⟩
    case round =>
      obtain ⟨t, ht, rfl, hbl⟩ := hrel
      by_cases hlt : t < 1
      · have i1 : (t : Int) < 1 := by omega
        obtain ⟨g', hgg, _, hgl, hrt⟩ := hr t (by omega)
        have hgg2 : g = g' := by injection hgg with hgg; injection hgg
        subst hgg2
        have hwf : (l[t]'(by omega)).1.wf ∧ okS (l[t]'(by omega)).1 = true ∧ (((l[t]'(by omega)).1.gen % 2 = 0 ∧ encS (l[t]'(by omega)).1 = a.data.toList) ∨ ((l[t]'(by omega)).1.gen % 2 = 1 ∧ encS (l[t]'(by omega)).1 = b.data.toList)) := by
          have := hmem (l[t]'(by omega)).1 (by rw [← hl]; exact List.mem_map_of_mem (List.getElem_mem _))
          exact ⟨this.2.1, this.1, this.2.2⟩
        have hrw : wr.rangeAt g (t * 35) (supV (l[t]'(by omega)).1) := fun j u hj => by rw [World.cell?_of_block (hbl.block g hgl)]; exact hrt j u hj
        generalize (l[t]'(by omega)).1 = s at *
        have hen := fun W => encodeS_calls s hwf.1 W
        rw [checkS, if_pos hwf.2.1] at hen
        have hsl := fun W => slot_calls s W
        have hcs : (supV s).toArray.size = 35 := by rw [List.size_toArray, supV_length hwf.1.2.2.2]
        have hszl : (Tryz.prog.info? 26).map (·.size) = some (supV s).length := by rw [supV_length hwf.1.2.2.2]; kernel_rfl
        have hsz : (Tryz.prog.info? 26).map (·.size) = some (supV s).toArray.size := by rw [hcs]; kernel_rfl
        have hoa := supV_one s
        have hxs := hwf.2.2
        clear hwf hrt hgg hmem hfst ho1 ho2
        obtain ⟨W3, W4, hW3, hW4, hX4, hq, hthere⟩ := alloc_fill wr supZ (supV s).toArray 26 (by rw [hcs]; rfl)
        have hbl4 := hbl.trans (hq.mono hbl.size)
        have HW3 := Lib.hid hW3
        have HW4 := Lib.hid hW4
        clear hW3 hW4 hq
        generalize hCA : (supV s).toArray = CA at *
        generalize hCL : supV s = CL at *
        go_wp2_with (first | (refine wpList_load_mid rfl 26 _ rfl g (t * 35) rfl CL _ hrw Tryz.underlying26 rfl hszl ?_; rw [hCA]) | (refine wpList_world HW3.out ?_) | (refine wpList_store_mid rfl 26 _ _ rfl wr.heap.size 0 CA rfl rfl hthere hsz hoa ?_; refine wpList_world HW4.out ?_) | (refine wpList_load_rowG 26 _ rfl wr.heap.size rfl (by rfl) 26 CA (0, 0) _ hX4 Tryz.underlying26 rfl hsz ?_))
        refine (hen W4).mono ?_
        rintro e w5 ⟨rfl, hq⟩
        have hX5 := hX4.below hq hX4.lt
        have hbl5 := hbl4.trans (hq.mono hbl4.size)
        have hES : (strOf (encS s)).data.toList = encS s := rfl
        clear hq hbl4 hX4 hen hthere
        generalize wr.heap.size = X at *
        generalize strOf (encS s) = SE at *
        rcases hxs with ⟨hg0, he⟩ | ⟨hg0, he⟩
        · obtain ⟨hne, heq⟩ := toList_same SE a _ hES he.symm
          rw [hg0] at hsl
          clear hES he
          go_wp2_with (refine wpList_load_rowG 26 _ rfl X rfl (by rfl) 26 CA (0, 0) _ hX5 Tryz.underlying26 rfl hsz ?_)
          refine (hsl w5).mono ?_
          rintro e w6 ⟨rfl, hq⟩
          have hX6 := hX5.below hq hX5.lt
          have hbl6 := hbl5.trans (hq.mono hbl5.size)
          clear hq hbl5 hX5
          go_wp2_with (refine wpList_load_rowG 26 _ rfl X rfl (by rfl) 26 CA (0, 0) _ hX6 Tryz.underlying26 rfl hsz ?_)
          refine (hsl w6).mono ?_
          rintro e w7 ⟨rfl, hq⟩
          have HB := Lib.hid (hbl6.trans (hq.mono hbl6.size))
          clear hq hbl6 hX6
          go_wp2_with fail
          go_roundw
          case rel => exact ⟨t + 1, by omega, by go_num, HB.out⟩
          case measure => simp [intOf]; omega
        · obtain ⟨hne, heq⟩ := toList_same SE b _ hES he.symm
          rw [hg0] at hsl
          clear hES he
          go_wp2_with (refine wpList_load_rowG 26 _ rfl X rfl (by rfl) 26 CA (0, 0) _ hX5 Tryz.underlying26 rfl hsz ?_)
          refine (hsl w5).mono ?_
          rintro e w6 ⟨rfl, hq⟩
          have hX6 := hX5.below hq hX5.lt
          have hbl6 := hbl5.trans (hq.mono hbl5.size)
          clear hq hbl5 hX5
          go_wp2_with (refine wpList_load_rowG 26 _ rfl X rfl (by rfl) 26 CA (0, 0) _ hX6 Tryz.underlying26 rfl hsz ?_)
          refine (hsl w6).mono ?_
          rintro e w7 ⟨rfl, hq⟩
          have HB := Lib.hid (hbl6.trans (hq.mono hbl6.size))
          clear hq hbl6 hX6
          go_wp2_with fail
          go_roundw
          case rel => exact ⟨t + 1, by omega, by go_num, HB.out⟩
          case measure => simp [intOf]; omega
      · have i1 : ¬ (t : Int) < 1 := by omega
        clear hmem hfst hr
        go_wp2_with fail
        refine (ho1 wr).mono ?_
        rintro e w8 ⟨v8, l8, rfl, hl8, hown8, hq8⟩
        obtain ⟨p8, cap8, rfl, _⟩ := own_rng hown8
        have hl8' : l8.length = O1.length := by rw [← hl8, List.length_map]
        have hbl8 := hbl.trans (hq8.mono hbl.size)
        clear hown8 hl8 hq8 hbl ho1
        rw [hl8']
        go_wp2_with fail
        refine (ho2 w8).mono ?_
        rintro e w9 ⟨v9, l9, rfl, hl9, hown9, hq9⟩
        obtain ⟨p9, cap9, rfl, _⟩ := own_rng hown9
        have hl9' : l9.length = O2.length := by rw [← hl9, List.length_map]
        have HB9 := Lib.hid (HB2.out.trans ((hbl8.trans (hq9.mono hbl8.size)).mono hs2))
        clear hown9 hl9 hq9 hbl8 ho2
        rw [hl9']
        have Hl := Hlen.out
        rw [hlN] at Hl
        clear hl8' hl9' hll hL2 Hlen hl hlN
        generalize O1.length = n1 at *
        generalize O2.length = n2 at *
        have hcs : (n1 = 0 ∧ n2 = 1) ∨ (n1 = 1 ∧ n2 = 0) := by omega
        clear Hl
        rcases hcs with ⟨rfl, rfl⟩ | ⟨rfl, rfl⟩ <;>
        · go_wp2_with fail
          go_ret
          exact ⟨rfl, HB9.out⟩
  · obtain ⟨g, rfl, hg1, hg2, hr0⟩ := hr 0 (by omega)
    have c0 := rng_gen hr0
    obtain ⟨g', hgg, _, _, hr1⟩ := hr 1 (by omega)
    have hgg2 : g = g' := by injection hgg with hgg; injection hgg
    subst hgg2
    have c1 := rng_gen hr1
    have hord : ¬ ((l[0].1.gen : Int) < (l[1].1.gen : Int)) := by
      have := hfst l[0].1 l[1].1 (by
        match l, hlN, hl with
        | [x, y], _, hl => exact hl.symm)
      omega
    rw [Nat.zero_mul, Nat.zero_add] at c0
    rw [Nat.one_mul] at c1
    rw [hlN]
    clear hgg hr0 hr1
    generalize ((l[0]'(by omega)).1.gen : Int) = g0 at *
    generalize ((l[1]'(by omega)).1.gen : Int) = g1 at *
    go_wp2_with fail
    go_quiet (fail)
    go_wp2_with fail
    go_loopw [38] (fun x wr => ∃ t : Nat, t ≤ 2 ∧ x = .int .i64 t ∧ Below w2.heap.size w2 wr) (fun x _ => 2 - (intOf x).toNat)
    case atStart => exact ⟨0, by omega, rfl, ⟨rfl, rfl, rfl, Nat.le_refl _, fun _ _ => rfl⟩⟩
    case round =>
      obtain ⟨t, ht, rfl, hbl⟩ := hrel
      by_cases hlt : t < 2
      · have i1 : (t : Int) < 2 := by omega
        obtain ⟨g', hgg, _, hgl, hrt⟩ := hr t (by omega)
        have hgg2 : g = g' := by injection hgg with hgg; injection hgg
        subst hgg2
        have hwf : (l[t]'(by omega)).1.wf ∧ okS (l[t]'(by omega)).1 = true ∧ (((l[t]'(by omega)).1.gen % 2 = 0 ∧ encS (l[t]'(by omega)).1 = a.data.toList) ∨ ((l[t]'(by omega)).1.gen % 2 = 1 ∧ encS (l[t]'(by omega)).1 = b.data.toList)) := by
          have := hmem (l[t]'(by omega)).1 (by rw [← hl]; exact List.mem_map_of_mem (List.getElem_mem _))
          exact ⟨this.2.1, this.1, this.2.2⟩
        have hrw : wr.rangeAt g (t * 35) (supV (l[t]'(by omega)).1) := fun j u hj => by rw [World.cell?_of_block (hbl.block g hgl)]; exact hrt j u hj
        generalize (l[t]'(by omega)).1 = s at *
        have hen := fun W => encodeS_calls s hwf.1 W
        rw [checkS, if_pos hwf.2.1] at hen
        have hsl := fun W => slot_calls s W
        have hcs : (supV s).toArray.size = 35 := by rw [List.size_toArray, supV_length hwf.1.2.2.2]
        have hszl : (Tryz.prog.info? 26).map (·.size) = some (supV s).length := by rw [supV_length hwf.1.2.2.2]; kernel_rfl
        have hsz : (Tryz.prog.info? 26).map (·.size) = some (supV s).toArray.size := by rw [hcs]; kernel_rfl
        have hoa := supV_one s
        have hxs := hwf.2.2
        clear hwf hrt hgg hmem hfst ho1 ho2
        obtain ⟨W3, W4, hW3, hW4, hX4, hq, hthere⟩ := alloc_fill wr supZ (supV s).toArray 26 (by rw [hcs]; rfl)
        have hbl4 := hbl.trans (hq.mono hbl.size)
        have HW3 := Lib.hid hW3
        have HW4 := Lib.hid hW4
        clear hW3 hW4 hq
        generalize hCA : (supV s).toArray = CA at *
        generalize hCL : supV s = CL at *
        go_wp2_with (first | (refine wpList_load_mid rfl 26 _ rfl g (t * 35) rfl CL _ hrw Tryz.underlying26 rfl hszl ?_; rw [hCA]) | (refine wpList_world HW3.out ?_) | (refine wpList_store_mid rfl 26 _ _ rfl wr.heap.size 0 CA rfl rfl hthere hsz hoa ?_; refine wpList_world HW4.out ?_) | (refine wpList_load_rowG 26 _ rfl wr.heap.size rfl (by rfl) 26 CA (0, 0) _ hX4 Tryz.underlying26 rfl hsz ?_))
        refine (hen W4).mono ?_
        rintro e w5 ⟨rfl, hq⟩
        have hX5 := hX4.below hq hX4.lt
        have hbl5 := hbl4.trans (hq.mono hbl4.size)
        have hES : (strOf (encS s)).data.toList = encS s := rfl
        clear hq hbl4 hX4 hen hthere
        generalize wr.heap.size = X at *
        generalize strOf (encS s) = SE at *
        rcases hxs with ⟨hg0, he⟩ | ⟨hg0, he⟩
        · obtain ⟨hne, heq⟩ := toList_same SE a _ hES he.symm
          rw [hg0] at hsl
          clear hES he
          go_wp2_with (refine wpList_load_rowG 26 _ rfl X rfl (by rfl) 26 CA (0, 0) _ hX5 Tryz.underlying26 rfl hsz ?_)
          refine (hsl w5).mono ?_
          rintro e w6 ⟨rfl, hq⟩
          have hX6 := hX5.below hq hX5.lt
          have hbl6 := hbl5.trans (hq.mono hbl5.size)
          clear hq hbl5 hX5
          go_wp2_with (refine wpList_load_rowG 26 _ rfl X rfl (by rfl) 26 CA (0, 0) _ hX6 Tryz.underlying26 rfl hsz ?_)
          refine (hsl w6).mono ?_
          rintro e w7 ⟨rfl, hq⟩
          have HB := Lib.hid (hbl6.trans (hq.mono hbl6.size))
          clear hq hbl6 hX6
          go_wp2_with fail
          go_roundw
          case rel => exact ⟨t + 1, by omega, by go_num, HB.out⟩
          case measure => simp [intOf]; omega
        · obtain ⟨hne, heq⟩ := toList_same SE b _ hES he.symm
          rw [hg0] at hsl
          clear hES he
          go_wp2_with (refine wpList_load_rowG 26 _ rfl X rfl (by rfl) 26 CA (0, 0) _ hX5 Tryz.underlying26 rfl hsz ?_)
          refine (hsl w5).mono ?_
          rintro e w6 ⟨rfl, hq⟩
          have hX6 := hX5.below hq hX5.lt
          have hbl6 := hbl5.trans (hq.mono hbl5.size)
          clear hq hbl5 hX5
          go_wp2_with (refine wpList_load_rowG 26 _ rfl X rfl (by rfl) 26 CA (0, 0) _ hX6 Tryz.underlying26 rfl hsz ?_)
          refine (hsl w6).mono ?_
          rintro e w7 ⟨rfl, hq⟩
          have HB := Lib.hid (hbl6.trans (hq.mono hbl6.size))
          clear hq hbl6 hX6
          go_wp2_with fail
          go_roundw
          case rel => exact ⟨t + 1, by omega, by go_num, HB.out⟩
          case measure => simp [intOf]; omega
      · have i1 : ¬ (t : Int) < 2 := by omega
        clear hmem hfst hr
        go_wp2_with fail
        refine (ho1 wr).mono ?_
        rintro e w8 ⟨v8, l8, rfl, hl8, hown8, hq8⟩
        obtain ⟨p8, cap8, rfl, _⟩ := own_rng hown8
        have hl8' : l8.length = O1.length := by rw [← hl8, List.length_map]
        have hbl8 := hbl.trans (hq8.mono hbl.size)
        clear hown8 hl8 hq8 hbl ho1
        rw [hl8']
        go_wp2_with fail
        refine (ho2 w8).mono ?_
        rintro e w9 ⟨v9, l9, rfl, hl9, hown9, hq9⟩
        obtain ⟨p9, cap9, rfl, _⟩ := own_rng hown9
        have hl9' : l9.length = O2.length := by rw [← hl9, List.length_map]
        have HB9 := Lib.hid (HB2.out.trans ((hbl8.trans (hq9.mono hbl8.size)).mono hs2))
        clear hown9 hl9 hq9 hbl8 ho2
        rw [hl9']
        have Hl := Hlen.out
        rw [hlN] at Hl
        clear hl8' hl9' hll hL2 Hlen hl hlN
        generalize O1.length = n1 at *
        generalize O2.length = n2 at *
        have hcs : (n1 = 0 ∧ n2 = 2) ∨ (n1 = 1 ∧ n2 = 1) ∨ (n1 = 2 ∧ n2 = 0) := by omega
        clear Hl
        rcases hcs with ⟨rfl, rfl⟩ | ⟨rfl, rfl⟩ | ⟨rfl, rfl⟩ <;>
        · go_wp2_with fail
          go_ret
          exact ⟨rfl, HB9.out⟩

end Go.Proofs.YtgjaoofgmdijdaaGreatDoor
