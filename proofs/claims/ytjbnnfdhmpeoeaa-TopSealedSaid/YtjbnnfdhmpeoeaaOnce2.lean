/- The digits' values, made once: walked. -/
import Derived.Test.YtjbnnfdhmpeoeaaOnce
namespace Go.Proofs.Ytjbnnfdhmpeoeaa
open Go.RowKit

def tabTo : Nat → List UInt8
  | 0 => List.replicate 256 0
  | i + 1 => (tabTo i).set (hexDig i).toNat (UInt8.ofNat (i + 1))
def digTab : List UInt8 := tabTo 16
set_option maxRecDepth 20000 in
theorem tabTo_length (i : Nat) : (tabTo i).length = 256 := by
  induction i with
  | zero => simp [tabTo]
  | succ i ih => simp [tabTo, ih]
set_option maxRecDepth 20000 in
theorem tab_fin : ∀ n : Fin 256, digTab[n.val]? = some (if isDig (UInt8.ofNat n.val) then UInt8.ofNat (digV (UInt8.ofNat n.val) + 1) else 0) := by decide +kernel
theorem tab_get (c : UInt8) : digTab[c.toNat]? = some (if isDig c then UInt8.ofNat (digV c + 1) else 0) := by
  have := tab_fin ⟨c.toNat, c.toNat_lt⟩
  simpa using this

/-- The cells of the values: the Once's two words and the lock's second, then the table. -/
def valCells (d st : Int) (tab : List UInt8) : Array Value := ([Value.int .u32 d, .int .i32 st, .int .u32 0] ++ tab.map fun c => Value.int .u8 (c.toNat : Int)).toArray
theorem valCells_size (d st : Int) (tab : List UInt8) : (valCells d st tab).size = tab.length + 3 := by simp [valCells]
theorem valCells_get (d st : Int) (tab : List UInt8) (j : Nat) (h : j < tab.length) : (valCells d st tab)[3 + j]? = some (.int .u8 (tab[j].toNat : Int)) := by
  simp [valCells, Nat.add_comm 3 j, h]
theorem valCells_set (d st : Int) (tab : List UInt8) (j : Nat) (c : UInt8) : (valCells d st tab).setIfInBounds (3 + j) (.int .u8 (c.toNat : Int)) = valCells d st (tab.set j c) := by
  simp [valCells, Nat.add_comm 3 j, List.map_set]
theorem valCells_done (d st : Int) (tab : List UInt8) (x : Int) : (valCells d st tab).setIfInBounds 0 (.int .u32 x) = valCells x st tab := by simp [valCells]
theorem valCells_lock (d st : Int) (tab : List UInt8) (x : Int) : (valCells d st tab).setIfInBounds 1 (.int .i32 x) = valCells d x tab := by simp [valCells]
theorem val_c0 {w : World} {b : Nat} {d st : Int} {tab : List UInt8} (h : RowIs w b 93 (valCells d st tab)) : w.cell? ⟨b, 0, none⟩ = some (.int .u32 d) := by rw [h.cell]; simp [valCells]
theorem val_c1 {w : World} {b : Nat} {d st : Int} {tab : List UInt8} (h : RowIs w b 93 (valCells d st tab)) : w.cell? ⟨b, 1, none⟩ = some (.int .i32 st) := by rw [h.cell]; simp [valCells]
theorem val_ct {w : World} {b : Nat} {d st : Int} {tab : List UInt8} (h : RowIs w b 93 (valCells d st tab)) (j : Nat) (hj : j < tab.length) : w.cell? ⟨b, 3 + j, none⟩ = some (.int .u8 (tab[j].toNat : Int)) := by rw [h.cell, valCells_get _ _ _ j hj]

set_option maxRecDepth 20000 in
set_option maxHeartbeats 1600000 in
theorem fill_calls (b p : Nat) (st : Int) (w : World) (hpb : p ≠ b) (hp : RowIs w p 104 #[.pointer (some ⟨b, 0, none⟩)]) (h : RowIs w b 93 (valCells 0 st (tabTo 0))) :
    Calls Try.prog 59 #[.pointer (some ⟨p, 0, none⟩)] w fun e w' => e = .returned (.tuple #[]) ∧ RowIs w' b 93 (valCells 0 st digTab) ∧ But b w w' := by
  go_enter Try.func59, Try.ntmps59
  go_wp2_with fail
  go_loopw [1, 2] (fun _ v wr => ∃ t : Nat, t ≤ 16 ∧ v = .int .i64 t ∧ RowIs wr b 93 (valCells 0 st (tabTo t)) ∧ But b w wr) (fun _ v _ => 16 - (intOf v).toNat)
  case atStart => exact ⟨0, by omega, rfl, h, But.refl b w⟩
  case round =>
    clear h
    obtain ⟨t, ht, rfl, hT, hb⟩ := hrel
    by_cases hlt : t < 16
    · have hpp := hp.but hb hpb
      have hc0 : wr.cell? ⟨p, 0, none⟩ = some (.pointer (some ⟨b, 0, none⟩)) := by rw [hpp.cell]; rfl
      have hdl : (hexDig t).toNat < 256 := (hexDig t).toNat_lt
      have hex : ∃ old : Int, wr.cell? ⟨b, 3 + (hexDig t).toNat, none⟩ = some (.int .u8 old) := ⟨_, val_ct hT _ (by rw [tabTo_length]; omega)⟩
      obtain ⟨old, hc⟩ := hex
      have hf := hT.free (3 + (hexDig t).toNat)
      have hq := dig_get t (by show t < 16; omega)
      rw [← hq] at hc hf hdl
      have hdi : (((⟨#[48, 49, 50, 51, 52, 53, 54, 55, 56, 57, 97, 98, 99, 100, 101, 102]⟩ : ByteArray)[t]'(by show t < 16; omega)).toNat : Int) < 256 := by omega
      have HQ := Lib.hid hq
      clear hq
      go_wp2_with fail
      go_region
      rw [HQ.out]
      have hval : ((t : Int) + 1) = ((UInt8.ofNat (t + 1)).toNat : Int) := by rw [UInt8.toNat_ofNat']; omega
      have hT2 : RowIs ((wr.setCell ⟨b, 3 + (hexDig t).toNat, none⟩ (.int .u8 ((t : Int) + 1))).drew) b 93 (valCells 0 st (tabTo (t + 1))) := by
        have := hT.set (3 + (hexDig t).toNat) (.int .u8 ((t : Int) + 1))
        rw [hval, valCells_set, ← hval] at this
        exact this
      have hb2 : But b w ((wr.setCell ⟨b, 3 + (hexDig t).toNat, none⟩ (.int .u8 ((t : Int) + 1))).drew) := (hb.setCell _ _).drew
      generalize (wr.setCell ⟨b, 3 + (hexDig t).toNat, none⟩ (.int .u8 ((t : Int) + 1))).drew = w2 at *
      clear hval
      go_wp2_with fail
      go_roundw
      case rel => exact ⟨t + 1, by omega, by go_num, hT2, hb2⟩
      case measure => simp [intOf]; omega
    · have ht16 : t = 16 := by omega
      subst ht16
      have HT := Lib.hid (show RowIs wr b 93 (valCells 0 st digTab) from hT)
      clear hT
      go_wp2_with fail
      go_end0
      exact ⟨rfl, HT.out, hb⟩

set_option maxRecDepth 100000 in
theorem bool_load (a : Addr) (x : Int) (w : World) (h : w.cell? a = some (.int .u32 x)) :
    Calls Try.prog 66 #[.pointer (some a)] w fun e w' => e = .returned (.bool (x != 0)) ∧ w' = w := by
  have hl := run_call_load (P := Try.prog) Try.func69 (by kernel_rfl) (by kernel_rfl) (by kernel_rfl) .u32 (by kernel_rfl) h
  go_enter Try.func66, Try.ntmps66
  go_wp2
  go_ret
  exact ⟨rfl, rfl⟩

set_option maxRecDepth 100000 in
set_option maxHeartbeats 1600000 in
theorem slow_calls (b p : Nat) (w : World) (hpb : p ≠ b) (hp : RowIs w p 104 #[.pointer (some ⟨b, 0, none⟩)]) (h : RowIs w b 93 (valCells 0 0 (tabTo 0))) :
    Calls Try.prog 67 #[.pointer (some ⟨b, 0, none⟩), .func (.func 59) #[] #[.pointer (some ⟨p, 0, none⟩)]] w fun e w' => e = .returned (.tuple #[]) ∧ RowIs w' b 93 (valCells 1 0 digTab) ∧ But b w w' := by
  have h1 : RowIs (w.setCell ⟨b, 1, none⟩ (.int .i32 1)) b 93 (valCells 0 1 (tabTo 0)) := by
    have := h.set 1 (.int .i32 1)
    rw [valCells_lock] at this
    exact this
  have hp1 : RowIs (w.setCell ⟨b, 1, none⟩ (.int .i32 1)) p 104 #[.pointer (some ⟨b, 0, none⟩)] := hp.other _ _ hpb
  have hb1 : But b w (w.setCell ⟨b, 1, none⟩ (.int .i32 1)) := (But.refl b w).setCell 1 _
  have hlock := lock_free ⟨b, 1, none⟩ w (val_c1 h) (h.free 1)
  generalize w.setCell ⟨b, 1, none⟩ (.int .i32 1) = w1 at *
  go_enter_defers Try.func67, Try.ntmps67
  have hnot : ∀ (x : Bool) (w : World), (Op.unary .not (.bool x)).run Try.prog w = .ok (.bool (!x)) w := fun _ _ => rfl
  go_wp2_with (go_at_call 70; refine hlock.mono ?_; rintro e w1 ⟨rfl, rfl⟩)
  refine (bool_load ⟨b, 0, none⟩ 0 w1 (val_c0 h1)).mono ?_
  rintro e w1 ⟨rfl, rfl⟩
  have hc0 := val_c0 h1
  have hf0 := h1.free 0
  go_wp2_with fail
  refine (fill_calls b p 1 w1 hpb hp1 h1).mono ?_
  rintro e w2 ⟨rfl, h2, hb2⟩
  have hb2' := hb1.trans hb2
  have H2 := Lib.hid h2
  have HB2 := Lib.hid hb2'
  clear hb1 hb2 hb2' h1 h2
  go_wp2_with fail
  refine leaves_cons (f := 72) (args := #[.pointer (some ⟨b, 0, none⟩), .bool true]) (by simp) (by simp [go_sem]) ?_
  refine (store_deferred ⟨b, 0, none⟩ (.int .u32 0) .returning _ (val_c0 H2.out) (H2.out.free 0)).mono ?_
  rintro e u' w'' ⟨rfl, rfl, rfl⟩
  have h3 : RowIs (w2.drew.setCell ⟨b, 0, none⟩ (.int .u32 1)) b 93 (valCells 1 1 digTab) := by
    have := H2.out.drew.set 0 (.int .u32 1)
    rw [valCells_done] at this
    exact this
  have hb3 : But b w (w2.drew.setCell ⟨b, 0, none⟩ (.int .u32 1)) := HB2.out.drew.setCell _ _
  generalize w2.drew.setCell ⟨b, 0, none⟩ (.int .u32 1) = w3 at *
  refine leaves_cons (f := 71) (args := #[.pointer (some ⟨b, 1, none⟩)]) (by simp [settle]) (by simp [go_sem]) ?_
  refine (unlock_deferred ⟨b, 1, none⟩ _ _ (val_c1 h3) (h3.free 1)).mono ?_
  rintro e u' w'' ⟨rfl, rfl, rfl⟩
  have h4 : RowIs (w3.setCell ⟨b, 1, none⟩ (.int .i32 0)) b 93 (valCells 1 0 digTab) := by
    have := h3.set 1 (.int .i32 0)
    rw [valCells_lock] at this
    exact this
  have hb4 : But b w (w3.setCell ⟨b, 1, none⟩ (.int .i32 0)) := hb3.setCell _ _
  have hres : ∀ t w, (results Try.f67 t).run Try.prog w = .ok (.tuple #[]) w := fun t w => by simp [results, Try.results67]
  simp only [Leaves, settle]
  exact ⟨_, hres _ _, rfl, h4, hb4⟩

set_option maxRecDepth 100000 in
set_option maxHeartbeats 1600000 in
theorem do_calls (b p : Nat) (d : Int) (tab : List UInt8) (w : World) (hpb : p ≠ b) (hp : RowIs w p 104 #[.pointer (some ⟨b, 0, none⟩)]) (h : RowIs w b 93 (valCells d 0 tab)) (hd : (d = 0 ∧ tab = tabTo 0) ∨ (d = 1 ∧ tab = digTab)) :
    Calls Try.prog 58 #[.pointer (some ⟨b, 0, none⟩), .func (.func 59) #[] #[.pointer (some ⟨p, 0, none⟩)]] w fun e w' => e = .returned (.tuple #[]) ∧ RowIs w' b 93 (valCells 1 0 digTab) ∧ But b w w' := by
  have hnot : ∀ (x : Bool) (w : World), (Op.unary .not (.bool x)).run Try.prog w = .ok (.bool (!x)) w := fun _ _ => rfl
  rcases hd with ⟨rfl, rfl⟩ | ⟨rfl, rfl⟩
  · go_enter Try.func58, Try.ntmps58
    go_wp2_with fail
    refine (bool_load ⟨b, 0, none⟩ 0 w (val_c0 h)).mono ?_
    rintro e w ⟨rfl, rfl⟩
    go_wp2_with fail
    refine (slow_calls b p w hpb hp h).mono ?_
    rintro e w2 ⟨rfl, h2, hb2⟩
    have H2 := Lib.hid h2
    clear h2
    go_wp2_with fail
    go_end0
    exact ⟨rfl, H2.out, hb2⟩
  · have hc := val_c0 h
    have H := Lib.hid h
    clear h
    go_enter Try.func58, Try.ntmps58
    go_wp2_with fail
    refine (bool_load ⟨b, 0, none⟩ 1 w hc).mono ?_
    rintro e w ⟨rfl, rfl⟩
    go_wp2_with fail
    go_end0
    exact ⟨rfl, H.out, But.refl b w⟩

end Go.Proofs.Ytjbnnfdhmpeoeaa
