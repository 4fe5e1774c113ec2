/- Superblocks as blocks' data, plainly: what is right, the bytes, what is read back; one bit turned; none is a node's. No program. -/
import Derived.Test.YtgjaoofgmdijdaaGreatDoorNodeTake
namespace Go.Proofs.YtgjaoofgmdijdaaGreatDoor

structure SupD where
  size : Nat
  gen : Nat
  table : Nat
  hash : List UInt8
def SupD.wf (s : SupD) : Prop := s.size < 4294967296 ∧ s.gen < 18446744073709551616 ∧ s.table < 4294967296 ∧ s.hash.length = 32
theorem SupD.ext' {a b : SupD} (h1 : a.size = b.size) (h2 : a.gen = b.gen) (h3 : a.table = b.table) (h4 : a.hash = b.hash) : a = b := by
  cases a; cases b; simp_all
def okS (s : SupD) : Bool := decide (16 ≤ s.size) && (decide (s.size ≤ 65536) && (decide (1 ≤ s.gen) && (decide (s.gen ≤ 4611686018427387904) && (decide (2 ≤ s.table) && decide (s.table < s.size)))))
def checkS (s : SupD) : Int := if okS s then 0 else 4
def bytesS (s : SupD) : List UInt8 := [67, 66] ++ (beL s.size 4 ++ (beL s.gen 8 ++ (beL s.table 4 ++ s.hash)))
def encS (s : SupD) : List UInt8 := if okS s then wholeL (bytesS s) else []
def startS (d : List UInt8) : TkD := ⟨(padTo 512 d).drop 6, false⟩
def takeS (t : TkD) : SupD := ⟨numT t 4, numT (tkNext t 4) 8, numT (tkNext (tkNext t 4) 8) 4, hashT (tkNext (tkNext (tkNext t 4) 8) 4)⟩
def decOkS (d : List UInt8) : Prop := d.length ≤ 512 ∧ okS (takeS (startS d)) = true ∧ encS (takeS (startS d)) = d
instance decOkS_dec (d : List UInt8) : Decidable (decOkS d) := by unfold decOkS; infer_instance
def zeroS : SupD := ⟨0, 0, 0, List.replicate 32 0⟩
def supL (d : List UInt8) : SupD := if decOkS d then takeS (startS d) else zeroS
def decES (d : List UInt8) : Int := if decOkS d then 0 else 9

theorem bytesS_length (s : SupD) (h : s.wf) : (bytesS s).length = 50 := by
  rw [bytesS, List.length_append, List.length_append, List.length_append, List.length_append, beL_length, beL_length, beL_length, h.2.2.2]; rfl
theorem takeS_wf (t : TkD) : (takeS t).wf := ⟨numT_lt t 4, numT_lt _ 8, numT_lt _ 4, hashT_length _⟩
theorem supL_wf (d : List UInt8) : (supL d).wf := by
  unfold supL
  split
  · exact takeS_wf _
  · exact ⟨by decide, by decide, by decide, rfl⟩
theorem takeS_back (s : SupD) (hw : s.wf) (b : List UInt8) : takeS ⟨beL s.size 4 ++ (beL s.gen 8 ++ (beL s.table 4 ++ (s.hash ++ b))), false⟩ = s := by
  rw [takeS, num_app _ _ _ (show s.size < 256 ^ 4 from hw.1), numN_app, num_app _ _ _ (show s.gen < 256 ^ 8 from hw.2.1), numN_app, num_app _ _ _ (show s.table < 256 ^ 4 from hw.2.2.1), numN_app, hash_app _ _ hw.2.2.2]
theorem encS_start (s : SupD) (hw : s.wf) (h : okS s = true) : startS (encS s) = ⟨beL s.size 4 ++ (beL s.gen 8 ++ (beL s.table 4 ++ (s.hash ++ List.replicate (508 - 50) 0))), false⟩ := by
  have hl := bytesS_length s hw
  rw [startS, encS, if_pos h, wholeL_pad _ (by omega)]
  have e : (headed (bytesS s)).drop 6 = ((headed (bytesS s)).drop 4).drop 2 := by rw [List.drop_drop]
  rw [e, headed_drop, padTo, hl, bytesS]
  generalize List.replicate (508 - 50) (0 : UInt8) = R
  simp only [List.append_assoc, List.cons_append, List.nil_append, List.drop_succ_cons, List.drop_zero]
theorem encS_length (s : SupD) (hw : s.wf) : (encS s).length ≤ 512 := by
  unfold encS
  split
  · exact wholeL_length _ (by rw [bytesS_length s hw]; omega)
  · simp
theorem dec_encS (s : SupD) (hw : s.wf) (h : okS s = true) : decOkS (encS s) ∧ supL (encS s) = s := by
  have hb := takeS_back s hw (List.replicate (508 - 50) 0)
  rw [← encS_start s hw h] at hb
  have hd : decOkS (encS s) := ⟨encS_length s hw, by rw [hb]; exact h, by rw [hb]⟩
  exact ⟨hd, by rw [supL, if_pos hd, hb]⟩
theorem encS_inj (a b : SupD) (ha : a.wf) (hb : b.wf) (h1 : okS a = true) (h2 : okS b = true) (h : encS a = encS b) : a = b := by
  rw [← (dec_encS a ha h1).2, h, (dec_encS b hb h2).2]
theorem decS_enc {d : List UInt8} (h : decOkS d) : okS (supL d) = true ∧ encS (supL d) = d := by
  rw [supL, if_pos h]; exact ⟨h.2.1, h.2.2⟩

/-- Data that are a superblock's are no node's. -/
theorem decS_noNode {d : List UInt8} (h : decOkS d) : ¬ decOk d := by
  rintro ⟨h1, h2, h3, h4⟩
  obtain ⟨hs, he⟩ := decS_enc h
  have hw := supL_wf d
  generalize supL d = s at *
  have hmw := takeN_wf (startT d)
  generalize takeN (startT d) = m at *
  obtain ⟨ms, mz⟩ := (check_ok m).1 h3
  have ml := bytesN_length m hmw ms
  have hl := bytesS_length s hw
  have e1 : encN m = encS s := by rw [h4, he]
  rw [encN, if_pos h3, encS, if_pos hs] at e1
  have e2 := congrArg (padTo 512) e1
  rw [wholeL_pad _ (by omega), wholeL_pad _ (by omega)] at e2
  have e3 := congrArg (List.drop 4) e2
  rw [headed_drop, headed_drop] at e3
  have e4 : (padTo 508 (bytesN m))[0]? = (padTo 508 (bytesS s))[0]? := by rw [e3]
  have e5 : (padTo 508 (bytesS s))[0]? = some 67 := rfl
  have e6 : (padTo 508 (bytesN m))[0]? = (beL m.kind 1)[0]? := by
    rw [padTo, bytesN, List.append_assoc, List.getElem?_append_left (by rw [beL_length]; decide)]
  rw [e5, e6] at e4
  have hk : m.kind = 1 ∨ m.kind = 2 ∨ m.kind = 3 := by
    unfold shapedN at ms
    by_cases a1 : m.kind = 1
    · exact .inl a1
    · by_cases a2 : m.kind = 2
      · exact .inr (.inl a2)
      · by_cases a3 : m.kind = 3
        · exact .inr (.inr a3)
        · rw [if_neg a1, if_neg a2, if_neg a3] at ms; cases ms
  rcases hk with hk | hk | hk <;> rw [hk] at e4 <;> exact absurd e4 (by decide)

/-- A superblock's data with one byte turned are none. -/
theorem decS_turned {e : List UInt8} (h : decOkS e) (at_ : Nat) (d : UInt8) (hat : at_ < 512) (hd : ∀ h : at_ < (padTo 512 e).length, d ≠ (padTo 512 e)[at_]) :
    ¬ decOkS (trimR ((padTo 512 e).set at_ d)) := by
  obtain ⟨hs, he⟩ := decS_enc h
  have hw := supL_wf e
  generalize supL e = s at *
  have hl := bytesS_length s hw
  have e1 : padTo 512 e = headed (bytesS s) := by rw [← he, encS, if_pos hs, wholeL_pad _ (by omega)]
  rw [e1] at hd ⊢
  intro h2
  obtain ⟨hs2, he2⟩ := decS_enc h2
  have hw2 := supL_wf (trimR ((headed (bytesS s)).set at_ d))
  generalize supL (trimR ((headed (bytesS s)).set at_ d)) = m at *
  have ml := bytesS_length m hw2
  have h5 := congrArg (padTo 512) he2
  rw [encS, if_pos hs2, wholeL_pad _ (by omega), padTo_trimR 512 _ (by rw [List.length_set]; exact headed_length _ (by omega))] at h5
  exact headed_turned (bytesS s) (bytesS m) at_ d (by omega) hat hd h5

/-- The superblocks of two blocks' data, the newer one first. -/
def atSlot (d : List UInt8) (i : Nat) : List SupD := if decOkS d ∧ (supL d).gen % 2 = i then [supL d] else []
def sortS : List SupD → List SupD
  | [a, b] => if b.gen > a.gen then [b, a] else [a, b]
  | l => l
def orderS (a b : List UInt8) : List SupD := sortS (atSlot a 0 ++ atSlot b 1)

end Go.Proofs.YtgjaoofgmdijdaaGreatDoor
