/- Nodes as blocks' data, plainly: what is right, how big, the bytes, what is taken back; there and back; one bit turned. No program. -/
import Derived.Test.YtgjaoofgmdijdaaGreatDoorCrc
import Derived.Test.YtgjaoofgmdijdaaGreatDoorNumPure
import Derived.Lib.TrimByte
namespace Go.Proofs.YtgjaoofgmdijdaaGreatDoor

structure ItemD where
  key : ByteArray
  val : ByteArray
structure KidD where
  key : ByteArray
  num : Nat
  hash : List UInt8
structure VolD where
  name : ByteArray
  kind : Nat
  frm : ByteArray
  born : Nat
  root : Nat
  hash : List UInt8
structure NodeD where
  kind : Nat
  items : List ItemD
  kids : List KidD
  vols : List VolD

def KidD.wf (k : KidD) : Prop := k.num < 4294967296 ∧ k.hash.length = 32
def VolD.wf (v : VolD) : Prop := v.kind < 256 ∧ v.born < 18446744073709551616 ∧ v.root < 4294967296 ∧ v.hash.length = 32
def NodeD.wf (n : NodeD) : Prop := n.kind < 256 ∧ (∀ k ∈ n.kids, k.wf) ∧ (∀ v ∈ n.vols, v.wf)

def lessB (a b : ByteArray) : Bool := Op.bytesLess a.data.toList b.data.toList
def blockN (n : Nat) : Bool := decide (2 ≤ n) && decide (n < 65536)
def noHash : List UInt8 := List.replicate 32 0

def itemOk (b : ByteArray) (x : ItemD) : Bool := lessB b x.key && decide (x.key.size ≤ 48) && decide (x.val.size ≤ 160)
def kidOk (b : ByteArray) (k : KidD) : Bool := lessB b k.key && decide (k.key.size ≤ 48) && blockN k.num
def volOk (b : ByteArray) (v : VolD) : Bool :=
  (blockN v.root || (v.root == 0 && v.hash == noHash)) && lessB b v.name && decide (v.name.size ≤ 16) && decide (v.frm.size ≤ 16) && decide (0 < v.kind) && decide (v.kind < 3)
def noName : ByteArray := ⟨#[]⟩
def itemsOk : ByteArray → List ItemD → Bool
  | _, [] => true
  | b, x :: l => itemOk b x && itemsOk x.key l
def kidsOk : ByteArray → List KidD → Bool
  | _, [] => true
  | b, k :: l => kidOk b k && kidsOk k.key l
def volsOk : ByteArray → List VolD → Bool
  | _, [] => true
  | b, v :: l => volOk b v && volsOk v.name l

def itemS (x : ItemD) : Nat := 2 + x.key.size + x.val.size
def kidS (k : KidD) : Nat := 37 + k.key.size
def volS (v : VolD) : Nat := 47 + v.name.size + v.frm.size
def sizeN (n : NodeD) : Nat :=
  2 + (if n.kind = 1 then (n.items.map itemS).sum else if n.kind = 2 then (n.kids.map kidS).sum else if n.kind = 3 then (n.vols.map volS).sum else 0)
def shapedN (n : NodeD) : Bool :=
  if n.kind = 1 then n.kids.isEmpty && n.vols.isEmpty && decide (0 < n.items.length) && decide (n.items.length ≤ 255) && itemsOk noName n.items
  else if n.kind = 2 then n.items.isEmpty && n.vols.isEmpty && decide (0 < n.kids.length) && decide (n.kids.length ≤ 255) && kidsOk noName n.kids
  else if n.kind = 3 then n.items.isEmpty && n.kids.isEmpty && decide (n.vols.length ≤ 6) && volsOk noName n.vols
  else false
def checkN (n : NodeD) : Int := if shapedN n then (if sizeN n ≤ 508 then 0 else 2) else 4

/-- Where a node leads. -/
def kidNums (n : NodeD) : List Nat := if n.kind = 2 then n.kids.map (·.num) else if n.kind = 3 then (n.vols.filter (fun v => decide (v.root ≠ 0))).map (·.root) else []

def tx1 (s : ByteArray) : List UInt8 := beL s.size 1 ++ s.data.toList
def itemB (x : ItemD) : List UInt8 := tx1 x.key ++ tx1 x.val
def kidB (k : KidD) : List UInt8 := tx1 k.key ++ (beL k.num 4 ++ k.hash)
def volB (v : VolD) : List UInt8 := tx1 v.name ++ (tx1 v.frm ++ (beL v.kind 1 ++ (beL v.born 8 ++ (beL v.root 4 ++ v.hash))))
def itemsB (l : List ItemD) : List UInt8 := l.flatMap itemB
def kidsB (l : List KidD) : List UInt8 := l.flatMap kidB
def volsB (l : List VolD) : List UInt8 := l.flatMap volB
def bytesN (n : NodeD) : List UInt8 := beL n.kind 1 ++ (beL (n.items.length + n.kids.length + n.vols.length) 1 ++ (itemsB n.items ++ (kidsB n.kids ++ volsB n.vols)))

/-- Bytes with zero bytes behind, up to so many. -/
def padTo (n : Nat) (l : List UInt8) : List UInt8 := l ++ List.replicate (n - l.length) 0
def trimR (l : List UInt8) : List UInt8 := Lib.trimRightB l 0
def headed (l : List UInt8) : List UInt8 := beL (crc (padTo 508 l)).toNat 4 ++ padTo 508 l
def wholeL (l : List UInt8) : List UInt8 := trimR (headed l)
def encN (n : NodeD) : List UInt8 := if checkN n = 0 then wholeL (bytesN n) else []

theorem tx1_length (s : ByteArray) : (tx1 s).length = 1 + s.size := by rw [tx1, List.length_append, beL_length, Array.length_toList]; rfl
theorem itemB_length (x : ItemD) : (itemB x).length = itemS x := by rw [itemB, List.length_append, tx1_length, tx1_length, itemS]; omega
theorem kidB_length (k : KidD) (h : k.wf) : (kidB k).length = kidS k := by
  rw [kidB, List.length_append, List.length_append, tx1_length, beL_length, h.2, kidS]; omega
theorem volB_length (v : VolD) (h : v.wf) : (volB v).length = volS v := by
  rw [volB, List.length_append, List.length_append, List.length_append, List.length_append, List.length_append, tx1_length, tx1_length, beL_length, beL_length, beL_length, h.2.2.2, volS]; omega
theorem itemsB_length (l : List ItemD) : (itemsB l).length = (l.map itemS).sum := by
  induction l with
  | nil => rfl
  | cons x l ih => rw [itemsB, List.flatMap_cons, List.length_append, itemB_length, List.map_cons, List.sum_cons, ← ih]; rfl
theorem kidsB_length (l : List KidD) (h : ∀ k ∈ l, k.wf) : (kidsB l).length = (l.map kidS).sum := by
  induction l with
  | nil => rfl
  | cons x l ih => rw [kidsB, List.flatMap_cons, List.length_append, kidB_length _ (h x (by simp)), List.map_cons, List.sum_cons, ← ih (fun k hk => h k (by simp [hk]))]; rfl
theorem volsB_length (l : List VolD) (h : ∀ v ∈ l, v.wf) : (volsB l).length = (l.map volS).sum := by
  induction l with
  | nil => rfl
  | cons x l ih => rw [volsB, List.flatMap_cons, List.length_append, volB_length _ (h x (by simp)), List.map_cons, List.sum_cons, ← ih (fun k hk => h k (by simp [hk]))]; rfl

/-- Of a right node: its bytes are as many as its size says. -/
theorem bytesN_length (n : NodeD) (hw : n.wf) (h : shapedN n = true) : (bytesN n).length = sizeN n := by
  have hi := itemsB_length n.items
  have hk := kidsB_length n.kids hw.2.1
  have hv := volsB_length n.vols hw.2.2
  rw [bytesN, List.length_append, List.length_append, List.length_append, List.length_append, beL_length, beL_length, hi, hk, hv, sizeN]
  unfold shapedN at h
  split at h
  · rename_i e
    simp only [Bool.and_eq_true, List.isEmpty_iff] at h
    rw [if_pos e, h.1.1.1.1, h.1.1.1.2]; simp; omega
  · split at h
    · rename_i e1 e
      simp only [Bool.and_eq_true, List.isEmpty_iff] at h
      rw [if_neg e1, if_pos e, h.1.1.1.1, h.1.1.1.2]; simp; omega
    · split at h
      · rename_i e1 e2 e
        simp only [Bool.and_eq_true, List.isEmpty_iff] at h
        rw [if_neg e1, if_neg e2, if_pos e, h.1.1.1, h.1.1.2]; simp; omega
      · simp at h

/-! ### Padding and trimming -/
theorem trimR_zeros (l : List UInt8) : ∃ k, l = trimR l ++ List.replicate k 0 := by
  unfold trimR Lib.trimRightB
  have h := List.takeWhile_append_dropWhile (p := (· == (0 : UInt8))) (l := l.reverse)
  refine ⟨(l.reverse.takeWhile (· == 0)).length, ?_⟩
  have hz : l.reverse.takeWhile (· == (0 : UInt8)) = List.replicate (l.reverse.takeWhile (· == (0 : UInt8))).length 0 := by
    apply List.eq_replicate_iff.2
    refine ⟨rfl, fun x hx => ?_⟩
    have h2 : ∀ l : List UInt8, ∀ x ∈ l.takeWhile (· == (0 : UInt8)), x = 0 := by
      intro l
      induction l with
      | nil => intro x h; cases h
      | cons a l ih =>
        intro x h
        rw [List.takeWhile_cons] at h
        split at h
        · rename_i ha
          rcases List.mem_cons.1 h with rfl | h
          · simpa using ha
          · exact ih x h
        · cases h
    exact h2 _ x hx
  have e : l = ((l.reverse.takeWhile (· == (0 : UInt8))) ++ (l.reverse.dropWhile (· == (0 : UInt8)))).reverse := by rw [h, List.reverse_reverse]
  rw [List.reverse_append] at e
  conv => lhs; rw [e]
  rw [hz, List.reverse_replicate, List.length_replicate]
theorem trimR_length (l : List UInt8) : (trimR l).length ≤ l.length := by
  obtain ⟨k, hk⟩ := trimR_zeros l
  have := congrArg List.length hk
  rw [List.length_append, List.length_replicate] at this
  omega
theorem padTo_length (n : Nat) (l : List UInt8) (h : l.length ≤ n) : (padTo n l).length = n := by
  rw [padTo, List.length_append, List.length_replicate]; omega
theorem padTo_trimR (n : Nat) (l : List UInt8) (h : l.length = n) : padTo n (trimR l) = l := by
  obtain ⟨k, hk⟩ := trimR_zeros l
  have hl := congrArg List.length hk
  rw [List.length_append, List.length_replicate] at hl
  have e : n - (trimR l).length = k := by omega
  rw [padTo, e, ← hk]
theorem headed_length (l : List UInt8) (h : l.length ≤ 508) : (headed l).length = 512 := by
  rw [headed, List.length_append, beL_length, padTo_length _ _ h]
theorem wholeL_pad (l : List UInt8) (h : l.length ≤ 508) : padTo 512 (wholeL l) = headed l := padTo_trimR 512 _ (headed_length l h)
theorem wholeL_length (l : List UInt8) (h : l.length ≤ 508) : (wholeL l).length ≤ 512 := by
  have := trimR_length (headed l)
  rw [headed_length l h] at this
  exact this
theorem headed_drop (l : List UInt8) : (headed l).drop 4 = padTo 508 l := by
  rw [headed, List.drop_left' (beL_length _ 4)]
theorem headed_take (l : List UInt8) : (headed l).take 4 = beL (crc (padTo 508 l)).toNat 4 := by
  rw [headed, List.take_left' (beL_length _ 4)]

end Go.Proofs.YtgjaoofgmdijdaaGreatDoor
