/- Nodes as blocks' data, plainly: what is right, how big, the bytes, what is taken back; there and back; one bit turned. No program. -/
/- What is taken from bytes, plainly; a node's bytes are taken back as it; what is read as a node; one bit turned. No program. -/
import Derived.Test.YtokanfceipkfpaaDoorCrc
import Derived.Test.YtokanfceipkfpaaDoorNumPure
import Derived.Lib.TrimByte
namespace Go.Proofs.YtokanfceipkfpaaDoor

structure ItemD where
  key : ByteArray
  val : ByteArray
structure KidD where
  key : ByteArray
  num : Nat
  hash : List UInt8
structure VolD where
  name : ByteArray
  kind : Nat
  frm : ByteArray
  born : Nat
  root : Nat
  hash : List UInt8
structure NodeD where
  kind : Nat
  items : List ItemD
  kids : List KidD
  vols : List VolD

def KidD.wf (k : KidD) : Prop := k.num < 4294967296 ∧ k.hash.length = 32
def VolD.wf (v : VolD) : Prop := v.kind < 256 ∧ v.born < 18446744073709551616 ∧ v.root < 4294967296 ∧ v.hash.length = 32
def NodeD.wf (n : NodeD) : Prop := n.kind < 256 ∧ (∀ k ∈ n.kids, k.wf) ∧ (∀ v ∈ n.vols, v.wf)

def lessB (a b : ByteArray) : Bool := Op.bytesLess a.data.toList b.data.toList
def blockN (n : Nat) : Bool := decide (2 ≤ n) && decide (n < 65536)
def noHash : List UInt8 := List.replicate 32 0

def itemOk (b : ByteArray) (x : ItemD) : Bool := lessB b x.key && decide (x.key.size ≤ 48) && decide (x.val.size ≤ 160)
def kidOk (b : ByteArray) (k : KidD) : Bool := lessB b k.key && decide (k.key.size ≤ 48) && blockN k.num
def volOk (b : ByteArray) (v : VolD) : Bool :=
  (blockN v.root || (v.root == 0 && v.hash == noHash)) && lessB b v.name && decide (v.name.size ≤ 16) && decide (v.frm.size ≤ 16) && decide (0 < v.kind) && decide (v.kind < 3)
def noName : ByteArray := ⟨#[]⟩
def itemsOk : ByteArray → List ItemD → Bool
  | _, [] => true
  | b, x :: l => itemOk b x && itemsOk x.key l
def kidsOk : ByteArray → List KidD → Bool
  | _, [] => true
  | b, k :: l => kidOk b k && kidsOk k.key l
def volsOk : ByteArray → List VolD → Bool
  | _, [] => true
  | b, v :: l => volOk b v && volsOk v.name l

def itemS (x : ItemD) : Nat := 2 + x.key.size + x.val.size
def kidS (k : KidD) : Nat := 37 + k.key.size
def volS (v : VolD) : Nat := 47 + v.name.size + v.frm.size
def sizeN (n : NodeD) : Nat :=
  2 + (if n.kind = 1 then (n.items.map itemS).sum else if n.kind = 2 then (n.kids.map kidS).sum else if n.kind = 3 then (n.vols.map volS).sum else 0)
def shapedN (n : NodeD) : Bool :=
  if n.kind = 1 then n.kids.isEmpty && n.vols.isEmpty && decide (0 < n.items.length) && decide (n.items.length ≤ 255) && itemsOk noName n.items
  else if n.kind = 2 then n.items.isEmpty && n.vols.isEmpty && decide (0 < n.kids.length) && decide (n.kids.length ≤ 255) && kidsOk noName n.kids
  else if n.kind = 3 then n.items.isEmpty && n.kids.isEmpty && decide (n.vols.length ≤ 6) && volsOk noName n.vols
  else false
def checkN (n : NodeD) : Int := if shapedN n then (if sizeN n ≤ 508 then 0 else 2) else 4

/-- Where a node leads. -/
def kidNums (n : NodeD) : List Nat := if n.kind = 2 then n.kids.map (·.num) else if n.kind = 3 then (n.vols.filter (fun v => decide (v.root ≠ 0))).map (·.root) else []

def tx1 (s : ByteArray) : List UInt8 := beL s.size 1 ++ s.data.toList
def itemB (x : ItemD) : List UInt8 := tx1 x.key ++ tx1 x.val
def kidB (k : KidD) : List UInt8 := tx1 k.key ++ (beL k.num 4 ++ k.hash)
def volB (v : VolD) : List UInt8 := tx1 v.name ++ (tx1 v.frm ++ (beL v.kind 1 ++ (beL v.born 8 ++ (beL v.root 4 ++ v.hash))))
def itemsB (l : List ItemD) : List UInt8 := l.flatMap itemB
def kidsB (l : List KidD) : List UInt8 := l.flatMap kidB
def volsB (l : List VolD) : List UInt8 := l.flatMap volB
def bytesN (n : NodeD) : List UInt8 := beL n.kind 1 ++ (beL (n.items.length + n.kids.length + n.vols.length) 1 ++ (itemsB n.items ++ (kidsB n.kids ++ volsB n.vols)))

/-- Bytes with zero bytes behind, up to so many. -/
def padTo (n : Nat) (l : List UInt8) : List UInt8 := l ++ List.replicate (n - l.length) 0
def trimR (l : List UInt8) : List UInt8 := Lib.trimRightB l 0
def headed (l : List UInt8) : List UInt8 := beL (crc (padTo 508 l)).toNat 4 ++ padTo 508 l
def wholeL (l : List UInt8) : List UInt8 := trimR (headed l)
def encN (n : NodeD) : List UInt8 := if checkN n = 0 then wholeL (bytesN n) else []

theorem tx1_length (s : ByteArray) : (tx1 s).length = 1 + s.size := by rw [tx1, List.length_append, beL_length, Array.length_toList]; rfl
theorem itemB_length (x : ItemD) : (itemB x).length = itemS x := by rw [itemB, List.length_append, tx1_length, tx1_length, itemS]; omega
theorem kidB_length (k : KidD) (h : k.wf) : (kidB k).length = kidS k := by
  rw [kidB, List.length_append, List.length_append, tx1_length, beL_length, h.2, kidS]; omega
theorem volB_length (v : VolD) (h : v.wf) : (volB v).length = volS v := by
  rw [volB, List.length_append, List.length_append, List.length_append, List.length_append, List.length_append, tx1_length, tx1_length, beL_length, beL_length, beL_length, h.2.2.2, volS]; omega
theorem itemsB_length (l : List ItemD) : (itemsB l).length = (l.map itemS).sum := by
  induction l with
  | nil => rfl
  | cons x l ih => rw [itemsB, List.flatMap_cons, List.length_append, itemB_length, List.map_cons, List.sum_cons, ← ih]; rfl
theorem kidsB_length (l : List KidD) (h : ∀ k ∈ l, k.wf) : (kidsB l).length = (l.map kidS).sum := by
  induction l with
  | nil => rfl
  | cons x l ih => rw [kidsB, List.flatMap_cons, List.length_append, kidB_length _ (h x (by simp)), List.map_cons, List.sum_cons, ← ih (fun k hk => h k (by simp [hk]))]; rfl
theorem volsB_length (l : List VolD) (h : ∀ v ∈ l, v.wf) : (volsB l).length = (l.map volS).sum := by
  induction l with
  | nil => rfl
  | cons x l ih => rw [volsB, List.flatMap_cons, List.length_append, volB_length _ (h x (by simp)), List.map_cons, List.sum_cons, ← ih (fun k hk => h k (by simp [hk]))]; rfl

/-- Of a right node: its bytes are as many as its size says. -/
theorem bytesN_length (n : NodeD) (hw : n.wf) (h : shapedN n = true) : (bytesN n).length = sizeN n := by
  have hi := itemsB_length n.items
  have hk := kidsB_length n.kids hw.2.1
  have hv := volsB_length n.vols hw.2.2
  rw [bytesN, List.length_append, List.length_append, List.length_append, List.length_append, beL_length, beL_length, hi, hk, hv, sizeN]
  unfold shapedN at h
  split at h
  · rename_i e
    simp only [Bool.and_eq_true, List.isEmpty_iff] at h
    rw [if_pos e, h.1.1.1.1, h.1.1.1.2]; simp; omega
  · split at h
    · rename_i e1 e
      simp only [Bool.and_eq_true, List.isEmpty_iff] at h
      rw [if_neg e1, if_pos e, h.1.1.1.1, h.1.1.1.2]; simp; omega
    · split at h
      · rename_i e1 e2 e
        simp only [Bool.and_eq_true, List.isEmpty_iff] at h
        rw [if_neg e1, if_neg e2, if_pos e, h.1.1.1, h.1.1.2]; simp; omega
      · simp at h

/-! ### Padding and trimming -/
theorem trimR_zeros (l : List UInt8) : ∃ k, l = trimR l ++ List.replicate k 0 := by
  unfold trimR Lib.trimRightB
  have h := List.takeWhile_append_dropWhile (p := (· == (0 : UInt8))) (l := l.reverse)
  refine ⟨(l.reverse.takeWhile (· == 0)).length, ?_⟩
  have hz : l.reverse.takeWhile (· == (0 : UInt8)) = List.replicate (l.reverse.takeWhile (· == (0 : UInt8))).length 0 := by
    apply List.eq_replicate_iff.2
    refine ⟨rfl, fun x hx => ?_⟩
    have h2 : ∀ l : List UInt8, ∀ x ∈ l.takeWhile (· == (0 : UInt8)), x = 0 := by
      intro l
      induction l with
      | nil => intro x h; cases h
      | cons a l ih =>
        intro x h
        rw [List.takeWhile_cons] at h
        split at h
        · rename_i ha
          rcases List.mem_cons.1 h with rfl | h
          · simpa using ha
          · exact ih x h
        · cases h
    exact h2 _ x hx
  have e : l = ((l.reverse.takeWhile (· == (0 : UInt8))) ++ (l.reverse.dropWhile (· == (0 : UInt8)))).reverse := by rw [h, List.reverse_reverse]
  rw [List.reverse_append] at e
  conv => lhs; rw [e]
  rw [hz, List.reverse_replicate, List.length_replicate]
theorem trimR_length (l : List UInt8) : (trimR l).length ≤ l.length := by
  obtain ⟨k, hk⟩ := trimR_zeros l
  have := congrArg List.length hk
  rw [List.length_append, List.length_replicate] at this
  omega
theorem padTo_length (n : Nat) (l : List UInt8) (h : l.length ≤ n) : (padTo n l).length = n := by
  rw [padTo, List.length_append, List.length_replicate]; omega
theorem padTo_trimR (n : Nat) (l : List UInt8) (h : l.length = n) : padTo n (trimR l) = l := by
  obtain ⟨k, hk⟩ := trimR_zeros l
  have hl := congrArg List.length hk
  rw [List.length_append, List.length_replicate] at hl
  have e : n - (trimR l).length = k := by omega
  rw [padTo, e, ← hk]
theorem headed_length (l : List UInt8) (h : l.length ≤ 508) : (headed l).length = 512 := by
  rw [headed, List.length_append, beL_length, padTo_length _ _ h]
theorem wholeL_pad (l : List UInt8) (h : l.length ≤ 508) : padTo 512 (wholeL l) = headed l := padTo_trimR 512 _ (headed_length l h)
theorem wholeL_length (l : List UInt8) (h : l.length ≤ 508) : (wholeL l).length ≤ 512 := by
  have := trimR_length (headed l)
  rw [headed_length l h] at this
  exact this
theorem headed_drop (l : List UInt8) : (headed l).drop 4 = padTo 508 l := by
  rw [headed, List.drop_left' (beL_length _ 4)]
theorem headed_take (l : List UInt8) : (headed l).take 4 = beL (crc (padTo 508 l)).toNat 4 := by
  rw [headed, List.take_left' (beL_length _ 4)]

end Go.Proofs.YtokanfceipkfpaaDoor

namespace Go.Proofs.YtokanfceipkfpaaDoor

structure TkD where
  left : List UInt8
  bad : Bool
def tkOut (t : TkD) (n : Nat) : Bool := t.bad || decide (t.left.length < n)
def tkSome (t : TkD) (n : Nat) : List UInt8 := if tkOut t n then [] else t.left.take n
def tkNext (t : TkD) (n : Nat) : TkD := if tkOut t n then ⟨t.left, true⟩ else ⟨t.left.drop n, false⟩
def numT (t : TkD) (w : Nat) : Nat := ofBE (tkSome t w)
def txT (t : TkD) : List UInt8 := tkSome (tkNext t 1) (numT t 1)
def txN (t : TkD) : TkD := tkNext (tkNext t 1) (numT t 1)
def hashT (t : TkD) : List UInt8 := padTo 32 (tkSome t 32)
def strOf (l : List UInt8) : ByteArray := ⟨l.toArray⟩

def itemT (t : TkD) : ItemD := ⟨strOf (txT t), strOf (txT (txN t))⟩
def itemN (t : TkD) : TkD := txN (txN t)
def kidT (t : TkD) : KidD := ⟨strOf (txT t), numT (txN t) 4, hashT (tkNext (txN t) 4)⟩
def kidN (t : TkD) : TkD := tkNext (tkNext (txN t) 4) 32
def volT (t : TkD) : VolD :=
  ⟨strOf (txT t), numT (txN (txN t)) 1, strOf (txT (txN t)), numT (tkNext (txN (txN t)) 1) 8, numT (tkNext (tkNext (txN (txN t)) 1) 8) 4, hashT (tkNext (tkNext (tkNext (txN (txN t)) 1) 8) 4)⟩
def volN (t : TkD) : TkD := tkNext (tkNext (tkNext (tkNext (txN (txN t)) 1) 8) 4) 32

/-- So many things, one behind the other, till one is bad. -/
def manyT {α : Type} (f : TkD → α) (g : TkD → TkD) : Nat → TkD → List α
  | 0, _ => []
  | c + 1, t => f t :: (if (g t).bad then [] else manyT f g c (g t))
def manyN (g : TkD → TkD) : Nat → TkD → TkD
  | 0, t => t
  | c + 1, t => if (g t).bad then g t else manyN g c (g t)

def kindT (t : TkD) : Nat := numT t 1
def countT (t : TkD) : Nat := numT (tkNext t 1) 1
def bodyT (t : TkD) : TkD := tkNext (tkNext t 1) 1
def takeN (t : TkD) : NodeD :=
  if kindT t = 1 then ⟨1, manyT itemT itemN (countT t) (bodyT t), [], []⟩
  else if kindT t = 2 then ⟨2, [], manyT kidT kidN (countT t) (bodyT t), []⟩
  else if kindT t = 3 then ⟨3, [], [], manyT volT volN (countT t) (bodyT t)⟩
  else ⟨kindT t, [], [], []⟩
def takeX (t : TkD) : TkD :=
  if kindT t = 1 then manyN itemN (countT t) (bodyT t)
  else if kindT t = 2 then manyN kidN (countT t) (bodyT t)
  else if kindT t = 3 then manyN volN (countT t) (bodyT t)
  else if countT t = 0 then bodyT t else ⟨(bodyT t).left, true⟩

def startT (d : List UInt8) : TkD := ⟨(padTo 512 d).drop 4, false⟩
/-- Whether data are a node's, and which. -/
def decOk (d : List UInt8) : Prop := d.length ≤ 512 ∧ (takeX (startT d)).bad = false ∧ checkN (takeN (startT d)) = 0 ∧ encN (takeN (startT d)) = d
def decN (d : List UInt8) : NodeD := takeN (startT d)
instance decOk_dec (d : List UInt8) : Decidable (decOk d) := by unfold decOk; infer_instance
/-- The node that data are; none: one that has nothing. And what is told of them. -/
def nodeL (d : List UInt8) : NodeD := if decOk d then decN d else ⟨0, [], [], []⟩
def decE (d : List UInt8) : Int := if decOk d then 0 else 9

/-! ### There and back -/
theorem out_app (a b : List UInt8) (n : Nat) (h : a.length = n) : tkOut ⟨a ++ b, false⟩ n = false := by
  unfold tkOut
  rw [Bool.false_or, decide_eq_false_iff_not]
  show ¬ (a ++ b).length < n
  rw [List.length_append]; omega
theorem some_app (a b : List UInt8) (n : Nat) (h : a.length = n) : tkSome ⟨a ++ b, false⟩ n = a := by
  rw [tkSome, out_app a b n h]
  exact List.take_left' h
theorem next_app (a b : List UInt8) (n : Nat) (h : a.length = n) : tkNext ⟨a ++ b, false⟩ n = ⟨b, false⟩ := by
  rw [tkNext, out_app a b n h]
  show (⟨(a ++ b).drop n, false⟩ : TkD) = _
  rw [List.drop_left' h]
theorem num_app (n w : Nat) (b : List UInt8) (h : n < 256 ^ w) : numT ⟨beL n w ++ b, false⟩ w = n := by
  rw [numT, some_app _ _ _ (beL_length n w), ofBE_beL, Nat.mod_eq_of_lt h]
theorem numN_app (n w : Nat) (b : List UInt8) : tkNext ⟨beL n w ++ b, false⟩ w = ⟨b, false⟩ := next_app _ _ _ (beL_length n w)
theorem tx_app (s : ByteArray) (b : List UInt8) (h : s.size < 256) : txT ⟨tx1 s ++ b, false⟩ = s.data.toList := by
  rw [txT, tx1, List.append_assoc, numN_app, num_app _ _ _ (by omega), some_app _ _ _ (show s.data.toList.length = s.size from Array.length_toList)]
theorem txN_app (s : ByteArray) (b : List UInt8) (h : s.size < 256) : txN ⟨tx1 s ++ b, false⟩ = ⟨b, false⟩ := by
  rw [txN, tx1, List.append_assoc, numN_app, num_app _ _ _ (by omega), next_app _ _ _ (show s.data.toList.length = s.size from Array.length_toList)]
theorem strOf_data (s : ByteArray) : strOf s.data.toList = s := by cases s; rfl
theorem hash_app (h b : List UInt8) (hl : h.length = 32) : hashT ⟨h ++ b, false⟩ = h := by
  rw [hashT, some_app _ _ _ hl, padTo, hl]; simp

theorem item_app (x : ItemD) (b : List UInt8) (h1 : x.key.size < 256) (h2 : x.val.size < 256) : itemT ⟨itemB x ++ b, false⟩ = x ∧ itemN ⟨itemB x ++ b, false⟩ = ⟨b, false⟩ := by
  rw [itemT, itemN, itemB, List.append_assoc, tx_app _ _ h1, txN_app _ _ h1, tx_app _ _ h2, txN_app _ _ h2, strOf_data, strOf_data]
  exact ⟨rfl, rfl⟩
theorem kid_app (k : KidD) (b : List UInt8) (h1 : k.key.size < 256) (hw : k.wf) : kidT ⟨kidB k ++ b, false⟩ = k ∧ kidN ⟨kidB k ++ b, false⟩ = ⟨b, false⟩ := by
  have hn : k.num < 256 ^ 4 := hw.1
  rw [kidT, kidN, kidB, List.append_assoc, List.append_assoc, tx_app _ _ h1, txN_app _ _ h1, numN_app, num_app _ _ _ hn, hash_app _ _ hw.2, next_app _ _ _ hw.2, strOf_data]
  exact ⟨rfl, rfl⟩
theorem vol_app (v : VolD) (b : List UInt8) (h1 : v.name.size < 256) (h2 : v.frm.size < 256) (hw : v.wf) : volT ⟨volB v ++ b, false⟩ = v ∧ volN ⟨volB v ++ b, false⟩ = ⟨b, false⟩ := by
  have hk : v.kind < 256 ^ 1 := hw.1
  have hb : v.born < 256 ^ 8 := hw.2.1
  have hr : v.root < 256 ^ 4 := hw.2.2.1
  rw [volT, volN, volB]
  simp only [List.append_assoc]
  rw [tx_app _ _ h1, txN_app _ _ h1, tx_app _ _ h2, txN_app _ _ h2, num_app _ _ _ hk, numN_app, num_app _ _ _ hb, numN_app, num_app _ _ _ hr, numN_app, hash_app _ _ hw.2.2.2, next_app _ _ _ hw.2.2.2, strOf_data, strOf_data]
  exact ⟨rfl, rfl⟩

theorem many_app {α : Type} {f : TkD → α} {g : TkD → TkD} {e : α → List UInt8} : ∀ (l : List α) (b : List UInt8), (∀ x ∈ l, ∀ b, f ⟨e x ++ b, false⟩ = x ∧ g ⟨e x ++ b, false⟩ = ⟨b, false⟩) →
    manyT f g l.length ⟨l.flatMap e ++ b, false⟩ = l ∧ manyN g l.length ⟨l.flatMap e ++ b, false⟩ = ⟨b, false⟩
  | [], _, _ => ⟨rfl, rfl⟩
  | x :: l, b, h => by
    have hx := h x (by simp) (l.flatMap e ++ b)
    have ih := many_app l b (fun y hy => h y (by simp [hy]))
    rw [List.flatMap_cons, List.append_assoc, List.length_cons, manyT, manyN, hx.1, hx.2]
    simp only [Bool.false_eq_true, if_false, ih.1, ih.2]
    exact ⟨trivial, trivial⟩

theorem itemsOk_sizes : ∀ (b : ByteArray) (l : List ItemD), itemsOk b l = true → ∀ x ∈ l, x.key.size < 256 ∧ x.val.size < 256
  | _, [], _, _, h => by cases h
  | b, x :: l, h, y, hy => by
    simp only [itemsOk, itemOk, Bool.and_eq_true, decide_eq_true_eq] at h
    rcases List.mem_cons.1 hy with rfl | hy
    · omega
    · exact itemsOk_sizes _ l h.2 y hy
theorem kidsOk_sizes : ∀ (b : ByteArray) (l : List KidD), kidsOk b l = true → ∀ x ∈ l, x.key.size < 256
  | _, [], _, _, h => by cases h
  | b, x :: l, h, y, hy => by
    simp only [kidsOk, kidOk, Bool.and_eq_true, decide_eq_true_eq] at h
    rcases List.mem_cons.1 hy with rfl | hy
    · omega
    · exact kidsOk_sizes _ l h.2 y hy
theorem volsOk_sizes : ∀ (b : ByteArray) (l : List VolD), volsOk b l = true → ∀ x ∈ l, x.name.size < 256 ∧ x.frm.size < 256
  | _, [], _, _, h => by cases h
  | b, x :: l, h, y, hy => by
    simp only [volsOk, volOk, Bool.and_eq_true, decide_eq_true_eq] at h
    rcases List.mem_cons.1 hy with rfl | hy
    · omega
    · exact volsOk_sizes _ l h.2 y hy

theorem take_back (n : NodeD) (hw : n.wf) (h : shapedN n = true) (b : List UInt8) : takeN ⟨bytesN n ++ b, false⟩ = n ∧ takeX ⟨bytesN n ++ b, false⟩ = ⟨b, false⟩ := by
  obtain ⟨kind, items, kids, vols⟩ := n
  have hk : kind < 256 ^ 1 := hw.1
  have e1 : ∀ r, kindT ⟨beL kind 1 ++ r, false⟩ = kind := fun r => num_app _ _ _ hk
  unfold shapedN at h
  simp only [] at h
  split at h
  · rename_i e
    subst e
    simp only [Bool.and_eq_true, List.isEmpty_iff, decide_eq_true_eq] at h
    obtain ⟨⟨⟨⟨rfl, rfl⟩, _⟩, hc⟩, ho⟩ := h
    have hs := itemsOk_sizes _ _ ho
    have hm := many_app (f := itemT) (g := itemN) (e := itemB) items b (fun x hx c => item_app x c (hs x hx).1 (hs x hx).2)
    have eb : bytesN ⟨1, items, [], []⟩ ++ b = beL 1 1 ++ (beL items.length 1 ++ (items.flatMap itemB ++ b)) := by simp [bytesN, itemsB, kidsB, volsB]
    have ec : countT ⟨beL 1 1 ++ (beL items.length 1 ++ (items.flatMap itemB ++ b)), false⟩ = items.length := by rw [countT, numN_app, num_app _ _ _ (by omega)]
    have ed : bodyT ⟨beL 1 1 ++ (beL items.length 1 ++ (items.flatMap itemB ++ b)), false⟩ = ⟨items.flatMap itemB ++ b, false⟩ := by rw [bodyT, numN_app, numN_app]
    rw [eb, takeN, takeX, e1, if_pos rfl, if_pos rfl, ec, ed, hm.1, hm.2]
    exact ⟨rfl, rfl⟩
  · split at h
    · rename_i e
      subst e
      simp only [Bool.and_eq_true, List.isEmpty_iff, decide_eq_true_eq] at h
      obtain ⟨⟨⟨⟨rfl, rfl⟩, _⟩, hc⟩, ho⟩ := h
      have hs := kidsOk_sizes _ _ ho
      have hm := many_app (f := kidT) (g := kidN) (e := kidB) kids b (fun x hx c => kid_app x c (hs x hx) (hw.2.1 x hx))
      have eb : bytesN ⟨2, [], kids, []⟩ ++ b = beL 2 1 ++ (beL kids.length 1 ++ (kids.flatMap kidB ++ b)) := by simp [bytesN, itemsB, kidsB, volsB]
      have ec : countT ⟨beL 2 1 ++ (beL kids.length 1 ++ (kids.flatMap kidB ++ b)), false⟩ = kids.length := by rw [countT, numN_app, num_app _ _ _ (by omega)]
      have ed : bodyT ⟨beL 2 1 ++ (beL kids.length 1 ++ (kids.flatMap kidB ++ b)), false⟩ = ⟨kids.flatMap kidB ++ b, false⟩ := by rw [bodyT, numN_app, numN_app]
      rw [eb, takeN, takeX, e1, if_neg (show ¬ (2 : Nat) = 1 by decide), if_neg (show ¬ (2 : Nat) = 1 by decide), if_pos rfl, if_pos rfl, ec, ed, hm.1, hm.2]
      exact ⟨rfl, rfl⟩
    · split at h
      · rename_i e
        subst e
        simp only [Bool.and_eq_true, List.isEmpty_iff, decide_eq_true_eq] at h
        obtain ⟨⟨⟨rfl, rfl⟩, hc⟩, ho⟩ := h
        have hs := volsOk_sizes _ _ ho
        have hm := many_app (f := volT) (g := volN) (e := volB) vols b (fun x hx c => vol_app x c (hs x hx).1 (hs x hx).2 (hw.2.2 x hx))
        have eb : bytesN ⟨3, [], [], vols⟩ ++ b = beL 3 1 ++ (beL vols.length 1 ++ (vols.flatMap volB ++ b)) := by simp [bytesN, itemsB, kidsB, volsB]
        have ec : countT ⟨beL 3 1 ++ (beL vols.length 1 ++ (vols.flatMap volB ++ b)), false⟩ = vols.length := by rw [countT, numN_app, num_app _ _ _ (by omega)]
        have ed : bodyT ⟨beL 3 1 ++ (beL vols.length 1 ++ (vols.flatMap volB ++ b)), false⟩ = ⟨vols.flatMap volB ++ b, false⟩ := by rw [bodyT, numN_app, numN_app]
        rw [eb, takeN, takeX, e1, if_neg (show ¬ (3 : Nat) = 1 by decide), if_neg (show ¬ (3 : Nat) = 1 by decide), if_neg (show ¬ (3 : Nat) = 2 by decide), if_neg (show ¬ (3 : Nat) = 2 by decide), if_pos rfl, if_pos rfl, ec, ed, hm.1, hm.2]
        exact ⟨rfl, rfl⟩
      · simp at h

theorem check_ok (n : NodeD) : checkN n = 0 ↔ shapedN n = true ∧ sizeN n ≤ 508 := by
  unfold checkN
  split
  · split <;> simp_all
  · simp_all
theorem enc_start (n : NodeD) (hw : n.wf) (h : checkN n = 0) : startT (encN n) = ⟨bytesN n ++ List.replicate (508 - (bytesN n).length) 0, false⟩ := by
  obtain ⟨hs, hz⟩ := (check_ok n).1 h
  have hl := bytesN_length n hw hs
  rw [startT, encN, if_pos h, wholeL_pad _ (by omega), headed_drop]
  rfl
theorem enc_length (n : NodeD) (hw : n.wf) : (encN n).length ≤ 512 := by
  unfold encN
  split
  · rename_i h
    obtain ⟨hs, hz⟩ := (check_ok n).1 h
    have hl := bytesN_length n hw hs
    exact wholeL_length _ (by omega)
  · simp
/-- What a node is written as is read as it. -/
theorem dec_enc (n : NodeD) (hw : n.wf) (h : checkN n = 0) : decOk (encN n) ∧ decN (encN n) = n := by
  have hb := take_back n hw ((check_ok n).1 h).1 (List.replicate (508 - (bytesN n).length) 0)
  have hs := enc_start n hw h
  rw [← hs] at hb
  refine ⟨⟨enc_length n hw, by rw [hb.2], by rw [hb.1]; exact h, by rw [hb.1]⟩, hb.1⟩
/-- Nodes that are written alike are one. -/
theorem enc_inj (a b : NodeD) (ha : a.wf) (hb : b.wf) (h1 : checkN a = 0) (h2 : checkN b = 0) (h : encN a = encN b) : a = b := by
  rw [← (dec_enc a ha h1).2, h, (dec_enc b hb h2).2]

/-! ### What is taken is well formed -/
theorem numT_lt (t : TkD) (w : Nat) : numT t w < 256 ^ w := by
  unfold numT tkSome
  split
  · exact pow256_pos w
  · have h1 := ofBE_lt (t.left.take w)
    have h2 : (t.left.take w).length ≤ w := List.length_take_le ..
    exact Nat.lt_of_lt_of_le h1 (Nat.pow_le_pow_right (by decide) h2)
theorem hashT_length (t : TkD) : (hashT t).length = 32 := by
  unfold hashT
  apply padTo_length
  unfold tkSome
  split
  · simp
  · exact List.length_take_le ..
theorem kidT_wf (t : TkD) : (kidT t).wf := ⟨numT_lt _ 4, hashT_length _⟩
theorem volT_wf (t : TkD) : (volT t).wf := ⟨numT_lt _ 1, numT_lt _ 8, numT_lt _ 4, hashT_length _⟩
theorem manyT_mem {α : Type} {f : TkD → α} {g : TkD → TkD} {p : α → Prop} (h : ∀ t, p (f t)) : ∀ (c : Nat) (t : TkD), ∀ x ∈ manyT f g c t, p x
  | 0, _, _, hx => by cases hx
  | c + 1, t, x, hx => by
    unfold manyT at hx
    rcases List.mem_cons.1 hx with rfl | hx
    · exact h t
    · split at hx
      · cases hx
      · exact manyT_mem h c _ x hx
theorem takeN_wf (t : TkD) : (takeN t).wf := by
  unfold takeN
  split
  · exact ⟨by show 1 < 256; decide, (by intro k hk; cases hk), (by intro k hk; cases hk)⟩
  · split
    · exact ⟨by show 2 < 256; decide, manyT_mem kidT_wf _ _, (by intro k hk; cases hk)⟩
    · split
      · exact ⟨by show 3 < 256; decide, (by intro k hk; cases hk), manyT_mem volT_wf _ _⟩
      · exact ⟨numT_lt t 1, (by intro k hk; cases hk), (by intro k hk; cases hk)⟩

/-! ### One bit turned -/
theorem crc_set' (l : List UInt8) (i : Nat) (d : UInt8) (hi : i < l.length) (hd : d ≠ l[i]) : crc (l.set i d) ≠ crc l := by
  intro h
  have e : l.set i d = l.take i ++ d :: l.drop (i + 1) := List.set_eq_take_append_cons_drop .. |>.trans (by rw [if_pos hi])
  have e2 : l = l.take i ++ l[i] :: l.drop (i + 1) := by simp
  exact crc_turned (l.take i) (l.drop (i + 1)) d l[i] hd (by rw [← e, ← e2]; exact h)

theorem headed_turned (a b : List UInt8) (at_ : Nat) (d : UInt8) (ha : a.length ≤ 508) (hat : at_ < 512) (hd : ∀ h : at_ < (headed a).length, d ≠ (headed a)[at_]) : headed b ≠ (headed a).set at_ d := by
  intro h
  have hl := headed_length a ha
  have hd := hd (by omega)
  by_cases h4 : at_ < 4
  · have h1 := congrArg (List.drop 4) h
    rw [headed_drop, List.drop_set_of_lt h4, headed_drop] at h1
    have h2 : headed b = headed a := by rw [headed, headed, h1]
    rw [h2] at h
    have h3 : (headed a)[at_]? = some d := by rw [h]; simp [List.getElem?_set]; omega
    rw [List.getElem?_eq_getElem (by omega)] at h3
    exact hd (Option.some_inj.1 h3).symm
  · have h1 := congrArg (List.drop 4) h
    rw [headed_drop, List.drop_set, if_neg h4, headed_drop] at h1
    have h2 := congrArg (List.take 4) h
    rw [headed_take, List.take_set_of_le (by omega), headed_take] at h2
    have h3 := beL_inj _ _ 4 (crc (padTo 508 b)).isLt (crc (padTo 508 a)).isLt h2
    have h4' : crc (padTo 508 b) = crc (padTo 508 a) := BitVec.eq_of_toNat_eq h3
    rw [h1] at h4'
    have hp := padTo_length 508 a ha
    refine crc_set' (padTo 508 a) (at_ - 4) d (by omega) ?_ h4'
    intro e
    apply hd
    rw [e]
    have hx : (headed a)[at_]? = (padTo 508 a)[at_ - 4]? := by rw [← headed_drop, List.getElem?_drop]; congr 1; omega
    rw [List.getElem?_eq_getElem (by omega), List.getElem?_eq_getElem (by omega)] at hx
    exact (Option.some_inj.1 hx).symm

/-- A node's data with one byte turned, wherever in the block, are none. -/
theorem dec_turned (n : NodeD) (hw : n.wf) (h : checkN n = 0) (at_ : Nat) (d : UInt8) (hat : at_ < 512) (hd : ∀ h : at_ < (padTo 512 (encN n)).length, d ≠ (padTo 512 (encN n))[at_]) :
    ¬ decOk (trimR ((padTo 512 (encN n)).set at_ d)) := by
  obtain ⟨hs, hz⟩ := (check_ok n).1 h
  have hl := bytesN_length n hw hs
  have e1 : padTo 512 (encN n) = headed (bytesN n) := by rw [encN, if_pos h, wholeL_pad _ (by omega)]
  rw [e1] at hd ⊢
  rintro ⟨h1, h2, h3, h4⟩
  generalize hm : takeN (startT (trimR ((headed (bytesN n)).set at_ d))) = m at h3 h4
  have hmw : m.wf := hm ▸ takeN_wf _
  obtain ⟨ms, mz⟩ := (check_ok m).1 h3
  have ml := bytesN_length m hmw ms
  have h5 := congrArg (padTo 512) h4
  rw [encN, if_pos h3, wholeL_pad _ (by omega), padTo_trimR 512 _ (by rw [List.length_set]; exact headed_length _ (by omega))] at h5
  exact headed_turned (bytesN n) (bytesN m) at_ d (by omega) hat hd h5

end Go.Proofs.YtokanfceipkfpaaDoor
