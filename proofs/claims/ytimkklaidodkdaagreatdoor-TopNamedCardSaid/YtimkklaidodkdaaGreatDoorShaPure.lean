/- SHA-256, plainly, over words of 32 bits: schedule, rounds, blocks, padding, digest. No program. -/
import Derived.Test.YtimkklaidodkdaaGreatDoorBits
import Derived.Test.YtimkklaidodkdaaGreatDoorNumPure
namespace Go.Proofs.YtimkklaidodkdaaGreatDoor

def rotr (x : BitVec 32) (k : Nat) : BitVec 32 := (x >>> k) ||| (x <<< (32 - k))
def sig0 (x : BitVec 32) : BitVec 32 := rotr x 7 ^^^ rotr x 18 ^^^ x >>> 3
def sig1 (x : BitVec 32) : BitVec 32 := rotr x 17 ^^^ rotr x 19 ^^^ x >>> 10
def big0 (x : BitVec 32) : BitVec 32 := rotr x 2 ^^^ rotr x 13 ^^^ rotr x 22
def big1 (x : BitVec 32) : BitVec 32 := rotr x 6 ^^^ rotr x 11 ^^^ rotr x 25

/-- The word that is made of i bytes from place 4 t on. -/
def wordPart (l : List UInt8) (t : Nat) : Nat → BitVec 32
  | 0 => 0#32
  | i + 1 => (wordPart l t i <<< 8) ||| w8 (l.getD (4 * t + i) 0)
def wordAt (l : List UInt8) (t : Nat) : BitVec 32 := wordPart l t 4

theorem wordAt_eq (l : List UInt8) (t : Nat) : wordAt l t = ((w8 (l.getD (4 * t) 0) <<< 24 ||| w8 (l.getD (4 * t + 1) 0) <<< 16) ||| w8 (l.getD (4 * t + 2) 0) <<< 8) ||| w8 (l.getD (4 * t + 3) 0) := by
  simp only [wordAt, wordPart, BitVec.shiftLeft_or_distrib, Nat.add_zero]
  simp [← BitVec.shiftLeft_add]

def nextW (l : List UInt8) (ws : List (BitVec 32)) (t : Nat) : BitVec 32 :=
  if t < 16 then wordAt l t else ws.getD (t - 16) 0#32 + ws.getD (t - 7) 0#32 + sig0 (ws.getD (t - 15) 0#32) + sig1 (ws.getD (t - 2) 0#32)
def schedTo (l : List UInt8) : Nat → List (BitVec 32)
  | 0 => []
  | t + 1 => schedTo l t ++ [nextW l (schedTo l t) t]
def sched (l : List UInt8) : List (BitVec 32) := schedTo l 64
theorem schedTo_length (l : List UInt8) (t : Nat) : (schedTo l t).length = t := by
  induction t with
  | zero => rfl
  | succ t ih => simp [schedTo, ih]

structure St where
  a : BitVec 32
  b : BitVec 32
  c : BitVec 32
  d : BitVec 32
  e : BitVec 32
  f : BitVec 32
  g : BitVec 32
  h : BitVec 32

def St.list (s : St) : List (BitVec 32) := [s.a, s.b, s.c, s.d, s.e, s.f, s.g, s.h]
def chP (e f g : BitVec 32) : BitVec 32 := g ^^^ (e &&& (f ^^^ g))
def majP (a b c : BitVec 32) : BitVec 32 := (a &&& b) ||| (c &&& (a ||| b))
def rt1 (s : St) (k w : BitVec 32) : BitVec 32 := s.h + big1 s.e + chP s.e s.f s.g + k + w
def rt2 (s : St) : BitVec 32 := big0 s.a + majP s.a s.b s.c
def round (s : St) (k w : BitVec 32) : St := ⟨rt1 s k w + rt2 s, s.a, s.b, s.c, s.d + rt1 s k w, s.e, s.f, s.g⟩
def roundsTo (ks ws : List (BitVec 32)) (s : St) : Nat → St
  | 0 => s
  | t + 1 => round (roundsTo ks ws s t) (ks.getD t 0#32) (ws.getD t 0#32)
def St.add (s t : St) : St := ⟨s.a + t.a, s.b + t.b, s.c + t.c, s.d + t.d, s.e + t.e, s.f + t.f, s.g + t.g, s.h + t.h⟩
def shaK : List (BitVec 32) := [0x428a2f98#32, 0x71374491#32, 0xb5c0fbcf#32, 0xe9b5dba5#32, 0x3956c25b#32, 0x59f111f1#32, 0x923f82a4#32, 0xab1c5ed5#32, 0xd807aa98#32, 0x12835b01#32, 0x243185be#32, 0x550c7dc3#32, 0x72be5d74#32, 0x80deb1fe#32, 0x9bdc06a7#32, 0xc19bf174#32, 0xe49b69c1#32, 0xefbe4786#32, 0x0fc19dc6#32, 0x240ca1cc#32, 0x2de92c6f#32, 0x4a7484aa#32, 0x5cb0a9dc#32, 0x76f988da#32, 0x983e5152#32, 0xa831c66d#32, 0xb00327c8#32, 0xbf597fc7#32, 0xc6e00bf3#32, 0xd5a79147#32, 0x06ca6351#32, 0x14292967#32, 0x27b70a85#32, 0x2e1b2138#32, 0x4d2c6dfc#32, 0x53380d13#32, 0x650a7354#32, 0x766a0abb#32, 0x81c2c92e#32, 0x92722c85#32, 0xa2bfe8a1#32, 0xa81a664b#32, 0xc24b8b70#32, 0xc76c51a3#32, 0xd192e819#32, 0xd6990624#32, 0xf40e3585#32, 0x106aa070#32, 0x19a4c116#32, 0x1e376c08#32, 0x2748774c#32, 0x34b0bcb5#32, 0x391c0cb3#32, 0x4ed8aa4a#32, 0x5b9cca4f#32, 0x682e6ff3#32, 0x748f82ee#32, 0x78a5636f#32, 0x84c87814#32, 0x8cc70208#32, 0x90befffa#32, 0xa4506ceb#32, 0xbef9a3f7#32, 0xc67178f2#32]
def shaH : St := ⟨0x6a09e667#32, 0xbb67ae85#32, 0x3c6ef372#32, 0xa54ff53a#32, 0x510e527f#32, 0x9b05688c#32, 0x1f83d9ab#32, 0x5be0cd19#32⟩
def compress (s : St) (l : List UInt8) : St := s.add (roundsTo shaK (sched l) s 64)
/-- The state behind n blocks. -/
def blocks (l : List UInt8) : Nat → St
  | 0 => shaH
  | n + 1 => compress (blocks l n) ((l.drop (64 * n)).take 64)
def padding (n : Nat) : List UInt8 := 0x80 :: (List.replicate ((119 - n % 64) % 64) 0 ++ beL (n * 8 % 18446744073709551616) 8)
def padL (l : List UInt8) : List UInt8 := l ++ padding l.length
def digestTo (s : St) : Nat → List UInt8
  | 0 => []
  | i + 1 => digestTo s i ++ [UInt8.ofNat ((s.list.getD (i / 4) 0#32).toNat / 2 ^ (24 - 8 * (i % 4)))]
def digest (s : St) : List UInt8 := digestTo s 32
def sha (l : List UInt8) : List UInt8 := digest (blocks (padL l) ((padL l).length / 64))
theorem digestTo_length (s : St) (i : Nat) : (digestTo s i).length = i := by
  induction i with
  | zero => rfl
  | succ i ih => simp [digestTo, ih]
theorem sha_length (l : List UInt8) : (sha l).length = 32 := digestTo_length _ _

theorem padding_length (n : Nat) : (padding n).length = 9 + (119 - n % 64) % 64 := by
  simp [padding, beL_length]; omega
theorem padL_mod (l : List UInt8) : (padL l).length % 64 = 0 := by
  rw [padL, List.length_append, padding_length]; omega

/-- The document's choice and majority are the same. -/
theorem ch_ref (e f g : BitVec 32) : (e &&& f) ^^^ (~~~e &&& g) = chP e f g := by
  unfold chP
  ext i hi
  simp only [BitVec.getElem_xor, BitVec.getElem_and, BitVec.getElem_not]
  cases e[i] <;> cases f[i] <;> cases g[i] <;> rfl
theorem maj_ref (a b c : BitVec 32) : ((a &&& b) ||| (a &&& c)) ||| (b &&& c) = majP a b c := by
  unfold majP
  ext i hi
  simp only [BitVec.getElem_or, BitVec.getElem_and]
  cases a[i] <;> cases b[i] <;> cases c[i] <;> rfl

end Go.Proofs.YtimkklaidodkdaaGreatDoor
