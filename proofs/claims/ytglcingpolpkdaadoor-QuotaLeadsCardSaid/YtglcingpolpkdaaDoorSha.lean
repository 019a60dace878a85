/- The digest, in plain words on lists: what a block makes of eight numbers. -/
import Derived.Test.YtglcingpolpkdaaDoorRot
namespace Go.Proofs.YtglcingpolpkdaaDoor

/-- The numbers of the rounds. -/
def shaK : List (BitVec 32) := [0x428a2f98#32, 0x71374491#32, 0xb5c0fbcf#32, 0xe9b5dba5#32, 0x3956c25b#32, 0x59f111f1#32, 0x923f82a4#32, 0xab1c5ed5#32,
  0xd807aa98#32, 0x12835b01#32, 0x243185be#32, 0x550c7dc3#32, 0x72be5d74#32, 0x80deb1fe#32, 0x9bdc06a7#32, 0xc19bf174#32,
  0xe49b69c1#32, 0xefbe4786#32, 0x0fc19dc6#32, 0x240ca1cc#32, 0x2de92c6f#32, 0x4a7484aa#32, 0x5cb0a9dc#32, 0x76f988da#32,
  0x983e5152#32, 0xa831c66d#32, 0xb00327c8#32, 0xbf597fc7#32, 0xc6e00bf3#32, 0xd5a79147#32, 0x06ca6351#32, 0x14292967#32,
  0x27b70a85#32, 0x2e1b2138#32, 0x4d2c6dfc#32, 0x53380d13#32, 0x650a7354#32, 0x766a0abb#32, 0x81c2c92e#32, 0x92722c85#32,
  0xa2bfe8a1#32, 0xa81a664b#32, 0xc24b8b70#32, 0xc76c51a3#32, 0xd192e819#32, 0xd6990624#32, 0xf40e3585#32, 0x106aa070#32,
  0x19a4c116#32, 0x1e376c08#32, 0x2748774c#32, 0x34b0bcb5#32, 0x391c0cb3#32, 0x4ed8aa4a#32, 0x5b9cca4f#32, 0x682e6ff3#32,
  0x748f82ee#32, 0x78a5636f#32, 0x84c87814#32, 0x8cc70208#32, 0x90befffa#32, 0xa4506ceb#32, 0xbef9a3f7#32, 0xc67178f2#32]

/-- Eight numbers. -/
structure Eight where
  a : BitVec 32
  b : BitVec 32
  c : BitVec 32
  d : BitVec 32
  e : BitVec 32
  f : BitVec 32
  g : BitVec 32
  h : BitVec 32

def Eight.list (s : Eight) : List (BitVec 32) := [s.a, s.b, s.c, s.d, s.e, s.f, s.g, s.h]

def shaBegin : Eight := ⟨0x6a09e667#32, 0xbb67ae85#32, 0x3c6ef372#32, 0xa54ff53a#32, 0x510e527f#32, 0x9b05688c#32, 0x1f83d9ab#32, 0x5be0cd19#32⟩

def roundP (s : Eight) (k w : BitVec 32) : BitVec 32 :=
  s.h + (rotr s.e 6 ^^^ rotr s.e 11 ^^^ rotr s.e 25) + (s.e &&& s.f ^^^ ~~~s.e &&& s.g) + k + w
def roundQ (s : Eight) : BitVec 32 :=
  (rotr s.a 2 ^^^ rotr s.a 13 ^^^ rotr s.a 22) + (s.a &&& s.b ^^^ s.a &&& s.c ^^^ s.b &&& s.c)
/-- One round. -/
def roundOf (s : Eight) (k w : BitVec 32) : Eight := ⟨roundP s k w + roundQ s, s.a, s.b, s.c, s.d + roundP s k w, s.e, s.f, s.g⟩

/-- Number t of a block's first sixteen. -/
def wordAt (b : List (BitVec 8)) (t : Nat) : BitVec 32 :=
  (b.getD (4 * t) 0).setWidth 32 <<< 24 ||| (b.getD (4 * t + 1) 0).setWidth 32 <<< 16 ||| (b.getD (4 * t + 2) 0).setWidth 32 <<< 8 ||| (b.getD (4 * t + 3) 0).setWidth 32
def sigA (x : BitVec 32) : BitVec 32 := rotr x 7 ^^^ rotr x 18 ^^^ x >>> 3
def sigB (x : BitVec 32) : BitVec 32 := rotr x 17 ^^^ rotr x 19 ^^^ x >>> 10
/-- The next number of the schedule behind l. -/
def nextWord (b : List (BitVec 8)) (l : List (BitVec 32)) : BitVec 32 :=
  if l.length < 16 then wordAt b l.length
  else sigB (l.getD (l.length - 2) 0) + l.getD (l.length - 7) 0 + sigA (l.getD (l.length - 15) 0) + l.getD (l.length - 16) 0
/-- The first t numbers of the schedule. -/
def sched (b : List (BitVec 8)) : Nat → List (BitVec 32)
  | 0 => []
  | t + 1 => sched b t ++ [nextWord b (sched b t)]
theorem sched_length (b : List (BitVec 8)) : ∀ t, (sched b t).length = t
  | 0 => rfl
  | t + 1 => by simp [sched, sched_length b t]
/-- The eight numbers behind t rounds. -/
def rounds (s : Eight) (l : List (BitVec 32)) : Nat → Eight
  | 0 => s
  | t + 1 => roundOf (rounds s l t) (shaK.getD t 0) (l.getD t 0)
def addEight (s v : Eight) : Eight := ⟨s.a + v.a, s.b + v.b, s.c + v.c, s.d + v.d, s.e + v.e, s.f + v.f, s.g + v.g, s.h + v.h⟩
/-- What a block of 64 bytes makes of the eight numbers. -/
def compress (s : Eight) (b : List (BitVec 8)) : Eight := addEight s (rounds s (sched b 64) 64)

end Go.Proofs.YtglcingpolpkdaaDoor
