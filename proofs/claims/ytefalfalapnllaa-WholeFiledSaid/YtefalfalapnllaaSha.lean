/- The sum of bytes (SHA-256), plain, over words of 32 bits: no program in sight. (Printed by gen_sha.py.) -/
namespace Go.Proofs.Ytefalfalapnllaa.Sha
abbrev W := BitVec 32

/-- the words' own operations, under names that no rule opens -/
def xor (a b : W) : W := a ^^^ b
def and (a b : W) : W := a &&& b
def or (a b : W) : W := a ||| b
def add (a b : W) : W := a + b
def shr (r : Nat) (a : W) : W := a >>> r
def shl (r : Nat) (a : W) : W := a <<< r
/-- a word turned to the right -/
def rotr (r : Nat) (x : W) : W := or (shl (32 - r) x) (shr r x)
def low (x : W) : W := xor (xor (rotr 7 x) (rotr 18 x)) (shr 3 x)
def high (y : W) : W := xor (xor (rotr 17 y) (rotr 19 y)) (shr 10 y)
/-- a byte as a word -/
def bw (b : UInt8) : W := BitVec.ofNat 32 b.toNat
theorem bw_toNat (b : UInt8) : (bw b).toNat = b.toNat := by
  unfold bw
  rw [BitVec.toNat_ofNat, Nat.mod_eq_of_lt]
  have := UInt8.toNat_lt b
  omega
/-- four bytes as a word -/
def word (b0 b1 b2 b3 : UInt8) : W := or (or (or (shl 24 (bw b0)) (shl 16 (bw b1))) (shl 8 (bw b2))) (bw b3)
def wordAt (b : List UInt8) (i : Nat) : W := word (b.getD (4 * i) 0) (b.getD (4 * i + 1) 0) (b.getD (4 * i + 2) 0) (b.getD (4 * i + 3) 0)
def next (x16 x15 x7 x2 : W) : W := add (add (add x16 (low x15)) x7) (high x2)
/-- the first words of a block -/
def sched (b : List UInt8) : Nat → List W
  | 0 => []
  | i + 1 => sched b i ++ [if i < 16 then wordAt b i else next ((sched b i).getD (i - 16) 0) ((sched b i).getD (i - 15) 0) ((sched b i).getD (i - 7) 0) ((sched b i).getD (i - 2) 0)]
theorem sched_length (b : List UInt8) (i : Nat) : (sched b i).length = i := by
  induction i with
  | zero => rfl
  | succ i ih => simp [sched, ih]
theorem sched_get (b : List UInt8) (i j : Nat) (h : j < i) : (sched b i).getD j 0 = (sched b (j + 1)).getD j 0 := by
  induction i with
  | zero => omega
  | succ i ih =>
    by_cases hj : j = i
    · rw [hj]
    · have : j < i := by omega
      rw [← ih this]
      simp only [sched]
      rw [List.getD_eq_getElem?_getD, List.getElem?_append_left (by rw [sched_length]; exact this), List.getD_eq_getElem?_getD]

def kTab : List W := [0x428a2f98#32, 0x71374491#32, 0xb5c0fbcf#32, 0xe9b5dba5#32, 0x3956c25b#32, 0x59f111f1#32, 0x923f82a4#32, 0xab1c5ed5#32, 0xd807aa98#32, 0x12835b01#32, 0x243185be#32, 0x550c7dc3#32, 0x72be5d74#32, 0x80deb1fe#32, 0x9bdc06a7#32, 0xc19bf174#32, 0xe49b69c1#32, 0xefbe4786#32, 0x0fc19dc6#32, 0x240ca1cc#32, 0x2de92c6f#32, 0x4a7484aa#32, 0x5cb0a9dc#32, 0x76f988da#32, 0x983e5152#32, 0xa831c66d#32, 0xb00327c8#32, 0xbf597fc7#32, 0xc6e00bf3#32, 0xd5a79147#32, 0x06ca6351#32, 0x14292967#32, 0x27b70a85#32, 0x2e1b2138#32, 0x4d2c6dfc#32, 0x53380d13#32, 0x650a7354#32, 0x766a0abb#32, 0x81c2c92e#32, 0x92722c85#32, 0xa2bfe8a1#32, 0xa81a664b#32, 0xc24b8b70#32, 0xc76c51a3#32, 0xd192e819#32, 0xd6990624#32, 0xf40e3585#32, 0x106aa070#32, 0x19a4c116#32, 0x1e376c08#32, 0x2748774c#32, 0x34b0bcb5#32, 0x391c0cb3#32, 0x4ed8aa4a#32, 0x5b9cca4f#32, 0x682e6ff3#32, 0x748f82ee#32, 0x78a5636f#32, 0x84c87814#32, 0x8cc70208#32, 0x90befffa#32, 0xa4506ceb#32, 0xbef9a3f7#32, 0xc67178f2#32]
def hTab : List W := [0x6a09e667#32, 0xbb67ae85#32, 0x3c6ef372#32, 0xa54ff53a#32, 0x510e527f#32, 0x9b05688c#32, 0x1f83d9ab#32, 0x5be0cd19#32]

structure St where
  a : W
  b : W
  c : W
  d : W
  e : W
  f : W
  g : W
  h : W

def one (v : St) (k w : W) : W := add (add (add (add v.h (xor (xor (rotr 6 v.e) (rotr 11 v.e)) (rotr 25 v.e))) (xor v.g (and v.e (xor v.f v.g)))) k) w
def two (v : St) : W := add (xor (xor (rotr 2 v.a) (rotr 13 v.a)) (rotr 22 v.a)) (or (and v.a v.b) (and v.c (or v.a v.b)))
def round (v : St) (k w : W) : St := ⟨add (one v k w) (two v), v.a, v.b, v.c, add v.d (one v k w), v.e, v.f, v.g⟩
/-- the first rounds of a block -/
def rounds (b : List UInt8) (v : St) : Nat → St
  | 0 => v
  | i + 1 => round (rounds b v i) (kTab.getD i 0) ((sched b 64).getD i 0)
def St.plus (s v : St) : St := ⟨add s.a v.a, add s.b v.b, add s.c v.c, add s.d v.d, add s.e v.e, add s.f v.f, add s.g v.g, add s.h v.h⟩
def take (s : St) (b : List UInt8) : St := s.plus (rounds b s 64)
def start : St := ⟨0x6a09e667#32, 0xbb67ae85#32, 0x3c6ef372#32, 0xa54ff53a#32, 0x510e527f#32, 0x9b05688c#32, 0x1f83d9ab#32, 0x5be0cd19#32⟩
end Go.Proofs.Ytefalfalapnllaa.Sha
