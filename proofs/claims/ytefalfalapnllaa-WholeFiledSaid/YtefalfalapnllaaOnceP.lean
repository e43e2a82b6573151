/- Lamport's signatures over sums of bytes, plain: no program in sight. -/
import Derived.Test.YtefalfalapnllaaShaN
namespace Go.Proofs.Ytefalfalapnllaa.Once
open Sha

/-- how long a part is, in four bytes -/
def len4 (n : Nat) : List UInt8 := [UInt8.ofNat (n / 16777216 % 256), UInt8.ofNat (n / 65536 % 256), UInt8.ofNat (n / 256 % 256), UInt8.ofNat (n % 256)]
theorem len4_length (n : Nat) : (len4 n).length = 4 := rfl
/-- the bytes of parts for a purpose -/
def forB (purpose : List UInt8) (parts : List (List UInt8)) : List UInt8 := purpose ++ 0 :: parts.flatMap fun p => len4 p.length ++ p
def sumFor (purpose : List UInt8) (parts : List (List UInt8)) : List UInt8 := sum (forB purpose parts)
theorem sumFor_length (purpose : List UInt8) (parts : List (List UInt8)) : (sumFor purpose parts).length = 32 := rfl
def pSecret : List UInt8 := [115, 101, 99, 114, 101, 116]
def pHide : List UInt8 := [104, 105, 100, 101]
def pText : List UInt8 := [116, 101, 120, 116]
def pPublic : List UInt8 := [112, 117, 98, 108, 105, 99]
/-- the two lowest bytes of a number -/
def two (n : Int) : List UInt8 := [UInt8.ofNat (n / 256 % 256).toNat, UInt8.ofNat (n % 256).toNat]
def secret (seed : List UInt8) (num : Int) (bit side : Nat) : List UInt8 := sumFor pSecret [seed, two num ++ [UInt8.ofNat bit, UInt8.ofNat side]]
def hide (s : List UInt8) : List UInt8 := sumFor pHide [s]
/-- a bit of a sum -/
def bitOf (id : List UInt8) (i : Nat) : Nat := (id.getD (i / 8) 0).toNat / 2 ^ (7 - i % 8) % 2
def side (text : List UInt8) (i : Nat) : Nat := bitOf (sumFor pText [text]) i
theorem bitOf_lt (id : List UInt8) (i : Nat) : bitOf id i < 2 := Nat.mod_lt _ (by decide)
theorem side_lt (text : List UInt8) (i : Nat) : side text i < 2 := bitOf_lt _ _
/-- all pairs, one behind the other -/
def flat2 (h : Nat → Nat → List UInt8) (n : Nat) : List UInt8 := (List.range n).flatMap fun i => h i 0 ++ h i 1
def join (h : Nat → Nat → List UInt8) : List UInt8 := sumFor pPublic [flat2 h 64]
def pub (seed : List UInt8) (num : Int) : List UInt8 := join fun i s => hide (secret seed num i s)
def shown (seed : List UInt8) (num : Int) (text : List UInt8) (i : Nat) : List UInt8 := secret seed num i (side text i)
def other (seed : List UInt8) (num : Int) (text : List UInt8) (i : Nat) : List UInt8 := hide (secret seed num i (1 - side text i))
/-- what a signature's two rows are for a text -/
def sides2 (sh ot : Nat → List UInt8) (text : List UInt8) (i s : Nat) : List UInt8 := if s = side text i then hide (sh i) else ot i
def shows (sh ot : Nat → List UInt8) (text : List UInt8) : List UInt8 := join (sides2 sh ot text)
theorem flat2_congr {h k : Nat → Nat → List UInt8} (n : Nat) (e : ∀ i, i < n → ∀ s, s < 2 → h i s = k i s) : flat2 h n = flat2 k n := by
  induction n with
  | zero => rfl
  | succ n ih =>
    unfold flat2 at ih ⊢
    rw [List.range_succ, List.flatMap_append, List.flatMap_append, ih fun i hi => e i (by omega)]
    simp [e n (by omega) 0 (by omega), e n (by omega) 1 (by omega)]
theorem join_congr {h k : Nat → Nat → List UInt8} (e : ∀ i, i < 64 → ∀ s, s < 2 → h i s = k i s) : join h = join k := by
  unfold join
  rw [flat2_congr 64 e]
theorem flat2_length {h : Nat → Nat → List UInt8} (e : ∀ i s, (h i s).length = 32) (n : Nat) : (flat2 h n).length = 64 * n := by
  induction n with
  | zero => rfl
  | succ n ih =>
    unfold flat2 at ih ⊢
    rw [List.range_succ, List.flatMap_append, List.length_append, ih]
    simp [e]
    omega
/-- what a key's signature has on both sides of a bit are the key's own -/
theorem sides2_own (seed : List UInt8) (num : Int) (text : List UInt8) (i s : Nat) (hs : s < 2) : sides2 (shown seed num text) (other seed num text) text i s = hide (secret seed num i s) := by
  unfold sides2 shown other
  have := side_lt text i
  by_cases h : s = side text i
  · rw [if_pos h, h]
  · rw [if_neg h, show 1 - side text i = s by omega]
theorem shows_own (seed : List UInt8) (num : Int) (text : List UInt8) : shows (shown seed num text) (other seed num text) text = pub seed num :=
  join_congr fun i _ s hs => sides2_own seed num text i s hs
theorem two_low (n m : Int) (h : n % 65536 = m % 65536) : two n = two m := by
  unfold two
  rw [show n / 256 % 256 = m / 256 % 256 by omega, show n % 256 = m % 256 by omega]
theorem secret_low (seed : List UInt8) (n m : Int) (h : n % 65536 = m % 65536) (i s : Nat) : secret seed n i s = secret seed m i s := by unfold secret; rw [two_low n m h]
theorem pub_low (seed : List UInt8) (n m : Int) (h : n % 65536 = m % 65536) : pub seed n = pub seed m := join_congr fun i _ s _ => by rw [secret_low seed n m h]
theorem shown_low (seed : List UInt8) (n m : Int) (h : n % 65536 = m % 65536) (text : List UInt8) (i : Nat) : shown seed n text i = shown seed m text i := secret_low _ _ _ h _ _
theorem other_low (seed : List UInt8) (n m : Int) (h : n % 65536 = m % 65536) (text : List UInt8) (i : Nat) : other seed n text i = other seed m text i := by unfold other; rw [secret_low _ _ _ h]
end Go.Proofs.Ytefalfalapnllaa.Once
