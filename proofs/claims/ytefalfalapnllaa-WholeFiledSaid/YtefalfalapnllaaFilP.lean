/- Package pack, plain: a message's bytes. -/
import Derived.Test.YtefalfalapnllaaJrnP
namespace Go.Proofs.Ytefalfalapnllaa
set_option linter.unusedVariables false
namespace Pk
/-- a number's bytes, the highest first -/
def numB (n : Nat) : List UInt8 := if h : n = 0 then [] else numB (n / 256) ++ [UInt8.ofNat (n % 256)]
termination_by n
decreasing_by omega
theorem numB_zero : numB 0 = [] := by unfold numB; simp
theorem numB_pos (n : Nat) (h : n ≠ 0) : numB n = numB (n / 256) ++ [UInt8.ofNat (n % 256)] := by
  rw [numB.eq_1, dif_neg h]
def dec (a : Nat) (b : List UInt8) : Nat := b.foldl (fun a x => a * 256 + x.toNat) a
theorem dec_append (a : Nat) (b c : List UInt8) : dec a (b ++ c) = dec (dec a b) c := by unfold dec; rw [List.foldl_append]
theorem dec_numB (n : Nat) : dec 0 (numB n) = n := by
  induction n using Nat.strongRecOn with
  | _ n ih =>
    by_cases h : n = 0
    · subst h; rw [numB_zero]; rfl
    · rw [numB_pos n h, dec_append, ih (n / 256) (by omega)]
      unfold dec
      simp only [List.foldl_cons, List.foldl_nil, UInt8.toNat_ofNat']
      omega
theorem numB_length (k : Nat) : ∀ n, n < 256 ^ k → (numB n).length ≤ k := by
  induction k with
  | zero =>
    intro n h
    have : n = 0 := by simpa using h
    subst this
    rw [numB_zero]
    simp
  | succ k ih =>
    intro n h
    by_cases h0 : n = 0
    · subst h0; rw [numB_zero]; simp
    · rw [numB_pos n h0, List.length_append]
      have := ih (n / 256) (by rw [Nat.pow_succ] at h; omega)
      simp
      exact this
theorem numB_ne (n : Nat) (h : n ≠ 0) : numB n ≠ [] := by
  rw [numB_pos n h]
  simp
theorem numB_head (n : Nat) (h : n ≠ 0) : (numB n).getD 0 0 ≠ 0 := by
  induction n using Nat.strongRecOn with
  | _ n ih =>
    rw [numB_pos n h]
    by_cases h2 : n / 256 = 0
    · rw [h2, numB_zero]
      simp only [List.nil_append, List.getD_cons_zero]
      intro e
      have := congrArg UInt8.toNat e
      simp only [UInt8.toNat_ofNat'] at this
      have e0 : (0 : UInt8).toNat = 0 := rfl
      rw [e0] at this
      omega
    · have := ih (n / 256) (by omega) h2
      have hne := numB_ne _ h2
      cases hc : numB (n / 256) with
      | nil => exact absurd hc hne
      | cons x t =>
        rw [hc] at this
        simpa using this
/-- bytes with how many they are, ahead -/
def runB (b : List UInt8) : List UInt8 := Jrn.dig b.length ++ b
theorem runB_length (b : List UInt8) : (runB b).length = 3 + b.length := by unfold runB; rw [List.length_append, Jrn.dig_length]
/-- a message without a list in it -/
structure Msg where
  kind : Int
  nums : List Int
  id : List UInt8
  data : List UInt8
  ids : List (List UInt8)
/-- its numbers as fields, from the i-th on -/
def numF : Nat → List Int → List (UInt8 × List UInt8)
  | _, [] => []
  | i, n :: ns => (if n = 0 then [] else [(UInt8.ofNat (1 + i), numB n.toNat)]) ++ numF (i + 1) ns
def fields (m : Msg) : List (UInt8 × List UInt8) :=
  numF 0 m.nums ++ (if m.id = List.replicate 32 0 then [] else [(6, m.id)]) ++ (if m.data = [] then [] else [(7, m.data)]) ++ (if m.ids = [] then [] else [(8, m.ids.flatten)])
def fieldsB (fs : List (UInt8 × List UInt8)) : List UInt8 := fs.flatMap fun f => f.1 :: runB f.2
def msgB (m : Msg) : List UInt8 := UInt8.ofNat m.kind.toNat :: fieldsB (fields m)
theorem fieldsB_snoc (fs : List (UInt8 × List UInt8)) (f : UInt8 × List UInt8) : fieldsB (fs ++ [f]) = fieldsB fs ++ (f.1 :: runB f.2) := by unfold fieldsB; rw [List.flatMap_append]; simp
end Pk
end Go.Proofs.Ytefalfalapnllaa
