/- The blocks of a message, and the sum of it, plain. (Printed by gen_sha.py.) -/
import Derived.Test.YtefalfalapnllaaSha
namespace Go.Proofs.Ytefalfalapnllaa.Sha

/-- the whole blocks that lie in a message -/
def full (c : List UInt8) (i : Nat) : List UInt8 := (c.drop (64 * i)).take 64
/-- what is behind the last whole block -/
def rest (c : List UInt8) : List UInt8 := c.drop (64 * (c.length / 64))
/-- how many bits there were -/
def lenB (n : Nat) : List UInt8 := (List.range 8).map fun j => UInt8.ofNat (n * 8 / 2 ^ (8 * (7 - j)) % 256)
def zeros (n : Nat) : List UInt8 := List.replicate n 0
def tail (c : List UInt8) : List (List UInt8) :=
  if (rest c).length < 56 then [rest c ++ 128 :: zeros (55 - (rest c).length) ++ lenB c.length]
  else [rest c ++ 128 :: zeros (63 - (rest c).length), zeros 56 ++ lenB c.length]
def blocks (c : List UInt8) : List (List UInt8) := (List.range (c.length / 64)).map (full c) ++ tail c
theorem lenB_length (n : Nat) : (lenB n).length = 8 := by simp [lenB]
theorem rest_length (c : List UInt8) : (rest c).length = c.length % 64 := by
  unfold rest
  rw [List.length_drop]
  omega
theorem full_length (c : List UInt8) (i : Nat) (h : i < c.length / 64) : (full c i).length = 64 := by
  unfold full
  rw [List.length_take, List.length_drop]
  omega
theorem blocks_64 (c : List UInt8) (b : List UInt8) (h : b ∈ blocks c) : b.length = 64 := by
  unfold blocks at h
  rw [List.mem_append] at h
  rcases h with h | h
  · rw [List.mem_map] at h
    obtain ⟨i, hi, rfl⟩ := h
    exact full_length c i (by simpa using hi)
  · have hr := rest_length c
    have : c.length % 64 < 64 := Nat.mod_lt _ (by decide)
    unfold tail at h
    split at h
    · rw [List.mem_singleton] at h
      subst h
      simp [zeros, lenB_length]
      omega
    · simp only [List.mem_cons, List.not_mem_nil, or_false] at h
      rcases h with rfl | rfl
      · simp [zeros]
        omega
      · simp [zeros, lenB_length]
/-- a sum as bytes -/
def wordB (x : W) : List UInt8 := [UInt8.ofNat (x.toNat / 16777216), UInt8.ofNat (x.toNat / 65536 % 256), UInt8.ofNat (x.toNat / 256 % 256), UInt8.ofNat (x.toNat % 256)]
def St.bytes (s : St) : List UInt8 := wordB s.a ++ wordB s.b ++ wordB s.c ++ wordB s.d ++ wordB s.e ++ wordB s.f ++ wordB s.g ++ wordB s.h
/-- the sum of a message -/
def sum (c : List UInt8) : List UInt8 := ((blocks c).foldl take start).bytes
theorem sum_length (c : List UInt8) : (sum c).length = 32 := rfl
end Go.Proofs.Ytefalfalapnllaa.Sha
