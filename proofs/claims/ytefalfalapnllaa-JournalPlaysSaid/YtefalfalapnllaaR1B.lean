/- The document's filled text, cut into blocks, is the blocks of the text. -/
import Derived.Test.YtefalfalapnllaaR1F
namespace Go.Proofs.Ytefalfalapnllaa.Sha
theorem full_left (a b : List UInt8) (i : Nat) (h : 64 * i + 64 ≤ a.length) : full (a ++ b) i = full a i := by
  unfold full
  rw [List.drop_append_of_le_length (by omega), List.take_append_of_le_length (by rw [List.length_drop]; omega)]
theorem zeros_add (a b : Nat) : zeros (a + b) = zeros a ++ zeros b := by
  unfold zeros
  rw [List.replicate_append_replicate]
theorem zeros_length (a : Nat) : (zeros a).length = a := by simp [zeros]
theorem blocks_filled (c : List UInt8) : (List.range ((filled c).length / 64)).map (full (filled c)) = blocks c := by
  have hl := filled_length c
  have hr := rest_length c
  have hlt : c.length % 64 < 64 := Nat.mod_lt _ (by decide)
  have hsplit : filled c = c.take (64 * (c.length / 64)) ++ (rest c ++ (128 :: zeros (padN c.length) ++ lenB c.length)) := by
    unfold filled rest
    rw [← List.append_assoc, List.take_append_drop]
    simp
  have htl : (c.take (64 * (c.length / 64))).length = 64 * (c.length / 64) := by
    rw [List.length_take]
    omega
  have hleft : (List.range (c.length / 64)).map (full (filled c)) = (List.range (c.length / 64)).map (full c) := by
    refine List.map_congr_left fun i hi => ?_
    rw [List.mem_range] at hi
    have e : filled c = c ++ (128 :: zeros (padN c.length) ++ lenB c.length) := by unfold filled; simp
    rw [e]
    exact full_left _ _ _ (by omega)
  have hdrop : ∀ k, (filled c).drop (64 * (c.length / 64) + k) = (rest c ++ (128 :: zeros (padN c.length) ++ lenB c.length)).drop k := fun k => by
    rw [hsplit, ← List.drop_drop, List.drop_left' htl]
  unfold blocks tail
  split
  · rename_i h56
    have hp : padN c.length = 55 - (rest c).length := by unfold padN; omega
    have hn : (filled c).length / 64 = c.length / 64 + 1 := by omega
    rw [hn, List.range_succ, List.map_append, hleft]
    congr 1
    have := hdrop 0
    simp only [Nat.add_zero, List.drop_zero] at this
    simp only [List.map_cons, List.map_nil, full, this]
    rw [List.take_of_length_le (by simp [zeros_length, lenB_length]; omega), hp]
    simp
  · rename_i h56
    have hp : padN c.length = (63 - (rest c).length) + 56 := by unfold padN; omega
    have hn : (filled c).length / 64 = c.length / 64 + 1 + 1 := by omega
    rw [hn, List.range_succ, List.range_succ, List.map_append, List.map_append, hleft, List.append_assoc]
    congr 1
    have h0 := hdrop 0
    have h1 := hdrop 64
    simp only [Nat.add_zero, List.drop_zero] at h0
    have e : rest c ++ (128 :: zeros (padN c.length) ++ lenB c.length) = (rest c ++ 128 :: zeros (63 - (rest c).length)) ++ (zeros 56 ++ lenB c.length) := by
      rw [hp, zeros_add]
      simp
    have el : (rest c ++ 128 :: zeros (63 - (rest c).length)).length = 64 := by simp [zeros_length]; omega
    rw [e] at h0 h1
    simp only [List.map_cons, List.map_nil, full]
    rw [Nat.mul_add, Nat.mul_one, h0, h1, List.take_left' el, List.drop_left' el, List.take_of_length_le (by simp [zeros_length, lenB_length])]
    rfl
end Go.Proofs.Ytefalfalapnllaa.Sha
