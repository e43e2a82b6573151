/- A journal whose power went in the last record, and that crashed: opened again it is the journal of the records, with the last or without. Plain. -/
import Derived.Test.YtefalfalapnllaaJrnBound
namespace Go.Proofs.Ytefalfalapnllaa
open Go.RowKit Go.Shelf
set_option linter.unusedVariables false
/-- the journal with power for so many steps -/
def JS.brk (j : JS) (n : Int) : JS := { j with s := { j.s with steps := max n (-1) } }
theorem bs_part (B R : List UInt8) (n : Nat) (h : B.length ≤ n) : (B ++ R).take n = B ++ R.take (n - B.length) := by
  rw [List.take_append, List.take_of_length_le h]
theorem whole_open (room : Int) (rs : List (List UInt8)) (x : List UInt8) (n keep : Int) (hds : ∀ d ∈ rs, d.length ≤ 300) (hx : x.length ≤ 300) (hr : (((Jrn.all Jrn.zero rs).length + 35 + x.length : Nat) : Int) ≤ room) :
    ∃ rs'', openOf ((((jof room rs).brk n).write x).1.s.crash keep) = (some (jof room rs''), 0) ∧ (rs'' = rs ++ [x] ∨ (rs'' = rs ∧ 0 ≤ n ∧ n ≤ 1)) := by
  obtain ⟨B, hB⟩ : ∃ B, B = Jrn.all Jrn.zero rs := ⟨_, rfl⟩
  obtain ⟨R, hR⟩ : ∃ R, R = Jrn.recB (Jrn.lastOf Jrn.zero rs) x := ⟨_, rfl⟩
  have hRl : R.length = 35 + x.length := by rw [hR, Jrn.recB_length]
  have hj : jof room rs = ⟨⟨room, B, (B.length : Nat), -1⟩, rs, Jrn.lastOf Jrn.zero rs, false⟩ := by rw [hB]; rfl
  have hBR : B ++ R = Jrn.all Jrn.zero (rs ++ [x]) := by rw [hB, hR, all_snoc]
  have hj2 : jof room (rs ++ [x]) = ⟨⟨room, B ++ R, ((B ++ R).length : Nat), -1⟩, rs ++ [x], Jrn.link (Jrn.lastOf Jrn.zero rs) x, false⟩ := by rw [hBR, ← Jrn.lastOf_append]; rfl
  have hds2 : ∀ d ∈ rs ++ [x], d.length < 16777216 := by
    intro d hd
    rcases List.mem_append.1 hd with h | h
    · have := hds d h; omega
    · simp at h; subst h; omega
  have ho1 : openOf ⟨room, B, (B.length : Nat), -1⟩ = (some (jof room rs), 0) := by
    rw [← jof_open room rs (fun d hd => by have := hds d hd; omega), hj]
  have ho2 : openOf ⟨room, B ++ R, ((B ++ R).length : Nat), -1⟩ = (some (jof room (rs ++ [x])), 0) := by
    rw [← jof_open room (rs ++ [x]) hds2, hj2]
  rw [← hB] at hr
  have hnf : ¬ (room - (B.length : Int) < (R.length : Int)) := by rw [hRl]; omega
  have hx2 : ¬ 262144 < x.length := by omega
  have hlen : (B ++ R).length = B.length + R.length := List.length_append
  have hcr : ∀ (sure st : Int), sure = (B ++ R).length → openOf ((⟨room, B ++ R, sure, st⟩ : SlabS).crash keep) = (some (jof room (rs ++ [x])), 0) := by
    intro sure st h
    rw [← ho2]
    congr 1
    simp only [SlabS.crash, SlabS.mk.injEq]
    have hm : max 0 (min keep (((B ++ R).length : Int) - sure)) = 0 := by omega
    rw [hm, h]
    refine ⟨trivial, ?_, by omega, trivial⟩
    rw [List.take_of_length_le]
    omega
  by_cases h0 : n = 0
  · subst h0
    have hw : (((jof room rs).brk 0).write x).1.s = ⟨room, B, (B.length : Nat), 0⟩ := by
      unfold JS.brk JS.write
      rw [hj]
      simp only [SlabS.append, ← hR, hnf, if_false, hx2, show (max (0 : Int) (-1)) = 0 from rfl, if_true]
      simp
    refine ⟨rs, ?_, .inr ⟨rfl, by omega, by omega⟩⟩
    rw [hw, ← ho1]
    congr 1
    simp only [SlabS.crash, SlabS.mk.injEq]
    have hm : max 0 (min keep ((B.length : Int) - (B.length : Int))) = 0 := by omega
    rw [hm]
    refine ⟨trivial, ?_, by omega, trivial⟩
    rw [List.take_of_length_le]
    omega
  · by_cases h1 : n = 1
    · subst h1
      have hw : (((jof room rs).brk 1).write x).1.s = ⟨room, B ++ R, (B.length : Nat), 0⟩ := by
        unfold JS.brk JS.write
        rw [hj]
        simp only [SlabS.append, SlabS.sync, SlabS.app, SlabS.stepped, ← hR, hnf, if_false, hx2, show (max (1 : Int) (-1)) = 1 from rfl, show (max ((1 : Int) - 1) (-1)) = 0 from rfl, if_true]
        simp
      rw [hw]
      obtain ⟨k, hk⟩ : ∃ k : Nat, (k : Int) = max 0 (min keep (R.length : Int)) := ⟨(max 0 (min keep (R.length : Int))).toNat, by omega⟩
      have hc : (⟨room, B ++ R, (B.length : Nat), 0⟩ : SlabS).crash keep = ⟨room, B ++ R.take k, ((B.length + k : Nat) : Int), -1⟩ := by
        simp only [SlabS.crash, SlabS.mk.injEq]
        have hm : max 0 (min keep (((B ++ R).length : Int) - (B.length : Nat))) = (k : Int) := by rw [hlen]; omega
        rw [hm]
        refine ⟨trivial, ?_, by omega, trivial⟩
        have e : (((B.length : Nat) : Int) + (k : Int)).toNat = B.length + k := by omega
        rw [e, bs_part _ _ _ (by omega)]
        congr 2
        omega
      rw [hc]
      by_cases hkl : k < R.length
      · refine ⟨rs, ?_, .inr ⟨rfl, by omega, by omega⟩⟩
        have hop := Jrn.opened_part rs x k (fun d hd => by have := hds d hd; omega) (by omega) (by rw [← hR]; exact hkl)
        rw [← hR, ← hB] at hop
        unfold openOf
        simp only
        rw [hop]
        simp only [List.length_append, List.length_take]
        have hmn : min k R.length = k := by omega
        rw [hmn]
        by_cases hk0 : k = 0
        · subst hk0
          rw [if_neg (by omega), hj]
          simp
        · rw [if_pos (by omega), if_neg (by omega), hj]
          simp only [SlabS.cut, SlabS.stepped, Option.some.injEq, Prod.mk.injEq, JS.mk.injEq, SlabS.mk.injEq, true_and, and_true]
          refine ⟨?_, by omega, by omega⟩
          simp
      · refine ⟨rs ++ [x], ?_, .inl rfl⟩
        rw [List.take_of_length_le (by omega), ← ho2]
        have hkk : k = R.length := by omega
        rw [hkk, hlen]
    · refine ⟨rs ++ [x], ?_, .inl rfl⟩
      have hst : max n (-1) ≠ 0 := by omega
      have hst1 : max (max n (-1) - 1) (-1) ≠ 0 := by omega
      have hw : ∃ st, (((jof room rs).brk n).write x).1.s = ⟨room, B ++ R, ((B ++ R).length : Nat), st⟩ := by
        unfold JS.brk JS.write
        rw [hj]
        simp only [SlabS.append, SlabS.sync, SlabS.synced, SlabS.app, SlabS.stepped, ← hR, hnf, if_false, hx2, hst, hst1]
        exact ⟨_, by simp; rfl⟩
      obtain ⟨st, hw⟩ := hw
      rw [hw]
      exact hcr _ st rfl
end Go.Proofs.Ytefalfalapnllaa
