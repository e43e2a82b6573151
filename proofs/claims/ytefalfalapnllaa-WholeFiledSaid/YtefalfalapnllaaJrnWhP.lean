/- A journal whose power went in the last record, and that crashed: opened again it is the journal of the records, with the last or without. Plain. -/
import Derived.Test.YtefalfalapnllaaJrnK
namespace Go.Proofs.Ytefalfalapnllaa
open Go.RowKit Go.Shelf
set_option linter.unusedVariables false
/-- the journal with power for so many steps -/
def JS.brk (j : JS) (n : Int) : JS := { j with s := { j.s with steps := max n (-1) } }
theorem bs_part (B R : List UInt8) (n : Nat) (h : B.length ≤ n) : (B ++ R).take n = B ++ R.take (n - B.length) := by
  rw [List.take_append, List.take_of_length_le h]
theorem whole_open (room : Int) (rs : List (List UInt8)) (x : List UInt8) (n keep : Int) (hds : ∀ d ∈ rs, d.length ≤ 300) (hx : x.length ≤ 300) (hr : (((Jrn.all Jrn.zero rs).length + 35 + x.length : Nat) : Int) ≤ room) :
    ∃ rs'', openOf ((((jof room rs).brk n).write x).1.s.crash keep) = (some (jof room rs''), 0) ∧ (rs'' = rs ++ [x] ∨ (rs'' = rs ∧ 0 ≤ n ∧ n ≤ 1)) := by
  obtain ⟨B, hB⟩ : ∃ B, B = Jrn.all Jrn.zero rs := ⟨_, rfl⟩
  obtain ⟨R, hR⟩ : ∃ R, R = Jrn.recB (Jrn.lastOf Jrn.zero rs) x := ⟨_, rfl⟩
  have hRl : R.length = 35 + x.length := by rw [hR, Jrn.recB_length]
  have hj : jof room rs = ⟨⟨room, B, (B.length : Nat), -1⟩, rs, Jrn.lastOf Jrn.zero rs, false⟩ := by rw [hB]; rfl
  have hBR : B ++ R = Jrn.all Jrn.zero (rs ++ [x]) := by rw [hB, hR, all_snoc]
  have hj2 : jof room (rs ++ [x]) = ⟨⟨room, B ++ R, ((B ++ R).length : Nat), -1⟩, rs ++ [x], Jrn.link (Jrn.lastOf Jrn.zero rs) x, false⟩ := by rw [hBR, ← Jrn.lastOf_append]; rfl
  have hds2 : ∀ d ∈ rs ++ [x], d.length < 16777216 := by
    intro d hd
    rcases List.mem_append.1 hd with h | h
    · have := hds d h; omega
    · simp at h; subst h; omega
  have ho1 : openOf ⟨room, B, (B.length : Nat), -1⟩ = (some (jof room rs), 0) := by
    rw [← jof_open room rs (fun d hd => by have := hds d hd; omega), hj]
  have ho2 : openOf ⟨room, B ++ R, ((B ++ R).length : Nat), -1⟩ = (some (jof room (rs ++ [x])), 0) := by
    rw [← jof_open room (rs ++ [x]) hds2, hj2]
  rw [← hB] at hr
  have hnf : ¬ (room - (B.length : Int) < (R.length : Int)) := by rw [hRl]; omega
  have hx2 : ¬ 262144 < x.length := by omega
  have hlen : (B ++ R).length = B.length + R.length := List.length_append
  have hcr : ∀ (sure st : Int), sure = (B ++ R).length → openOf ((⟨room, B ++ R, sure, st⟩ : SlabS).crash keep) = (some (jof room (rs ++ [x])), 0) := by
    intro sure st h
    rw [← ho2]
    congr 1
    simp only [SlabS.crash, SlabS.mk.injEq]
    have hm : max 0 (min keep (((B ++ R).length : Int) - sure)) = 0 := by omega
    rw [hm, h]
    refine ⟨trivial, ?_, by omega, trivial⟩
    rw [List.take_of_length_le]
    omega
  by_cases h0 : n = 0
  · subst h0
    have hw : (((jof room rs).brk 0).write x).1.s = ⟨room, B, (B.length : Nat), 0⟩ := by
      unfold JS.brk JS.write
      rw [hj]
      simp only [SlabS.append, ← hR, hnf, if_false, hx2, show (max (0 : Int) (-1)) = 0 from rfl, if_true]
      simp
    refine ⟨rs, ?_, .inr ⟨rfl, by omega, by omega⟩⟩
    rw [hw, ← ho1]
    congr 1
    simp only [SlabS.crash, SlabS.mk.injEq]
    have hm : max 0 (min keep ((B.length : Int) - (B.length : Int))) = 0 := by omega
    rw [hm]
    refine ⟨trivial, ?_, by omega, trivial⟩
    rw [List.take_of_length_le]
    omega
  · by_cases h1 : n = 1
    · subst h1
      have hw : (((jof room rs).brk 1).write x).1.s = ⟨room, B ++ R, (B.length : Nat), 0⟩ := by
        unfold JS.brk JS.write
        rw [hj]
        simp only [SlabS.append, SlabS.sync, SlabS.app, SlabS.stepped, ← hR, hnf, if_false, hx2, show (max (1 : Int) (-1)) = 1 from rfl, show (max ((1 : Int) - 1) (-1)) = 0 from rfl, if_true]
        simp
      rw [hw]
      obtain ⟨k, hk⟩ : ∃ k : Nat, (k : Int) = max 0 (min keep (R.length : Int)) := ⟨(max 0 (min keep (R.length : Int))).toNat, by omega⟩
      have hc : (⟨room, B ++ R, (B.length : Nat), 0⟩ : SlabS).crash keep = ⟨room, B ++ R.take k, ((B.length + k : Nat) : Int), -1⟩ := by
        simp only [SlabS.crash, SlabS.mk.injEq]
        have hm : max 0 (min keep (((B ++ R).length : Int) - (B.length : Nat))) = (k : Int) := by rw [hlen]; omega
        rw [hm]
        refine ⟨trivial, ?_, by omega, trivial⟩
        have e : (((B.length : Nat) : Int) + (k : Int)).toNat = B.length + k := by omega
        rw [e, bs_part _ _ _ (by omega)]
        congr 2
        omega
      rw [hc]
      by_cases hkl : k < R.length
      · refine ⟨rs, ?_, .inr ⟨rfl, by omega, by omega⟩⟩
        have hop := Jrn.opened_part rs x k (fun d hd => by have := hds d hd; omega) (by omega) (by rw [← hR]; exact hkl)
        rw [← hR, ← hB] at hop
        unfold openOf
        simp only
        rw [hop]
        simp only [List.length_append, List.length_take]
        have hmn : min k R.length = k := by omega
        rw [hmn]
        by_cases hk0 : k = 0
        · subst hk0
          rw [if_neg (by omega), hj]
          simp
        · rw [if_pos (by omega), if_neg (by omega), hj]
          simp only [SlabS.cut, SlabS.stepped, Option.some.injEq, Prod.mk.injEq, JS.mk.injEq, SlabS.mk.injEq, true_and, and_true]
          refine ⟨?_, by omega, by omega⟩
          simp
      · refine ⟨rs ++ [x], ?_, .inl rfl⟩
        rw [List.take_of_length_le (by omega), ← ho2]
        have hkk : k = R.length := by omega
        rw [hkk, hlen]
    · refine ⟨rs ++ [x], ?_, .inl rfl⟩
      have hst : max n (-1) ≠ 0 := by omega
      have hst1 : max (max n (-1) - 1) (-1) ≠ 0 := by omega
      have hw : ∃ st, (((jof room rs).brk n).write x).1.s = ⟨room, B ++ R, ((B ++ R).length : Nat), st⟩ := by
        unfold JS.brk JS.write
        rw [hj]
        simp only [SlabS.append, SlabS.sync, SlabS.synced, SlabS.app, SlabS.stepped, ← hR, hnf, if_false, hx2, hst, hst1]
        exact ⟨_, by simp; rfl⟩
      obtain ⟨st, hw⟩ := hw
      rw [hw]
      exact hcr _ st rfl
theorem scan_bound (b : List UInt8) : ∀ (f a : Nat) (rs : List (List UInt8)) (l : List UInt8) (a' : Nat) (rs' : List (List UInt8)) (l' : List UInt8), Jrn.scan b f a rs l = .stop a' rs' l' → (∀ d ∈ rs, d.length ≤ b.length) → 35 * rs.length ≤ a → a ≤ b.length →
    (∀ d ∈ rs', d.length ≤ b.length) ∧ 35 * rs'.length ≤ b.length
  | 0, a, rs, l, a', rs', l', h, h1, h2, h3 => by
    simp only [Jrn.scan, Jrn.Res.stop.injEq] at h
    obtain ⟨_, rfl, _⟩ := h
    exact ⟨h1, by omega⟩
  | f + 1, a, rs, l, a', rs', l', h, h1, h2, h3 => by
    unfold Jrn.scan at h
    split at h
    · simp only [Jrn.Res.stop.injEq] at h
      obtain ⟨_, rfl, _⟩ := h
      exact ⟨h1, by omega⟩
    · split at h
      · cases h
      · split at h
        · simp only [Jrn.Res.stop.injEq] at h
          obtain ⟨_, rfl, _⟩ := h
          exact ⟨h1, by omega⟩
        · split at h
          · cases h
          · refine scan_bound b f _ _ _ a' rs' l' h ?_ (by simp; omega) (by omega)
            intro d hd
            rcases List.mem_append.1 hd with hd | hd
            · exact h1 d hd
            · simp at hd
              subst hd
              unfold Jrn.dataAt
              simp
              omega
theorem openOf_bound {s : SlabS} {j : JS} {e : Int} (h : openOf s = (some j, e)) : (∀ d ∈ j.rs, d.length ≤ s.bs.length) ∧ 35 * j.rs.length ≤ s.bs.length := by
  unfold openOf at h
  cases ho : Jrn.opened s.bs with
  | torn => rw [ho] at h; simp at h
  | stop a rs l =>
    have hb := scan_bound s.bs s.bs.length 0 [] Jrn.zero a rs l ho (by simp) (by simp) (by omega)
    rw [ho] at h
    simp only at h
    split at h
    · split at h
      · simp at h
      · simp at h
        obtain ⟨rfl, _⟩ := h
        exact hb
    · simp at h
      obtain ⟨rfl, _⟩ := h
      exact hb
theorem scan_last (b : List UInt8) : ∀ (f a : Nat) (rs : List (List UInt8)) (l : List UInt8) (a' : Nat) (rs' : List (List UInt8)) (l' : List UInt8), Jrn.scan b f a rs l = .stop a' rs' l' → l.length = 32 → l'.length = 32
  | 0, a, rs, l, a', rs', l', h, h1 => by
    simp only [Jrn.scan, Jrn.Res.stop.injEq] at h
    obtain ⟨_, _, rfl⟩ := h
    exact h1
  | f + 1, a, rs, l, a', rs', l', h, h1 => by
    unfold Jrn.scan at h
    split at h
    · simp only [Jrn.Res.stop.injEq] at h
      obtain ⟨_, _, rfl⟩ := h
      exact h1
    · split at h
      · cases h
      · split at h
        · simp only [Jrn.Res.stop.injEq] at h
          obtain ⟨_, _, rfl⟩ := h
          exact h1
        · split at h
          · cases h
          · exact scan_last b f _ _ _ a' rs' l' h rfl
theorem openOf_last {s : SlabS} {j : JS} {e : Int} (h : openOf s = (some j, e)) : j.last.length = 32 := by
  unfold openOf at h
  cases ho : Jrn.opened s.bs with
  | torn => rw [ho] at h; simp at h
  | stop a rs l =>
    have hb := scan_last s.bs s.bs.length 0 [] Jrn.zero a rs l ho rfl
    rw [ho] at h
    simp only at h
    split at h
    · split at h
      · simp at h
      · simp at h
        obtain ⟨rfl, _⟩ := h
        exact hb
    · simp at h
      obtain ⟨rfl, _⟩ := h
      exact hb
theorem openOf_e {s : SlabS} {j : JS} {e : Int} (h : openOf s = (some j, e)) : e = 0 ∧ j.down = false := by
  unfold openOf at h
  cases ho : Jrn.opened s.bs with
  | torn => rw [ho] at h; simp at h
  | stop a rs l =>
    rw [ho] at h
    simp only at h
    split at h
    · split at h
      · simp at h
      · simp at h
        obtain ⟨rfl, rfl⟩ := h
        exact ⟨rfl, rfl⟩
    · simp at h
      obtain ⟨rfl, rfl⟩ := h
      exact ⟨rfl, rfl⟩
end Go.Proofs.Ytefalfalapnllaa
