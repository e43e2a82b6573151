/- Laws on built arrays; the small functions of count: Faults, Need, Nil, right. -/
import Derived.Test.YtepmlmfacpbhkaaRCnt
import Derived.StillTailTactics
import Derived.Outline
import Derived.IntWalk
import Derived.Deep.CutBlock
import Derived.Deep.DeepCutAuto
namespace Go.Proofs.YtepmlmfacpbhkaaR
open Go.RowKit Go.Shelf
set_option linter.unusedVariables false

section
variable {P : Program} {o : Oper} {ev : Operand → Value} {w : World} {T : TypeId}
/-- an array that is built out of nothing -/
theorem exec_build0 {i : TypeInfo} {Z : Array Value} {m : Nat} {e : TypeId} {s : Nat} (ho : o.op = .build T #[]) (hi : P.info? T = some i) (hz : i.zero = some (.agg Z)) (hu : P.underlying T = some (.array m e))
    (hsz : ∀ w, (sizeOf e).run P w = .ok s w) : (execOp ev o).run P w = .ok (.value (.agg Z)) w := by
  unfold execOp
  simp [ho, Instr.build, zeroValue, typeInfo, hi, hz, run_underlying hu, hsz, Instr.fill, Value.cells]
/-- cells laid over others -/
theorem splice (X : List Value) : ∀ (cs : List Value) (off k : Nat), off + k + X.length ≤ cs.length →
    ((X.zipIdx k).foldl (fun (cs : Array Value) (p : Value × Nat) => cs.setIfInBounds (off + p.2) p.1) cs.toArray) = (cs.take (off + k) ++ X ++ cs.drop (off + k + X.length)).toArray := by
  induction X with
  | nil => intro cs off k h; simp
  | cons x X ih =>
    intro cs off k h
    simp only [List.length_cons] at h
    rw [List.zipIdx_cons, List.foldl_cons]
    have e : (cs.toArray.setIfInBounds (off + k) x) = (cs.set (off + k) x).toArray := by simp
    simp only [e]
    rw [ih (cs.set (off + k) x) off (k + 1) (by simp; omega)]
    congr 1
    have e2 : (cs.set (off + k) x).take (off + (k + 1)) = cs.take (off + k) ++ [x] := by
      have : off + (k + 1) = (off + k) + 1 := by omega
      rw [this, List.take_add_one, List.take_set_of_le (Nat.le_refl _), List.getElem?_set_self (by omega)]
      rfl
    have e3 : (cs.set (off + k) x).drop (off + (k + 1) + X.length) = cs.drop (off + k + (x :: X).length) := by
      rw [List.drop_set_of_lt (by omega)]
      congr 1
      simp
      omega
    rw [e2, e3]
    simp
/-- a vote that is built -/
theorem exec_build_vote {X : Array Value} {x y : Operand} (ho : o.op = .build 90 #[(0, x), (1, y)]) (hx : ev x = .bool true) (hy : ev y = .agg X) (hX : X.size = 32) :
    (execOp ev o).run Try.prog w = .ok (.value (.agg (.bool true :: X.toList).toArray)) w := by
  have h1 : (zeroValue 90).run Try.prog w = .ok (.agg (vcells none).toArray) w := by kernel_rfl
  have h3 : ∀ w, (sizeOf 4).run Try.prog w = .ok 1 w := fun w => by kernel_rfl
  have h4 : ∀ w, (sizeOf 32).run Try.prog w = .ok 32 w := fun w => by kernel_rfl
  have hs1 := splice [.bool true] (vcells none) 0 0 (by decide +kernel)
  have hs2 := splice X.toList (.bool true :: Cnt.z.map bv) 1 0 (by simp [hX, Cnt.z_length])
  have e1 : ((vcells none).take 0 ++ [.bool true] ++ (vcells none).drop 1) = .bool true :: Cnt.z.map bv := rfl
  have e2 : (List.take 1 (.bool true :: Cnt.z.map bv) ++ X.toList ++ List.drop (1 + X.toList.length) (.bool true :: Cnt.z.map bv)) = .bool true :: X.toList := by
    have : List.drop (1 + X.toList.length) (.bool true :: Cnt.z.map bv) = [] := List.drop_of_length_le (by simp [hX, Cnt.z_length])
    rw [this]
    simp
  have hl : (vcells none).length = 33 := rfl
  have e3 : (vcells none).set 0 (.bool true) = .bool true :: Cnt.z.map bv := rfl
  have hne : vcells none ≠ [] := by simp [vcells]
  have hf : Array.foldl (fun (cs : Array Value) (x : Value × Nat) => cs.setIfInBounds (1 + x.2) x.1) (.bool true :: Cnt.z.map bv).toArray X.zipIdx 0 32 = (.bool true :: X.toList).toArray := by
    have h32 : X.zipIdx.size = 32 := by simp [hX]
    rw [← h32, ← Array.foldl_toList, Array.toList_zipIdx, hs2]
    simp only [Nat.add_zero]
    rw [e2]
  unfold execOp
  simp [ho, Instr.build, h1, run_underlying Try.underlying90, h3, h4, hx, hy, Instr.fill, Value.cells, hX, hl, hne, e3, hf]
end

theorem faults_any (n : Int) (w : World) : Calls Try.prog 19 #[.int .i64 n] w fun e w' => e = .returned (.int .i64 (Cnt.faults n)) ∧ w = w' := by
  by_cases h1 : n = 1
  · subst h1
    go_enter Try.func19, Try.ntmps19
    go_wp2
    go_ret
    exact ⟨rfl, rfl⟩
  · by_cases h4 : n = 4
    · subst h4
      go_enter Try.func19, Try.ntmps19
      go_wp2
      go_ret
      exact ⟨rfl, rfl⟩
    · by_cases h7 : n = 7
      · subst h7
        go_enter Try.func19, Try.ntmps19
        go_wp2
        go_ret
        exact ⟨rfl, rfl⟩
      · have q1 : (n != 1) = true := by simpa using h1
        have q4 : (n != 4) = true := by simpa using h4
        have q7 : (n != 7) = true := by simpa using h7
        have hf : Cnt.faults n = -1 := by unfold Cnt.faults; rw [if_neg h1, if_neg h4, if_neg h7]
        rw [hf]
        clear hf
        go_enter Try.func19, Try.ntmps19
        go_wp2
        go_ret
        exact ⟨rfl, rfl⟩
theorem need_any (n : Int) (w : World) : Calls Try.prog 20 #[.int .i64 n] w fun e w' => e = .returned (.int .i64 (Cnt.need n)) ∧ w = w' := by
  have hf : -1 ≤ Cnt.faults n ∧ Cnt.faults n ≤ 2 := by unfold Cnt.faults; repeat (split <;> try omega)
  unfold Cnt.need
  obtain ⟨h0, h2⟩ := hf
  go_enter Try.func20, Try.ntmps20
  go_wp2_with (go_at_call 19; refine (faults_any _ _).mono ?_; rintro e w' ⟨rfl, rfl⟩)
  go_ret
  exact ⟨rfl, rfl⟩
theorem rfaults_any (n : Int) (w : World) : Calls Try.prog 15 #[.int .i64 n] w fun e w' => e = .returned (.int .i64 (Cnt.faults n)) ∧ w = w' := by
  by_cases h1 : n = 1
  · subst h1
    go_enter Try.func15, Try.ntmps15
    go_wp2
    go_ret
    exact ⟨rfl, rfl⟩
  · by_cases h4 : n = 4
    · subst h4
      go_enter Try.func15, Try.ntmps15
      go_wp2
      go_ret
      exact ⟨rfl, rfl⟩
    · by_cases h7 : n = 7
      · subst h7
        go_enter Try.func15, Try.ntmps15
        go_wp2
        go_ret
        exact ⟨rfl, rfl⟩
      · have q1 : (n == 1) = false := by simpa using h1
        have q4 : (n == 4) = false := by simpa using h4
        have q7 : (n == 7) = false := by simpa using h7
        have hf : Cnt.faults n = -1 := by unfold Cnt.faults; rw [if_neg h1, if_neg h4, if_neg h7]
        rw [hf]
        clear hf
        go_enter Try.func15, Try.ntmps15
        go_wp2
        go_ret
        exact ⟨rfl, rfl⟩
set_option maxHeartbeats 1000000 in
theorem right_any (w : World) (g n : Nat) (r k i : Int) (hg : w.cell? ⟨g, 0, none⟩ = some (.int .i64 n)) :
    Calls Try.prog 42 #[.pointer (some ⟨g, 0, none⟩), .int .i64 r, .int .i64 k, .int .i64 i] w fun e w' => e = .returned (.bool (Cnt.right n r k i)) ∧ w = w' := by
  by_cases h1 : 0 ≤ r
  · by_cases h2 : r < 12
    · by_cases h3 : k = 0
      · subst h3
        by_cases h5 : 0 ≤ i
        · by_cases h6 : i < n
          · have e : Cnt.right n r 0 i = true := by simp [Cnt.right]; omega
            rw [e]; clear e
            go_enter Try.func42, Try.ntmps42
            go_wp2
            go_ret
            exact ⟨rfl, rfl⟩
          · have e : Cnt.right n r 0 i = false := by simp [Cnt.right]; omega
            rw [e]; clear e
            have d6 : decide (i < (n : Int)) = false := by simpa using h6
            go_enter Try.func42, Try.ntmps42
            go_wp2
            go_ret
            exact ⟨rfl, rfl⟩
        · have e : Cnt.right n r 0 i = false := by simp [Cnt.right]; omega
          rw [e]; clear e
          have d5 : decide (0 ≤ i) = false := by simpa using h5
          go_enter Try.func42, Try.ntmps42
          go_wp2
          go_ret
          exact ⟨rfl, rfl⟩
      · by_cases h4 : k = 1
        · subst h4
          by_cases h5 : 0 ≤ i
          · by_cases h6 : i < n
            · have e : Cnt.right n r 1 i = true := by simp [Cnt.right]; omega
              rw [e]; clear e
              go_enter Try.func42, Try.ntmps42
              go_wp2
              go_ret
              exact ⟨rfl, rfl⟩
            · have e : Cnt.right n r 1 i = false := by simp [Cnt.right]; omega
              rw [e]; clear e
              have d6 : decide (i < (n : Int)) = false := by simpa using h6
              go_enter Try.func42, Try.ntmps42
              go_wp2
              go_ret
              exact ⟨rfl, rfl⟩
          · have e : Cnt.right n r 1 i = false := by simp [Cnt.right]; omega
            rw [e]; clear e
            have d5 : decide (0 ≤ i) = false := by simpa using h5
            go_enter Try.func42, Try.ntmps42
            go_wp2
            go_ret
            exact ⟨rfl, rfl⟩
        · have q3 : (k == 0) = false := by simpa using h3
          have q4 : (k == 1) = false := by simpa using h4
          have e : Cnt.right n r k i = false := by simp [Cnt.right]; omega
          rw [e]; clear e
          go_enter Try.func42, Try.ntmps42
          go_wp2
          go_ret
          exact ⟨rfl, rfl⟩
    · have e : Cnt.right n r k i = false := by simp [Cnt.right]; omega
      rw [e]; clear e
      have d2 : decide (r < 12) = false := by simpa using h2
      go_enter Try.func42, Try.ntmps42
      go_wp2
      go_ret
      exact ⟨rfl, rfl⟩
  · have e : Cnt.right n r k i = false := by simp [Cnt.right]; omega
    rw [e]; clear e
    have d1 : decide (0 ≤ r) = false := by simpa using h1
    go_enter Try.func42, Try.ntmps42
    go_wp2
    go_ret
    exact ⟨rfl, rfl⟩
end Go.Proofs.YtepmlmfacpbhkaaR
