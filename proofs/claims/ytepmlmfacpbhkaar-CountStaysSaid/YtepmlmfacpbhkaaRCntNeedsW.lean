/- CountNeeds, walked. -/
import Derived.Test.YtepmlmfacpbhkaaRCntI
namespace Go.Proofs.YtepmlmfacpbhkaaR
open Go.RowKit Go.Shelf
set_option linter.unusedVariables false

theorem faults_is (n f : Int) (h : Cnt.faults n = f) (w : World) : Calls Try.prog 19 #[.int .i64 n] w fun e w' => e = .returned (.int .i64 f) ∧ w = w' := h ▸ faults_any n w
theorem need_is (n f : Int) (h : Cnt.need n = f) (w : World) : Calls Try.prog 20 #[.int .i64 n] w fun e w' => e = .returned (.int .i64 f) ∧ w = w' := h ▸ need_any n w
theorem new_below {w w' : World} (h : New w w') : Below w.heap.size w w' := Fr.below h (Nat.le_refl _) (fun _ h => h.elim)

set_option maxRecDepth 20000 in
theorem countNeeds_walk (n : Int) (w : World) : Calls Try.prog 4 #[.int .i64 n] w fun e w' => e = .returned (.bool true) ∧ Below w.heap.size w w' := by
  by_cases h1 : n = 1
  · subst h1
    go_enter Try.func4, Try.ntmps4
    go_wp2_with (first
      | (go_at_call 14; refine (counts_any _).mono ?_; rintro e w' ⟨rfl, hN⟩)
      | (go_at_call 19; refine (faults_is 1 0 rfl _).mono ?_; rintro e w' ⟨rfl, rfl⟩)
      | (go_at_call 20; refine (need_is 1 1 rfl _).mono ?_; rintro e w' ⟨rfl, rfl⟩))
    go_ret
    exact ⟨rfl, new_below hN⟩
  · by_cases h4 : n = 4
    · subst h4
      go_enter Try.func4, Try.ntmps4
      go_wp2_with (first
        | (go_at_call 14; refine (counts_any _).mono ?_; rintro e w' ⟨rfl, hN⟩)
        | (go_at_call 19; refine (faults_is 4 1 rfl _).mono ?_; rintro e w' ⟨rfl, rfl⟩)
        | (go_at_call 20; refine (need_is 4 3 rfl _).mono ?_; rintro e w' ⟨rfl, rfl⟩))
      go_ret
      exact ⟨rfl, new_below hN⟩
    · by_cases h7 : n = 7
      · subst h7
        go_enter Try.func4, Try.ntmps4
        go_wp2_with (first
          | (go_at_call 14; refine (counts_any _).mono ?_; rintro e w' ⟨rfl, hN⟩)
          | (go_at_call 19; refine (faults_is 7 2 rfl _).mono ?_; rintro e w' ⟨rfl, rfl⟩)
          | (go_at_call 20; refine (need_is 7 5 rfl _).mono ?_; rintro e w' ⟨rfl, rfl⟩))
        go_ret
        exact ⟨rfl, new_below hN⟩
      · have hf : Cnt.faults n = -1 := by unfold Cnt.faults; rw [if_neg h1, if_neg h4, if_neg h7]
        have q1 : (n != 1) = true := by simpa using h1
        have q4 : (n != 4) = true := by simpa using h4
        have q7 : (n != 7) = true := by simpa using h7
        have HF := Lib.hid hf
        clear hf
        go_enter Try.func4, Try.ntmps4
        go_wp2_with (first
          | (go_at_call 14; refine (counts_any _).mono ?_; rintro e w' ⟨rfl, hN⟩)
          | (go_at_call 19; refine (faults_is n (-1) HF.out _).mono ?_; rintro e w' ⟨rfl, rfl⟩))
        go_ret
        exact ⟨rfl, new_below hN⟩
end Go.Proofs.YtepmlmfacpbhkaaR
