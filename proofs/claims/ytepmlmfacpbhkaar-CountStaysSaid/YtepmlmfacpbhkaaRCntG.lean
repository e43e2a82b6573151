/- Ahead: the greatest round in which more voted than may be faulty. -/
import Derived.Test.YtepmlmfacpbhkaaRCntF
import Derived.Deep.LoopGhost
import Derived.WalkMore
namespace Go.Proofs.YtepmlmfacpbhkaaR
open Go.RowKit Go.Shelf
set_option linter.unusedVariables false

namespace Cnt
def aheadFrom (n : Nat) (V : Tab) (round : Int) : Nat → Option Nat
  | 0 => none
  | m + 1 => if round < m then (if faults n + 1 ≤ (voted n V m : Int) then some m else aheadFrom n V round m) else none
def ahead (n : Nat) (V : Tab) (round : Int) : Option Nat := aheadFrom n V round 12
theorem voted_succ (j : Nat) (V : Tab) (r : Nat) : voted (j + 1) V r = voted j V r + if (V r 0 j).isSome || (V r 1 j).isSome then 1 else 0 := by
  unfold voted
  rw [List.range_succ, List.filter_append, List.length_append]
  congr 1
  by_cases h : ((V r 0 j).isSome || (V r 1 j).isSome) = true <;> simp [List.filter_cons, h]
theorem voted_le (j d : Nat) (V : Tab) (r : Nat) : voted (j + d) V r ≤ voted j V r + d := by
  induction d with
  | zero => simp
  | succ d ih =>
    rw [← Nat.add_assoc, voted_succ]
    split <;> omega
theorem voted_mono (j d : Nat) (V : Tab) (r : Nat) : voted j V r ≤ voted (j + d) V r := by
  induction d with
  | zero => simp
  | succ d ih =>
    rw [← Nat.add_assoc, voted_succ]
    split <;> omega
end Cnt
def aheadV : Option Nat → Value
  | some r => .tuple #[.int .i64 r, .bool true]
  | none => .tuple #[.int .i64 0, .bool false]

set_option maxHeartbeats 2000000 in
set_option maxRecDepth 20000 in
theorem ahead_any (w : World) (g : Nat) (B : Nat → Nat → Nat) (n : Nat) (V : Cnt.Tab) (round : Int) (h : CntAt w g B n V) :
    Calls Try.prog 27 #[.pointer (some ⟨g, 0, none⟩), .int .i64 round] w fun e w' => e = .returned (aheadV (Cnt.ahead n V round)) ∧ w = w' := by
  have hv := h.voters
  have hnn := h.nn
  have hf : 0 ≤ Cnt.faults n ∧ Cnt.faults n + 1 ≤ n ∧ n ≤ 7 := by unfold Cnt.faults; rcases hnn with rfl | rfl | rfl <;> decide
  go_enter Try.func27, Try.ntmps27
  go_wp2
  go_step3
  go_wp2
  go_step3
  go_wp2
  go_loopg [6] 12 (fun m i W => m ≤ 12 ∧ i = .int .i64 ((m : Int) - 1) ∧ Cnt.ahead n V round = Cnt.aheadFrom n V round m ∧ w = W)
  case atStart => exact ⟨by omega, rfl, rfl, rfl⟩
  case round =>
    obtain ⟨hm, rfl, hah, rfl⟩ := hrel
    cases gk with
    | zero =>
      have e0 : (((0 : Nat) : Int) - 1) = -1 := rfl
      rw [e0]
      clear e0
      by_cases hr : round < -1
      · go_wp2
        try rw [Exit.noGoto_ret]
        go_ret2
        exact ⟨by rw [hah]; rfl, rfl⟩
      · have d1 : decide (round < -1) = false := by simp; omega
        go_wp2
        try rw [Exit.noGoto_ret]
        go_ret2
        exact ⟨by rw [hah]; rfl, rfl⟩
    | succ m =>
      have e0 : (((m + 1 : Nat) : Int) - 1) = m := by omega
      rw [e0]
      clear e0
      by_cases hr : round < m
      · have hah2 : Cnt.ahead n V round = if Cnt.faults n + 1 ≤ (Cnt.voted n V m : Int) then some m else Cnt.aheadFrom n V round m := by rw [hah]; simp [Cnt.aheadFrom, hr]
        have s0 := h.slot m 0 (by omega) (by omega)
        have s1 := h.slot m 1 (by omega) (by omega)
        rw [Nat.add_zero] at s0
        clear hah
        have hm12 : (m : Int) < 12 := by omega
        have HH := Lib.hid hah2
        clear hah2
        go_wp2_with (go_at_call 19; refine (faults_any _ _).mono ?_; rintro e w' ⟨rfl, rfl⟩)
        go_loopg [7, 28] n (fun q s7 s28 W => ∃ j : Nat, j + q = n ∧ s28 = .int .i64 j ∧ s7 = .int .i64 (Cnt.faults n + 1 - (Cnt.voted j V m : Int)) ∧ (Cnt.voted j V m : Int) ≤ Cnt.faults n ∧ w = W)
        case atStart => exact ⟨0, by omega, rfl, by simp [Cnt.voted], by simp [Cnt.voted]; omega, rfl⟩
        case round =>
          obtain ⟨j, hjq, rfl, rfl, hle, rfl⟩ := hrel
          cases gk with
          | zero =>
            obtain rfl : j = n := by omega
            have d1 : decide ((j : Int) < (j : Int)) = false := by simp
            go_wp2
            go_roundg m
            case rel =>
              refine ⟨by omega, rfl, ?_, rfl⟩
              rw [HH.out, if_neg (by omega)]
            case measure => omega
          | succ q =>
            have hjn : j < n := by omega
            have hjn' : (j : Int) < n := by omega
            have k0 := h.cast (r := m) (k := 0) (by omega) (by omega) hjn
            have k1 := h.cast (r := m) (k := 1) (by omega) (by omega) hjn
            have hvs := Lib.hid (Cnt.voted_succ j V m)
            have hvl := Lib.hid (show Cnt.voted n V m ≤ Cnt.voted (j + 1) V m + (n - (j + 1)) by have := Cnt.voted_le (j + 1) (n - (j + 1)) V m; rwa [show j + 1 + (n - (j + 1)) = n by omega] at this)
            have hvm := Lib.hid (show Cnt.voted (j + 1) V m ≤ Cnt.voted n V m by have := Cnt.voted_mono (j + 1) (n - (j + 1)) V m; rwa [show j + 1 + (n - (j + 1)) = n by omega] at this)
            cases h0 : (V m 0 j).isSome with
            | true =>
              rw [h0] at k0
              have hvs' := Lib.hid (show Cnt.voted (j + 1) V m = Cnt.voted j V m + 1 by rw [hvs.out, h0]; simp)
              go_wp2
              all_goals
                have q1 := hvs'.out
                have q2 := hvl.out
                have q3 := hvm.out
                first
                  | (have hz : (Cnt.faults n + 1 - (Cnt.voted j V m : Int) - 1 == 0) = true := by assumption
                     rw [beq_iff_eq] at hz
                     try rw [Exit.noGoto_ret]
                     go_ret2
                     exact ⟨by rw [HH.out, if_pos (by omega)]; rfl, rfl⟩)
                  | (have hz : (Cnt.faults n + 1 - (Cnt.voted j V m : Int) - 1 == 0) = false := by assumption
                     rw [beq_eq_false_iff_ne] at hz
                     go_roundg m
                     case rel => exact ⟨by omega, rfl, by rw [HH.out, if_neg (by omega)], rfl⟩
                     case measure => omega)
                  | (have hz : (Cnt.faults n + 1 - (Cnt.voted j V m : Int) - 1 == 0) = false := by assumption
                     rw [beq_eq_false_iff_ne] at hz
                     go_roundg q
                     case rel => exact ⟨j + 1, by omega, by go_num, by rw [q1]; exact congrArg (Value.int .i64) (by omega), by omega, rfl⟩
                     case measure => omega)
            | false =>
              rw [h0] at k0
              cases h1 : (V m 1 j).isSome with
              | true =>
                rw [h1] at k1
                have hvs' := Lib.hid (show Cnt.voted (j + 1) V m = Cnt.voted j V m + 1 by rw [hvs.out, h0, h1]; simp)
                go_wp2
                all_goals
                  have q1 := hvs'.out
                  have q2 := hvl.out
                  have q3 := hvm.out
                  first
                    | (have hz : (Cnt.faults n + 1 - (Cnt.voted j V m : Int) - 1 == 0) = true := by assumption
                       rw [beq_iff_eq] at hz
                       try rw [Exit.noGoto_ret]
                       go_ret2
                       exact ⟨by rw [HH.out, if_pos (by omega)]; rfl, rfl⟩)
                    | (have hz : (Cnt.faults n + 1 - (Cnt.voted j V m : Int) - 1 == 0) = false := by assumption
                       rw [beq_eq_false_iff_ne] at hz
                       go_roundg m
                       case rel => exact ⟨by omega, rfl, by rw [HH.out, if_neg (by omega)], rfl⟩
                       case measure => omega)
                    | (have hz : (Cnt.faults n + 1 - (Cnt.voted j V m : Int) - 1 == 0) = false := by assumption
                       rw [beq_eq_false_iff_ne] at hz
                       go_roundg q
                       case rel => exact ⟨j + 1, by omega, by go_num, by rw [q1]; exact congrArg (Value.int .i64) (by omega), by omega, rfl⟩
                       case measure => omega)
              | false =>
                rw [h1] at k1
                have hvs' := Lib.hid (show Cnt.voted (j + 1) V m = Cnt.voted j V m by rw [hvs.out, h0, h1]; simp)
                go_wp2
                have q1 := hvs'.out
                go_roundg q
                case rel => exact ⟨j + 1, by omega, by go_num, by rw [q1], by omega, rfl⟩
                case measure => omega
      · have hah2 : Cnt.ahead n V round = none := by rw [hah]; simp [Cnt.aheadFrom, hr]
        have d1 : decide (round < (m : Int)) = false := by simp; omega
        clear hah
        go_wp2
        try rw [Exit.noGoto_ret]
        go_ret2
        exact ⟨by rw [hah2]; rfl, rfl⟩
end Go.Proofs.YtepmlmfacpbhkaaR
