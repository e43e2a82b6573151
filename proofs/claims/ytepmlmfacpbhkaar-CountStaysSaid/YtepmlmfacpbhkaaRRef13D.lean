/- The document's answer for votes: Ahead. -/
import Derived.Test.YtepmlmfacpbhkaaRRef13C
namespace Go.Proofs.YtepmlmfacpbhkaaR
open Go.RowKit Go.Shelf
set_option linter.unusedVariables false

theorem rvoted_succ (j : Nat) (l : List Cnt.Vote) (r : Int) : Cnt.rvoted (j + 1) l r = Cnt.rvoted j l r + if Cnt.rget l r 0 j != Cnt.z || Cnt.rget l r 1 j != Cnt.z then 1 else 0 := by
  unfold Cnt.rvoted
  rw [List.range_succ, List.filter_append, List.length_append]
  congr 1
  by_cases h : (Cnt.rget l r 0 j != Cnt.z || Cnt.rget l r 1 j != Cnt.z) = true <;> simp [List.filter_cons, h]
theorem rget_len {w : World} {A : Option Addr} {l : List Cnt.Vote} (h : VotesAt w A l) (r k i : Int) : (Cnt.rget l r k i).length = 32 := by
  unfold Cnt.rget Cnt.rfind
  cases hf : l.find? fun v => v.r == r && v.k == k && v.w == i with
  | none => rfl
  | some v => exact h.len v (List.mem_of_find?_eq_some hf)
theorem rvoted_le (j : Nat) (l : List Cnt.Vote) (r : Int) : Cnt.rvoted j l r ≤ j := Nat.le_trans (List.length_filter_le _ _) (by simp)

set_option maxHeartbeats 4000000 in
set_option maxRecDepth 20000 in
theorem rahead_any (w : World) (A : Option Addr) (c n : Nat) (l : List Cnt.Vote) (round : Int) (h : VotesAt w A l) (hm : l.length ≤ maxLen) (hn7 : n ≤ 7) :
    Calls Try.prog 28 #[.int .i64 n, .slice A l.length c, .int .i64 round] w fun e w' => e = .returned (aheadV (Cnt.rahead n l round)) ∧ New w w' := by
  obtain ⟨ii, hii, hz0, hz1, hz2⟩ := info_parts infoI
  have hf : -1 ≤ Cnt.faults n ∧ Cnt.faults n ≤ 2 := by unfold Cnt.faults; repeat (split <;> try omega)
  have hlen := fun r k i => rget_len h r k i
  have HLEN := Lib.hid hlen
  clear hlen
  go_enter Try.func28, Try.ntmps28
  go_wp2
  go_loopw [8] (fun i W => ∃ m : Nat, m ≤ 12 ∧ i = .int .i64 ((m : Int) - 1) ∧ Cnt.rahead n l round = Cnt.raheadFrom n l round m ∧ New w W) (fun i _ => (intOf i + 1).toNat)
  case atStart => exact ⟨12, by omega, rfl, rfl, Fr.refl _ _⟩
  case round =>
    obtain ⟨m, hm12, rfl, hah, hN⟩ := hrel
    cases m with
    | zero =>
      have e0 : (((0 : Nat) : Int) - 1) = -1 := rfl
      rw [e0]
      clear e0
      have HA := Lib.hid (show Cnt.rahead n l round = none by rw [hah]; rfl)
      clear hah
      by_cases hr : round < -1
      · go_wp2
        go_ret2
        exact ⟨by rw [HA.out]; rfl, hN⟩
      · have d1 : decide (round < -1) = false := by simp; omega
        go_wp2
        go_ret2
        exact ⟨by rw [HA.out]; rfl, hN⟩
    | succ m =>
      have e0 : (((m + 1 : Nat) : Int) - 1) = m := by omega
      rw [e0]
      clear e0
      by_cases hr : round < m
      · have HH := Lib.hid (show Cnt.rahead n l round = if Cnt.faults n < (Cnt.rvoted n l m : Int) then some m else Cnt.raheadFrom n l round m by rw [hah]; simp [Cnt.raheadFrom, hr])
        clear hah
        have HN := Lib.hid hN
        go_wp2
        go_loopw [9, 10] (fun n0 i0 W => ∃ j : Nat, j ≤ n ∧ i0 = .int .i64 j ∧ n0 = .int .i64 (Cnt.rvoted j l m : Nat) ∧ New w W) (fun _ i0 _ => n - (intOf i0).toNat)
        case atStart => exact ⟨0, by omega, rfl, rfl, hN⟩
        case round =>
          obtain ⟨j, hj, rfl, rfl, hN⟩ := hrel
          by_cases hlt : j < n
          · have hlt' : (j : Int) < (n : Int) := by omega
            have hvs := Lib.hid (rvoted_succ j l m)
            have hvl := rvoted_le j l m
            have hV1 := Lib.hid (h.fr hN (fun _ h => h.elim))
            have HN := Lib.hid hN
            clear hN
            by_cases q1 : (Cnt.rget l m 0 j != Cnt.z) = true
            · have S1 := Lib.hid (show Cnt.rvoted (j + 1) l m = Cnt.rvoted j l m + 1 by rw [hvs.out, q1]; simp)
              go_wp2_with (first
                | (go_at_call 30; refine (rget_any _ _ c l m 0 j hV1.out hm).mono ?_; rintro e w3 ⟨rfl, hN3⟩; have HN3 := Lib.hid hN3; clear hN3)
                | (refine wpList_value_w (exec_build0 (T := 32) rfl hii hz0 underI (s := 1) (fun w => by kernel_rfl)) (by simp [go_sem, Region.wanted, yielded]) ?_)
                | (refine wpList_value_w (exec_neq (T := 32) (a := Cnt.rget l m 0 j) (b := Cnt.z) rfl rfl rfl underI (by kernel_rfl) (fun w => by kernel_rfl) (HLEN.out _ _ _) rfl (by kernel_rfl)) (by simp [go_sem, Region.wanted, yielded]) ?_))
              go_roundw
              case rel => exact ⟨j + 1, by omega, by go_num, by rw [S1.out]; go_num, HN.out.trans HN3.out (fun _ h => h.elim)⟩
              case measure => simp [intOf]; omega
            · have q1' : (Cnt.rget l m 0 j != Cnt.z) = false := by simpa using q1
              clear q1
              by_cases q2 : (Cnt.rget l m 1 j != Cnt.z) = true
              · have S1 := Lib.hid (show Cnt.rvoted (j + 1) l m = Cnt.rvoted j l m + 1 by rw [hvs.out, q1', q2]; simp)
                go_wp2_with (first
                  | (go_at_call 30; first
                      | (have h9 := HN3; clear h9; refine (rget_any _ _ c l m 1 j (hV1.out.fr HN3.out (fun _ h => h.elim)) hm).mono ?_; rintro e w4 ⟨rfl, hN4⟩; have HN4 := Lib.hid hN4; clear hN4)
                      | (refine (rget_any _ _ c l m 0 j hV1.out hm).mono ?_; rintro e w3 ⟨rfl, hN3⟩; have HN3 := Lib.hid hN3; clear hN3))
                  | (refine wpList_value_w (exec_build0 (T := 32) rfl hii hz0 underI (s := 1) (fun w => by kernel_rfl)) (by simp [go_sem, Region.wanted, yielded]) ?_)
                  | (refine wpList_value_w (exec_neq (T := 32) (a := Cnt.rget l m 0 j) (b := Cnt.z) rfl rfl rfl underI (by kernel_rfl) (fun w => by kernel_rfl) (HLEN.out _ _ _) rfl (by kernel_rfl)) (by simp [go_sem, Region.wanted, yielded]) ?_)
                  | (refine wpList_value_w (exec_neq (T := 32) (a := Cnt.rget l m 1 j) (b := Cnt.z) rfl rfl rfl underI (by kernel_rfl) (fun w => by kernel_rfl) (HLEN.out _ _ _) rfl (by kernel_rfl)) (by simp [go_sem, Region.wanted, yielded]) ?_))
                go_roundw
                case rel => exact ⟨j + 1, by omega, by go_num, by rw [S1.out]; go_num, (HN.out.trans HN3.out (fun _ h => h.elim)).trans HN4.out (fun _ h => h.elim)⟩
                case measure => simp [intOf]; omega
              · have q2' : (Cnt.rget l m 1 j != Cnt.z) = false := by simpa using q2
                clear q2
                have S1 := Lib.hid (show Cnt.rvoted (j + 1) l m = Cnt.rvoted j l m by rw [hvs.out, q1', q2']; simp)
                go_wp2_with (first
                  | (go_at_call 30; first
                      | (have h9 := HN3; clear h9; refine (rget_any _ _ c l m 1 j (hV1.out.fr HN3.out (fun _ h => h.elim)) hm).mono ?_; rintro e w4 ⟨rfl, hN4⟩; have HN4 := Lib.hid hN4; clear hN4)
                      | (refine (rget_any _ _ c l m 0 j hV1.out hm).mono ?_; rintro e w3 ⟨rfl, hN3⟩; have HN3 := Lib.hid hN3; clear hN3))
                  | (refine wpList_value_w (exec_build0 (T := 32) rfl hii hz0 underI (s := 1) (fun w => by kernel_rfl)) (by simp [go_sem, Region.wanted, yielded]) ?_)
                  | (refine wpList_value_w (exec_neq (T := 32) (a := Cnt.rget l m 0 j) (b := Cnt.z) rfl rfl rfl underI (by kernel_rfl) (fun w => by kernel_rfl) (HLEN.out _ _ _) rfl (by kernel_rfl)) (by simp [go_sem, Region.wanted, yielded]) ?_)
                  | (refine wpList_value_w (exec_neq (T := 32) (a := Cnt.rget l m 1 j) (b := Cnt.z) rfl rfl rfl underI (by kernel_rfl) (fun w => by kernel_rfl) (HLEN.out _ _ _) rfl (by kernel_rfl)) (by simp [go_sem, Region.wanted, yielded]) ?_))
                go_roundw
                case rel => exact ⟨j + 1, by omega, by go_num, by rw [S1.out], (HN.out.trans HN3.out (fun _ h => h.elim)).trans HN4.out (fun _ h => h.elim)⟩
                case measure => simp [intOf]; omega
          · obtain rfl : j = n := by omega
            have d0 : decide ((j : Int) < (j : Int)) = false := by simp
            have HN := Lib.hid hN
            have hvl := rvoted_le j l m
            clear hN
            by_cases q3 : Cnt.faults j < (Cnt.rvoted j l m : Int)
            · have S1 := Lib.hid (show Cnt.rahead j l round = some m by rw [HH.out, if_pos q3])
              go_wp2_with (go_at_call 15; refine (rfaults_any j _).mono ?_; rintro e w4 ⟨rfl, rfl⟩)
              go_ret2
              exact ⟨by rw [S1.out]; rfl, HN.out⟩
            · have S1 := Lib.hid (show Cnt.rahead j l round = Cnt.raheadFrom j l round m by rw [HH.out, if_neg q3])
              have q3' : decide (Cnt.faults j < (Cnt.rvoted j l m : Int)) = false := by simpa using q3
              clear q3
              go_wp2_with (go_at_call 15; refine (rfaults_any j _).mono ?_; rintro e w4 ⟨rfl, rfl⟩)
              go_roundw
              case rel => exact ⟨m, by omega, rfl, S1.out, HN.out⟩
              case measure => simp [intOf]
      · have HA := Lib.hid (show Cnt.rahead n l round = none by rw [hah]; simp [Cnt.raheadFrom, hr])
        have d1 : decide (round < (m : Int)) = false := by simp; omega
        clear hah
        go_wp2
        go_ret2
        exact ⟨by rw [HA.out]; rfl, hN⟩
end Go.Proofs.YtepmlmfacpbhkaaR
