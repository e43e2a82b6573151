/- SlabCuts walked: the inputs that are too long, or outside. -/
import Derived.Test.YtefalfalapnllaaSlabLaws
import Derived.Deep.RegionWith
namespace Go.Proofs.Ytefalfalapnllaa
open Go.RowKit
set_option linter.unusedVariables false

set_option maxRecDepth 100000 in
theorem slabCuts_big (A0 : Option Addr) (n0 c0 : Nat) (A1 : Option Addr) (n1 c1 : Nat) (pos : Int) (w : World) (h : 500 < n0 ∨ 500 < n1) :
    Calls Try.prog 6 #[.slice A0 n0 c0, .slice A1 n1 c1, .int .i64 pos] w fun e w' => e = .returned (.bool true) ∧ Below w.heap.size w w' := by
  by_cases h0 : 500 < n0
  · clear h
    go_enter Try.func6, Try.ntmps6
    go_wp2_with fail
    refine (slab_keeps w).mono ?_
    rintro e w1 ⟨rfl, h1⟩
    have hfin := h1.below (Nat.le_refl _) (fun _ => False.elim)
    go_wp2
    go_ret
    exact ⟨rfl, hfin⟩
  · have h1 : 500 < n1 := by omega
    clear h
    go_enter Try.func6, Try.ntmps6
    go_wp2_with fail
    refine (slab_keeps w).mono ?_
    rintro e w1 ⟨rfl, h1⟩
    have hfin := h1.below (Nat.le_refl _) (fun _ => False.elim)
    go_wp2
    go_ret
    exact ⟨rfl, hfin⟩

theorem toList_beq_self (S : ByteArray) : (S.toList == S.toList) = true := by simp

set_option maxRecDepth 100000 in
set_option maxHeartbeats 2000000 in
theorem slabCuts_out (A0 : Option Addr) (c0 : Nat) (l0 : List UInt8) (A1 : Option Addr) (c1 : Nat) (l1 : List UInt8) (pos : Int) (w : World) (i0 : BytesIn w A0 l0.length c0 l0) (i1 : BytesIn w A1 l1.length c1 l1)
    (h0 : l0.length ≤ 500) (h1 : l1.length ≤ 500) (hp : pos < 0 ∨ (l0.length : Int) < pos) :
    Calls Try.prog 6 #[.slice A0 l0.length c0, .slice A1 l1.length c1, .int .i64 pos] w fun e w' => e = .returned (.bool true) ∧ Below w.heap.size w w' := by
  obtain ⟨b, hb⟩ : ∃ b, b = decide (pos < 0) := ⟨_, rfl⟩
  have r0 := i0.rd
  obtain ⟨S0, hS0⟩ : ∃ S : ByteArray, S = ⟨l0.toArray⟩ := ⟨_, rfl⟩
  clear i0 i1
  cases b
  · have g1 : ¬ pos < 0 := by simpa using hb.symm
    have g2 : (l0.length : Int) < pos := by omega
    have HP : Hid (pos < 0 ∨ (l0.length : Int) < pos) := hp
    clear hb hp
    go_enter Try.func6, Try.ntmps6
    go_wp2_with fail
    refine (slab_keeps w).mono ?_
    rintro e w1 ⟨rfl, k1⟩
    go_wp2_with fail
    refine (up_New k1 2000 (by omega) (by omega)).mono ?_
    rintro e w2 ⟨rfl, k2⟩
    clear k1
    go_wp2_with fail
    refine (up_Append_arg k2 A0 c0 l0 (by simp; omega) (by decide) r0).mono ?_
    rintro e w3 ⟨rfl, k3⟩
    clear k2
    go_wp2_with fail
    refine (up_Sync_yes k3 (by simp only [SlabS.app, SlabS.stepped]; decide)).mono ?_
    rintro e w4 ⟨rfl, k4⟩
    clear k3
    go_wp2_with fail
    go_region_with (first
      | (go_at_call 22; refine (up_Cut_bad (k4.drewN 1) pos (by simpa [SlabS.synced, SlabS.app, SlabS.stepped] using HP.out)).mono ?_; rintro e w5 ⟨rfl, k5⟩; have hs5 := run_str_rd w5 22 5 Try.underlying22 Try.underlying5 A0 c0 l0 (k5.rd r0); rw [← hS0] at hs5)
      | (go_at_call 20; refine (up_Bytes k5 l0.length rfl S0 hS0).mono ?_; rintro e w6 ⟨A2, c2, rfl, k6, hc⟩; have hs0 := run_str_rd w6 22 5 Try.underlying22 Try.underlying5 A0 c0 l0 (k6.rd r0); rw [← hS0] at hs0; have hfin := k6.below))
    all_goals
      go_wp2
      go_ret
      exact ⟨rfl, hfin⟩
  · have g1 : pos < 0 := by simpa using hb.symm
    have HP : Hid (pos < 0 ∨ (l0.length : Int) < pos) := hp
    clear hb hp
    go_enter Try.func6, Try.ntmps6
    go_wp2_with fail
    refine (slab_keeps w).mono ?_
    rintro e w1 ⟨rfl, k1⟩
    go_wp2_with fail
    refine (up_New k1 2000 (by omega) (by omega)).mono ?_
    rintro e w2 ⟨rfl, k2⟩
    clear k1
    go_wp2_with fail
    refine (up_Append_arg k2 A0 c0 l0 (by simp; omega) (by decide) r0).mono ?_
    rintro e w3 ⟨rfl, k3⟩
    clear k2
    go_wp2_with fail
    refine (up_Sync_yes k3 (by simp only [SlabS.app, SlabS.stepped]; decide)).mono ?_
    rintro e w4 ⟨rfl, k4⟩
    clear k3
    go_wp2_with fail
    go_region_with (first
      | (go_at_call 22; refine (up_Cut_bad (k4.drewN 1) pos (by simpa [SlabS.synced, SlabS.app, SlabS.stepped] using HP.out)).mono ?_; rintro e w5 ⟨rfl, k5⟩; have hs5 := run_str_rd w5 22 5 Try.underlying22 Try.underlying5 A0 c0 l0 (k5.rd r0); rw [← hS0] at hs5)
      | (go_at_call 20; refine (up_Bytes k5 l0.length rfl S0 hS0).mono ?_; rintro e w6 ⟨A2, c2, rfl, k6, hc⟩; have hs0 := run_str_rd w6 22 5 Try.underlying22 Try.underlying5 A0 c0 l0 (k6.rd r0); rw [← hS0] at hs0; have hfin := k6.below))
    all_goals
      go_wp2
      go_ret
      exact ⟨rfl, hfin⟩
end Go.Proofs.Ytefalfalapnllaa
