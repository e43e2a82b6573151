/- SlabCuts walked: the whole. -/
import Derived.Test.YtefalfalapnllaaSlabCutsA
import Derived.Deep.RegionWith
import Derived.Deep.DeepCutAuto
namespace Go.Proofs.Ytefalfalapnllaa
open Go.RowKit
set_option linter.unusedVariables false

set_option maxHeartbeats 4000000 in
set_option maxRecDepth 100000 in
theorem slabCuts_in (A0 : Option Addr) (c0 : Nat) (l0 : List UInt8) (A1 : Option Addr) (c1 : Nat) (l1 : List UInt8) (k : Nat) (w : World) (i0 : BytesIn w A0 l0.length c0 l0) (i1 : BytesIn w A1 l1.length c1 l1)
    (h0 : l0.length ≤ 500) (h1 : l1.length ≤ 500) (hk : k ≤ l0.length) :
    Calls Try.prog 6 #[.slice A0 l0.length c0, .slice A1 l1.length c1, .int .i64 k] w fun e w' => e = .returned (.bool true) ∧ Below w.heap.size w w' := by
  have r0 := i0.rd
  have r1 := i1.rd
  have cc0 := i0.cap
  have bb0 := i0.lt'
  obtain ⟨t0, ht0⟩ : ∃ t0, t0 = l0.take k := ⟨_, rfl⟩
  have tl : t0.length = k := by rw [ht0, List.length_take]; omega
  obtain ⟨S0, hS0⟩ : ∃ S : ByteArray, S = ⟨t0.toArray⟩ := ⟨_, rfl⟩
  obtain ⟨S1, hS1⟩ : ∃ S : ByteArray, S = ⟨l1.toArray⟩ := ⟨_, rfl⟩
  obtain ⟨S2, hS2⟩ : ∃ S : ByteArray, S = ⟨(t0 ++ l1).toArray⟩ := ⟨_, rfl⟩
  have hEq : S2 = S0 ++ S1 := by
    rw [hS2, hS0, hS1]
    apply ByteArray.ext
    simp [ByteArray.data_append]
  have hB : (S2.toList == (S0 ++ S1).toList) = true := by rw [← hEq]; simp
  have hB' : (S2.toList != (S0 ++ S1).toList) = false := by rw [← hEq]; simp
  have z0 : S0.size ≤ 500 := by rw [hS0]; show t0.length ≤ 500; omega
  have z1 : S1.size ≤ 500 := by rw [hS1]; exact h1
  have rt0 : Rd w A0 (t0.map bv) := by rw [ht0, List.map_take]; exact r0.take _
  have mk0 := text_of c0 rt0 hS0
  have mk1 := text_of c1 r1 hS1
  obtain ⟨n2, hn2⟩ : ∃ n2, n2 = (t0 ++ l1).length := ⟨_, rfl⟩
  have cB2 := fun p => up_Bytes_all (w0 := w) (p := p) (s := ⟨2000, t0 ++ l1, k, -1⟩) hn2 hS2
  have cB3 := fun p => up_Bytes_all (w0 := w) (p := p) (s := ⟨2000, t0, k, -1⟩) rfl hS0
  clear i0 i1 hEq hS0 hS1 hS2 hn2
  have kl : ¬ ((l0.length : Int) < (k : Int)) := by omega
  have kc : k ≤ c0 := by omega
  subst tl
  have ht0' : Hid (t0 = l0.take t0.length) := ht0
  clear ht0
  go_enter Try.func6, Try.ntmps6
  go_wp2_with fail
  refine (slab_keeps w).mono ?_
  rintro e w1 ⟨rfl, k1⟩
  go_wp2_with fail
  refine (up_New k1 2000 (by omega) (by omega)).mono ?_
  rintro e w2 ⟨rfl, k2⟩
  clear k1
  go_wp2_with fail
  refine (up_Append_arg k2 A0 c0 l0 (by simp; omega) (by decide) r0).mono ?_
  rintro e w3 ⟨rfl, k3⟩
  clear k2
  go_wp2_with fail
  refine (up_Sync_yes k3 (by simp only [SlabS.app, SlabS.stepped]; decide)).mono ?_
  rintro e w4 ⟨rfl, k4⟩
  clear k3
  go_wp2_with fail
  refine (up_Cut_yes k4 t0.length (by omega) (by simp [SlabS.synced, SlabS.app, SlabS.stepped]; omega) (by simp only [SlabS.synced, SlabS.app, SlabS.stepped]; decide)).mono ?_
  rintro e w5 ⟨rfl, k5⟩
  clear k4
  have e5 : (((SlabS.mk 2000 [] 0 (-1)).app l0).synced.cut t0.length) = ⟨2000, t0, t0.length, -1⟩ := by
    have h1 := ht0'.out
    simp only [SlabS.cut, SlabS.synced, SlabS.app, SlabS.stepped, SlabS.mk.injEq, List.nil_append, Int.toNat_natCast]
    exact ⟨trivial, h1.symm, by omega, by decide⟩
  rw [e5] at k5
  clear e5
  go_wp2_with fail
  refine (up_Size k5).mono ?_
  rintro e w6 ⟨rfl, k6⟩
  clear k5
  go_wp2_with fail
  refine (up_Append_arg k6 A1 c1 l1 (by show (l1.length : Int) ≤ 2000 - t0.length; omega) (by show (-1 : Int) ≠ 0; decide) r1).mono ?_
  rintro e w7 ⟨rfl, k7⟩
  clear k6
  have e7 : ((SlabS.mk 2000 t0 t0.length (-1)).app l1) = ⟨2000, t0 ++ l1, t0.length, -1⟩ := rfl
  rw [e7] at k7
  clear e7
  go_upto_region 15 with fail
  go_cut [91] (fun v W => v = .bool false ∧ SlabUp w W w1.heap.size ⟨2000, t0 ++ l1, t0.length, -1⟩)
  case first =>
    have n7 := k7.new.then_drew
    have n7' := k7.new.then_drewN 1
    go_region_with (go_at_call 20; refine (cB2 _ _ (k7.drewN 1)).mono ?_; rintro e w8 ⟨A2, c2, rfl, k8, hc⟩; have n8 := k8.new)
    all_goals (go_wp2_with fail; go_meet; exact ⟨rfl, k8⟩)
  case rest =>
    obtain ⟨rfl, k9⟩ := hcut
    clear k7
    go_wp2_with fail
    refine (up_Crash k9 0).mono ?_
    rintro e w10 ⟨rfl, k10⟩
    clear k9
    have e10 : ((SlabS.mk 2000 (t0 ++ l1) t0.length (-1)).crash 0) = ⟨2000, t0, t0.length, -1⟩ := by
      simp only [SlabS.crash, SlabS.mk.injEq, List.length_append]
      have hm : (max 0 (min 0 (((t0.length + l1.length : Nat) : Int) - t0.length))) = 0 := by omega
      rw [hm]
      simp
    rw [e10] at k10
    clear e10
    go_wp2_with fail
    have n7 := k10.new.then_drew
    have n7' := k10.new.then_drewN 1
    go_region_with (go_at_call 20; refine (cB3 _ _ (k10.drewN 1)).mono ?_; rintro e w8 ⟨A2, c2, rfl, k8, hc⟩; have n8 := k8.new)
    all_goals
      have hfin := k8.below
      go_wp2
      go_ret
      exact ⟨rfl, hfin⟩
end Go.Proofs.Ytefalfalapnllaa
