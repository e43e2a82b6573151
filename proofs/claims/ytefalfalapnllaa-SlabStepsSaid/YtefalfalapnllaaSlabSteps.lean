/- SlabSteps walked. -/
import Derived.Test.YtefalfalapnllaaSlabLaws
import Derived.Deep.RegionWith
import Derived.Deep.DeepCutAuto
namespace Go.Proofs.Ytefalfalapnllaa
open Go.RowKit
set_option linter.unusedVariables false

set_option maxRecDepth 100000 in
theorem slabSteps_out (steps : Int) (A0 : Option Addr) (n0 c0 : Nat) (A1 : Option Addr) (n1 c1 : Nat) (w : World) (h : steps < 0 ∨ 30 < steps ∨ 20 < n0 ∨ 60 < n1) :
    Calls Try.prog 5 #[.int .i64 steps, .slice A0 n0 c0, .slice A1 n1 c1] w fun e w' => e = .returned (.bool true) ∧ Below w.heap.size w w' := by
  by_cases h0 : steps < 0
  · clear h
    go_enter Try.func5, Try.ntmps5
    go_wp2_with fail
    refine (slab_keeps w).mono ?_
    rintro e w1 ⟨rfl, h1⟩
    have hfin := h1.below (Nat.le_refl _) (fun _ => False.elim)
    go_wp2
    go_ret
    exact ⟨rfl, hfin⟩
  · by_cases h1 : 30 < steps
    · clear h
      go_enter Try.func5, Try.ntmps5
      go_wp2_with fail
      refine (slab_keeps w).mono ?_
      rintro e w1 ⟨rfl, h1⟩
      have hfin := h1.below (Nat.le_refl _) (fun _ => False.elim)
      go_wp2
      go_ret
      exact ⟨rfl, hfin⟩
    · by_cases h2 : 20 < n0
      · clear h
        go_enter Try.func5, Try.ntmps5
        go_wp2_with fail
        refine (slab_keeps w).mono ?_
        rintro e w1 ⟨rfl, h1⟩
        have hfin := h1.below (Nat.le_refl _) (fun _ => False.elim)
        go_wp2
        go_ret
        exact ⟨rfl, hfin⟩
      · have h3 : 60 < n1 := by omega
        clear h
        go_enter Try.func5, Try.ntmps5
        go_wp2_with fail
        refine (slab_keeps w).mono ?_
        rintro e w1 ⟨rfl, h1⟩
        have hfin := h1.below (Nat.le_refl _) (fun _ => False.elim)
        go_wp2
        go_ret
        exact ⟨rfl, hfin⟩

set_option maxHeartbeats 4000000 in
set_option maxRecDepth 100000 in
theorem slabSteps_in (m : Nat) (A0 : Option Addr) (c0 : Nat) (l : List UInt8) (A1 : Option Addr) (c1 : Nat) (ks : List Bool) (w : World) (i0 : BytesIn w A0 l.length c0 l) (rk : Rd w A1 (ks.map Value.bool))
    (h0 : m ≤ 30) (h1 : l.length ≤ 20) (h2 : ks.length ≤ 60) :
    Calls Try.prog 5 #[.int .i64 m, .slice A0 l.length c0, .slice A1 ks.length c1] w fun e w' => e = .returned (.bool true) ∧ Below w.heap.size w w' := by
  have r0 := i0.rd
  clear i0
  go_enter Try.func5, Try.ntmps5
  go_wp2_with fail
  refine (slab_keeps w).mono ?_
  rintro e w1 ⟨rfl, k1⟩
  go_wp2_with fail
  refine (up_New k1 5000 (by omega) (by omega)).mono ?_
  rintro e w2 ⟨rfl, k2⟩
  go_wp2_with fail
  refine (up_Break k2 m (by omega)).mono ?_
  rintro e w3 ⟨rfl, k3⟩
  clear k2
  replace k3 : SlabUp w w3 w1.heap.size ⟨5000, [], 0, m⟩ := by
    have : max (m : Int) (-1) = m := by omega
    rw [this] at k3; exact k3
  go_wp2
  go_loopw [9, 43] (fun dn i W => ∃ k d : Nat, ∃ bs sure, dn = .int .i64 d ∧ i = .int .i64 k ∧ k ≤ ks.length ∧ d ≤ m ∧ bs.length ≤ 20 * k ∧ SlabUp w W w1.heap.size ⟨5000, bs, sure, (m : Int) - d⟩) (fun _ i _ => ks.length - (intOf i).toNat)
  case atStart => exact ⟨0, 0, [], 0, rfl, rfl, Nat.zero_le _, Nat.zero_le _, by simp, by simpa using k3⟩
  case round =>
    obtain ⟨k, d, bs, sure, rfl, rfl, hk, hd, hbs, ku⟩ := hrel
    clear k3
    by_cases hlt : k < ks.length
    · obtain ⟨b1, o1, eA, _, hc⟩ := ku.rd rk (by simp; omega)
      have hck := hc k (by simpa using hlt)
      rw [List.getElem_map] at hck
      subst eA
      clear hc
      obtain ⟨S, hS⟩ : ∃ S : ByteArray, S = ⟨bs.toArray⟩ := ⟨_, rfl⟩
      obtain ⟨nb, hnb⟩ : ∃ nb, nb = bs.length := ⟨_, rfl⟩
      have cB := fun p => up_Bytes_all (w0 := w) (p := p) (s := ⟨5000, bs, sure, (m : Int) - d⟩) hnb hS
      have hnb' : Hid (nb = bs.length) := hnb
      clear hnb hS
      obtain ⟨x, hx⟩ : ∃ x, x = ks[k] := ⟨_, rfl⟩
      rw [← hx] at hck
      clear hx
      by_cases hdm : d < m
      · cases x
        · go_wp2_with fail
          refine (cB _ _ ku).mono ?_
          rintro e w4 ⟨A4, c4, rfl, k4, hc4⟩
          clear ku
          go_wp2_with fail
          refine (up_Append_arg k4 A0 c0 l (by simp; omega) (by simp; omega) r0).mono ?_
          rintro e w5 ⟨rfl, k5⟩
          clear k4 hc4
          go_wp2
          go_roundw
          case rel =>
            refine ⟨k + 1, d + 1, bs ++ l, sure, by go_num, by go_num, by omega, by omega, by simp; omega, ?_⟩
            have : (SlabS.mk 5000 bs sure ((m : Int) - d)).app l = ⟨5000, bs ++ l, sure, (m : Int) - ((d + 1 : Nat) : Int)⟩ := by
              simp only [SlabS.app, SlabS.stepped, SlabS.mk.injEq]
              exact ⟨trivial, trivial, trivial, by omega⟩
            rw [this] at k5
            exact k5
          case measure => simp [intOf]; omega
        · go_wp2_with fail
          refine (cB _ _ ku).mono ?_
          rintro e w4 ⟨A4, c4, rfl, k4, hc4⟩
          clear ku
          go_wp2_with fail
          refine (up_Sync_yes k4 (by simp; omega)).mono ?_
          rintro e w5 ⟨rfl, k5⟩
          clear k4 hc4
          go_wp2
          go_roundw
          case rel =>
            refine ⟨k + 1, d + 1, bs, bs.length, by go_num, by go_num, by omega, by omega, by omega, ?_⟩
            have : (SlabS.mk 5000 bs sure ((m : Int) - d)).synced = ⟨5000, bs, bs.length, (m : Int) - ((d + 1 : Nat) : Int)⟩ := by
              simp only [SlabS.synced, SlabS.stepped, SlabS.mk.injEq]
              exact ⟨trivial, trivial, trivial, by omega⟩
            rw [this] at k5
            exact k5
          case measure => simp [intOf]; omega
      · obtain rfl : d = m := by omega
        have hz : (d : Int) - d = 0 := by omega
        cases x
        · go_wp2_with fail
          refine (cB _ _ ku).mono ?_
          rintro e w4 ⟨A4, c4, rfl, k4, hc4⟩
          clear ku
          go_wp2_with fail
          refine (up_Append_no k4 _ l.length c0 (by simp; omega) hz).mono ?_
          rintro e w5 ⟨rfl, k5⟩
          clear k4 hc4
          go_wp2_with fail
          refine (cB _ _ k5).mono ?_
          rintro e w6 ⟨A6, c6, rfl, k6, hc6⟩
          clear k5
          go_wp2
          go_roundw
          case rel => exact ⟨k + 1, d, bs, sure, rfl, by go_num, by omega, by omega, by omega, k6⟩
          case measure => simp [intOf]; omega
        · go_wp2_with fail
          refine (cB _ _ ku).mono ?_
          rintro e w4 ⟨A4, c4, rfl, k4, hc4⟩
          clear ku
          go_wp2_with fail
          refine (up_Sync_no k4 hz).mono ?_
          rintro e w5 ⟨rfl, k5⟩
          clear k4 hc4
          go_wp2_with fail
          refine (cB _ _ k5).mono ?_
          rintro e w6 ⟨A6, c6, rfl, k6, hc6⟩
          clear k5
          go_wp2
          go_roundw
          case rel => exact ⟨k + 1, d, bs, sure, rfl, by go_num, by omega, by omega, by omega, k6⟩
          case measure => simp [intOf]; omega
    · go_wp2_with fail
      refine (up_Crash ku 0).mono ?_
      rintro e w4 ⟨rfl, k4⟩
      have hl4 : ((SlabS.mk 5000 bs sure ((m : Int) - d)).crash 0).bs.length ≤ bs.length := by simp [SlabS.crash]; omega
      have hb : bs.length ≤ 1200 := by omega
      go_wp2_with fail
      refine (up_Append_arg k4 A0 c0 l (by show (l.length : Int) ≤ 5000 - _; omega) (by show (-1 : Int) ≠ 0; decide) r0).mono ?_
      rintro e w5 ⟨rfl, k5⟩
      go_wp2_with fail
      refine (up_Sync_yes k5 (by show (max (-1 - 1) (-1) : Int) ≠ 0; decide)).mono ?_
      rintro e w6 ⟨rfl, k6⟩
      have hfin := k6.below
      clear ku k4 k5 k6 hl4
      go_wp2
      go_ret
      exact ⟨rfl, hfin⟩
end Go.Proofs.Ytefalfalapnllaa
