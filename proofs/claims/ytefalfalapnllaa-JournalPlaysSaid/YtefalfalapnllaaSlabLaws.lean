/- The statements of layer 9 (slab) without the document, walked. -/
import Derived.Test.YtefalfalapnllaaSlabUp
import Derived.Deep.RegionWith
import Derived.Deep.RegionHeld3
namespace Go.Proofs.Ytefalfalapnllaa
open Go.RowKit
set_option linter.unusedVariables false

set_option maxRecDepth 100000 in
theorem slab_keeps (w : World) : Calls Try.prog 15 #[] w fun e w' => e = .returned (.bool true) ∧ New w w' := by
  have kc := fun (w : World) (C : Array Value) (n c : Nat) => Lib.run_convert_bytes_const (P := Try.prog) w 22 5 C n c Try.underlying22 Try.underlying5
  go_enter Try.func15, Try.ntmps15
  go_wp2_with fail
  refine (up_New (Fr.refl _ _) 10 (by omega) (by omega)).mono ?_
  rintro e w1 ⟨rfl, h1⟩
  go_wp2_with fail
  refine (up_Append_lit h1 2 [97, 98] (2, 3) (by decide) (by decide)).mono ?_
  rintro e w2 ⟨rfl, h2⟩
  clear h1
  go_wp2_with fail
  refine (up_Sync_yes h2 (by decide)).mono ?_
  rintro e w3 ⟨rfl, h3⟩
  clear h2
  go_wp2_with fail
  refine (up_Append_lit h3 2 [99, 100] (2, 3) (by decide) (by decide)).mono ?_
  rintro e w4 ⟨rfl, h4⟩
  clear h3
  go_wp2_with fail
  refine (up_Crash h4 1).mono ?_
  rintro e w5 ⟨rfl, h5⟩
  clear h4
  rw [show ((((SlabS.mk 10 [] 0 (-1)).app [97, 98]).synced.app [99, 100]).crash 1) = ⟨10, [97, 98, 99], 3, -1⟩ from rfl] at h5
  go_wp2_with fail
  refine (up_Size h5).mono ?_
  rintro e w6 ⟨rfl, h6⟩
  clear h5
  go_wp2_with fail
  refine (up_Bytes h6 3 rfl ⟨#[97, 98, 99]⟩ rfl).mono ?_
  rintro e w7 ⟨A2, c2, rfl, h7, hc⟩
  clear h6
  have hfin := h7.new
  go_wp2
  go_ret
  exact ⟨rfl, hfin⟩

/-- what the walks are told of a slice of bytes that came in -/
structure BytesIn (w : World) (A : Option Addr) (n c : Nat) (l : List UInt8) : Prop where
  len : l.length = n
  cap : n ≤ c
  capm : c ≤ maxLen
  rd : Rd w A (l.map bv)
theorem BytesIn.lt' {w : World} {A : Option Addr} {n c : Nat} {l : List UInt8} (h : BytesIn w A n c l) : n ≤ 9223372036854775807 ∧ c ≤ 9223372036854775807 := by
  have := h.cap; have := h.capm; simp only [maxLen] at *; omega

/-- bytes of w0, as a text in every later world -/
theorem text_of {w0 : World} {A : Option Addr} (c : Nat) {l : List UInt8} (h : Rd w0 A (l.map bv)) {S : ByteArray} (hS : S = ⟨l.toArray⟩) :
    ∀ W, New w0 W → ∀ dst, Try.prog.underlying dst = some .string → (convert 22 dst (.slice A l.length c)).run Try.prog W = .ok (.string S) W := by
  intro W hW
  subst hS
  exact run_str_rd W 22 5 Try.underlying22 Try.underlying5 A c l (h.fr hW (fun _ _ => id))
theorem up_Bytes_all {w0 : World} {p : Nat} {s : SlabS} {n : Nat} (hn : n = s.bs.length) {S : ByteArray} (hS : S = ⟨s.bs.toArray⟩) : ∀ w, SlabUp w0 w p s →
    Calls Try.prog 20 #[.pointer (some ⟨p, 0, none⟩)] w fun e w' => ∃ A2 c2, e = .returned (.slice A2 n c2) ∧ SlabUp w0 w' p s ∧
      ∀ dst, Try.prog.underlying dst = some .string → (convert 22 dst (.slice A2 n c2)).run Try.prog w' = .ok (.string S) w' :=
  fun _ h => up_Bytes h n hn S hS

set_option maxRecDepth 100000 in
theorem slabSure_walk (A0 : Option Addr) (n0 c0 : Nat) (l0 : List UInt8) (A1 : Option Addr) (n1 c1 : Nat) (l1 : List UInt8) (keep : Int) (w : World) (i0 : BytesIn w A0 n0 c0 l0) (i1 : BytesIn w A1 n1 c1 l1) :
    Calls Try.prog 3 #[.slice A0 n0 c0, .slice A1 n1 c1, .int .i64 keep] w fun e w' => e = .returned (.bool true) ∧ Below w.heap.size w w' := by
  have b0 := i0.lt'
  have b1 := i1.lt'
  have cc0 := i0.cap
  have cc1 := i1.cap
  obtain ⟨m0, e0, e0'⟩ : ∃ m0 : Nat, (if (300 : Int) < n0 then 300 else (n0 : Int)) = m0 ∧ m0 = min n0 300 := ⟨min n0 300, by split <;> omega, rfl⟩
  obtain ⟨m1, e1, e1'⟩ : ∃ m1 : Nat, (if (300 : Int) < n1 then 300 else (n1 : Int)) = m1 ∧ m1 = min n1 300 := ⟨min n1 300, by split <;> omega, rfl⟩
  have H0 : Hid (m0 = min n0 300) := e0'
  have H1 : Hid (m1 = min n1 300) := e1'
  have k0 : m0 ≤ c0 := by omega
  have k1 : m1 ≤ c1 := by omega
  have q0 : (m0 : Int) ≤ 300 := by omega
  have q1 : (m1 : Int) ≤ 300 := by omega
  clear e0' e1'
  obtain ⟨t0, ht0⟩ : ∃ t0, t0 = l0.take m0 := ⟨_, rfl⟩
  obtain ⟨t1, ht1⟩ : ∃ t1, t1 = l1.take m1 := ⟨_, rfl⟩
  have tl0 : t0.length = m0 := by rw [ht0, List.length_take, i0.len]; have := H0.out; omega
  have tl1 : t1.length = m1 := by rw [ht1, List.length_take, i1.len]; have := H1.out; omega
  have r0 : Rd w A0 (t0.map bv) := by rw [ht0, List.map_take]; exact i0.rd.take _
  have r1 : Rd w A1 (t1.map bv) := by rw [ht1, List.map_take]; exact i1.rd.take _
  clear ht0 ht1
  clear i0 i1
  subst tl0 tl1
  go_enter Try.func3, Try.ntmps3
  go_wp2_with fail
  refine (slab_keeps w).mono ?_
  rintro e w1 ⟨rfl, h1⟩
  go_wp2_with fail
  go_quiet (fail)
  go_wp2_with fail
  refine (up_New (h1.then_drewN nq) 1000 (by omega) (by omega)).mono ?_
  rintro e w2 ⟨rfl, h2⟩
  clear h1
  go_wp2_with fail
  refine (up_Append_arg h2 A0 c0 t0 (by simp; omega) (by decide) r0).mono ?_
  rintro e w3 ⟨rfl, h3⟩
  clear h2
  go_wp2_with fail
  refine (up_Sync_yes h3 (by simp only [SlabS.app, SlabS.stepped]; decide)).mono ?_
  rintro e w4 ⟨rfl, h4⟩
  clear h3
  go_wp2_with fail
  refine (up_Append_arg h4 A1 c1 t1 (by simp [SlabS.synced, SlabS.app, SlabS.stepped]; omega) (by simp only [SlabS.synced, SlabS.app, SlabS.stepped]; decide) r1).mono ?_
  rintro e w5 ⟨rfl, h5⟩
  clear h4
  go_wp2_with fail
  refine (up_Crash h5 keep).mono ?_
  rintro e w6 ⟨rfl, h6⟩
  clear h5
  go_wp2_with fail
  obtain ⟨m1, e2⟩ : ∃ m1 : Int, (if (t1.length : Int) < keep then (t1.length : Int) else keep) = m1 := ⟨_, rfl⟩
  obtain ⟨m2, e3⟩ : ∃ m2 : Int, (if 0 < m1 then m1 else 0) = m2 := ⟨_, rfl⟩
  have hm2 : m2 = max 0 (min keep t1.length) := by subst e3 e2; split <;> split <;> omega
  obtain ⟨k, hk⟩ : ∃ k : Nat, (t0.length : Int) + m2 = k := ⟨((t0.length : Int) + m2).toNat, by omega⟩
  have hbs : ((((SlabS.mk 1000 [] 0 (-1)).app t0).synced.app t1).crash keep).bs = (t0 ++ t1).take k := by
    show List.take _ _ = _
    simp only [SlabS.synced, SlabS.app, SlabS.stepped, List.nil_append, List.length_append]
    congr 1
    omega
  obtain ⟨n, hn⟩ : ∃ n : Nat, n = ((((SlabS.mk 1000 [] 0 (-1)).app t0).synced.app t1).crash keep).bs.length := ⟨_, rfl⟩
  obtain ⟨S, hS⟩ : ∃ S : ByteArray, S = ⟨((((SlabS.mk 1000 [] 0 (-1)).app t0).synced.app t1).crash keep).bs.toArray⟩ := ⟨_, rfl⟩
  refine (up_Bytes h6 n hn S hS).mono ?_
  rintro e w7 ⟨A2, c2, rfl, h7, hc⟩
  clear h6
  rw [hbs] at hS
  obtain ⟨S0, hS0⟩ : ∃ S : ByteArray, S = ⟨t0.toArray⟩ := ⟨_, rfl⟩
  obtain ⟨S1, hS1⟩ : ∃ S : ByteArray, S = ⟨t1.toArray⟩ := ⟨_, rfl⟩
  have hs0 := run_str_rd w7 22 5 Try.underlying22 Try.underlying5 A0 c0 t0 (h7.rd r0)
  have hs1 := run_str_rd w7 22 5 Try.underlying22 Try.underlying5 A1 c1 t1 (h7.rd r1)
  rw [← hS0] at hs0
  rw [← hS1] at hs1
  have hfin := h7.below
  have e4 : (t0.length : Int) + m2 = (k : Int) := hk
  have z0 : S0.size = t0.length := by rw [hS0]; rfl
  have z1 : S1.size = t1.length := by rw [hS1]; rfl
  have hkl : (k : Int) ≤ S0.size + S1.size := by omega
  have z2 : S0.size + S1.size ≤ 600 := by omega
  have hEq : S = (S0 ++ S1).extract 0 k := by
    rw [hS, hS0, hS1]
    apply ByteArray.ext
    simp [ByteArray.data_extract, ByteArray.data_append]
  have hB : (S.toList == ((S0 ++ S1).extract 0 k).toList) = true := by rw [← hEq]; simp
  clear hm2 hk h7 r0 r1 hbs hn hS hS0 hS1 hEq z0 z1
  go_wp2
  go_ret
  exact ⟨rfl, hfin⟩
end Go.Proofs.Ytefalfalapnllaa
