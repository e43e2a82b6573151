/- The walks of SlabOwn, SlabCuts and SlabSteps at every input. -/
import Derived.Test.YtefalfalapnllaaSlabCuts
import Derived.Test.YtefalfalapnllaaSlabOwn
import Derived.Test.YtefalfalapnllaaSlabSteps
namespace Go.Proofs.Ytefalfalapnllaa
open Go.RowKit
set_option linter.unusedVariables false

theorem slabOwn_walk (A : Option Addr) (n c : Nat) (l : List UInt8) (w : World) (i : BytesIn w A n c l) :
    Calls Try.prog 4 #[.slice A n c] w fun e w' => e = .returned (.bool true) ∧ Below w.heap.size w w' := by
  by_cases h : 1000 < n
  · exact slabOwn_big A n c w h
  · obtain rfl := i.len
    exact slabOwn_in A c l w i (by omega)

theorem slabCuts_walk (A0 : Option Addr) (n0 c0 : Nat) (l0 : List UInt8) (A1 : Option Addr) (n1 c1 : Nat) (l1 : List UInt8) (pos : Int) (w : World) (i0 : BytesIn w A0 n0 c0 l0) (i1 : BytesIn w A1 n1 c1 l1) :
    Calls Try.prog 6 #[.slice A0 n0 c0, .slice A1 n1 c1, .int .i64 pos] w fun e w' => e = .returned (.bool true) ∧ Below w.heap.size w w' := by
  by_cases h : 500 < n0 ∨ 500 < n1
  · exact slabCuts_big A0 n0 c0 A1 n1 c1 pos w h
  · obtain rfl := i0.len
    obtain rfl := i1.len
    by_cases hp : pos < 0 ∨ (l0.length : Int) < pos
    · exact slabCuts_out A0 c0 l0 A1 c1 l1 pos w i0 i1 (by omega) (by omega) hp
    · obtain ⟨k, rfl⟩ := Int.eq_ofNat_of_zero_le (a := pos) (by omega)
      exact slabCuts_in A0 c0 l0 A1 c1 l1 k w i0 i1 (by omega) (by omega) (by omega)

theorem slabSteps_walk (steps : Int) (A0 : Option Addr) (n0 c0 : Nat) (l0 : List UInt8) (A1 : Option Addr) (n1 c1 : Nat) (ks : List Bool) (w : World) (i0 : BytesIn w A0 n0 c0 l0) (hk : ks.length = n1) (rk : Rd w A1 (ks.map Value.bool)) :
    Calls Try.prog 5 #[.int .i64 steps, .slice A0 n0 c0, .slice A1 n1 c1] w fun e w' => e = .returned (.bool true) ∧ Below w.heap.size w w' := by
  by_cases h : steps < 0 ∨ 30 < steps ∨ 20 < n0 ∨ 60 < n1
  · exact slabSteps_out steps A0 n0 c0 A1 n1 c1 w h
  · obtain rfl := i0.len
    subst hk
    obtain ⟨m, rfl⟩ := Int.eq_ofNat_of_zero_le (a := steps) (by omega)
    exact slabSteps_in m A0 c0 l0 A1 c1 ks w i0 rk (by omega) (by omega) (by omega)
end Go.Proofs.Ytefalfalapnllaa
