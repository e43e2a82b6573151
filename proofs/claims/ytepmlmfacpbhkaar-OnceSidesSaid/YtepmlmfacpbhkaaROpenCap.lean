/- A slice of bytes that was read: its length is within its room; and a slice of its first bytes. -/
import Derived.Test.YtepmlmfacpbhkaaROpenOnce
namespace Go.Proofs.YtepmlmfacpbhkaaR
open Go.ChangeShapes Go.WideShapes Go.ChangeAt Go.RowKit Go.Joins
set_option linter.unusedVariables false
theorem oopn_cap {H : Type} {enc : TypeId × Value → H} {w : World} {base : Nat} {spare : Nat → Bool} {held : Bool} {fuel : Nat} {x : DataW H × List MemPlace} {A : Option Addr} {n c : Nat} (h : DataW.trod enc Try.prog w base spare held fuel 66 [.slice A n c] = some x) : n ≤ c := by
  rcases open_ints Try.underlying66 Try.underlying5 (by kernel_rfl) h with ⟨e, _⟩ | ⟨a, len, cap, zs, e, _, hl, hm, hz, hxx, hcell, hwz⟩
  · simp at e
    omega
  · simp at e
    omega
theorem run_slice_pre (A : Option Addr) (n c m : Nat) (hm : m ≤ c) (w : World) : (Instr.slice 66 (.slice A n c) none (some (.int .i64 (m : Int))) none).run Try.prog w = .ok (.slice A m c) w := by
  have hu : Try.prog.underlying 66 = some (.slice (Try.prog.elem 66)) := by kernel_rfl
  have hs : (sizeOf (Try.prog.elem 66)).run Try.prog w = .ok 1 w := by kernel_rfl
  rw [run_slice_h (P := Try.prog) (w := w) 66 A n c hu .i64 (m : Int) (by omega) (by omega), hs]
  have hadd : A.map (·.add (0 * 1)) = A := by
    cases A with
    | none => rfl
    | some a =>
      have : a.add (0 * 1) = a := by unfold Addr.add; simp
      simp [this]
  simp only [Result.andThen, sliced, hadd]
  simp
theorem rd_take {w : World} {A : Option Addr} {l : List UInt8} (h : Rd w A (l.map bv)) (n : Nat) : Rd w A ((l.take n).map bv) := by
  intro h0
  have h1 : 0 < (l.map bv).length := by
    simp at h0 ⊢
    omega
  obtain ⟨b, off, e, hb, hc⟩ := h h1
  refine ⟨b, off, e, hb, fun j hj => ?_⟩
  have hj' : j < (l.map bv).length := by
    simp at hj ⊢
    omega
  rw [hc j hj']
  simp
end Go.Proofs.YtepmlmfacpbhkaaR
