/- Small laws for the lists of a drawn region, and for sums in memory. -/
import Derived.Test.YtefalfalapnllaaFor
import Derived.Test.YtefalfalapnllaaHeld
namespace Go.Proofs.Ytefalfalapnllaa
open Go.RowKit Go.Shelf
set_option linter.unusedVariables false
theorem once_lt {w : World} {g : Nat} {t : TypeId} {X : List UInt8} (h : Blk w g t (ida X)) : Rd w (some ⟨g, 0, none⟩) (X.map bv) := fun h0 =>
  ⟨g, 0, rfl, h.lt, fun j hj => by rw [Nat.zero_add, h.cell, ida, List.getElem?_toArray, List.getElem?_eq_getElem hj]⟩
theorem x_sl32 : (32 : Nat) = (ida z32).size := by rw [ida_size]; rfl
theorem getD_set_self {L : Array Bool} {i : Nat} (h : i < L.size) : (L.setIfInBounds i true).getD i false = true := by
  rw [Array.getD_eq_getD_getElem?, Array.getElem?_setIfInBounds_self_of_lt h]
  rfl
theorem getD_no {L : Array Bool} {i : Nat} (h : i < L.size) (h2 : L.getD i true = false) : L.getD i false = false := by
  rw [Array.getD_eq_getD_getElem?, Array.getElem?_eq_getElem h] at h2 ⊢
  exact h2
end Go.Proofs.Ytefalfalapnllaa
