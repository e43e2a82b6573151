/- WholeFiled walked, as its row wants it. -/
import Derived.Test.YtefalfalapnllaaFiledE
namespace Go.Proofs.Ytefalfalapnllaa
open Go.RowKit Go.Shelf
set_option linter.unusedVariables false
theorem wholeFiled_walk (A : Option Addr) (cA : Nat) (ms : List MsgD) (B : Option Addr) (cB : Nat) (cs : List (Int × Int)) (w : World) (hL : MsgsIn w A ms) (hC : CutsIn w B cs) :
    Calls Try.prog 8 #[.slice A ms.length cA, .slice B cs.length cB] w fun e w' => e = .returned (.bool true) ∧ Below w.heap.size w w' :=
  (wf_in A cA ms B cB cs w hL hC).mono fun e w' ⟨he, hn⟩ => ⟨he, hn.below (Nat.le_refl _) (fun _ => False.elim)⟩
end Go.Proofs.Ytefalfalapnllaa
