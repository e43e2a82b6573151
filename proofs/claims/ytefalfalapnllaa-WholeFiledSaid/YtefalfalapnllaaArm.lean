/- Arms of a walk for values of many cells, in the plain walk and in the fenced one; sums as such values. -/
import Derived.Test.YtefalfalapnllaaAgg
import Derived.Test.YtefalfalapnllaaRange
import Derived.StillTailTactics
import Derived.Outline
import Derived.IntWalk
import Derived.Deep.CutBlock
import Derived.Deep.DeepCutAuto
import Derived.Lib.Hide
import Derived.Deep.RegionWith
namespace Go.Proofs.Ytefalfalapnllaa
open Go.RowKit Go.Shelf
set_option linter.unusedVariables false

section
variable {P : Program} {o : Oper} {ev : Operand → Value} {w : World} {T : TypeId}
/-- an array that is built out of nothing -/
theorem x_build0 {i : TypeInfo} {Z : Array Value} {m : Nat} {e : TypeId} {s : Nat} (ho : o.op = .build T #[]) (hi : P.info? T = some i) (hz : i.zero = some (.agg Z)) (hu : P.underlying T = some (.array m e))
    (hsz : ∀ w, (sizeOf e).run P w = .ok s w) : (execOp ev o).run P w = .ok (.value (.agg Z)) w := by
  unfold execOp
  simp [ho, Instr.build, zeroValue, typeInfo, hi, hz, run_underlying hu, hsz, Instr.fill, Value.cells]
theorem x_alloc {i : TypeInfo} {Z : Array Value} (ho : o.op = .alloc T) (hi : P.info? T = some i) (hz : i.zero = some (.agg Z)) :
    (execOp ev o).run P w = .ok (.value (.pointer (some ⟨w.heap.size, 0, none⟩))) (w.alloc (.cells Z T)) := exec_alloc ho hi hz
end
section
variable {P : Program} {ops : Array Oper} {rest : List Oper} {o : Oper} {a : Act} {w w' : World} {Q : Exit → Act → World → Prop} {F : Fence} {n : Nat}
theorem x_value {v : Value} (hr : (execOp a.eval o).run P w = .ok (.value v) w') (hgd : Region.wanted o (yielded ops a.tmps) = true) (h : wpList P ops Q rest (a.put o.dst v) w') : wpList P ops Q (o :: rest) a w :=
  wpList_step fun _ hK => by rw [if_pos hgd]; unfold Oper.wp; rw [hr]; exact hK _ _ h
theorem x_skip (hr : (execOp a.eval o).run P w = .ok .skip w') (hgd : o.guard = none) (h : wpList P ops Q rest (a.put o.dst undef) w') :
    wpList P ops Q (o :: rest) a w := wpList_of_skip hgd hr h
theorem x_value_in {v : Value} (hr : (execOp a.eval o).run P w = .ok (.value v) w') (hc : ∀ c, o.op ≠ .call c) (hd : ∀ c, o.op ≠ .defer c) (hgd : Region.wanted o (yielded ops a.tmps) = true) (h : wpListIn F n P ops Q rest (a.put o.dst v) w') :
    wpListIn F n P ops Q (o :: rest) a w := wpListIn_of_value_g hgd hc hd hr h
theorem x_skip_in (hr : (execOp a.eval o).run P w = .ok .skip w') (hc : ∀ c, o.op ≠ .call c) (hd : ∀ c, o.op ≠ .defer c) (hgd : o.guard = none) (h : wpListIn F n P ops Q rest (a.put o.dst undef) w') :
    wpListIn F n P ops Q (o :: rest) a w := wpListIn_of_skip hgd hc hd hr h
end
theorem Blk.at' {w : World} {g : Nat} {t : TypeId} {X : Array Value} (h : Blk w g t X) : At w g 0 X := fun j hj => by rw [Nat.zero_add, h.cell, Array.getElem?_eq_getElem hj]

def z32 : List UInt8 := List.replicate 32 0
theorem infoID : (Try.prog.info? 60).map (fun i => (i.zero, i.size, i.bytes)) = some (some (.agg (ida z32)), 32, 32) := by kernel_rfl
theorem underID : Try.prog.underlying 60 = some (.array 32 5) := by kernel_rfl
end Go.Proofs.Ytefalfalapnllaa
