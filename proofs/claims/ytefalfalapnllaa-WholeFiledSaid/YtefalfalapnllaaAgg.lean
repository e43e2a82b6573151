/- Words on values of many cells (arrays, structs), whose cells are not looked into: one law an operation, in the plain walk and in the fenced one. -/
import Derived.Test.YtefalfalapnllaaBase
import Derived.Stop.BytesEq
import Derived.TacticsIn
import Derived.RangeFuncNested
import Derived.RangeFuncBound
import Derived.RangeFuncCalls
import Derived.RangeFuncLeaves
import Derived.RangeFuncWrites
import Derived.OwnWalkIn
import Derived.TacticsInMore
import Derived.LoopNIn
import Derived.LoopIn
namespace Go.Proofs.Ytefalfalapnllaa
open Go.RowKit
set_option linter.unusedVariables false

section
variable {P : Program} {ops : Array Oper} {rest : List Oper} {o : Oper} {a : Act} {w w' : World} {Q : Exit → Act → World → Prop} {F : Fence} {n : Nat}

theorem wpList_of_value {v : Value} (hgd : o.guard = none) (hr : (execOp a.eval o).run P w = .ok (.value v) w') (h : wpList P ops Q rest (a.put o.dst v) w') : wpList P ops Q (o :: rest) a w :=
  wpList_plain hgd fun _ hK => by unfold Oper.wp; rw [hr]; exact hK _ _ h
theorem wpList_of_skip (hgd : o.guard = none) (hr : (execOp a.eval o).run P w = .ok .skip w') (h : wpList P ops Q rest (a.put o.dst undef) w') : wpList P ops Q (o :: rest) a w :=
  wpList_plain hgd fun _ hK => by unfold Oper.wp; rw [hr]; exact hK _ _ h
theorem wpListIn_of_value {v : Value} (hgd : o.guard = none) (hc : ∀ c, o.op ≠ .call c) (hd : ∀ c, o.op ≠ .defer c) (hr : (execOp a.eval o).run P w = .ok (.value v) w') (h : wpListIn F n P ops Q rest (a.put o.dst v) w') :
    wpListIn F n P ops Q (o :: rest) a w :=
  wpListIn_plain hgd fun _ hK => by
    unfold Oper.wpIn
    rw [Oper.semAt_eq _ _ _ hd, hr]
    refine ⟨fun f hf => ?_, hK _ _ h⟩
    unfold Oper.about at hf
    split at hf
    · rename_i c e; exact absurd e (hc c)
    · cases hf
theorem wpListIn_of_value_g {v : Value} (hgd : Region.wanted o (yielded ops a.tmps) = true) (hc : ∀ c, o.op ≠ .call c) (hd : ∀ c, o.op ≠ .defer c) (hr : (execOp a.eval o).run P w = .ok (.value v) w') (h : wpListIn F n P ops Q rest (a.put o.dst v) w') :
    wpListIn F n P ops Q (o :: rest) a w :=
  wpListIn_step fun K hK => by
    rw [if_pos hgd]
    unfold Oper.wpIn
    rw [Oper.semAt_eq _ _ _ hd, hr]
    refine ⟨fun f hf => ?_, hK _ _ h⟩
    unfold Oper.about at hf
    split at hf
    · rename_i c e; exact absurd e (hc c)
    · cases hf
theorem wpListIn_of_skip (hgd : o.guard = none) (hc : ∀ c, o.op ≠ .call c) (hd : ∀ c, o.op ≠ .defer c) (hr : (execOp a.eval o).run P w = .ok .skip w') (h : wpListIn F n P ops Q rest (a.put o.dst undef) w') :
    wpListIn F n P ops Q (o :: rest) a w :=
  wpListIn_plain hgd fun _ hK => by
    unfold Oper.wpIn
    rw [Oper.semAt_eq _ _ _ hd, hr]
    refine ⟨fun f hf => ?_, hK _ _ h⟩
    unfold Oper.about at hf
    split at hf
    · rename_i c e; exact absurd e (hc c)
    · cases hf
end

/-- the cells X lie at block g from place off on -/
def At (w : World) (g off : Nat) (X : Array Value) : Prop := ∀ j (h : j < X.size), w.cell? ⟨g, off + j, none⟩ = some X[j]

theorem Blk.setRow {w : World} {g : Nat} {t : TypeId} {cs : Array Value} (h : Blk w g t cs) (X : Array Value) : Blk (w.setRow g X) g t X := setRow_heap _ _ cs X t (0, 0) h
theorem Fr.setRow {S : Nat → Prop} {a w : World} (h : Fr S a w) {g : Nat} (hS : S g) (X : Array Value) : Fr S a (w.setRow g X) :=
  h.trans ⟨rfl, rfl, rfl, by simp [World.setRow], fun k _ hs => setRow_other _ _ _ _ (fun e => hs (e ▸ hS))⟩ (fun _ hx => .inl hx)
/-- bytes as cells -/
def ida (l : List UInt8) : Array Value := (l.map bv).toArray
theorem ida_size (l : List UInt8) : (ida l).size = l.length := by simp [ida]
theorem ida_one (l : List UInt8) : ∀ v ∈ (ida l).toList, v.oneCell' = true := by
  intro v hv
  simp [ida] at hv
  obtain ⟨b, _, rfl⟩ := hv
  rfl

section
variable {P : Program} {o : Oper} {ev : Operand → Value} {w : World} {T : TypeId}

theorem exec_alloc {i : TypeInfo} {Z : Value} (ho : o.op = .alloc T) (hi : P.info? T = some i) (hz : i.zero = some Z) :
    (execOp ev o).run P w = .ok (.value (.pointer (some ⟨w.heap.size, 0, none⟩))) (w.alloc (.cells Z.cells T)) := by
  unfold execOp
  simp [ho, Instr.alloc, zeroValue, typeInfo, hi, hz, newVar, newRow, newObj]
  rfl
theorem exec_box {X : Array Value} {x : Operand} (ho : o.op = .box T x) (hx : ev x = .agg X) :
    (execOp ev o).run P w = .ok (.value (.pointer (some ⟨w.heap.size, 0, none⟩))) (w.alloc (.cells X T)) := by
  unfold execOp
  simp [ho, Instr.box, hx, newVar, newRow, newObj, Value.cells]
  rfl
theorem exec_load {i : TypeInfo} {d : TypeDesc} {X : Array Value} {x : Operand} {g off : Nat} (ho : o.op = .load T x) (hx : ev x = .pointer (some ⟨g, off, none⟩))
    (hu : P.underlying T = some d) (hd : (match d with | .struct _ | .array _ _ => true | _ => false) = true) (hi : P.info? T = some i) (hs : i.size = X.size) (hX : At w g off X) :
    (execOp ev o).run P w = .ok (.value (.agg X)) w := by
  have hagg : (isAgg T).run P w = .ok true w := by
    unfold isAgg
    rw [Sem.run_bind, run_underlying hu w]
    cases d <;> simp_all
  have hl : (loadCells ⟨g, off, none⟩ X.toList.length).run P w = .ok X.toList.toArray w :=
    run_loadCells_list (P := P) w ⟨g, off, none⟩ X.toList (fun j v hv => by
      obtain ⟨hj, hjv⟩ := List.getElem?_eq_some_iff.1 hv
      rw [add_none, hX j (by simpa using hj)]
      simpa using hjv)
  simp only [Array.length_toList, Array.toArray_toList] at hl
  unfold execOp
  simp [ho, hx, Instr.loadAt, Instr.sureAddr, loadVar, Sem.run_bind, hagg, sizeOf, typeInfo, hi, hs, hl]
theorem exec_store {i : TypeInfo} {X cs : Array Value} {x v : Operand} {g off : Nat} {t : TypeId} (ho : o.op = .store T x v) (hx : ev x = .pointer (some ⟨g, off, none⟩)) (hv : ev v = .agg X)
    (hi : P.info? T = some i) (hs : i.size = X.size) (h1 : ∀ v ∈ X.toList, v.oneCell' = true) (hg : Blk w g t cs) (hr : off + X.size ≤ cs.size) :
    (execOp ev o).run P w = .ok .skip (w.setRow g (cs.toList.take off ++ X.toList ++ cs.toList.drop (off + X.size)).toArray) := by
  have hst := run_storeCells_at P g off t X.toList 0 cs w hg (by simpa using hr) h1
  simp only [Nat.add_zero, Array.length_toList] at hst
  unfold execOp
  simp [ho, hx, hv, Instr.storeAt, Instr.sureAddr, storeVar, Value.cells, sizeOf, typeInfo, hi, hs, hst]
theorem alloc_setRow (w : World) (Z X : Array Value) (t : TypeId) : (w.alloc (.cells Z t)).setRow w.heap.size X = w.alloc (.cells X t) := by
  have hh : ((w.alloc (.cells Z t)).setRow w.heap.size X).heap = (w.alloc (.cells X t)).heap := by
    apply Array.ext_getElem?
    intro j
    by_cases h : j = w.heap.size
    · subst h
      rw [setRow_heap _ _ Z X t (0, 0) (heap_alloc_new w _), heap_alloc_new]
    · rw [setRow_other _ _ _ _ h]
      show (w.heap.push _)[j]? = (w.heap.push _)[j]?
      rw [Array.getElem?_push, Array.getElem?_push, if_neg h, if_neg h]
  show ({ (w.alloc (.cells Z t)) with heap := ((w.alloc (.cells Z t)).setRow w.heap.size X).heap } : World) = _
  rw [hh]
  rfl
theorem exec_store_new {i : TypeInfo} {X Z : Array Value} {x v : Operand} {t : TypeId} {n : Nat} (ho : o.op = .store T x v) (hx : ev x = .pointer (some ⟨n, 0, none⟩)) (hn : n = w.heap.size) (hv : ev v = .agg X)
    (hi : P.info? T = some i) (hs : i.size = X.size) (h1 : ∀ v ∈ X.toList, v.oneCell' = true) (hz : Z.size = X.size) :
    (execOp ev o).run P (w.alloc (.cells Z t)) = .ok .skip (w.alloc (.cells X t)) := by
  subst hn
  rw [exec_store ho hx hv hi hs h1 (Blk.new w t Z) (by omega)]
  have : (Z.toList.take 0 ++ X.toList ++ Z.toList.drop (0 + X.size)).toArray = X := by
    rw [List.take_zero, List.nil_append, Nat.zero_add, List.drop_of_length_le (by simp; omega)]
    simp
  rw [this, alloc_setRow]
theorem exec_store_all {i : TypeInfo} {X cs : Array Value} {x v : Operand} {g : Nat} {t : TypeId} (ho : o.op = .store T x v) (hx : ev x = .pointer (some ⟨g, 0, none⟩)) (hv : ev v = .agg X)
    (hi : P.info? T = some i) (hs : i.size = X.size) (h1 : ∀ v ∈ X.toList, v.oneCell' = true) (hg : Blk w g t cs) (hr : cs.size = X.size) :
    (execOp ev o).run P w = .ok .skip (w.setRow g X) := by
  rw [exec_store ho hx hv hi hs h1 hg (by omega)]
  have : (cs.toList.take 0 ++ X.toList ++ cs.toList.drop (0 + X.size)).toArray = X := by
    rw [List.take_zero, List.nil_append, Nat.zero_add, List.drop_of_length_le (by simp; omega)]
    simp
  rw [this]
/-- two byte arrays, held against each other -/
theorem exec_eql {e : TypeId} {m : Nat} {x y : Operand} {ty : TypeId} {a b : List UInt8} (ho : o.op = .binOp .eql T x y ty) (hx : ev x = .agg (ida a)) (hy : ev y = .agg (ida b))
    (ht : P.underlying T = some (.array m e)) (he : P.underlying e = some (.int .u8)) (hsz : ∀ w, (sizeOf e).run P w = .ok 1 w) (ha : a.length = m) (hb : b.length = m) (hg : P.eqGuardType P.depth T = false) :
    (execOp ev o).run P w = .ok (.value (.bool (a == b))) w := by
  have this : (binOp .eql T (.agg (ida a)) (.agg (ida b))).run P w = .ok (.bool (a == b)) w := run_eql_bytes (P := P) w T e m ht he hsz a b ha hb
  unfold execOp
  simp [ho, hx, hy, eqGuard, hg, run_program, this]
end
end Go.Proofs.Ytefalfalapnllaa
