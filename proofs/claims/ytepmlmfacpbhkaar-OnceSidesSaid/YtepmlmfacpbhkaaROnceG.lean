/- The head of the statements: one key's signature shows its public key, and another text's doesn't. -/
import Derived.Test.YtepmlmfacpbhkaaROnceF
import Derived.Test.YtepmlmfacpbhkaaROnceN
namespace Go.Proofs.YtepmlmfacpbhkaaR
open Go.RowKit Go.Shelf
set_option linter.unusedVariables false

section
variable {P : Program} {o : Oper} {ev : Operand → Value} {w : World} {T : TypeId}
theorem exec_neq {e : TypeId} {m : Nat} {x y : Operand} {ty : TypeId} {a b : List UInt8} (ho : o.op = .binOp .neq T x y ty) (hx : ev x = .agg (ida a)) (hy : ev y = .agg (ida b))
    (ht : P.underlying T = some (.array m e)) (he : P.underlying e = some (.int .u8)) (hsz : ∀ w, (sizeOf e).run P w = .ok 1 w) (ha : a.length = m) (hb : b.length = m) (hg : P.eqGuardType P.depth T = false) :
    (execOp ev o).run P w = .ok (.value (.bool (!(a == b)))) w := by
  have h1 : (Op.equalIn (9998 + 2) T (.agg (ida a)) (.agg (ida b))).run P w = .ok (a == b) w := run_equalIn_bytes (P := P) w 9998 T e m ht he hsz a b ha hb
  have this : (binOp .neq T (.agg (ida a)) (.agg (ida b))).run P w = .ok (.bool (!(a == b))) w := by
    rw [run_neq_struct, h1]
    rfl
  unfold execOp
  simp [ho, hx, hy, eqGuard, hg, run_program, this]
end
theorem sizeB (w : World) : (sizeOf 5).run Try.prog w = .ok 1 w := by kernel_rfl
theorem guardID : Try.prog.eqGuardType Try.prog.depth 32 = false := by kernel_rfl
theorem spliceL (X : List Value) : ∀ (cs : List Value) (off k : Nat), off + k + X.length ≤ cs.length →
    ((X.zipIdx k).foldl (fun (cs : Array Value) (p : Value × Nat) => cs.setIfInBounds (off + p.2) p.1) cs.toArray) = (cs.take (off + k) ++ X ++ cs.drop (off + k + X.length)).toArray := by
  induction X with
  | nil => intro cs off k h; simp
  | cons x X ih =>
    intro cs off k h
    simp only [List.length_cons] at h
    rw [List.zipIdx_cons, List.foldl_cons]
    have e : (cs.toArray.setIfInBounds (off + k) x) = (cs.set (off + k) x).toArray := by simp
    simp only [e]
    rw [ih (cs.set (off + k) x) off (k + 1) (by simp; omega)]
    congr 1
    have e2 : (cs.set (off + k) x).take (off + (k + 1)) = cs.take (off + k) ++ [x] := by
      have : off + (k + 1) = (off + k) + 1 := by omega
      rw [this, List.take_add_one, List.take_set_of_le (Nat.le_refl _), List.getElem?_set_self (by omega)]
      rfl
    have e3 : (cs.set (off + k) x).drop (off + (k + 1) + X.length) = cs.drop (off + k + (x :: X).length) := by
      rw [List.drop_set_of_lt (by omega)]
      congr 1
      simp
      omega
    rw [e2, e3]
    simp
/-- a key that is built -/
theorem exec_build_key {o : Oper} {ev : Operand → Value} {w : World} {seed : List UInt8} {num : Int} {x y : Operand} (ho : o.op = .build 62 #[(0, x), (1, y)]) (hx : ev x = .agg (ida seed)) (hy : ev y = .int .i64 num) (hX : seed.length = 32) :
    (execOp ev o).run Try.prog w = .ok (.value (.agg (keyC seed num))) w := by
  have h1 : (zeroValue 62).run Try.prog w = .ok (.agg (keyC z32 0)) w := by kernel_rfl
  have h3 : ∀ w, (sizeOf 3).run Try.prog w = .ok 1 w := fun w => by kernel_rfl
  have h4 : ∀ w, (sizeOf 32).run Try.prog w = .ok 32 w := fun w => by kernel_rfl
  have hzl : (keyC z32 0).toList = z32.map bv ++ [.int .i64 0] := rfl
  have hs2 := spliceL (ida seed).toList (z32.map bv ++ [.int .i64 0]) 0 0 (by simp [ida, hX, z32])
  have e2 : (List.take (0 + 0) (z32.map bv ++ [.int .i64 0]) ++ (ida seed).toList ++ List.drop (0 + 0 + (ida seed).toList.length) (z32.map bv ++ [Value.int .i64 0])) = seed.map bv ++ [.int .i64 0] := by
    have hl : (ida seed).toList.length = 32 := by simp [ida, hX]
    rw [hl]
    simp [ida, z32]
  rw [e2] at hs2
  have hf : Array.foldl (fun (cs : Array Value) (x : Value × Nat) => cs.setIfInBounds x.2 x.1) (keyC z32 0) (ida seed).zipIdx 0 32 = (seed.map bv ++ [Value.int .i64 0]).toArray := by
    have h32 : (ida seed).zipIdx.size = 32 := by simp [ida, hX]
    rw [← h32, ← Array.foldl_toList, Array.toList_zipIdx]
    have := hs2
    simp only [Nat.zero_add] at this
    exact this
  have hset : (seed.map bv ++ [Value.int .i64 0]).set 32 (.int .i64 num) = seed.map bv ++ [Value.int .i64 num] := by
    simp [List.set_append, hX]
  have hk : (keyC z32 0).size = 33 := rfl
  have hke : keyC seed num = (seed.map bv ++ [Value.int .i64 num]).toArray := rfl
  have hsz : (ida seed).size = 32 := by rw [ida_size, hX]
  unfold execOp
  simp [ho, Instr.build, h1, run_underlying Try.underlying62, h3, h4, hx, hy, Instr.fill, Value.cells, hsz, hf, hset, hk, hke, hX]
theorem exec_build_one {o : Oper} {ev : Operand → Value} {w : World} {x : Operand} (ho : o.op = .build 32 #[(0, x)]) (hx : ev x = .int .u8 1) :
    (execOp ev o).run Try.prog w = .ok (.value (.agg (ida Once.seed1))) w := by
  have h1 : (zeroValue 32).run Try.prog w = .ok (.agg (ida z32)) w := by kernel_rfl
  have hset : (ida z32).setIfInBounds 0 (.int .u8 1) = ida Once.seed1 := rfl
  have hne : ida z32 ≠ #[] := fun h => by have := congrArg Array.size h; simp [ida, z32] at this
  unfold execOp
  simp [ho, Instr.build, h1, run_underlying underID, sizeB, hx, Instr.fill, Value.cells, hset, hne]
end Go.Proofs.YtepmlmfacpbhkaaR
