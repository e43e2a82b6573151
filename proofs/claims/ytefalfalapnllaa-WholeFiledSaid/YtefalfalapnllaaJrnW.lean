/- The head of the journal's statements: a record is there when the journal is opened again. -/
import Derived.Test.YtefalfalapnllaaJrnG
import Derived.Test.YtefalfalapnllaaJrnD
import Derived.Test.YtefalfalapnllaaOnceN
namespace Go.Proofs.Ytefalfalapnllaa
open Go.RowKit Go.Shelf
set_option linter.unusedVariables false
theorem jsizeB (w : World) : (sizeOf 5).run Try.prog w = .ok 1 w := by kernel_rfl
theorem jguardID : Try.prog.eqGuardType Try.prog.depth 60 = false := by kernel_rfl
theorem jeql_same {o : Oper} {ev : Operand → Value} {w : World} {x y : Operand} {ty : TypeId} {a : List UInt8} (ho : o.op = .binOp .eql 60 x y ty) (hx : ev x = .agg (ida a)) (hy : ev y = .agg (ida a)) (ha : a.length = 32) :
    (execOp ev o).run Try.prog w = .ok (.value (.bool true)) w := by
  rw [exec_eql (T := 60) ho hx hy underID (by kernel_rfl) jsizeB ha ha jguardID, beq_self_eq_true]
theorem exec_neqJ {P : Program} {o : Oper} {ev : Operand → Value} {w : World} {T : TypeId} {e : TypeId} {m : Nat} {x y : Operand} {ty : TypeId} {a b : List UInt8} (ho : o.op = .binOp .neq T x y ty) (hx : ev x = .agg (ida a)) (hy : ev y = .agg (ida b))
    (ht : P.underlying T = some (.array m e)) (he : P.underlying e = some (.int .u8)) (hsz : ∀ w, (sizeOf e).run P w = .ok 1 w) (ha : a.length = m) (hb : b.length = m) (hg : P.eqGuardType P.depth T = false) :
    (execOp ev o).run P w = .ok (.value (.bool (!(a == b)))) w := by
  have h1 : (Op.equalIn (9998 + 2) T (.agg (ida a)) (.agg (ida b))).run P w = .ok (a == b) w := run_equalIn_bytes (P := P) w 9998 T e m ht he hsz a b ha hb
  have this : (binOp .neq T (.agg (ida a)) (.agg (ida b))).run P w = .ok (.bool (!(a == b))) w := by
    rw [run_neq_struct, h1]
    rfl
  unfold execOp
  simp [ho, hx, hy, eqGuard, hg, run_program, this]
theorem jneq {o : Oper} {ev : Operand → Value} {w : World} {x y : Operand} {ty : TypeId} {a b : List UInt8} {r : Bool} (ho : o.op = .binOp .neq 60 x y ty) (hx : ev x = .agg (ida a)) (hy : ev y = .agg (ida b)) (ha : a.length = 32) (hb : b.length = 32) (hr : (!(a == b)) = r) :
    (execOp ev o).run Try.prog w = .ok (.value (.bool r)) w := by
  rw [exec_neqJ (T := 60) ho hx hy underID (by kernel_rfl) jsizeB ha hb jguardID, hr]
theorem jeql {o : Oper} {ev : Operand → Value} {w : World} {x y : Operand} {ty : TypeId} {a b : List UInt8} {r : Bool} (ho : o.op = .binOp .eql 60 x y ty) (hx : ev x = .agg (ida a)) (hy : ev y = .agg (ida b)) (ha : a.length = 32) (hb : b.length = 32) (hr : (a == b) = r) :
    (execOp ev o).run Try.prog w = .ok (.value (.bool r)) w := by
  rw [exec_eql (T := 60) ho hx hy underID (by kernel_rfl) jsizeB ha hb jguardID, hr]
namespace Jrn
def one : List UInt8 := [111, 110, 101]
/-- the sum of the one record is some -/
theorem link_one : link zero one ≠ zero := fun h => by
  have h1 : Sha.nb (link zero one) = Once.NS (Sha.nb (Once.forB pRecord [zero, one])) 50 := by
    unfold link Once.sumFor
    exact Once.sum_NS _ _ _ rfl rfl
  rw [h] at h1
  have h2 : Sha.nb zero = 0 := by decide +kernel
  rw [h2] at h1
  have h3 : (Nat.beq 0 (Once.NS (Sha.nb (Once.forB pRecord [zero, one])) 50)) = false := by decide +kernel
  rw [← h1] at h3
  cases h3
end Jrn
theorem SlabS.append_ok {s : SlabS} {l : List UInt8} (h : (l.length : Int) ≤ s.room - s.bs.length) (h0 : s.steps ≠ 0) : s.append l = (s.app l, 0) := by
  unfold SlabS.append
  rw [if_neg (by omega), if_neg h0]
theorem SlabS.sync_ok {s : SlabS} (h0 : s.steps ≠ 0) : s.sync = (s.synced, 0) := by
  unfold SlabS.sync
  rw [if_neg h0]
/-- a record that is written, where there is power and room -/
theorem JS.write_ok (j : JS) (d : List UInt8) (hd : j.down = false) (hl : d.length ≤ 262144) (hr : ((35 + d.length : Nat) : Int) ≤ j.s.room - j.s.bs.length) (h0 : j.s.steps = -1) :
    j.write d = (⟨⟨j.s.room, j.s.bs ++ Jrn.recB j.last d, ((j.s.bs ++ Jrn.recB j.last d).length : Nat), -1⟩, j.rs ++ [d], Jrn.link j.last d, false⟩, 0) := by
  have ha := SlabS.append_ok (s := j.s) (l := Jrn.recB j.last d) (by rw [Jrn.recB_length]; exact hr) (by omega)
  have hst : (j.s.app (Jrn.recB j.last d)).steps ≠ 0 := by
    unfold SlabS.app SlabS.stepped
    simp only
    omega
  have hs := SlabS.sync_ok hst
  unfold JS.write
  rw [hd, if_neg (by simp), if_neg (by omega), ha]
  simp only
  rw [if_neg (by simp), hs]
  simp only
  rw [if_neg (by simp)]
  congr 2
  unfold SlabS.synced SlabS.app SlabS.stepped
  simp only [h0]
  rfl
theorem openOf_all (s : SlabS) (ds : List (List UInt8)) (hd : ∀ d ∈ ds, d.length < 16777216) (hb : s.bs = Jrn.all Jrn.zero ds) : openOf s = (some ⟨s, ds, Jrn.lastOf Jrn.zero ds, false⟩, 0) := by
  unfold openOf
  rw [hb, Jrn.opened_all ds hd]
  simp only
  rw [if_neg (by omega)]
end Go.Proofs.Ytefalfalapnllaa
