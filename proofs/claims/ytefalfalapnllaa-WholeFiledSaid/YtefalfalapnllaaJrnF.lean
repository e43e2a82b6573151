/- Package journal: pieces of a slice of bytes; what Open hands back, plain. -/
import Derived.Test.YtefalfalapnllaaJrnBM
namespace Go.Proofs.Ytefalfalapnllaa
open Go.RowKit Go.Shelf
set_option linter.unusedVariables false
theorem sl_hu : Try.prog.underlying 22 = some (.slice (Try.prog.elem 22)) := by kernel_rfl
theorem sl_hs (w : World) : (sizeOf (Try.prog.elem 22)).run Try.prog w = .ok 1 w := by kernel_rfl
theorem sl_from (g off n c a : Nat) (ha : a ≤ n) (hc : a < c) (w : World) : (Instr.slice 22 (.slice (some ⟨g, off, none⟩) n c) (some (.int .i64 (a : Int))) none none).run Try.prog w = .ok (.slice (some ⟨g, off + a, none⟩) (n - a) (c - a)) w := by
  rw [run_slice_l (P := Try.prog) (w := w) 22 (some ⟨g, off, none⟩) n c sl_hu .i64 (a : Int) (by omega) (by omega), sl_hs]
  simp only [Result.andThen, sliced, Int.toNat_natCast]
  rw [if_neg (by omega)]
  simp [Addr.add_lit]
theorem sl_pre (A : Option Addr) (n c m : Nat) (hm : m ≤ c) (w : World) : (Instr.slice 22 (.slice A n c) none (some (.int .i64 (m : Int))) none).run Try.prog w = .ok (.slice A m c) w := by
  rw [run_slice_h (P := Try.prog) (w := w) 22 A n c sl_hu .i64 (m : Int) (by omega) (by omega), sl_hs]
  have hadd : A.map (·.add (0 * 1)) = A := by
    cases A with
    | none => rfl
    | some a =>
      have : a.add (0 * 1) = a := by unfold Addr.add; simp
      simp [this]
  simp only [Result.andThen, sliced, hadd]
  simp
/-- where a piece begins -/
def slA (g off c l : Nat) : Addr := if c = l then ⟨g, off, none⟩ else ⟨g, off + l, none⟩
theorem sl_mid (g off n c l h : Nat) (hl : l ≤ h) (hh : h ≤ c) (w : World) : (Instr.slice 22 (.slice (some ⟨g, off, none⟩) n c) (some (.int .i64 (l : Int))) (some (.int .i64 (h : Int))) none).run Try.prog w = .ok (.slice (some (slA g off c l)) (h - l) (c - l)) w := by
  rw [run_slice_lh (P := Try.prog) (w := w) 22 (some ⟨g, off, none⟩) n c sl_hu .i64 .i64 (l : Int) (h : Int) (by omega) (by omega) (by omega), sl_hs]
  simp only [Result.andThen, sliced, Int.toNat_natCast, slA]
  split <;> simp [Addr.add_lit]
theorem rd_drop {w : World} {g off : Nat} {l : List UInt8} (h : Rd w (some ⟨g, off, none⟩) (l.map bv)) (k : Nat) : Rd w (some ⟨g, off + k, none⟩) ((l.drop k).map bv) := by
  intro h0
  have h1 : 0 < (l.map bv).length := by
    simp at h0 ⊢
    omega
  obtain ⟨b, o, e, hb, hc⟩ := h h1
  cases e
  refine ⟨g, off + k, rfl, hb, fun j hj => ?_⟩
  have hj' : k + j < (l.map bv).length := by
    simp at hj ⊢
    omega
  rw [Nat.add_assoc, hc (k + j) hj']
  simp
/-- a piece reads as that piece -/
theorem rd_mid {w : World} {g off : Nat} {l : List UInt8} (h : Rd w (some ⟨g, off, none⟩) (l.map bv)) (c k m : Nat) (hk : c = k → ((l.drop k).take m) = []) : Rd w (some (slA g off c k)) (((l.drop k).take m).map bv) := by
  by_cases hc : c = k
  · rw [hk hc]
    exact fun h0 => by simp at h0
  · unfold slA
    rw [if_neg hc]
    exact rd_take (rd_drop h k) m
def openOf (s : SlabS) : Option JS × Int :=
  match Jrn.opened s.bs with
  | .torn => (none, 100)
  | .stop a rs last => if a < s.bs.length then (if s.steps = 0 then (none, 90) else (some ⟨s.cut a, rs, last, false⟩, 0)) else (some ⟨s, rs, last, false⟩, 0)
/-- what Open hands back -/
def OpenPost (w : World) (F : Nat → Prop) (p : Nat) (s : SlabS) (e : Ending) (w' : World) : Prop :=
  match openOf s with
  | (none, c) => e = .returned (.tuple #[.pointer none, .int .i64 c]) ∧ SlabAt w' F p s ∧ New w w'
  | (some j, _) => ∃ (q : Nat) (G : Nat → Prop) (A : Option Addr) (c : Nat) (ps : List Part), e = .returned (.tuple #[.pointer (some ⟨q, 0, none⟩), .int .i64 0]) ∧ SlabAt w' F p j.s ∧ JAt w' G q p j.rs j.last j.down A c ps ∧ (∀ k, G k → w.heap.size ≤ k) ∧ Fr F w w'
/-- a new journal is built -/
theorem exec_build_jrn {o : Oper} {ev : Operand → Value} {w : World} {x : Operand} {p : Nat} (ho : o.op = .build 92 #[(0, x)]) (hx : ev x = .pointer (some ⟨p, 0, none⟩)) :
    (execOp ev o).run Try.prog w = .ok (.value (.agg (jc p none 0 0 z32 false))) w := by
  have h1 : (zeroValue 92).run Try.prog w = .ok (.agg ((Value.pointer none :: Value.slice none 0 0 :: (z32.map bv ++ [Value.bool false])).toArray)) w := by kernel_rfl
  have hset : ((Value.pointer none :: Value.slice none 0 0 :: (z32.map bv ++ [Value.bool false])).toArray).setIfInBounds 0 (.pointer (some ⟨p, 0, none⟩)) = jc p none 0 0 z32 false := by
    unfold jc
    simp
  have hsz : ((Value.pointer none :: Value.slice none 0 0 :: (z32.map bv ++ [Value.bool false])).toArray).size = 35 := rfl
  generalize ((Value.pointer none :: Value.slice none 0 0 :: (z32.map bv ++ [Value.bool false])).toArray) = Z at *
  have hne : Z ≠ #[] := fun e => by rw [e] at hsz; simp at hsz
  unfold execOp
  simp [ho, Instr.build, h1, run_underlying Try.underlying92, hx, Instr.fill, Value.cells, hset, hsz, hne]
theorem infoJ : (Try.prog.info? 92).map (fun i => (i.zero, i.size, i.bytes)) = some (some (.agg ((Value.pointer none :: Value.slice none 0 0 :: (z32.map bv ++ [Value.bool false])).toArray)), 35, 72) := by kernel_rfl
theorem i64_or_nat (a b : Nat) (ha : a < 4611686018427387904) (hb : b < 4611686018427387904) : bits .or .i64 (a : Int) (b : Int) = ((a ||| b : Nat) : Int) := by
  have hx : a ||| b < 2 ^ 62 := Nat.or_lt_two_pow (by omega) (by omega)
  show IntKind.i64.wrap ((BitVec.ofInt 64 (a : Int) ||| BitVec.ofInt 64 (b : Int)).toNat : Int) = _
  rw [BitVec.toNat_or, ofInt_u64 a (by omega), ofInt_u64 b (by omega), IntWalk.i64_in _ (by omega)]
/-- a length out of its three bytes -/
theorem or3 (x y z : UInt8) : bits .or .i64 (bits .or .i64 ((x.toNat : Int) * 65536) ((y.toNat : Int) * 256)) (z.toNat : Int) = ((x.toNat * 65536 + y.toNat * 256 + z.toNat : Nat) : Int) := by
  have hx := UInt8.toNat_lt x
  have hy := UInt8.toNat_lt y
  have hz := UInt8.toNat_lt z
  have e1 : x.toNat * 65536 ||| y.toNat * 256 = x.toNat * 65536 + y.toNat * 256 := by
    have := Nat.shiftLeft_add_eq_or_of_lt (i := 16) (b := y.toNat * 256) (by omega) x.toNat
    rw [Nat.shiftLeft_eq] at this
    exact this.symm
  have e2 : x.toNat * 65536 + y.toNat * 256 ||| z.toNat = x.toNat * 65536 + y.toNat * 256 + z.toNat := by
    have := Nat.shiftLeft_add_eq_or_of_lt (i := 8) (b := z.toNat) (by omega) (x.toNat * 256 + y.toNat)
    rw [Nat.shiftLeft_eq, Nat.add_mul, Nat.mul_assoc] at this
    exact this.symm
  have h1 : ((x.toNat : Int) * 65536) = ((x.toNat * 65536 : Nat) : Int) := by omega
  have h2 : ((y.toNat : Int) * 256) = ((y.toNat * 256 : Nat) : Int) := by omega
  rw [h1, h2, i64_or_nat _ _ (by omega) (by omega), e1, i64_or_nat _ _ (by omega) (by omega), e2]
end Go.Proofs.Ytefalfalapnllaa
