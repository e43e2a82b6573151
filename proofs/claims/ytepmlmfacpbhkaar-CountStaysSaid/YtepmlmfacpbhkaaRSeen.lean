/- A set of triples of numbers that a call has made: map[[3]int]bool. -/
import Derived.Test.YtepmlmfacpbhkaaRBase
import Derived.Maps.OwnSet
import Derived.Maps.Views
import Derived.WideKeyArr2
namespace Go.Proofs.YtepmlmfacpbhkaaR
open Go.RowKit
set_option linter.unusedVariables false

theorem arr3 : Go.WideMaps.ArrKey Try.prog 41 3 3 := ⟨Try.underlying41, by kernel_rfl, by kernel_rfl, by kernel_rfl⟩
theorem keyed3 : Maps.Keyed Try.prog 41 := Maps.Keyed.of_law arr3.law
def k3 (a b c : Int) : Value := .agg #[.int .i64 a, .int .i64 b, .int .i64 c]
def kl3 (a b c : Int) : Lit := .string (keyBytes [.int .i64 a, .int .i64 b, .int .i64 c])
/-- a number of 64 bits -/
def Num (a : Int) : Prop := (Lit.int .i64 a).wf = true
theorem keyOf3 {a b c : Int} (wa : Num a) (wb : Num b) (wc : Num c) : keyOf Try.prog 41 (k3 a b c) = some (kl3 a b c) := by
  have hkt : Try.prog.keyType 41 = true := by kernel_rfl
  unfold Num at wa wb wc
  unfold keyOf k3 kl3
  simp only [Try.underlying41]
  have hf : (Value.agg #[.int .i64 a, .int .i64 b, .int .i64 c]).formed Try.prog 41 = true := by
    have : Try.prog.cellsOf 41 = 3 := by kernel_rfl
    simp [Value.formed, Try.underlying41, this]
  rw [if_pos (by rw [hkt, hf]; rfl)]
  obtain ⟨m, hm⟩ : ∃ m, Try.prog.types.size = m + 1 := ⟨Try.prog.types.size - 1, by kernel_rfl⟩
  rw [hm]
  unfold Program.keyLits
  have h3 : Try.prog.cellsOf 41 = 3 := by kernel_rfl
  have h1 : Try.prog.cellsOf 3 = 1 := by kernel_rfl
  simp only [Try.underlying41, Value.cells, h3, h1]
  have hk : ∀ x : Int, (Lit.int .i64 x).wf = true → Try.prog.keyLits (m + 1) 3 [.int .i64 x] = some [.int .i64 x] := fun x wx => by
    simp [Program.keyLits, Try.underlying3, wx]
  have hr : List.range 3 = [0, 1, 2] := by decide
  simp [hr, List.mapM_cons, hk a wa, hk b wb, hk c wc]
theorem plainBool_inv {H : Type} {P : Program} {t : TypeId} (he : P.underlying t = some .bool) {v : Value} {d : DataW H} {ps : List MemPlace} (h : plainElem (H := H) P t v = some (d, ps)) : ∃ x : Bool, v = .bool x ∧ d = .lit (.bool x) := by
  unfold plainElem at h
  rw [he] at h
  cases v <;> simp at h
  exact ⟨_, rfl, h.1.symm⟩
/-- block m is a map of at most n entries, in which these triples are said to be seen -/
def Seen (W : World) (m n : Nat) (ks : List (Int × Int × Int)) : Prop :=
  ∃ D : DataW Unit, W.ownsMap Try.prog 41 (plainElem Try.prog 4) m n D ∧ Maps.IsMap D ∧ ∀ k ∈ ks, D.atKey (kl3 k.1 k.2.1 k.2.2) (.lit (.bool false)) = .lit (.bool true)
theorem Seen.made (w : World) : Seen (w.alloc (.map #[] 0)) w.heap.size 0 [] := ⟨_, World.ownsMap_made w _ _ _, ⟨_, rfl⟩, fun k hk => by cases hk⟩
theorem Seen.lt {W : World} {m n : Nat} {ks} (h : Seen W m n ks) : m < W.heap.size := by
  obtain ⟨D, h, _⟩ := h
  exact h.lt
theorem Seen.fr {W W' : World} {m n : Nat} {ks} {S : Nat → Prop} (h : Seen W m n ks) (f : Fr S W W') (hS : ¬ S m) : Seen W' m n ks := by
  have hl := h.lt
  obtain ⟨D, ⟨es, clock, hb, F, hs, hD⟩, h2⟩ := h
  exact ⟨D, ⟨es, clock, (f.block m hl hS).trans hb, F, hs, hD⟩, h2⟩
theorem Seen.look {W : World} {m n : Nat} {ks} (h : Seen W m n ks) {a b c : Int} (wa : Num a) (wb : Num b) (wc : Num c) :
    ∃ x : Bool, (Instr.lookup 38 (.map (some m)) (k3 a b c) false).run Try.prog W = .ok (.bool x) W ∧ (x = false → (a, b, c) ∉ ks) := by
  obtain ⟨D, h, h1, h2⟩ := h
  obtain ⟨v, ps, hr, hv⟩ := h.lookup keyed3 (t := 38) (e := 4) Try.underlying38 (z := .bool false) (zd := .lit (.bool false)) (zp := []) (by kernel_rfl) (plainElem_bool Try.underlying4 false) (keyOf3 wa wb wc)
  obtain ⟨x, rfl, hx⟩ := plainBool_inv Try.underlying4 hv
  refine ⟨x, hr, fun e hm => ?_⟩
  have := h2 _ hm
  simp only [hx, e] at this
  cases this
theorem Seen.put {W : World} {m n : Nat} {ks} (h : Seen W m n ks) (hn : n < maxLen) {a b c : Int} (wa : Num a) (wb : Num b) (wc : Num c) :
    ∃ w', (Instr.mapUpdate 38 (.map (some m)) (k3 a b c) (.bool true)).run Try.prog W = .ok () w' ∧ Seen w' m (n + 1) (ks ++ [(a, b, c)]) ∧ Fr (fun j => j = m) W w' := by
  obtain ⟨D, h, h1, h2⟩ := h
  obtain ⟨w', hr, ho, hg⟩ := h.update keyed3 (t := 38) (e := 4) Try.underlying38 hn (keyOf3 wa wb wc) (plainElem_bool Try.underlying4 true)
  refine ⟨w', hr, ⟨_, ho, h1.put _ _, fun k hk => ?_⟩, (Fr.grown hg).mono (fun j hj => .inl (by simpa using hj))⟩
  by_cases he : kl3 k.1 k.2.1 k.2.2 = kl3 a b c
  · rw [he, Maps.atKey_put_same h1 (by trivial)]
  · rw [Maps.atKey_put_other he]
    rcases List.mem_append.1 hk with hk | hk
    · exact h2 k hk
    · rw [List.mem_singleton.1 hk] at he
      exact absurd rfl he
section
variable {P : Program} {ev : Operand → Value} {o : Oper} {w w' : World} {T : TypeId} {x y z : Operand} {m k v : Value}
theorem exec_look (hr : (Instr.lookup T m k false).run P w = .ok v w) (ho : o.op = .lookup T x y false) (hm : ev x = m) (hk : ev y = k) : (execOp ev o).run P w = .ok (.value v) w := by
  unfold execOp
  simp [ho, hm, hk, hr]
theorem exec_update (hr : (Instr.mapUpdate T m k v).run P w = .ok () w') (ho : o.op = .mapUpdate T x y z) (hm : ev x = m) (hk : ev y = k) (hv : ev z = v) : (execOp ev o).run P w = .ok .skip w' := by
  unfold execOp
  simp [ho, hm, hk, hv, hr]
theorem exec_makeMap (ho : o.op = .makeMap 38 none) : (execOp ev o).run Try.prog w = .ok (.value (.map (some w.heap.size))) (w.alloc (.map #[] 0)) := by
  unfold execOp
  simp [ho]
  kernel_rfl
end
end Go.Proofs.YtepmlmfacpbhkaaR
