/- Maps that a call has made, keyed by a struct of two numbers, over elements of any type: as functions. -/
import Derived.Test.YtepmlmfacpbhkaaRSeen
namespace Go.Proofs.YtepmlmfacpbhkaaR
open Go.RowKit
set_option linter.unusedVariables false

theorem keyedP : Maps.Keyed Try.prog 47 := Maps.Keyed.of_law (deep_law (m := 2) (by omega) (by kernel_rfl) (by kernel_rfl) (by kernel_rfl))
def kP (a b : Int) : Value := .agg #[.int .i64 a, .int .i64 b]
def klP (a b : Int) : Lit := .string (keyBytes [.int .i64 a, .int .i64 b])
theorem keyOfP {a b : Int} (wa : Num a) (wb : Num b) : keyOf Try.prog 47 (kP a b) = some (klP a b) := by
  have hkt : Try.prog.keyType 47 = true := by kernel_rfl
  unfold Num at wa wb
  unfold keyOf kP klP
  simp only [Try.underlying47]
  have h3 : Try.prog.cellsOf 47 = 2 := by kernel_rfl
  have hf : (Value.agg #[.int .i64 a, .int .i64 b]).formed Try.prog 47 = true := by
    simp [Value.formed, Try.underlying47, h3]
  rw [if_pos (by rw [hkt, hf]; rfl)]
  obtain ⟨m, hm⟩ : ∃ m, Try.prog.types.size = m + 1 := ⟨Try.prog.types.size - 1, by kernel_rfl⟩
  rw [hm]
  unfold Program.keyLits
  have h1 : Try.prog.cellsOf 3 = 1 := by kernel_rfl
  simp only [Try.underlying47, Value.cells, h3]
  have hk : ∀ x : Int, (Lit.int .i64 x).wf = true → Try.prog.keyLits (m + 1) 3 [.int .i64 x] = some [.int .i64 x] := fun x wx => by
    simp [Program.keyLits, Try.underlying3, wx]
  simp [List.mapM_cons, h1, hk a wa, hk b wb]
theorem klP_ne {a b a' b' : Int} (wa : Num a) (wb : Num b) (wa' : Num a') (wb' : Num b') (h : ¬ (a' = a ∧ b' = b)) : klP a' b' ≠ klP a b := fun e => by
  have := keyedP.inj (keyOfP wa' wb') (e ▸ keyOfP wa wb)
  simp [kP] at this
  exact h this
def heldElem (v : Value) : Option (DataW Value × List MemPlace) := some (.held v, [])
/-- block m is a map of at most n entries that holds what f says -/
def Tabled (W : World) (m n : Nat) (f : Int → Int → Option Value) : Prop :=
  ∃ D : DataW Value, W.ownsMap Try.prog 47 heldElem m n D ∧ Maps.IsMap D ∧ ∀ a b, Num a → Num b → Maps.has D (klP a b) = (f a b).isSome ∧ ∀ v, f a b = some v → ∀ z, D.atKey (klP a b) z = .held v
theorem Tabled.made (w : World) : Tabled (w.alloc (.map #[] 0)) w.heap.size 0 (fun _ _ => none) := ⟨_, World.ownsMap_made w _ _ _, ⟨_, rfl⟩, fun a b _ _ => ⟨rfl, fun v e => by cases e⟩⟩
section
variable {W W' : World} {m n : Nat} {f : Int → Int → Option Value} {a b : Int} {v z : Value} {t e : TypeId}
theorem Tabled.lt (h : Tabled W m n f) : m < W.heap.size := by
  obtain ⟨D, h, _⟩ := h
  exact h.lt
theorem Tabled.fr {S : Nat → Prop} (h : Tabled W m n f) (g : Fr S W W') (hS : ¬ S m) : Tabled W' m n f := by
  have hl := h.lt
  obtain ⟨D, ⟨es, clock, hb, F, hs, hD⟩, h2⟩ := h
  exact ⟨D, ⟨es, clock, (g.block m hl hS).trans hb, F, hs, hD⟩, h2⟩
theorem Tabled.look_ok (h : Tabled W m n f) (ht : Try.prog.underlying t = some (.map 47 e)) (hz : (zeroValue e).run Try.prog W = .ok z W) (wa : Num a) (wb : Num b) :
    (Instr.lookup t (.map (some m)) (kP a b) true).run Try.prog W = .ok (.tuple #[(f a b).getD z, .bool (f a b).isSome]) W := by
  obtain ⟨D, h, h1, h2⟩ := h
  obtain ⟨v, ps, hr, hv⟩ := h.look_ok keyedP ht hz (zd := .held z) (zp := []) rfl (keyOfP wa wb)
  obtain ⟨k1, k2⟩ := h2 a b wa wb
  rw [hr, k1]
  simp only [heldElem, Option.some.injEq, Prod.mk.injEq] at hv
  cases hf : f a b with
  | some u =>
    have := k2 u hf (.held z)
    rw [this] at hv
    cases hv.1
    rfl
  | none =>
    rw [hf] at k1
    rw [Maps.atKey_of_not_has k1] at hv
    cases hv.1
    rfl
theorem Tabled.look (h : Tabled W m n f) (ht : Try.prog.underlying t = some (.map 47 e)) (hz : (zeroValue e).run Try.prog W = .ok z W) (wa : Num a) (wb : Num b) :
    (Instr.lookup t (.map (some m)) (kP a b) false).run Try.prog W = .ok ((f a b).getD z) W := by
  obtain ⟨D, h, h1, h2⟩ := h
  obtain ⟨v, ps, hr, hv⟩ := h.lookup keyedP ht hz (zd := .held z) (zp := []) rfl (keyOfP wa wb)
  obtain ⟨k1, k2⟩ := h2 a b wa wb
  rw [hr]
  simp only [heldElem, Option.some.injEq, Prod.mk.injEq] at hv
  cases hf : f a b with
  | some u =>
    have := k2 u hf (.held z)
    rw [this] at hv
    cases hv.1
    rfl
  | none =>
    rw [hf] at k1
    rw [Maps.atKey_of_not_has k1] at hv
    cases hv.1
    rfl
def upd (f : Int → Int → Option Value) (a b : Int) (v : Value) : Int → Int → Option Value := fun a' b' => if a' = a ∧ b' = b then some v else f a' b'
theorem Tabled.put (h : Tabled W m n f) (ht : Try.prog.underlying t = some (.map 47 e)) (hn : n < maxLen) (wa : Num a) (wb : Num b) (v : Value) :
    ∃ w', (Instr.mapUpdate t (.map (some m)) (kP a b) v).run Try.prog W = .ok () w' ∧ Tabled w' m (n + 1) (upd f a b v) ∧ Fr (fun j => j = m) W w' := by
  obtain ⟨D, h, h1, h2⟩ := h
  obtain ⟨w', hr, ho, hg⟩ := h.update keyedP ht hn (keyOfP wa wb) (val := v) (d := .held v) (ps := []) rfl
  refine ⟨w', hr, ⟨_, ho, h1.put _ _, fun a' b' wa' wb' => ?_⟩, (Fr.grown hg).mono (fun j hj => .inl (by simpa using hj))⟩
  unfold upd
  by_cases he : a' = a ∧ b' = b
  · obtain ⟨rfl, rfl⟩ := he
    rw [if_pos ⟨rfl, rfl⟩]
    refine ⟨Maps.has_put_same h1 (by trivial) _, fun u e z => ?_⟩
    cases e
    exact Maps.atKey_put_same h1 (by trivial) _ _
  · rw [if_neg he, Maps.has_put_other (klP_ne wa wb wa' wb' he)]
    refine ⟨(h2 a' b' wa' wb').1, fun u e z => ?_⟩
    rw [Maps.atKey_put_other (klP_ne wa wb wa' wb' he)]
    exact (h2 a' b' wa' wb').2 u e z
end
theorem exec_look_ok {P : Program} {ev : Operand → Value} {o : Oper} {w : World} {T : TypeId} {x y : Operand} {m k v : Value} (hr : (Instr.lookup T m k true).run P w = .ok v w) (ho : o.op = .lookup T x y true) (hm : ev x = m) (hk : ev y = k) : (execOp ev o).run P w = .ok (.value v) w := by
  unfold execOp
  simp [ho, hm, hk, hr]
end Go.Proofs.YtepmlmfacpbhkaaR
