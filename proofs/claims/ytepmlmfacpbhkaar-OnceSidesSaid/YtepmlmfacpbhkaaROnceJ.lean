/- The contract of once's Forged: the first bit at which two texts' sums differ. -/
import Derived.Test.YtepmlmfacpbhkaaROnceF
import Derived.Maps.OwnSet
import Derived.Maps.Views
namespace Go.Proofs.YtepmlmfacpbhkaaR
open Go.RowKit Go.Shelf
set_option linter.unusedVariables false

theorem keyedN : Maps.Keyed Try.prog 3 := Maps.int_keyed Try.underlying3
theorem keyOfN (i : Nat) (h : i < 1000) : keyOf Try.prog 3 (.int .i64 i) = some (.int .i64 i) := by
  have hkt : Try.prog.keyType 3 = true := by kernel_rfl
  have hw : (Lit.int .i64 (i : Int)).wf = true := by
    have h1 : IntKind.i64.min = -9223372036854775808 := rfl
    have h2 : IntKind.i64.max = 9223372036854775807 := rfl
    simp only [Lit.wf, Bool.and_eq_true, decide_eq_true_eq]
    omega
  unfold keyOf
  simp [Try.underlying3, mapKey, hw]
def heldN (v : Value) : Option (DataW Value × List MemPlace) := some (.held v, [])
/-- block m is a map in which the first n numbers have what f says -/
def BitM (W : World) (m n : Nat) (f : Nat → Nat) : Prop :=
  ∃ D : DataW Value, W.ownsMap Try.prog 3 heldN m n D ∧ Maps.IsMap D ∧ ∀ i, i < n → ∀ z, D.atKey (.int .i64 (i : Int)) z = .held (.int .i64 (f i))
theorem BitM.made (w : World) (f : Nat → Nat) : BitM (w.alloc (.map #[] 0)) w.heap.size 0 f := ⟨_, World.ownsMap_made w _ _ _, ⟨_, rfl⟩, fun i h => by omega⟩
section
variable {W W' : World} {m n : Nat} {f : Nat → Nat}
theorem BitM.lt (h : BitM W m n f) : m < W.heap.size := by
  obtain ⟨D, h, _⟩ := h
  exact h.lt
theorem BitM.fr {S : Nat → Prop} (h : BitM W m n f) (g : Fr S W W') (hS : ¬ S m) : BitM W' m n f := by
  have hl := h.lt
  obtain ⟨D, ⟨es, clock, hb, F, hs, hD⟩, h2⟩ := h
  exact ⟨D, ⟨es, clock, (g.block m hl hS).trans hb, F, hs, hD⟩, h2⟩
theorem BitM.look (h : BitM W m n f) {i : Nat} (hi : i < n) (hi2 : i < 1000) : (Instr.lookup 108 (.map (some m)) (.int .i64 i) false).run Try.prog W = .ok (.int .i64 (f i)) W := by
  obtain ⟨D, h, h1, h2⟩ := h
  obtain ⟨v, ps, hr, hv⟩ := h.lookup keyedN Try.underlying108 (z := .int .i64 0) (by kernel_rfl) (zd := .held (.int .i64 0)) (zp := []) rfl (keyOfN i hi2)
  rw [h2 i hi] at hv
  simp only [heldN, Option.some.injEq, Prod.mk.injEq] at hv
  cases hv.1
  exact hr
theorem BitM.put (h : BitM W m n f) (hn : n < 1000) :
    ∃ w', (Instr.mapUpdate 108 (.map (some m)) (.int .i64 n) (.int .i64 (f n))).run Try.prog W = .ok () w' ∧ BitM w' m (n + 1) f ∧ Fr (fun j => j = m) W w' := by
  obtain ⟨D, h, h1, h2⟩ := h
  obtain ⟨w', hr, ho, hg⟩ := h.update keyedN Try.underlying108 (show n < maxLen by simp [maxLen]; omega) (keyOfN n hn) (val := .int .i64 (f n)) (d := .held (.int .i64 (f n))) (ps := []) rfl
  refine ⟨w', hr, ⟨_, ho, h1.put _ _, fun i hi z => ?_⟩, (Fr.grown hg).mono (fun j hj => .inl (by simpa using hj))⟩
  by_cases he : i = n
  · subst he
    exact Maps.atKey_put_same h1 (by trivial) _ _
  · have hne : Lit.int .i64 (i : Int) ≠ Lit.int .i64 (n : Int) := fun e => he (Int.ofNat.inj (Lit.int.inj e).2)
    rw [Maps.atKey_put_other hne]
    exact h2 i (by omega) z
end
theorem exec_updateN {P : Program} {ev : Operand → Value} {o : Oper} {w w' : World} {T : TypeId} {x y z : Operand} {m k v : Value} (hr : (Instr.mapUpdate T m k v).run P w = .ok () w') (ho : o.op = .mapUpdate T x y z) (hm : ev x = m) (hk : ev y = k) (hv : ev z = v) : (execOp ev o).run P w = .ok .skip w' := by
  unfold execOp
  simp [ho, hm, hk, hv, hr]
/-- where the bits differ first -/
def firstDif (f h : Nat → Nat) : Nat → Nat → Option Nat
  | 0, _ => none
  | n + 1, i => if f i ≠ h i then some i else firstDif f h n (i + 1)
/-- the first bit of 64 at which they differ -/
def firstBit (f h : Nat → Nat) : Option Nat := firstDif f h 64 0
theorem firstDif_none {f h : Nat → Nat} : ∀ (n i : Nat), (∀ j, i ≤ j → j < i + n → f j = h j) → firstDif f h n i = none
  | 0, i, _ => rfl
  | n + 1, i, e => by
    unfold firstDif
    rw [if_neg (by rw [e i (by omega) (by omega)]; simp)]
    exact firstDif_none n (i + 1) fun j h1 h2 => e j (by omega) (by omega)
theorem firstDif_some {f h : Nat → Nat} : ∀ (n i k : Nat), i ≤ k → k < i + n → (∀ j, i ≤ j → j < k → f j = h j) → f k ≠ h k → firstDif f h n i = some k
  | 0, i, k, h1, h2, _, _ => by omega
  | n + 1, i, k, h1, h2, e, hk => by
    unfold firstDif
    by_cases hik : i = k
    · subst hik
      rw [if_pos hk]
    · rw [if_neg (by rw [e i (by omega) (by omega)]; simp)]
      exact firstDif_some n (i + 1) k (by omega) (by omega) (fun j h1 h2 => e j (by omega) h2) hk
/-- what Forged hands back -/
def forgedV : Option Nat → Value
  | some k => .tuple #[.int .i64 (k : Int), .bool true]
  | none => .tuple #[.int .i64 0, .bool false]
theorem forged_results {w : World} {tmps : Array Value} {b4 b5 : Nat} {x : Int} {b : Bool} (t4 : tmps.getD 4 undef = .pointer (some ⟨b4, 0, none⟩)) (t5 : tmps.getD 5 undef = .pointer (some ⟨b5, 0, none⟩))
    (h4 : Blk w b4 3 #[.int .i64 x]) (h5 : Blk w b5 4 #[.bool b]) : (results Try.f38 tmps).run Try.prog w = .ok (.tuple #[.int .i64 x, .bool b]) w := by
  have c4 : w.cell? ⟨b4, 0, none⟩ = some (.int .i64 x) := h4.cell 0
  have c5 : w.cell? ⟨b5, 0, none⟩ = some (.bool b) := h5.cell 0
  have a3 : (isAgg 3).run Try.prog w = .ok false w := by kernel_rfl
  have a4 : (isAgg 4).run Try.prog w = .ok false w := by kernel_rfl
  have l4 : (loadVar 3 ⟨b4, 0, none⟩).run Try.prog w = .ok (.int .i64 x) w := by simp [loadVar, Sem.run_bind, a3, go_sem, c4]
  have l5 : (loadVar 4 ⟨b5, 0, none⟩).run Try.prog w = .ok (.bool b) w := by simp [loadVar, Sem.run_bind, a4, go_sem, c5]
  have hr : Try.f38.results = #[.cell 4 3, .cell 5 4] := rfl
  rw [Array.getD_eq_getD_getElem?] at t4 t5
  simp only [results, hr]
  simp [t4, t5, asAddr, l4, l5]
/-- the map is made, so far -/
structure MadeAt (W0 : World) (mb m : Nat) (f : Nat → Nat) (k : Nat) (V : World) : Prop where
  box : Blk V mb 108 #[.map (some m)]
  map : BitM V m k f
  fr : Fr (fun j => j = m) W0 V
theorem MadeAt.abides {W0 : World} {mb m : Nat} {f : Nat → Nat} (h1 : mb < W0.heap.size) (h2 : m < W0.heap.size) : AbidesAll W0.heap.size (fun i V => MadeAt W0 mb m f i V) := fun i X Y h g =>
  ⟨h.box.fr g (by omega), h.map.fr g (by omega), h.fr.trans g (fun j hj => .inr hj)⟩
end Go.Proofs.YtepmlmfacpbhkaaR
