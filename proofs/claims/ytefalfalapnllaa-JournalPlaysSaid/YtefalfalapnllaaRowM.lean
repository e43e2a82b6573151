/- A row of the call's own that may bear the mark of a converted text (behind its last cell): append onto it. -/
import Derived.Test.YtefalfalapnllaaOf
import Derived.ArgAppend
namespace Go.Proofs.Ytefalfalapnllaa
open Go.RowKit Go.Shelf
set_option linter.unusedVariables false

/-- what is frozen of a row lies behind it -/
def Behind (fz : Nat × Nat) (n : Nat) : Prop := fz.2 = 0 ∨ n ≤ fz.1
theorem not_frozen {w : World} {g : Nat} {cur : Array Value} {t : TypeId} {fz : Nat × Nat} (hg : w.heap[g]? = some (.cells cur t fz)) (hf : Behind fz cur.size) {j : Nat} (hj : j < cur.size) : w.frozen? ⟨g, j, none⟩ = false := by
  obtain ⟨lo, hi⟩ := fz
  simp only [World.frozen?, hg, Bool.and_eq_false_iff, decide_eq_false_iff_not]
  unfold Behind at hf
  simp only at hf
  omega
theorem run_storeCells_atM (P : Program) (g o : Nat) (t : TypeId) (fz : Nat × Nat) : ∀ (vs : List Value) (i : Nat) (cur : Array Value) (w : World), w.heap[g]? = some (.cells cur t fz) → Behind fz cur.size → o + i + vs.length ≤ cur.size → (∀ v ∈ vs, v.oneCell' = true) →
    (storeCells ⟨g, o, none⟩ vs i).run P w = .ok () (w.setRow g (cur.toList.take (o + i) ++ vs ++ cur.toList.drop (o + i + vs.length)).toArray)
  | [], i, cur, w, hg, _, _, _ => by
    simp only [storeCells, List.append_nil, List.length_nil, Nat.add_zero, List.take_append_drop, Array.toArray_toList]
    rw [setRow_self w g cur t fz hg]
    rfl
  | v :: rest, i, cur, w, hg, hfz, hl, h1 => by
    have hi : o + i < cur.size := by simp at hl; omega
    have hadd : (⟨g, o, none⟩ : Addr).add i = ⟨g, o + i, none⟩ := by unfold Addr.add; split <;> simp_all
    have hcell : w.cell? ⟨g, o + i, none⟩ = some cur[o + i] := by simp [World.cell?, hg, hi]
    have hfro : w.frozen? ⟨g, o + i, none⟩ = false := not_frozen hg hfz hi
    have hst : (store ((⟨g, o, none⟩ : Addr).add i) v).run P w = .ok () (w.setRow g (cur.setIfInBounds (o + i) v)) := by
      rw [hadd, run_store P w _ v _ (h1 v (by simp)), hcell]
      simp [hfro, setCell_eq_setRow w g (o + i) cur t fz v hg]
    have ih := run_storeCells_atM P g o t fz rest (i + 1) (cur.setIfInBounds (o + i) v) (w.setRow g (cur.setIfInBounds (o + i) v)) (setRow_heap w g cur _ t _ hg) (by simpa using hfz) (by simp at hl ⊢; omega) (fun x hx => h1 x (by simp [hx]))
    simp only [storeCells, Sem.run_bind, hst, Result.andThen_ok, ih, setRow_setRow]
    congr 3
    have e := list_seg_step cur.toList (o + i) v rest (by simp at hl ⊢; omega)
    simpa [Array.toList_setIfInBounds, Nat.add_assoc] using e
/-- the row -/
def RowM (w : World) (t : TypeId) (A : Option Addr) (c : Nat) (xs : List Value) : Prop :=
  ∃ g cur fz, A = some ⟨g, 0, none⟩ ∧ w.heap[g]? = some (.cells cur t fz) ∧ Behind fz cur.size ∧ xs.length ≤ c ∧ c ≤ maxLen ∧ cur.size = c ∧ cur.toList.take xs.length = xs
section
variable {w : World} {t : TypeId} {A : Option Addr} {c : Nat} {xs : List Value}
theorem RowM.lt (h : RowM w t A c xs) {k : Nat} (hk : ab A = some k) : k < w.heap.size := by
  obtain ⟨g, cur, fz, rfl, hg, _⟩ := h
  simp [ab] at hk
  subst hk
  exact (Array.getElem?_eq_some_iff.1 hg).1
theorem RowM.fr {S : Nat → Prop} {w' : World} (h : RowM w t A c xs) (f : Fr S w w') (hS : ∀ k, ab A = some k → ¬ S k) : RowM w' t A c xs := by
  obtain ⟨g, cur, fz, rfl, hg, r⟩ := h
  exact ⟨g, cur, fz, rfl, (f.block g (Array.getElem?_eq_some_iff.1 hg).1 (hS g rfl)).trans hg, r⟩
theorem RowM.rd (h : RowM w t A c xs) : Rd w A xs := by
  intro h0
  obtain ⟨g, cur, fz, rfl, hg, hf, h1, h2, h3, h4⟩ := h
  refine ⟨g, 0, rfl, (Array.getElem?_eq_some_iff.1 hg).1, fun j hj => ?_⟩
  rw [Nat.zero_add, cell_of_row w g j cur t fz hg]
  have : (cur.toList.take xs.length)[j]? = xs[j]? := by rw [h4]
  rw [List.getElem?_take_of_lt hj] at this
  simpa [List.getElem?_eq_getElem hj] using this
end
section
variable {P : Program} (w : World)
theorem run_append_m (t ty e : TypeId) (i : TypeInfo) (z : Value) (ht : P.underlying t = some (.slice e)) (hi : P.info? e = some i) (hz : i.zero = some z)
    (hsize : i.size = 1) (hby : i.bytes = 1) (hzs : z.cells.size = 1)
    (A : Option Addr) (c : Nat) (xs : List Value) (h : RowM w e A c xs)
    (a' : Addr) (c' : Nat) (ys : List Value) (hr : Rd w (some a') ys) (h1 : ∀ u ∈ ys, u.oneCell' = true) (hpos : 0 < ys.length)
    (hbytes : xs.length + ys.length ≤ 140737488355328) :
    ∃ A2 c2 w', (Builtin.append_ #[t, t] ty #[.slice A xs.length c, .slice (some a') ys.length c']).run P w = .ok (.slice A2 (xs.length + ys.length) c2) w' ∧
      RowM w' e A2 c2 (xs ++ ys) ∧ Fr (fun k => some k = ab A) w w' ∧ (∀ k, ab A2 = some k → ab A = some k ∨ w.heap.size ≤ k) := by
  obtain ⟨b, off, e1, hb, hc⟩ := hr hpos
  cases e1
  have hnews : ∀ j u, ys[j]? = some u → w.cell? ((⟨b, off, none⟩ : Addr).add j) = some u := fun j u hu => by
    obtain ⟨hj, hju⟩ := List.getElem?_eq_some_iff.1 hu
    rw [add_none, hc j hj, hju]
  obtain ⟨g, cur, fz, rfl, hg, hf, hxc, hcm, hcs, htk⟩ := id h
  by_cases hroom : xs.length + ys.length ≤ c
  · have hfc := run_firstCells_some (P := P) w i.size ys.length ⟨b, off, none⟩ ys.length c' ys (by rw [hsize, Nat.mul_one]) hnews
    have hst := run_storeCells_atM P g (xs.length * i.size) e fz ys 0 cur w hg hf (by rw [hsize]; omega) h1
    rw [hsize] at hfc hst
    simp only [Nat.add_zero, Nat.mul_one] at hst
    refine ⟨some ⟨g, 0, none⟩, c, w.setRow g (cur.toList.take xs.length ++ ys ++ cur.toList.drop (xs.length + ys.length)).toArray, ?_, ?_, ?_, fun k hk => .inl hk⟩
    · simp [Builtin.append_, run_underlying ht, sizeOf, typeInfo, hi, hsize, Builtin.lenOf, hroom, hfc, Addr.add_lit, hst]
    · refine ⟨g, _, fz, rfl, setRow_heap w g cur _ e fz hg, ?_, by simpa using hroom, hcm, ?_, ?_⟩
      · have : (cur.toList.take xs.length ++ ys ++ cur.toList.drop (xs.length + ys.length)).toArray.size = cur.size := by simp; omega
        rw [this]
        exact hf
      · simp
        omega
      · rw [htk, List.length_append]
        exact List.take_left' (by simp)
    · exact (Fr.refl (fun k => some k = ab (some ⟨g, 0, none⟩)) w).setRow (g := g) (by simp [ab]) _
  · have hrg := run_append_grow (P := P) w t ty e i z ht hi hz ⟨g, 0, none⟩ xs.length c xs (by rw [hsize, Nat.mul_one])
      (fun j u hu => by
        have hj := (List.getElem?_eq_some_iff.1 hu).1
        rw [add_none, Nat.zero_add, cell_of_row w g j cur e fz hg]
        have : (cur.toList.take xs.length)[j]? = xs[j]? := by rw [htk]
        rw [List.getElem?_take_of_lt hj] at this
        simpa [hu] using this) ⟨b, off, none⟩ ys.length c' ys (by rw [hsize, Nat.mul_one]) hnews (by omega) (by omega) (growslice_fits (by omega) (by rw [hby]; omega))
    have hge := grownCap_ge w (xs.length + ys.length) c e
    have hcm2 : grownCap w (xs.length + ys.length) c e ≤ maxLen := grownCap_le_maxLen w (xs.length + ys.length) c e (by simp only [maxLen]; omega)
    refine ⟨_, _, _, hrg, ?_, ⟨rfl, rfl, rfl, by simp, fun k hk _ => heap_alloc_old w.drew _ hk⟩, fun k hk => .inr ?_⟩
    · refine ⟨w.heap.size, _, (0, 0), rfl, heap_alloc_new w.drew _, .inl rfl, by simpa using hge, hcm2, ?_, ?_⟩
      · simp only [Array.size_append, List.size_toArray, size_zeroCells, hzs, Nat.mul_one]
        omega
      · simp only [Array.toList_append, List.append_assoc]
        rw [← List.append_assoc]
        exact List.take_left
    · simp [ab] at hk
      omega
end
/-- a text, converted, is such a row -/
theorem conv_row (w : World) (s : List UInt8) (hl : s.length ≤ 140737488355328) : ∃ c, (convert 9 22 (.string ⟨s.toArray⟩)).run Try.prog w = .ok (.slice (some ⟨w.heap.size, 0, none⟩) s.length c) (Lib.bytesWorld w 5 ⟨s.toArray⟩) ∧
    RowM (Lib.bytesWorld w 5 ⟨s.toArray⟩) 5 (some ⟨w.heap.size, 0, none⟩) c (s.map bv) ∧ New w (Lib.bytesWorld w 5 ⟨s.toArray⟩) := by
  have hsz : (⟨s.toArray⟩ : ByteArray).size = s.length := by simp [ByteArray.size]
  have hge := grownCap_ge w s.length 0 5
  have hcm : grownCap w s.length 0 5 ≤ maxLen := grownCap_le_maxLen w s.length 0 5 (by simp only [maxLen]; omega)
  have hrun := Lib.run_convert_string_bytes w 9 22 5 ⟨s.toArray⟩ Try.underlying9 Try.underlying22 Try.underlying5
  rw [hsz] at hrun
  have hcs : (Lib.bytesCells w 5 ⟨s.toArray⟩).size = grownCap w s.length 0 5 := by
    simp [Lib.bytesCells, hsz]
    omega
  refine ⟨grownCap w s.length 0 5, hrun, ⟨w.heap.size, _, _, rfl, Lib.bytesWorld_at_new w 5 ⟨s.toArray⟩, .inr (Nat.le_refl _), by simpa using hge, hcm, hcs, ?_⟩, ⟨rfl, rfl, rfl, by rw [Lib.bytesWorld_size]; omega, fun k hk _ => Lib.bytesWorld_at_old _ _ _ _ hk⟩⟩
  simp only [Lib.bytesCells, Array.toList_append, List.length_map]
  rw [List.take_append_of_le_length (by simp)]
  simp only [List.map_toArray]
  rw [List.take_of_length_le (by simp)]
  rfl
end Go.Proofs.Ytefalfalapnllaa
