/- The document's answer for votes: Put. -/
import Derived.Test.YtepmlmfacpbhkaaRRef13D
namespace Go.Proofs.YtepmlmfacpbhkaaR
open Go.RowKit Go.Shelf
set_option linter.unusedVariables false

theorem flat_len {α β : Type} (f : α → List β) (c : Nat) : ∀ l : List α, (∀ a ∈ l, (f a).length = c) → (l.flatMap f).length = l.length * c
  | [], _ => by simp
  | a :: l, h => by
    rw [List.flatMap_cons, List.length_append, flat_len f c l (fun b hb => h b (List.mem_cons_of_mem _ hb)), h a (List.mem_cons_self ..), List.length_cons, Nat.add_mul]
    omega
theorem flat_get {α β : Type} (f : α → List β) (c : Nat) : ∀ (l : List α) (j q : Nat) (hj : j < l.length), (∀ a ∈ l, (f a).length = c) → q < c → (l.flatMap f)[j * c + q]? = (f l[j])[q]?
  | [], j, q, hj, _, _ => by simp at hj
  | a :: l, 0, q, _, h, hq => by
    have := h a (List.mem_cons_self ..)
    rw [List.flatMap_cons, Nat.zero_mul, Nat.zero_add, List.getElem?_append_left (by omega)]
    rfl
  | a :: l, j + 1, q, hj, h, hq => by
    have h1 := h a (List.mem_cons_self ..)
    have h2 := flat_get f c l j q (by simpa using hj) (fun b hb => h b (List.mem_cons_of_mem _ hb)) hq
    rw [List.flatMap_cons, List.getElem?_append_right (by rw [h1, Nat.add_mul]; omega), h1]
    have e : (j + 1) * c + q - c = j * c + q := by rw [Nat.add_mul]; omega
    rw [e, h2]
    rfl
theorem infoVo : (Try.prog.info? 40).map (fun i => (i.zero, i.size, i.bytes)) = some (some (.agg (voteC ⟨0, 0, 0, Cnt.z⟩).toArray), 35, 56) := by kernel_rfl
theorem voteC_one (v : Cnt.Vote) : ∀ u ∈ voteC v, u.oneCell' = true := by
  intro u hu
  unfold voteC at hu
  simp only [List.mem_cons] at hu
  rcases hu with rfl | rfl | rfl | hu
  · rfl
  · rfl
  · rfl
  · obtain ⟨b, _, rfl⟩ := List.mem_map.1 hu
    rfl
theorem votes_one (l : List Cnt.Vote) : ∀ u ∈ l.flatMap voteC, u.oneCell' = true := fun u hu => by
  obtain ⟨v, _, hv⟩ := List.mem_flatMap.1 hu
  exact voteC_one v u hv
/-- the cells of a slice of votes, one behind the other -/
theorem VotesAt.cells {w : World} {b off : Nat} {l : List Cnt.Vote} (hlen : ∀ v ∈ l, v.id.length = 32) (hc : ∀ j (h : j < l.length), At w b (off + j * 35) (voteC l[j]).toArray) :
    ∀ (j : Nat) (u : Value), (l.flatMap voteC)[j]? = some u → w.cell? ((⟨b, off, none⟩ : Addr).add j) = some u := by
  intro j u hu
  have hll : ∀ v ∈ l, (voteC v).length = 35 := fun v hv => voteC_length v (hlen v hv)
  have hfl := flat_len voteC 35 l hll
  have hj := (List.getElem?_eq_some_iff.1 hu).1
  have hq : j / 35 < l.length := by omega
  have e : j = j / 35 * 35 + j % 35 := by omega
  have hg := flat_get voteC 35 l (j / 35) (j % 35) hq hll (Nat.mod_lt _ (by decide))
  rw [← e, hu] at hg
  have h1 : (voteC l[j / 35]).length = 35 := hll _ (List.getElem_mem hq)
  have hlt : j % 35 < (voteC l[j / 35]).length := by rw [h1]; exact Nat.mod_lt _ (by decide)
  have hcc := hc (j / 35) hq (j % 35) (by simpa using hlt)
  rw [add_none]
  have e2 : off + j = off + j / 35 * 35 + j % 35 := by omega
  rw [e2, hcc]
  rw [List.getElem?_eq_getElem hlt] at hg
  simpa using hg.symm
/-- a row that is owned reads as votes -/
theorem votes_of_own {w : World} {base : Nat} {v' : Value} {l : List Cnt.Vote} (hlen : ∀ v ∈ l, v.id.length = 32) (h : w.ownsRow base 40 35 v' l.length (l.flatMap voteC)) :
    ∃ A c, v' = .slice A l.length c ∧ VotesAt w A l ∧ ∀ a, A = some a → base ≤ a.block := by
  have hll : ∀ v ∈ l, (voteC v).length = 35 := fun v hv => voteC_length v (hlen v hv)
  rcases h.2 with ⟨rfl, h0⟩ | ⟨g, cap, cur, rfl, hb, hg, hnc, hcm, hcs, ht⟩
  · exact ⟨none, 0, by rw [h0], ⟨fun hp => by omega, hlen⟩, fun a e => by cases e⟩
  · refine ⟨_, _, rfl, ⟨fun hp => ⟨g, 0, rfl, (Array.getElem?_eq_some_iff.1 hg).1, fun j hj q hq => ?_⟩, hlen⟩, fun a e => by cases e; exact hb⟩
    have hq35 : q < 35 := by have := hll _ (List.getElem_mem hj); simpa [this] using hq
    have hgt := flat_get voteC 35 l j q hj hll hq35
    rw [← ht, List.getElem?_take_of_lt (by omega)] at hgt
    rw [Nat.zero_add, cell_of_row w g _ cur _ (0, 0) hg]
    have : (voteC l[j])[q]? = some ((voteC l[j]).toArray[q]'hq) := by simp at hq ⊢
    rw [this] at hgt
    simpa using hgt
theorem exec_slice1 {w : World} {o : Oper} {ev : Operand → Value} {x : Operand} {v : Cnt.Vote} (hv : v.id.length = 32) (ho : o.op = .buildSlice 37 1 #[(0, x)]) (hx : ev x = .agg (voteC v).toArray) :
    (execOp ev o).run Try.prog w = .ok (.value (.slice (some ⟨w.heap.size, 0, none⟩) 1 1)) (w.alloc (.cells (voteC v).toArray 40)) := by
  have h1 : ∀ w, (zeroValue 40).run Try.prog w = .ok (.agg (voteC ⟨0, 0, 0, Cnt.z⟩).toArray) w := fun w => by kernel_rfl
  have h4 : ∀ w, (sizeOf 40).run Try.prog w = .ok 35 w := fun w => by kernel_rfl
  have hs := splice (voteC v) (voteC ⟨0, 0, 0, Cnt.z⟩) 0 0 (by simp [voteC, hv, Cnt.z_length])
  have hl := voteC_length v hv
  have hz : (voteC ⟨0, 0, 0, Cnt.z⟩).length = 35 := rfl
  have e2 : (List.take (0 + 0) (voteC ⟨0, 0, 0, Cnt.z⟩) ++ voteC v ++ List.drop (0 + 0 + (voteC v).length) (voteC ⟨0, 0, 0, Cnt.z⟩)) = voteC v := by
    rw [hl, List.drop_of_length_le (by rw [hz]; omega)]
    simp
  rw [e2] at hs
  have e0 : (Array.range 35).map (fun x => (voteC ⟨0, 0, 0, Cnt.z⟩)[x % (voteC ⟨0, 0, 0, Cnt.z⟩).length]?.getD default) = (voteC ⟨0, 0, 0, Cnt.z⟩).toArray := by kernel_rfl
  simp only [Nat.zero_add] at hs
  unfold execOp
  simp [ho, Instr.buildSlice, run_underlying Try.underlying37, h1, h4, hx, Instr.fill, Value.cells, hl]
  rw [e0, hs]
  simp [newRow, newObj]
  rfl
theorem run_append_nothing {P : Program} (w : World) (t ty e : TypeId) (i : TypeInfo) (ht : P.underlying t = some (.slice e)) (hi : P.info? e = some i) (b : Addr) (n c c' : Nat) (hnc : n ≤ c) :
    (Builtin.append_ #[t, t] ty #[.slice (some b) n c, .slice none 0 c']).run P w = .ok (.slice (some b) n c) w := by
  simp [Builtin.append_, run_underlying ht, sizeOf, typeInfo, hi, Builtin.lenOf, Builtin.firstCells, hnc, storeCells, loadCells, loadCellsFrom]
theorem own_new (w : World) (base : Nat) (hb : base ≤ w.heap.size) : (w.alloc (.cells #[] 40)).ownsRow base 40 35 (.slice (some ⟨w.heap.size, 0, none⟩) 0 0) 0 [] :=
  ⟨rfl, .inr ⟨w.heap.size, 0, #[], rfl, hb, heap_alloc_new w _, by omega, by simp, rfl, rfl⟩⟩
/-- a copy of votes -/
theorem run_copy_votes (w : World) (A : Option Addr) (c : Nat) (l : List Cnt.Vote) (h : VotesAt w A l) (hm : l.length ≤ 1000) :
    ∃ v' w', (Builtin.append_ #[37, 37] 37 #[.slice (some ⟨w.heap.size, 0, none⟩) 0 0, .slice A l.length c]).run Try.prog (w.alloc (.cells #[] 40)) = .ok v' w' ∧
      w'.ownsRow w.heap.size 40 35 v' l.length (l.flatMap voteC) ∧ New w w' := by
  obtain ⟨iv, hiv, hv0, hv1, hv2⟩ := info_parts infoVo
  have hN : New w (w.alloc (.cells #[] 40)) := Fr.alloc _ w _
  have hown := own_new w w.heap.size (Nat.le_refl _)
  have h1 := h.fr hN (fun _ h => h.elim)
  cases A with
  | none =>
    have hl : l = [] := by
      cases l with
      | nil => rfl
      | cons v l =>
        obtain ⟨b, off, e, _⟩ := h.rd (by simp)
        cases e
    subst hl
    exact ⟨_, _, run_append_nothing _ _ _ _ iv Try.underlying37 hiv _ _ _ _ (Nat.le_refl _), hown, hN⟩
  | some a =>
    have hcells : ∀ (j : Nat) (u : Value), (l.flatMap voteC)[j]? = some u → (w.alloc (.cells #[] 40)).cell? (a.add j) = some u := by
      intro j u hu
      cases l with
      | nil => simp at hu
      | cons v l =>
        obtain ⟨b, off, e, _, hc⟩ := h1.rd (by simp)
        cases e
        exact VotesAt.cells h1.len hc j u hu
    have hll := flat_len voteC 35 l (fun v hv => voteC_length v (h.len v hv))
    obtain ⟨v', w', hr, ho, hg, _⟩ := run_append_own (P := Try.prog) (w := w.alloc (.cells #[] 40)) w.heap.size 37 37 40 iv _ 35 56 Try.underlying37 hiv hv0 hv1 hv2 rfl (by decide) _ 0 [] hown a l.length c (l.flatMap voteC) hll hcells (votes_one l) (by simp only [maxLen]; omega) (by omega) (by simp)
    refine ⟨v', w', hr, by simpa using ho, ?_⟩
    exact hN.trans (Fr.grown hg) (fun j hj => .inr (by simp [Value.ownBlock] at hj; omega))
/-- a vote more -/
theorem run_more_vote (w0 w : World) (v1 : Value) (l : List Cnt.Vote) (v : Cnt.Vote) (hv : v.id.length = 32) (hm : l.length ≤ 1000) (hown : w.ownsRow w0.heap.size 40 35 v1 l.length (l.flatMap voteC)) (hN : New w0 w) :
    ∃ v' w', (Builtin.append_ #[37, 37] 37 #[v1, .slice (some ⟨w.heap.size, 0, none⟩) 1 1]).run Try.prog (w.alloc (.cells (voteC v).toArray 40)) = .ok v' w' ∧
      w'.ownsRow w0.heap.size 40 35 v' (l ++ [v]).length ((l ++ [v]).flatMap voteC) ∧ New w0 w' := by
  obtain ⟨iv, hiv, hv0, hv1, hv2⟩ := info_parts infoVo
  have hown2 : (w.alloc (.cells (voteC v).toArray 40)).ownsRow w0.heap.size 40 35 v1 l.length (l.flatMap voteC) := hown.alloc _
  have hcells : ∀ (j : Nat) (u : Value), (voteC v)[j]? = some u → (w.alloc (.cells (voteC v).toArray 40)).cell? ((⟨w.heap.size, 0, none⟩ : Addr).add j) = some u := by
    intro j u hu
    rw [add_none, Nat.zero_add, (Blk.new w 40 (voteC v).toArray).cell]
    simpa using hu
  obtain ⟨v', w', hr, ho, hg, _⟩ := run_append_own (P := Try.prog) (w := w.alloc (.cells (voteC v).toArray 40)) w0.heap.size 37 37 40 iv _ 35 56 Try.underlying37 hiv hv0 hv1 hv2 rfl (by decide) _ l.length _ hown2 _ 1 1 (voteC v) (voteC_length v hv) hcells (voteC_one v) (by simp only [maxLen]; omega) (by omega) (by have := hN.size; simp; omega)
  refine ⟨v', w', hr, by simpa [List.flatMap_append] using ho, ?_⟩
  refine (hN.then_alloc _).trans (Fr.grown hg) (fun j hj => .inr ?_)
  rcases hown.2 with ⟨e, _⟩ | ⟨g, cap, cur, e, hb, _⟩
  · rw [e] at hj; simp [Value.ownBlock] at hj
  · rw [e] at hj; simp [Value.ownBlock] at hj; omega
end Go.Proofs.YtepmlmfacpbhkaaR
