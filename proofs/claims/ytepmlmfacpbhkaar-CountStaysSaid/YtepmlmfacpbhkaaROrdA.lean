/- CountOrder: the memory's side. -/
import Derived.Test.YtepmlmfacpbhkaaRPlaysA
import Derived.Test.YtepmlmfacpbhkaaRSeen
import Derived.Test.YtepmlmfacpbhkaaROrdP
namespace Go.Proofs.YtepmlmfacpbhkaaR
open Go.RowKit Go.Shelf
set_option linter.unusedVariables false

theorem VotesAt.from {w : World} {A : Option Addr} {l : List Cnt.Vote} (h : VotesAt w A l) (i : Nat) : VotesAt w (A.map (·.add (i * 35))) (l.drop i) :=
  ⟨fun h0 => by
    simp at h0
    obtain ⟨b, off, rfl, hb, hc⟩ := h.rd (by omega)
    refine ⟨b, off + i * 35, by simp [Addr.add], hb, fun j hj => ?_⟩
    have hj' : i + j < l.length := by simp at hj; omega
    have := hc (i + j) hj'
    rw [List.getElem_drop]
    have e : off + i * 35 + j * 35 = off + (i + j) * 35 := by omega
    rw [e]
    exact this, fun v hv => h.len v (List.mem_of_mem_drop hv)⟩
theorem VotesAt.upto {w : World} {A : Option Addr} {l : List Cnt.Vote} (h : VotesAt w A l) (i : Nat) : VotesAt w A (l.take i) :=
  ⟨fun h0 => by
    simp at h0
    obtain ⟨b, off, rfl, hb, hc⟩ := h.rd (by omega)
    refine ⟨b, off, rfl, hb, fun j hj => ?_⟩
    rw [List.getElem_take]
    exact hc j (by simp at hj; omega), fun v hv => h.len v (List.mem_of_mem_take hv)⟩
theorem VotesAt.cellsOf {w : World} {a : Addr} {l : List Cnt.Vote} (h : VotesAt w (some a) l) : ∀ (j : Nat) (u : Value), (l.flatMap voteC)[j]? = some u → w.cell? (a.add j) = some u := by
  intro j u hu
  cases l with
  | nil => simp at hu
  | cons v l =>
    obtain ⟨b, off, e, _, hc⟩ := h.rd (by simp)
    cases e
    exact VotesAt.cells h.len hc j u hu
/-- votes more, out of another slice -/
theorem run_more_votes (w0 w : World) (v1 : Value) (l l2 : List Cnt.Vote) (a : Addr) (c : Nat) (h2 : VotesAt w (some a) l2) (hm : l.length ≤ 1000) (hm2 : l2.length ≤ 1000) (hown : w.ownsRow w0.heap.size 40 35 v1 l.length (l.flatMap voteC)) (hN : New w0 w) :
    ∃ v' w', (Builtin.append_ #[37, 37] 37 #[v1, .slice (some a) l2.length c]).run Try.prog w = .ok v' w' ∧
      w'.ownsRow w0.heap.size 40 35 v' (l ++ l2).length ((l ++ l2).flatMap voteC) ∧ New w0 w' := by
  obtain ⟨iv, hiv, hv0, hv1, hv2⟩ := info_parts infoVo
  have hll := flat_len voteC 35 l2 (fun v hv => voteC_length v (h2.len v hv))
  obtain ⟨v', w', hr, ho, hg, _⟩ := run_append_own (P := Try.prog) (w := w) w0.heap.size 37 37 40 iv _ 35 56 Try.underlying37 hiv hv0 hv1 hv2 rfl (by decide) _ l.length _ hown a l2.length c (l2.flatMap voteC) hll h2.cellsOf (votes_one l2) (by simp only [maxLen]; omega) (by omega) hN.size
  refine ⟨v', w', hr, by simpa [List.flatMap_append] using ho, ?_⟩
  refine hN.trans (Fr.grown hg) (fun j hj => .inr ?_)
  rcases hown.2 with ⟨e, _⟩ | ⟨g, cap, cur, e, hb, _⟩
  · rw [e] at hj; simp [Value.ownBlock] at hj
  · rw [e] at hj; simp [Value.ownBlock] at hj; omega
/-- own[t:] and own[:t] -/
def tailOf (A : Option Addr) (n c t : Nat) : Value := .slice (if c = t then A else A.map (·.add (t * 35))) (n - t) (c - t)
def headOf (A : Option Addr) (c t : Nat) : Value := .slice (if c = 0 then A else A.map (·.add (0 * 35))) t c
theorem VotesAt.tail {w : World} {A : Option Addr} {l : List Cnt.Vote} (h : VotesAt w A l) (c t : Nat) (hc : l.length ≤ c) : VotesAt w (if c = t then A else A.map (·.add (t * 35))) (l.drop t) := by
  split
  · have e : l.drop t = [] := by rw [List.drop_eq_nil_iff]; omega
    rw [e]
    exact ⟨fun h0 => by simp at h0, fun v hv => by cases hv⟩
  · exact h.from t
theorem VotesAt.head {w : World} {A : Option Addr} {l : List Cnt.Vote} (h : VotesAt w A l) (c t : Nat) : VotesAt w (if c = 0 then A else A.map (·.add (0 * 35))) (l.take t) := by
  split
  · exact h.upto t
  · have := (h.from 0).upto t
    simpa using this
/-- turned round -/
theorem turn_votes (w : World) (A : Option Addr) (c : Nat) (l : List Cnt.Vote) (h : VotesAt w A l) (hm : l.length ≤ 999) (hc : l.length ≤ c) (t : Nat) (ht : t ≤ l.length) :
    ∃ v1 w1 A2 c2 w2, (Builtin.append_ #[37, 37] 37 #[.slice (some ⟨w.heap.size, 0, none⟩) 0 0, tailOf A l.length c t]).run Try.prog (w.alloc (.cells #[] 40)) = .ok v1 w1 ∧
      (Builtin.append_ #[37, 37] 37 #[v1, headOf A c t]).run Try.prog w1 = .ok (.slice A2 l.length c2) w2 ∧ VotesAt w2 A2 (l.drop t ++ l.take t) ∧ New w w2 ∧ ∀ a, A2 = some a → w.heap.size ≤ a.block := by
  obtain ⟨iv, hiv, hv0, hv1, hv2⟩ := info_parts infoVo
  have hlt : (l.drop t ++ l.take t).length = l.length := by simp; omega
  have hlen : ∀ v ∈ l.drop t ++ l.take t, v.id.length = 32 := fun v hv => by
    rcases List.mem_append.1 hv with hv | hv
    · exact h.len v (List.mem_of_mem_drop hv)
    · exact h.len v (List.mem_of_mem_take hv)
  cases A with
  | none =>
    have hl : l = [] := by
      cases l with
      | nil => rfl
      | cons v l =>
        obtain ⟨b, off, e, _⟩ := h.rd (by simp)
        cases e
    subst hl
    obtain rfl : t = 0 := by simpa using ht
    refine ⟨.slice (some ⟨w.heap.size, 0, none⟩) 0 0, w.alloc (.cells #[] 40), some ⟨w.heap.size, 0, none⟩, 0, w.alloc (.cells #[] 40), ?_, ?_, ⟨fun h0 => by simp at h0, fun v hv => by simp at hv⟩, Fr.alloc _ w _, fun a e => by cases e; exact Nat.le_refl _⟩
    · have := run_append_nothing (P := Try.prog) (w.alloc (.cells #[] 40)) 37 37 40 iv Try.underlying37 hiv ⟨w.heap.size, 0, none⟩ 0 0 (c - 0) (Nat.le_refl _)
      unfold tailOf
      simpa using this
    · have := run_append_nothing (P := Try.prog) (w.alloc (.cells #[] 40)) 37 37 40 iv Try.underlying37 hiv ⟨w.heap.size, 0, none⟩ 0 0 c (Nat.le_refl _)
      unfold headOf
      simpa using this
  | some a =>
    obtain ⟨a1, e1⟩ : ∃ a1, (if c = t then some a else (some a).map (·.add (t * 35))) = some a1 := by split <;> exact ⟨_, rfl⟩
    obtain ⟨a2, e2⟩ : ∃ a2, (if c = 0 then some a else (some a).map (·.add (0 * 35))) = some a2 := by split <;> exact ⟨_, rfl⟩
    have k1 := h.tail c t hc
    have k2 := h.head c t
    rw [e1] at k1
    rw [e2] at k2
    obtain ⟨v1, w1, r1, o1, n1⟩ := run_copy_votes w (some a1) (c - t) (l.drop t) k1 (by simp; omega)
    obtain ⟨v2, w2, r2, o2, n2⟩ := run_more_votes w w1 v1 (l.drop t) (l.take t) a2 c (k2.fr n1 (fun _ h => h.elim)) (by simp; omega) (by simp; omega) o1 n1
    obtain ⟨A2, c2, rfl, hv, hb⟩ := votes_of_own hlen o2
    rw [hlt] at r2
    refine ⟨v1, w1, A2, c2, w2, ?_, ?_, hv, n2, hb⟩
    · unfold tailOf
      rw [e1]
      simpa using r1
    · unfold headOf
      rw [e2]
      have e : (l.take t).length = t := by simp; omega
      rw [e] at r2
      exact r2
section
variable {P : Program} {ev : Operand → Value} {o : Oper} {w : World} {x y : Operand} {A : Option Addr} {n c : Nat} {t : Int}
theorem exec_tail (h0 : 0 ≤ t) (h1 : t ≤ n) (ho : o.op = .slice 37 x (some y) none none) (hx : ev x = .slice A n c) (hy : ev y = .int .i64 t) :
    (execOp ev o).run Try.prog w = .ok (.value (tailOf A n c t.toNat)) w := by
  have h4 : ∀ w, (sizeOf 40).run Try.prog w = .ok 35 w := fun w => by kernel_rfl
  have h5 := run_sliceAt_slice (P := Try.prog) (w := w) 37 (.slice A n c) (some (.int .i64 t)) none none (by kernel_rfl)
  have h6 : (Instr.slice 37 (.slice A n c) (some (.int .i64 t)) none none).run Try.prog w = .ok (tailOf A n c t.toNat) w := by
    unfold tailOf
    simp [Instr.slice, run_underlying Try.underlying37, Instr.sliceBounds, run_sliceBound w .i64 t n _ h0 h1, h4]
  unfold execOp
  simp [ho, hx, hy, h5, h6]
theorem exec_head (h0 : 0 ≤ t) (h1 : t ≤ n) (hc : n ≤ c) (ho : o.op = .slice 37 x none (some y) none) (hx : ev x = .slice A n c) (hy : ev y = .int .i64 t) :
    (execOp ev o).run Try.prog w = .ok (.value (headOf A c t.toNat)) w := by
  have h4 : ∀ w, (sizeOf 40).run Try.prog w = .ok 35 w := fun w => by kernel_rfl
  have h5 := run_sliceAt_slice (P := Try.prog) (w := w) 37 (.slice A n c) none (some (.int .i64 t)) none (by kernel_rfl)
  have h6 : (Instr.slice 37 (.slice A n c) none (some (.int .i64 t)) none).run Try.prog w = .ok (headOf A c t.toNat) w := by
    unfold headOf
    simp [Instr.slice, run_underlying Try.underlying37, Instr.sliceBounds, run_sliceBound w .i64 t c _ h0 (by omega), h4]
  unfold execOp
  simp [ho, hx, hy, h5, h6]
theorem exec_slice0 (ho : o.op = .buildSlice 37 0 #[]) :
    (execOp ev o).run Try.prog w = .ok (.value (.slice (some ⟨w.heap.size, 0, none⟩) 0 0)) (w.alloc (.cells #[] 40)) := by
  have h1 : ∀ w, (zeroValue 40).run Try.prog w = .ok (.agg (voteC ⟨0, 0, 0, Cnt.z⟩).toArray) w := fun w => by kernel_rfl
  have h4 : ∀ w, (sizeOf 40).run Try.prog w = .ok 35 w := fun w => by kernel_rfl
  unfold execOp
  simp [ho, Instr.buildSlice, run_underlying Try.underlying37, h1, h4, Instr.fill, Value.cells]
  have e0 : (Array.map (fun x => (default : Value)) (Array.range 0)) = #[] := by kernel_rfl
  simp [newRow, newObj]
  rw [e0]
  rfl
theorem exec_append {v1 v2 v : Value} {w' : World} {T ty : TypeId} (hr : (Builtin.append_ #[T, T] ty #[v1, v2]).run P w = .ok v w') (ho : o.op = .call { callee := .builtin .append, args := #[x, y], argTypes := #[T, T] }) (hty : o.type = ty) (hx : ev x = v1) (hy : ev y = v2) :
    (execOp ev o).run P w = .ok (.value v) w' := by
  subst hty
  unfold execOp
  simp only [ho, resolve, invoke, builtin, Sem.run_bind, Sem.run_pure, Result.andThen_ok, List.map_toArray, List.map_cons, List.map_nil, hx, hy, hr]
theorem exec_build3 {a b c : Int} {x y z : Operand} (ho : o.op = .build 41 #[(0, x), (1, y), (2, z)]) (hx : ev x = .int .i64 a) (hy : ev y = .int .i64 b) (hz : ev z = .int .i64 c) :
    (execOp ev o).run Try.prog w = .ok (.value (k3 a b c)) w := by
  have h1 : (zeroValue 41).run Try.prog w = .ok (.agg #[.int .i64 0, .int .i64 0, .int .i64 0]) w := by kernel_rfl
  have h3 : ∀ w, (sizeOf 3).run Try.prog w = .ok 1 w := fun w => by kernel_rfl
  unfold execOp k3
  simp [ho, hx, hy, hz, Instr.build, h1, h3, run_underlying Try.underlying41, Instr.fill, Value.cells]
end
theorem infoK3 : (Try.prog.info? 41).map (fun i => (i.zero, i.size, i.bytes)) = some (some (.agg #[.int .i64 0, .int .i64 0, .int .i64 0]), 3, 24) := by kernel_rfl
/-- a vote more, and what stays -/
theorem run_one_vote (base : Nat) (w : World) (v1 : Value) (l : List Cnt.Vote) (v : Cnt.Vote) (hv : v.id.length = 32) (hm : l.length ≤ 1000) (hown : w.ownsRow base 40 35 v1 l.length (l.flatMap voteC)) (hN : base ≤ w.heap.size) :
    ∃ v' w', (Builtin.append_ #[37, 37] 37 #[v1, .slice (some ⟨w.heap.size, 0, none⟩) 1 1]).run Try.prog (w.alloc (.cells (voteC v).toArray 40)) = .ok v' w' ∧
      w'.ownsRow base 40 35 v' (l ++ [v]).length ((l ++ [v]).flatMap voteC) ∧ Fr (fun j => v1.ownBlock = some j) w w' := by
  obtain ⟨iv, hiv, hv0, hv1, hv2⟩ := info_parts infoVo
  have hown2 : (w.alloc (.cells (voteC v).toArray 40)).ownsRow base 40 35 v1 l.length (l.flatMap voteC) := hown.alloc _
  have hcells : ∀ (j : Nat) (u : Value), (voteC v)[j]? = some u → (w.alloc (.cells (voteC v).toArray 40)).cell? ((⟨w.heap.size, 0, none⟩ : Addr).add j) = some u := by
    intro j u hu
    rw [add_none, Nat.zero_add, (Blk.new w 40 (voteC v).toArray).cell]
    simpa using hu
  obtain ⟨v', w', hr, ho, hg, _⟩ := run_append_own (P := Try.prog) (w := w.alloc (.cells (voteC v).toArray 40)) base 37 37 40 iv _ 35 56 Try.underlying37 hiv hv0 hv1 hv2 rfl (by decide) _ l.length _ hown2 _ 1 1 (voteC v) (voteC_length v hv) hcells (voteC_one v) (by simp only [maxLen]; omega) (by omega) (by simp; omega)
  refine ⟨v', w', hr, by simpa [List.flatMap_append] using ho, ?_⟩
  refine (Fr.alloc _ w _).trans (Fr.grown hg) (fun j hj => .inl hj.symm)
theorem own_block {w : World} {base : Nat} {v : Value} {n : Nat} {cs : List Value} (h : w.ownsRow base 40 35 v n cs) {j : Nat} (hj : v.ownBlock = some j) : base ≤ j := by
  rcases h.2 with ⟨e, _⟩ | ⟨g, cap, cur, e, hb, _⟩
  · rw [e] at hj; simp [Value.ownBlock] at hj
  · rw [e] at hj; simp [Value.ownBlock] at hj; omega
/-- a row that is owned reads as votes; its room -/
theorem votes_of_own' {w : World} {base : Nat} {v' : Value} {l : List Cnt.Vote} (hlen : ∀ v ∈ l, v.id.length = 32) (h : w.ownsRow base 40 35 v' l.length (l.flatMap voteC)) :
    ∃ A c, v' = .slice A l.length c ∧ VotesAt w A l ∧ l.length ≤ c ∧ ∀ a, A = some a → base ≤ a.block := by
  obtain ⟨A, c, e, hv, hb⟩ := votes_of_own hlen h
  refine ⟨A, c, e, hv, ?_, hb⟩
  rcases h.2 with ⟨rfl, h0⟩ | ⟨g, cap, cur, rfl, hb, hg, hnc, _⟩
  · simp only [Value.slice.injEq] at e; omega
  · simp only [Value.slice.injEq] at e; omega
theorem own_frame {w w' : World} {base : Nat} {v : Value} {n : Nat} {cs : List Value} {S : Nat → Prop} (h : w.ownsRow base 40 35 v n cs) (f : Fr S w w') (hS : ∀ j, S j → j < base) : w'.ownsRow base 40 35 v n cs := by
  refine ⟨h.1, ?_⟩
  rcases h.2 with h | ⟨g, cap, cur, e, hb, hg, hr⟩
  · exact .inl h
  · exact .inr ⟨g, cap, cur, e, hb, (f.block g (Array.getElem?_eq_some_iff.1 hg).1 (fun s => by have := hS _ s; omega)).trans hg, hr⟩
theorem own_lt {w : World} {base : Nat} {v : Value} {n : Nat} {cs : List Value} (h : w.ownsRow base 40 35 v n cs) {j : Nat} (hj : v.ownBlock = some j) : j < w.heap.size := by
  rcases h.2 with ⟨e, _⟩ | ⟨g, cap, cur, e, hb, hg, _⟩
  · rw [e] at hj; simp [Value.ownBlock] at hj
  · rw [e] at hj
    simp [Value.ownBlock] at hj
    rw [← hj]
    exact (Array.getElem?_eq_some_iff.1 hg).1
/-- how all lies while the votes of unlike voters are gathered -/
structure Dist (W0 : World) (m j : Nat) (v : Value) (own : List Cnt.Vote) (ks : List (Int × Int × Int)) (W : World) : Prop where
  le : own.length ≤ j
  row : W.ownsRow (m + 1) 40 35 v own.length (own.flatMap voteC)
  len : ∀ u ∈ own, u.id.length = 32
  seen : Seen W m j ks
  keys : ∀ u ∈ own, (u.r, u.k, u.w) ∈ ks
  un : own.Pairwise Cnt.Unlike
  fr : Fr (fun x => m ≤ x) W0 W
section
variable {W0 W W' : World} {m j : Nat} {v : Value} {own : List Cnt.Vote} {ks : List (Int × Int × Int)}
theorem Dist.start (W0 : World) (m : Nat) (h : Seen W0 m 0 []) : Dist W0 m 0 (.slice none 0 0) [] [] W0 :=
  ⟨Nat.le_refl _, ⟨rfl, .inl ⟨rfl, rfl⟩⟩, fun u hu => (by cases hu), h, fun u hu => (by cases hu), List.Pairwise.nil, Fr.refl _ _⟩
theorem Dist.new (h : Dist W0 m j v own ks W) (f : New W W') : Dist W0 m j v own ks W' :=
  ⟨h.le, own_frame h.row f (fun _ h => h.elim), h.len, h.seen.fr f id, h.keys, h.un, h.fr.trans f (fun _ h => h.elim)⟩
theorem Dist.old (h : Dist W0 m j v own ks W) (hj : j ≤ 60) {a b c : Int} (wa : Num a) (wb : Num b) (wc : Num c) :
    ∃ W', (Instr.mapUpdate 38 (.map (some m)) (k3 a b c) (.bool true)).run Try.prog W = .ok () W' ∧ Dist W0 m (j + 1) v own (ks ++ [(a, b, c)]) W' := by
  obtain ⟨W', hr, hs, f⟩ := h.seen.put (by simp only [maxLen]; omega) wa wb wc
  exact ⟨W', hr, ⟨by have := h.le; omega, own_frame h.row f (fun x hx => by omega), h.len, hs, fun u hu => List.mem_append_left _ (h.keys u hu), h.un, h.fr.trans f (fun x hx => .inl (by omega))⟩⟩
theorem Dist.more (h : Dist W0 m j v own ks W) (hj : j ≤ 60) (u : Cnt.Vote) (hu : u.id.length = 32) (wa : Num u.r) (wb : Num u.k) (wc : Num u.w) (hk : (u.r, u.k, u.w) ∉ ks) :
    ∃ v' W1 W2, (Builtin.append_ #[37, 37] 37 #[v, .slice (some ⟨W.heap.size, 0, none⟩) 1 1]).run Try.prog (W.alloc (.cells (voteC u).toArray 40)) = .ok v' W1 ∧
      (Instr.mapUpdate 38 (.map (some m)) (k3 u.r u.k u.w) (.bool true)).run Try.prog W1 = .ok () W2 ∧ Dist W0 m (j + 1) v' (own ++ [u]) (ks ++ [(u.r, u.k, u.w)]) W2 ∧ Fr (fun x => v.ownBlock = some x) W W1 := by
  have hle := h.le
  have hms := h.seen.lt
  obtain ⟨v', W1, hr, ho, f1⟩ := run_one_vote (m + 1) W v own u hu (by omega) h.row (by omega)
  obtain ⟨W2, hr2, hs, f2⟩ := (h.seen.fr f1 (fun s => by have := own_block h.row s; omega)).put (by simp only [maxLen]; omega) wa wb wc
  exact ⟨v', W1, W2, hr, hr2, ⟨by simp; omega, own_frame ho f2 (fun x hx => by omega), fun x hx => by rcases List.mem_append.1 hx with hx | hx; exact h.len x hx; rw [List.mem_singleton.1 hx]; exact hu, hs,
    fun x hx => by rcases List.mem_append.1 hx with hx | hx; exact List.mem_append_left _ (h.keys x hx); rw [List.mem_singleton.1 hx]; exact List.mem_append_right _ (List.mem_singleton.2 rfl),
    Cnt.unlike_snoc h.un h.keys hk, (h.fr.trans f1 (fun x hx => .inl (by have := own_block h.row hx; omega))).trans f2 (fun x hx => .inl (by omega))⟩, f1⟩
end
/-- the two counts, and the votes that are put -/
structure Ord (w : World) (ga gb : Nat) (Ba Bb : Nat → Nat → Nat) (n m : Nat) (Va Vb : Cnt.Tab) (A : Option Addr) (own : List Cnt.Vote) (W : World) : Prop where
  a : CntAt W ga Ba n Va
  b : CntAt W gb Bb n Vb
  vo : VotesAt W A own
  ap : ∀ a, A = some a → m ≤ a.block
  lm : m ≤ W.heap.size
  fr : New w W
structure Apart (w : World) (ga gb : Nat) (Ba Bb : Nat → Nat → Nat) (m : Nat) : Prop where
  ra : ∀ j, RowsOf Ba j → w.heap.size ≤ j ∧ j < m ∧ j ≠ gb ∧ ¬ RowsOf Bb j
  rb : ∀ j, RowsOf Bb j → w.heap.size ≤ j ∧ j < m ∧ j ≠ ga ∧ ¬ RowsOf Ba j
  la : ga < m
  lb : gb < m
  lm : w.heap.size ≤ m
section
variable {w : World} {ga gb : Nat} {Ba Bb : Nat → Nat → Nat} {n m : Nat} {Va Vb V' : Cnt.Tab} {A : Option Addr} {own : List Cnt.Vote} {W W' : World}
theorem Ord.new (h : Ord w ga gb Ba Bb n m Va Vb A own W) (f : New W W') : Ord w ga gb Ba Bb n m Va Vb A own W' :=
  ⟨h.a.fr f id (fun _ _ _ _ => id), h.b.fr f id (fun _ _ _ _ => id), h.vo.fr f (fun _ h => h.elim), h.ap, Nat.le_trans h.lm f.size, h.fr.trans f (fun _ h => h.elim)⟩
theorem Ord.putA (hs : Apart w ga gb Ba Bb m) (h : Ord w ga gb Ba Bb n m Va Vb A own W) (ha : CntAt W' ga Ba n V') (f : Fr (RowsOf Ba) W W') : Ord w ga gb Ba Bb n m V' Vb A own W' :=
  ⟨ha, h.b.fr f (fun s => (hs.ra _ s).2.2.1 rfl) (fun r k hr hk s => (hs.ra _ s).2.2.2 ⟨r, k, hr, hk, rfl⟩), h.vo.fr' f (fun a e s => by have := (hs.ra _ s).2.1; have := h.ap a e; omega), h.ap, Nat.le_trans h.lm f.size, h.fr.trans f (fun j hj => .inr (hs.ra _ hj).1)⟩
theorem Ord.putB (hs : Apart w ga gb Ba Bb m) (h : Ord w ga gb Ba Bb n m Va Vb A own W) (hb : CntAt W' gb Bb n V') (f : Fr (RowsOf Bb) W W') : Ord w ga gb Ba Bb n m Va V' A own W' :=
  ⟨h.a.fr f (fun s => (hs.rb _ s).2.2.1 rfl) (fun r k hr hk s => (hs.rb _ s).2.2.2 ⟨r, k, hr, hk, rfl⟩), hb, h.vo.fr' f (fun a e s => by have := (hs.rb _ s).2.1; have := h.ap a e; omega), h.ap, Nat.le_trans h.lm f.size, h.fr.trans f (fun j hj => .inr (hs.rb _ hj).1)⟩
end
/-- how far the region that turns the votes round has come -/
def Turned (w0 wA w1 w2 : World) (L : Array Bool) (W' : World) : Prop :=
  match L.getD 0 false, L.getD 4 false, L.getD 8 false with
  | false, false, false => W' = w0
  | true, false, false => W' = wA
  | true, true, false => W' = w1
  | true, true, true => W' = w2
  | _, _, _ => False
theorem arr11 {L : Array Bool} (h : L.size = 11) : ∃ a0 a1 a2 a3 a4 a5 a6 a7 a8 a9 a10, L = #[a0, a1, a2, a3, a4, a5, a6, a7, a8, a9, a10] := by
  obtain ⟨l⟩ := L
  match l, h with
  | [a0, a1, a2, a3, a4, a5, a6, a7, a8, a9, a10], _ => exact ⟨_, _, _, _, _, _, _, _, _, _, _, rfl⟩
end Go.Proofs.YtepmlmfacpbhkaaR
