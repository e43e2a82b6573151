/- CountStays: the memory's side. -/
import Derived.Test.YtepmlmfacpbhkaaRStaysP
import Derived.Test.YtepmlmfacpbhkaaRPlaces
import Derived.Test.YtepmlmfacpbhkaaROrdA
namespace Go.Proofs.YtepmlmfacpbhkaaR
open Go.RowKit Go.Shelf
set_option linter.unusedVariables false

/-- what the maps say is so -/
structure Keeps (n : Nat) (V : Cnt.Tab) (S M : Int → Int → Option Value) : Prop where
  s : ∀ r k v, S r k = some v → ∃ x, v = .agg (ida x) ∧ Cnt.sure n V r k = some x
  m : ∀ r k v, M r k = some v → ∃ q : Nat, v = .int .i64 q ∧ q ≤ (Cnt.castsAt n V r k).length
section
variable {n : Nat} {V : Cnt.Tab} {S M : Int → Int → Option Value} {r k : Int} {x : Cnt.Vid}
theorem Keeps.start (n : Nat) (V : Cnt.Tab) : Keeps n V (fun _ _ => none) (fun _ _ => none) := ⟨fun r k v e => (by cases e), fun r k v e => (by cases e)⟩
theorem Keeps.put (hn : n = 1 ∨ n = 4 ∨ n = 7) (h : Keeps n V S M) (v : Cnt.Vote) : Keeps n (Cnt.putOf n V v) S M :=
  ⟨fun r k u e => by
    obtain ⟨x, h1, h2⟩ := h.s r k u e
    exact ⟨x, h1, Cnt.sure_stays hn (Cnt.putOf_ge n V v) h2⟩, fun r k u e => by
    obtain ⟨q, h1, h2⟩ := h.m r k u e
    exact ⟨q, h1, Nat.le_trans h2 (Cnt.len_mono (Cnt.putOf_ge n V v) r k)⟩⟩
theorem Keeps.sure (h : Keeps n V S M) (hs : Cnt.sure n V r k = some x) : Keeps n V (upd S r k (.agg (ida x))) M :=
  ⟨fun r' k' u e => by
    unfold upd at e
    split at e
    · rename_i he
      obtain ⟨rfl, rfl⟩ := he
      cases e
      exact ⟨x, rfl, hs⟩
    · exact h.s r' k' u e, h.m⟩
theorem Keeps.all (h : Keeps n V S M) (r k : Int) : Keeps n V S (upd M r k (.int .i64 ((Cnt.castsAt n V r k).length : Nat))) :=
  ⟨h.s, fun r' k' u e => by
    unfold upd at e
    split at e
    · rename_i he
      obtain ⟨rfl, rfl⟩ := he
      cases e
      exact ⟨_, rfl, Nat.le_refl _⟩
    · exact h.m r' k' u e⟩
end
theorem Tabled.more {W : World} {m n n' : Nat} {f : Int → Int → Option Value} (h : Tabled W m n f) (hn : n ≤ n') : Tabled W m n' f := by
  obtain ⟨D, h1, h2⟩ := h
  exact ⟨D, h1.mono hn, h2⟩
/-- how all lies -/
structure Stays (w : World) (g : Nat) (B : Nat → Nat → Nat) (n : Nat) (V : Cnt.Tab) (m1 m2 q : Nat) (S M : Int → Int → Option Value) (W : World) : Prop where
  c : CntAt W g B n V
  s : Tabled W m1 q S
  m : Tabled W m2 q M
  fr : New w W
structure Spread (w : World) (g : Nat) (B : Nat → Nat → Nat) (m1 m2 : Nat) : Prop where
  b : ∀ j, RowsOf B j → w.heap.size ≤ j ∧ j ≠ m1 ∧ j ≠ m2
  g1 : g ≠ m1
  g2 : g ≠ m2
  ne : m1 ≠ m2
  l1 : w.heap.size ≤ m1
  l2 : w.heap.size ≤ m2
section
variable {w : World} {g : Nat} {B : Nat → Nat → Nat} {n : Nat} {V V' : Cnt.Tab} {m1 m2 q : Nat} {S M : Int → Int → Option Value} {W W' : World} {a b : Int}
theorem Stays.new (h : Stays w g B n V m1 m2 q S M W) (f : New W W') : Stays w g B n V m1 m2 q S M W' :=
  ⟨h.c.fr f id (fun _ _ _ _ => id), h.s.fr f id, h.m.fr f id, h.fr.trans f (fun _ h => h.elim)⟩
theorem Stays.more {q' : Nat} (h : Stays w g B n V m1 m2 q S M W) (hq : q ≤ q') : Stays w g B n V m1 m2 q' S M W := ⟨h.c, h.s.more hq, h.m.more hq, h.fr⟩
theorem Stays.put (hs : Spread w g B m1 m2) (h : Stays w g B n V m1 m2 q S M W) (hc : CntAt W' g B n V') (f : Fr (RowsOf B) W W') : Stays w g B n V' m1 m2 q S M W' :=
  ⟨hc, h.s.fr f (fun s => (hs.b _ s).2.1 rfl), h.m.fr f (fun s => (hs.b _ s).2.2 rfl), h.fr.trans f (fun j hj => .inr (hs.b _ hj).1)⟩
theorem Stays.setS (hs : Spread w g B m1 m2) (h : Stays w g B n V m1 m2 q S M W) (hq : q < maxLen) (wa : Num a) (wb : Num b) (v : Value) :
    ∃ W', (Instr.mapUpdate 44 (.map (some m1)) (kP a b) v).run Try.prog W = .ok () W' ∧ Stays w g B n V m1 m2 (q + 1) (upd S a b v) M W' ∧ Fr (fun j => j = m1) W W' := by
  obtain ⟨W', hr, ht, f⟩ := h.s.put Try.underlying44 hq wa wb v
  exact ⟨W', hr, ⟨h.c.fr f hs.g1 (fun r k hr hk => (hs.b _ ⟨r, k, hr, hk, rfl⟩).2.1), ht, (h.m.more (Nat.le_succ _)).fr f (fun e => hs.ne e.symm), h.fr.trans f (fun j hj => .inr (by have := hs.l1; omega))⟩, f⟩
theorem Stays.setM (hs : Spread w g B m1 m2) (h : Stays w g B n V m1 m2 q S M W) (hq : q < maxLen) (wa : Num a) (wb : Num b) (v : Value) :
    ∃ W', (Instr.mapUpdate 45 (.map (some m2)) (kP a b) v).run Try.prog W = .ok () W' ∧ Stays w g B n V m1 m2 (q + 1) S (upd M a b v) W' ∧ Fr (fun j => j = m2) W W' := by
  obtain ⟨W', hr, ht, f⟩ := h.m.put Try.underlying45 hq wa wb v
  exact ⟨W', hr, ⟨h.c.fr f hs.g2 (fun r k hr hk => (hs.b _ ⟨r, k, hr, hk, rfl⟩).2.2), (h.s.more (Nat.le_succ _)).fr f hs.ne, ht, h.fr.trans f (fun j hj => .inr (by have := hs.l2; omega))⟩, f⟩
theorem Stays.lookM {v : Value} (h : Stays w g B n V m1 m2 q S M W) (wa : Num a) (wb : Num b) (hv : (M a b).getD (.int .i64 0) = v) :
    (Instr.lookup 45 (.map (some m2)) (kP a b) false).run Try.prog W = .ok v W := by
  have := h.m.look Try.underlying45 (z := .int .i64 0) (by kernel_rfl) wa wb
  rw [hv] at this
  exact this
theorem Stays.lookS {v : Value} {t : Bool} (h : Stays w g B n V m1 m2 q S M W) (wa : Num a) (wb : Num b) (hv : (S a b).getD (.agg (ida Cnt.z)) = v) (ht : (S a b).isSome = t) :
    (Instr.lookup 44 (.map (some m1)) (kP a b) true).run Try.prog W = .ok (.tuple #[v, .bool t]) W := by
  have := h.s.look_ok Try.underlying44 (z := .agg (ida Cnt.z)) (by kernel_rfl) wa wb
  rw [hv, ht] at this
  exact this
end
theorem num_small {a : Int} (h0 : 0 ≤ a) (h1 : a < 100) : Num a := by
  have e1 : IntKind.i64.min = -9223372036854775808 := by decide +kernel
  have e2 : IntKind.i64.max = 9223372036854775807 := by decide +kernel
  show (decide (IntKind.i64.min ≤ a) && decide (a ≤ IntKind.i64.max)) = true
  rw [e1, e2]
  simp
  omega
/-- the last region: All is laid into its map -/
def Laid (w : World) (g : Nat) (B : Nat → Nat → Nat) (n : Nat) (V : Cnt.Tab) (m1 m2 q : Nat) (S M M' : Int → Int → Option Value) (b : Nat) (X : Array Value) (L : Array Bool) (W : World) : Prop :=
  Blk W b 47 X ∧ match L.getD 6 false with
  | false => Stays w g B n V m1 m2 q S M W
  | true => Stays w g B n V m1 m2 (q + 1) S M' W
section
variable {w : World} {g : Nat} {B : Nat → Nat → Nat} {n : Nat} {V : Cnt.Tab} {m1 m2 q : Nat} {S M M' : Int → Int → Option Value} {b : Nat} {X : Array Value} {L : Array Bool} {W W' : World}
theorem Laid.new (h : Laid w g B n V m1 m2 q S M M' b X L W) (f : New W W') : Laid w g B n V m1 m2 q S M M' b X L W' := by
  refine ⟨h.1.fr f id, ?_⟩
  have h2 := h.2
  revert h2
  cases L.getD 6 false <;> exact fun h2 => Stays.new h2 f
theorem Laid.c (h : Laid w g B n V m1 m2 q S M M' b X L W) : CntAt W g B n V := by
  have h2 := h.2
  revert h2
  cases L.getD 6 false <;> exact fun h2 => Stays.c h2
end
theorem arr7 {L : Array Bool} (h : L.size = 7) : ∃ a0 a1 a2 a3 a4 a5 a6, L = #[a0, a1, a2, a3, a4, a5, a6] := by
  obtain ⟨l⟩ := L
  match l, h with
  | [a0, a1, a2, a3, a4, a5, a6], _ => exact ⟨_, _, _, _, _, _, _, rfl⟩
section
variable {P : Program} {ev : Operand → Value} {o : Oper} {w : World}
theorem exec_makeMapT {T : TypeId} (ho : o.op = .makeMap T none) : (execOp ev o).run P w = .ok (.value (.map (some w.heap.size))) (w.alloc (.map #[] 0)) := by
  unfold execOp
  simp only [ho, Option.map_none]
  rfl
theorem exec_build2 {a b : Int} {x y : Operand} (ho : o.op = .build 47 #[(0, x), (1, y)]) (hx : ev x = .int .i64 a) (hy : ev y = .int .i64 b) :
    (execOp ev o).run Try.prog w = .ok (.value (kP a b)) w := by
  have h1 : (zeroValue 47).run Try.prog w = .ok (.agg #[.int .i64 0, .int .i64 0]) w := by kernel_rfl
  have h3 : ∀ w, (sizeOf 3).run Try.prog w = .ok 1 w := fun w => by kernel_rfl
  unfold execOp kP
  simp [ho, hx, hy, Instr.build, h1, h3, run_underlying Try.underlying47, Instr.fill, Value.cells]
end
theorem infoPl : (Try.prog.info? 47).map (fun i => (i.zero, i.size, i.bytes)) = some (some (.agg #[.int .i64 0, .int .i64 0]), 2, 16) := by kernel_rfl
end Go.Proofs.YtepmlmfacpbhkaaR
