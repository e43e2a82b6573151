/- OnceTells: what stands behind it, plain; and the state of its first drawn region. -/
import Derived.Test.YtepmlmfacpbhkaaROnceShowsW
import Derived.Test.YtepmlmfacpbhkaaROnceI
import Derived.Test.YtepmlmfacpbhkaaROnceK
namespace Go.Proofs.YtepmlmfacpbhkaaR
open Go.RowKit Go.Shelf
set_option linter.unusedVariables false

theorem firstDif_is_some {f h : Nat → Nat} {k : Nat} : ∀ (n i : Nat), firstDif f h n i = some k → i ≤ k ∧ k < i + n ∧ (∀ j, i ≤ j → j < k → f j = h j) ∧ f k ≠ h k
  | 0, i, e => by cases e
  | n + 1, i, e => by
    unfold firstDif at e
    by_cases hd : f i ≠ h i
    · rw [if_pos hd] at e
      injection e with e
      subst e
      exact ⟨Nat.le_refl _, by omega, fun j h1 h2 => by omega, hd⟩
    · rw [if_neg hd] at e
      obtain ⟨h1, h2, h3, h4⟩ := firstDif_is_some n (i + 1) e
      refine ⟨by omega, by omega, fun j h5 h6 => ?_, h4⟩
      by_cases hj : i = j
      · subst hj
        exact Decidable.not_not.1 hd
      · exact h3 j (by omega) h6
theorem firstDif_is_none {f h : Nat → Nat} : ∀ (n i : Nat), firstDif f h n i = none → ∀ j, i ≤ j → j < i + n → f j = h j
  | 0, i, _, j, h1, h2 => by omega
  | n + 1, i, e, j, h1, h2 => by
    unfold firstDif at e
    by_cases hd : f i ≠ h i
    · rw [if_pos hd] at e
      cases e
    · rw [if_neg hd] at e
      by_cases hj : i = j
      · subst hj
        exact Decidable.not_not.1 hd
      · exact firstDif_is_none n (i + 1) e j (by omega) (by omega)
theorem firstBit_some {f h : Nat → Nat} {k : Nat} (e : firstBit f h = some k) : k < 64 ∧ (∀ j, j < k → f j = h j) ∧ f k ≠ h k := by
  obtain ⟨_, h2, h3, h4⟩ := firstDif_is_some 64 0 e
  exact ⟨by omega, fun j hj => h3 j (Nat.zero_le _) hj, h4⟩
theorem firstBit_none {f h : Nat → Nat} (e : firstBit f h = none) : ∀ j, j < 64 → f j = h j := fun j hj => firstDif_is_none 64 0 e j (Nat.zero_le _) (by omega)
theorem shown_side (seed : List UInt8) (num : Int) (a b : List UInt8) (i : Nat) (h : Once.side a i = Once.side b i) : Once.shown seed num a i = Once.shown seed num b i := by
  unfold Once.shown
  rw [h]
theorem other_side (seed : List UInt8) (num : Int) (a b : List UInt8) (i : Nat) (h : Once.side a i = Once.side b i) : Once.other seed num a i = Once.other seed num b i := by
  unfold Once.other
  rw [h]
theorem hide_shown (seed : List UInt8) (num : Int) (a b : List UInt8) (i : Nat) (h : Once.side a i ≠ Once.side b i) : Once.hide (Once.shown seed num b i) = Once.other seed num a i := by
  unfold Once.shown Once.other
  have h1 := Once.side_lt a i
  have h2 := Once.side_lt b i
  rw [show Once.side b i = 1 - Once.side a i by omega]
theorem sig_same (seed : List UInt8) (num : Int) (a b : List UInt8) (h : ∀ j, j < 64 → Once.side a j = Once.side b j) : sigL (Once.shown seed num a) (Once.other seed num a) = sigL (Once.shown seed num b) (Once.other seed num b) := by
  unfold sigL
  rw [flat1_congr 64 fun i hi => shown_side seed num a b i (h i hi), flat1_congr (h := Once.other seed num a) 64 fun i hi => other_side seed num a b i (h i hi)]
structure G2 where
  a : Nat
  b : Nat
/-- the region's values: the two signatures' addresses are known only when they are made -/
def tellV (K : Array Value) (A1 A2 : Option Addr) (n1 n2 c1 c2 : Nat) (S1 S2 : List UInt8) (g : G2) : List Value :=
  [.agg K, .slice A1 n1 c1, .agg (ida S1), .agg K, .slice A2 n2 c2, .agg (ida S2), .pointer (some ⟨g.a, 0, none⟩), .pointer (some ⟨g.b, 0, none⟩), undef, undef]
def tellS (w0 : World) (kb : Nat) (K : Array Value) (S1 S2 : List UInt8) (L : Array Bool) (g : G2) (W : World) : Prop :=
  (Blk W kb 62 K ∧ New w0 W ∧ kb < w0.heap.size) ∧
  ((L.getD 8 false = true → L.getD 6 false = true) ∧ (L.getD 9 false = true → L.getD 7 false = true)) ∧
  (L.getD 6 false = true → w0.heap.size ≤ g.a ∧ Blk W g.a 69 (ida (if L.getD 8 false = true then S1 else z4k))) ∧
  (L.getD 7 false = true → w0.heap.size ≤ g.b ∧ Blk W g.b 69 (ida (if L.getD 9 false = true then S2 else z4k))) ∧
  (L.getD 6 false = true → L.getD 7 false = true → g.a ≠ g.b)
section
variable {w0 : World} {kb : Nat} {K : Array Value} {S1 S2 : List UInt8} {L : Array Bool} {g : G2} {W : World}
theorem tellS.list (h : tellS w0 kb K S1 S2 L g W) (i : Nat) (h6 : i ≠ 6) (h7 : i ≠ 7) (h8 : i ≠ 8) (h9 : i ≠ 9) : tellS w0 kb K S1 S2 (L.setIfInBounds i true) g W := by
  unfold tellS at h ⊢
  rw [getD_set_ne false h6, getD_set_ne false h7, getD_set_ne false h8, getD_set_ne false h9]
  exact h
theorem tellS.new {W' : World} (h : tellS w0 kb K S1 S2 L g W) (f : New W W') : tellS w0 kb K S1 S2 L g W' := by
  obtain ⟨⟨a, b, c⟩, d, e, h7, h8⟩ := h
  exact ⟨⟨a.fr f id, b.trans f (fun _ h => h.elim), c⟩, d, fun x => ⟨(e x).1, (e x).2.fr f id⟩, fun x => ⟨(h7 x).1, (h7 x).2.fr f id⟩, h8⟩
theorem tellS.a (h : tellS w0 kb K S1 S2 L g W) (hz : L.size = 10) (h6 : L.getD 6 false = false) : tellS w0 kb K S1 S2 (L.setIfInBounds 6 true) ⟨W.heap.size, g.b⟩ (W.alloc (.cells (ida z4k) 69)) := by
  obtain ⟨⟨a, b, c⟩, ⟨d, d'⟩, e, h7, h8⟩ := h
  have h8f : L.getD 8 false = false := by
    cases h : L.getD 8 false with
    | false => rfl
    | true => have := d h; rw [h6] at this; cases this
  unfold tellS
  rw [getD_set_ne false (show 6 ≠ 7 by decide), getD_set_ne false (show 6 ≠ 8 by decide), getD_set_ne false (show 6 ≠ 9 by decide), getD_set_self (by rw [hz]; decide), h8f]
  refine ⟨⟨a.alloc _, b.then_alloc _, c⟩, ⟨fun h => (by cases h), d'⟩, fun _ => ⟨b.size, Blk.new W _ _⟩, fun x => ⟨(h7 x).1, (h7 x).2.alloc _⟩, fun _ x e => ?_⟩
  have hl := (h7 x).2.lt
  have e' : W.heap.size = g.b := e
  omega
theorem tellS.b (h : tellS w0 kb K S1 S2 L g W) (hz : L.size = 10) (h7n : L.getD 7 false = false) : tellS w0 kb K S1 S2 (L.setIfInBounds 7 true) ⟨g.a, W.heap.size⟩ (W.alloc (.cells (ida z4k) 69)) := by
  obtain ⟨⟨a, b, c⟩, ⟨d, d'⟩, e, h7, h8⟩ := h
  have h9f : L.getD 9 false = false := by
    cases h : L.getD 9 false with
    | false => rfl
    | true => have := d' h; rw [h7n] at this; cases this
  unfold tellS
  rw [getD_set_ne false (show 7 ≠ 6 by decide), getD_set_ne false (show 7 ≠ 8 by decide), getD_set_ne false (show 7 ≠ 9 by decide), getD_set_self (by rw [hz]; decide), h9f]
  refine ⟨⟨a.alloc _, b.then_alloc _, c⟩, ⟨d, fun h => (by cases h)⟩, fun x => ⟨(e x).1, (e x).2.alloc _⟩, fun _ => ⟨b.size, Blk.new W _ _⟩, fun x _ e' => ?_⟩
  have hl := (e x).2.lt
  have e2 : g.a = W.heap.size := e'
  omega
theorem tellS.c (h : tellS w0 kb K S1 S2 L g W) (hz : L.size = 10) (h6 : L.getD 6 false = true) : tellS w0 kb K S1 S2 (L.setIfInBounds 8 true) g (W.setRow g.a (ida S1)) := by
  obtain ⟨⟨a, b, c⟩, ⟨d, d'⟩, e, h7, h8⟩ := h
  have hf : Fr (fun j => j = g.a) W (W.setRow g.a (ida S1)) := (Fr.refl (fun j => j = g.a) W).setRow (g := g.a) rfl _
  have hge := (e h6).1
  unfold tellS
  rw [getD_set_ne false (show 8 ≠ 6 by decide), getD_set_ne false (show 8 ≠ 7 by decide), getD_set_ne false (show 8 ≠ 9 by decide), getD_set_self (by rw [hz]; decide)]
  refine ⟨⟨a.fr hf (by omega), b.trans hf (fun j hj => .inr (by omega)), c⟩, ⟨fun _ => h6, d'⟩, fun x => ⟨hge, by rw [if_pos rfl]; exact (e x).2.setRow _⟩, fun x => ⟨(h7 x).1, (h7 x).2.fr hf (fun e => h8 h6 x e.symm)⟩, h8⟩
theorem tellS.d (h : tellS w0 kb K S1 S2 L g W) (hz : L.size = 10) (h7t : L.getD 7 false = true) : tellS w0 kb K S1 S2 (L.setIfInBounds 9 true) g (W.setRow g.b (ida S2)) := by
  obtain ⟨⟨a, b, c⟩, ⟨d, d'⟩, e, h7, h8⟩ := h
  have hf : Fr (fun j => j = g.b) W (W.setRow g.b (ida S2)) := (Fr.refl (fun j => j = g.b) W).setRow (g := g.b) rfl _
  have hge := (h7 h7t).1
  unfold tellS
  rw [getD_set_ne false (show 9 ≠ 6 by decide), getD_set_ne false (show 9 ≠ 7 by decide), getD_set_ne false (show 9 ≠ 8 by decide), getD_set_self (by rw [hz]; decide)]
  refine ⟨⟨a.fr hf (by omega), b.trans hf (fun j hj => .inr (by omega)), c⟩, ⟨d, fun _ => h7t⟩, fun x => ⟨(e x).1, (e x).2.fr hf (fun e => h8 x h7t e)⟩, fun x => ⟨hge, by rw [if_pos rfl]; exact (h7 x).2.setRow _⟩, h8⟩
end
/-- both signatures stand -/
def TwoS (w0 : World) (ga gb : Nat) (S1 S2 : List UInt8) (L : Array Bool) (W : World) : Prop := Blk W ga 69 (ida S1) ∧ Blk W gb 69 (ida S2) ∧ New w0 W
theorem TwoS.new {w0 : World} {ga gb : Nat} {S1 S2 : List UInt8} {L L' : Array Bool} {W W' : World} (h : TwoS w0 ga gb S1 S2 L W) (f : New W W') : TwoS w0 ga gb S1 S2 L' W' := ⟨h.1.fr f id, h.2.1.fr f id, h.2.2.trans f (fun _ h => h.elim)⟩
theorem TwoS.list {w0 : World} {ga gb : Nat} {S1 S2 : List UInt8} {L : Array Bool} {W : World} (h : TwoS w0 ga gb S1 S2 L W) (L' : Array Bool) : TwoS w0 ga gb S1 S2 L' W := h
theorem exec_neq_same {o : Oper} {ev : Operand → Value} {w : World} {x y : Operand} {ty : TypeId} {a : List UInt8} (ho : o.op = .binOp .neq 32 x y ty) (hx : ev x = .agg (ida a)) (hy : ev y = .agg (ida a)) (ha : a.length = 32) :
    (execOp ev o).run Try.prog w = .ok (.value (.bool false)) w := by
  rw [exec_neq (T := 32) ho hx hy underID (by kernel_rfl) sizeB ha ha guardID, beq_self_eq_true]
  rfl
end Go.Proofs.YtepmlmfacpbhkaaR
