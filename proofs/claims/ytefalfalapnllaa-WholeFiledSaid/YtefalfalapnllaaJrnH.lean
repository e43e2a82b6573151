/- Package journal: the drawn region of Open in which the short sum of a length is reckoned. -/
import Derived.Test.YtefalfalapnllaaJrnF
namespace Go.Proofs.Ytefalfalapnllaa
open Go.RowKit Go.Shelf
set_option linter.unusedVariables false
structure OG where
  a : Nat
  b : Nat
def openV (q g o m cm : Nat) (S : List UInt8) (k : OG) : List Value :=
  [.pointer (some ⟨q, 0, none⟩), .pointer (some ⟨q, 0, none⟩), .pointer (some ⟨q, 2, none⟩), .slice (some ⟨q, 2, none⟩) 32 32, .slice (some ⟨g, o, none⟩) m cm, .slice (some ⟨g, o, none⟩) 3 cm, .slice (some ⟨k.a, 0, none⟩) 2 2, .agg (ida S), .pointer (some ⟨k.b, 0, none⟩), undef]
def openS (w0 : World) (q g o cm : Nat) (S : List UInt8) (L : Array Bool) (k : OG) (W : World) : Prop :=
  New w0 W ∧ (L.getD 9 false = true → L.getD 8 false = true) ∧
  (L.getD 6 false = true → w0.heap.size ≤ k.a ∧ Rd W (some ⟨k.a, 0, none⟩) [.slice (some ⟨q, 2, none⟩) 32 32, .slice (some ⟨g, o, none⟩) 3 cm]) ∧
  (L.getD 8 false = true → w0.heap.size ≤ k.b ∧ Blk W k.b 60 (ida (if L.getD 9 false = true then S else z32))) ∧
  (L.getD 6 false = true → L.getD 8 false = true → k.a ≠ k.b)
section
variable {w0 : World} {q g o cm : Nat} {S : List UInt8} {L : Array Bool} {k : OG} {W : World}
theorem openS.list (h : openS w0 q g o cm S L k W) (i : Nat) (h6 : i ≠ 6) (h8 : i ≠ 8) (h9 : i ≠ 9) : openS w0 q g o cm S (L.setIfInBounds i true) k W := by
  unfold openS at h ⊢
  rw [getD_set_ne false h6, getD_set_ne false h8, getD_set_ne false h9]
  exact h
theorem openS.new {W' : World} (h : openS w0 q g o cm S L k W) (f : New W W') : openS w0 q g o cm S L k W' := by
  obtain ⟨a, b, c, d, e⟩ := h
  exact ⟨a.trans f (fun _ h => h.elim), b, fun x => ⟨(c x).1, (c x).2.fr f (fun _ _ => id)⟩, fun x => ⟨(d x).1, (d x).2.fr f id⟩, e⟩
theorem openS.a (h : openS w0 q g o cm S L k W) (hz : L.size = 10) (h6 : L.getD 6 false = false) : openS w0 q g o cm S (L.setIfInBounds 6 true) ⟨W.heap.size, k.b⟩ (W.alloc (.cells #[.slice (some ⟨q, 2, none⟩) 32 32, .slice (some ⟨g, o, none⟩) 3 cm] 22)) := by
  obtain ⟨a, b, c, d, e⟩ := h
  unfold openS
  rw [getD_set_ne false (show 6 ≠ 8 by decide), getD_set_ne false (show 6 ≠ 9 by decide)]
  refine ⟨a.then_alloc _, b, fun _ => ⟨a.size, lit_rd W _ _⟩, fun x => ⟨(d x).1, (d x).2.alloc _⟩, fun _ x e' => ?_⟩
  have := (d x).2.lt
  have e2 : W.heap.size = k.b := e'
  omega
theorem openS.b (h : openS w0 q g o cm S L k W) (hz : L.size = 10) (h8 : L.getD 8 false = false) : openS w0 q g o cm S (L.setIfInBounds 8 true) ⟨k.a, W.heap.size⟩ (W.alloc (.cells (ida z32) 60)) := by
  obtain ⟨a, b, c, d, e⟩ := h
  have h9 : L.getD 9 false = false := by
    cases e : L.getD 9 false with
    | false => rfl
    | true => have := b e; rw [h8] at this; cases this
  unfold openS
  rw [getD_set_ne false (show 8 ≠ 6 by decide), getD_set_ne false (show 8 ≠ 9 by decide), getD_set_self (by rw [hz]; decide), h9]
  refine ⟨a.then_alloc _, fun x => (by cases x), fun x => ⟨(c x).1, (c x).2.alloc _⟩, fun _ => ⟨a.size, Blk.new W _ _⟩, fun x _ e' => ?_⟩
  have := (c x).2.lt (by simp) k.a rfl
  have e2 : k.a = W.heap.size := e'
  omega
theorem openS.c (h : openS w0 q g o cm S L k W) (hz : L.size = 10) (h8 : L.getD 8 false = true) : openS w0 q g o cm S (L.setIfInBounds 9 true) k (W.setRow k.b (ida S)) := by
  obtain ⟨a, b, c, d, e⟩ := h
  have hf : Fr (fun j => j = k.b) W (W.setRow k.b (ida S)) := (Fr.refl (fun j => j = k.b) W).setRow (g := k.b) rfl _
  have hge := (d h8).1
  unfold openS
  rw [getD_set_ne false (show 9 ≠ 6 by decide), getD_set_ne false (show 9 ≠ 8 by decide), getD_set_self (by rw [hz]; decide), if_pos rfl]
  refine ⟨a.trans hf (fun j hj => .inr (by omega)), fun _ => h8, fun x => ⟨(c x).1, (c x).2.fr hf (fun j hj e' => ?_)⟩, fun _ => ⟨hge, (d h8).2.setRow _⟩, e⟩
  simp [ab] at hj
  have := e x h8
  omega
end
end Go.Proofs.Ytefalfalapnllaa
