/- A slab with the journal over it, as one thing in memory; the contracts over it. -/
import Derived.Test.YtefalfalapnllaaJrnW
namespace Go.Proofs.Ytefalfalapnllaa
open Go.RowKit Go.Shelf
set_option linter.unusedVariables false
/-- at p lies a slab, at q a journal over it; all their blocks are in H -/
def JB (w : World) (H : Nat → Prop) (p q : Nat) (j : JS) : Prop :=
  ∃ (F G : Nat → Prop) (A : Option Addr) (c : Nat) (ps : List Part), SlabAt w F p j.s ∧ JAt w G q p j.rs j.last j.down A c ps ∧ (∀ k, F k → ¬ G k) ∧ ∀ k, H k ↔ F k ∨ G k
/-- something was done to them: what is turned is theirs -/
def JStep (w : World) (H : Nat → Prop) (p q : Nat) (j : JS) (w' : World) : Prop := ∃ H', JB w' H' p q j ∧ Gr w H H' ∧ Fr H w w'
section
variable {w w' w0 : World} {H T F : Nat → Prop} {p q : Nat} {j : JS}
theorem JB.lt (h : JB w H p q j) : ∀ k, H k → k < w.heap.size := by
  obtain ⟨F, G, A, c, ps, hS, hJ, hFG, hH⟩ := h
  intro k hk
  rcases (hH k).1 hk with h | h
  · exact hS.lt k h
  · exact hJ.glt k h
theorem JB.fr {S : Nat → Prop} (h : JB w H p q j) (f : Fr S w w') (hS : ∀ k, H k → ¬ S k) : JB w' H p q j := by
  obtain ⟨F, G, A, c, ps, h1, hJ, hFG, hH⟩ := h
  exact ⟨F, G, A, c, ps, h1.fr f (fun k hk => hS k ((hH k).2 (.inl hk))), hJ.fr f (fun k hk => hS k ((hH k).2 (.inr hk))), hFG, hH⟩
theorem JB.new (h : JB w H p q j) (f : New w w') : JB w' H p q j := h.fr f (fun _ _ => id)
theorem JB.step_new (h : JB w H p q j) (f : New w w') : JStep w H p q j w' := ⟨H, h.new f, Gr.refl _ _, f.mono fun _ h => h.elim⟩
theorem JB.down_eq (h : JB w H p q j) : j.last.length = 32 := by
  obtain ⟨F, G, A, c, ps, h1, hJ, hFG, hH⟩ := h
  exact hJ.len
theorem jb_Write (h : JB w H p q j) (A0 : Option Addr) (c0 : Nat) (d : List UInt8) (hd : Rd w A0 (d.map bv)) (hdH : 0 < d.length → ∀ k, ab A0 = some k → ¬ H k) (hdl : d.length ≤ 100000000) (hrl : j.rs.length < 1000000) :
    Calls Try.prog 34 #[.pointer (some ⟨q, 0, none⟩), .slice A0 d.length c0] w fun e w' => e = .returned (.int .i64 (j.write d).2) ∧ JStep w H p q (j.write d).1 w' := by
  obtain ⟨F, G, A, c, ps, h1, hJ, hFG, hH⟩ := h
  refine (j_Write h1 hJ hFG A0 c0 d hd (fun h0 k hk => ⟨fun hF => hdH h0 k hk ((hH k).2 (.inl hF)), fun hG => hdH h0 k hk ((hH k).2 (.inr hG))⟩) hdl hrl).mono ?_
  rintro e w' ⟨he, F', G', A', c', ps', a1, a2, a3, a4, a5, a6⟩
  refine ⟨he, fun k => F' k ∨ G' k, ⟨F', G', A', c', ps', a1, a2, a5, fun k => Iff.rfl⟩, ?_, a6.mono fun k hk => .inl ((hH k).2 hk)⟩
  intro k hk
  rcases hk with hk | hk
  · exact (a3 k hk).imp (fun h => (hH k).2 (.inl h)) id
  · exact (a4 k hk).imp (fun h => (hH k).2 (.inr h)) id
theorem jb_Len (h : JB w H p q j) :
    Calls Try.prog 35 #[.pointer (some ⟨q, 0, none⟩)] w fun e w' => e = .returned (.int .i64 (j.rs.length : Int)) ∧ JStep w H p q j w' := by
  have hb := h
  obtain ⟨F, G, A, c, ps, h1, hJ, hFG, hH⟩ := h
  exact (j_Len hJ).mono fun _ _ ⟨he, hw⟩ => ⟨he, hw ▸ hb.step_new (Fr.refl _ _)⟩
theorem jb_Last (h : JB w H p q j) :
    Calls Try.prog 39 #[.pointer (some ⟨q, 0, none⟩)] w fun e w' => e = .returned (.agg (ida j.last)) ∧ JStep w H p q j w' := by
  have hb := h
  obtain ⟨F, G, A, c, ps, h1, hJ, hFG, hH⟩ := h
  exact (j_Last hJ).mono fun _ _ ⟨he, hw⟩ => ⟨he, hb.step_new hw⟩
theorem jb_At_bad (h : JB w H p q j) (i : Int) (hi : i < 0 ∨ (j.rs.length : Int) ≤ i) :
    Calls Try.prog 36 #[.pointer (some ⟨q, 0, none⟩), .int .i64 i] w fun e w' => e = .returned (.tuple #[.slice none 0 0, .int .i64 4]) ∧ JStep w H p q j w' := by
  have hb := h
  obtain ⟨F, G, A, c, ps, h1, hJ, hFG, hH⟩ := h
  exact (j_At_bad hJ i hi).mono fun _ _ ⟨he, hw⟩ => ⟨he, hw ▸ hb.step_new (Fr.refl _ _)⟩
theorem jb_At_ok (h : JB w H p q j) (i : Nat) (d : List UInt8) (hi : j.rs[i]? = some d) (hdl : d.length ≤ 140737488355328) (hrl : j.rs.length < 1000000000000) :
    Calls Try.prog 36 #[.pointer (some ⟨q, 0, none⟩), .int .i64 i] w fun e w' => ∃ A2 c2, e = .returned (.tuple #[.slice A2 d.length c2, .int .i64 0]) ∧ RowN w w' A2 c2 d ∧ JStep w H p q j w' := by
  have hb := h
  obtain ⟨F, G, A, c, ps, h1, hJ, hFG, hH⟩ := h
  exact (j_At_ok hJ i d hi hdl hrl).mono fun _ _ ⟨A2, c2, he, hR⟩ => ⟨A2, c2, he, hR, hb.step_new hR.fr⟩
/-- what is done to the slab alone -/
theorem JB.slab (h : JB w H p q j) {s' : SlabS} (hc : ∀ F, SlabAt w F p j.s → (∀ k, F k → H k) → (∃ F', SlabAt w' F' p s' ∧ Gr w F F') ∧ Fr F w w') : JStep w H p q { j with s := s' } w' := by
  obtain ⟨F, G, A, c, ps, h1, hJ, hFG, hH⟩ := h
  obtain ⟨⟨F', a1, a2⟩, a3⟩ := hc F h1 (fun k hk => (hH k).2 (.inl hk))
  refine ⟨fun k => F' k ∨ G k, ⟨F', G, A, c, ps, a1, hJ.fr a3 (fun k hk hF => hFG k hF hk), ?_, fun k => Iff.rfl⟩, ?_, a3.mono fun k hk => .inl ((hH k).2 (.inl hk))⟩
  · intro k hk hG
    have := hJ.glt k hG
    rcases a2 k hk with h | h
    · exact hFG k h hG
    · omega
  · intro k hk
    rcases hk with hk | hk
    · exact (a2 k hk).imp (fun h => (hH k).2 (.inl h)) id
    · exact .inl ((hH k).2 (.inr hk))
theorem JB.slabAt (h : JB w H p q j) : ∃ F, SlabAt w F p j.s ∧ ∀ k, F k → H k := by
  obtain ⟨F, G, A, c, ps, h1, hJ, hFG, hH⟩ := h
  exact ⟨F, h1, fun k hk => (hH k).2 (.inl hk)⟩
/-- a step with one F to begin with -/
theorem JB.turn (h : JB w H p q j) {f : FuncId} {args : Array Value} {s' : SlabS} {R : Ending → World → Prop}
    (hc : ∀ F, SlabAt w F p j.s → Calls Try.prog f args w fun e w' => R e w' ∧ (∃ F', SlabAt w' F' p s' ∧ Gr w F F') ∧ Fr F w w') :
    Calls Try.prog f args w fun e w' => R e w' ∧ JStep w H p q { j with s := s' } w' := by
  obtain ⟨F, G, A, c, ps, h1, hJ, hFG, hH⟩ := h
  refine (hc F h1).mono ?_
  rintro e w' ⟨hR, ⟨F', a1, a2⟩, a3⟩
  refine ⟨hR, fun k => F' k ∨ G k, ⟨F', G, A, c, ps, a1, hJ.fr a3 (fun k hk hF => hFG k hF hk), ?_, fun k => Iff.rfl⟩, ?_, a3.mono fun k hk => .inl ((hH k).2 (.inl hk))⟩
  · intro k hk hG
    have := hJ.glt k hG
    rcases a2 k hk with h | h
    · exact hFG k h hG
    · omega
  · intro k hk
    rcases hk with hk | hk
    · exact (a2 k hk).imp (fun h => (hH k).2 (.inl h)) id
    · exact .inl ((hH k).2 (.inr hk))
theorem jb_Break (h : JB w H p q j) (n : Int) (hn : n ≤ 9223372036854775807) :
    Calls Try.prog 21 #[.pointer (some ⟨p, 0, none⟩), .int .i64 n] w fun e w' => e = .returned (.tuple #[]) ∧ JStep w H p q { j with s := { j.s with steps := max n (-1) } } w' :=
  h.turn (R := fun e _ => e = _) fun F hS => (slab_Break hS n hn).mono fun _ _ ⟨he, a, b⟩ => ⟨he, ⟨F, a, Gr.refl _ _⟩, b⟩
theorem jb_Crash (h : JB w H p q j) (n : Int) :
    Calls Try.prog 19 #[.pointer (some ⟨p, 0, none⟩), .int .i64 n] w fun e w' => e = .returned (.tuple #[]) ∧ JStep w H p q { j with s := j.s.crash n } w' :=
  h.turn (R := fun e _ => e = _) fun F hS => (slab_Crash hS n).mono fun _ _ ⟨he, a, b⟩ => ⟨he, ⟨F, a, Gr.refl _ _⟩, b⟩
theorem jb_Size (h : JB w H p q j) :
    Calls Try.prog 23 #[.pointer (some ⟨p, 0, none⟩)] w fun e w' => e = .returned (.tuple #[.int .i64 j.s.bs.length, .int .i64 j.s.sure]) ∧ JStep w H p q j w' :=
  h.turn (R := fun e _ => e = _) fun F hS => (slab_Size hS).mono fun _ _ ⟨he, a, b⟩ => ⟨he, ⟨F, a, Gr.refl _ _⟩, b.mono fun _ h => h.elim⟩
theorem jb_Bytes (h : JB w H p q j) :
    Calls Try.prog 20 #[.pointer (some ⟨p, 0, none⟩)] w fun e w' => (∃ A2 c2, e = .returned (.slice A2 j.s.bs.length c2) ∧ Row w' 5 A2 c2 (j.s.bs.map bv) ∧ (∀ k, ab A2 = some k → w.heap.size ≤ k)) ∧ JStep w H p q j w' := by
  have hb := h
  obtain ⟨F, h1, _⟩ := h.slabAt
  exact (slab_Bytes h1).mono fun _ _ ⟨A2, c2, he, hR, hn, ha, hw⟩ => ⟨⟨A2, c2, he, hR, hn⟩, hb.step_new hw⟩
theorem jb_Spoil_bad (h : JB w H p q j) (n : Int) (x : UInt8) (hn : n < 0 ∨ (j.s.bs.length : Int) ≤ n) :
    Calls Try.prog 31 #[.pointer (some ⟨p, 0, none⟩), .int .i64 n, bv x] w fun e w' => e = .returned (.int .i64 1) ∧ JStep w H p q j w' := by
  have hb := h
  obtain ⟨F, h1, _⟩ := h.slabAt
  exact (slab_Spoil_bad h1 n x hn).mono fun _ _ ⟨he, hw⟩ => ⟨he, hw ▸ hb.step_new (Fr.refl _ _)⟩
theorem jb_Spoil_yes (h : JB w H p q j) (n : Nat) (x : UInt8) (hn : n < j.s.bs.length) :
    Calls Try.prog 31 #[.pointer (some ⟨p, 0, none⟩), .int .i64 n, bv x] w fun e w' => e = .returned (.int .i64 0) ∧ JStep w H p q { j with s := j.s.spoil n x } w' :=
  h.turn (R := fun e _ => e = _) fun F hS => (slab_Spoil_yes hS n x hn).mono fun _ _ ⟨he, a, b⟩ => ⟨he, ⟨F, a, Gr.refl _ _⟩, b⟩
/-- a journal that was opened -/
theorem jb_Open {s : SlabS} {j : JS} {e0 : Int} (hS : SlabAt w F p s) (ho : openOf s = (some j, e0)) :
    Calls Try.prog 32 #[.pointer (some ⟨p, 0, none⟩)] w fun e w' => ∃ q H, e = .returned (.tuple #[.pointer (some ⟨q, 0, none⟩), .int .i64 0]) ∧ JB w' H p q j ∧ (∀ k, H k → F k ∨ w.heap.size ≤ k) ∧ Fr F w w' := by
  refine (j_Open hS).mono ?_
  intro e w' h
  unfold OpenPost at h
  rw [ho] at h
  obtain ⟨q, G, A, c, ps, he, h1, h2, h3, h4⟩ := h
  exact ⟨q, fun k => F k ∨ G k, he, ⟨F, G, A, c, ps, h1, h2, fun k hk hG => by have := h3 k hG; have := hS.lt k hk; omega, fun k => Iff.rfl⟩, fun k hk => hk.imp id (h3 k), h4⟩
theorem j_Open_no {s : SlabS} {e0 : Int} (hS : SlabAt w F p s) (ho : openOf s = (none, e0)) :
    Calls Try.prog 32 #[.pointer (some ⟨p, 0, none⟩)] w fun e w' => e = .returned (.tuple #[.pointer none, .int .i64 e0]) ∧ SlabAt w' F p s ∧ New w w' := by
  refine (j_Open hS).mono ?_
  intro e w' h
  unfold OpenPost at h
  rw [ho] at h
  exact h
/-- since w0 nothing was turned but what is in T; and they lie in T, or are new -/
def JFr (w0 : World) (T : Nat → Prop) (w : World) (p q : Nat) (j : JS) : Prop := ∃ H, JB w H p q j ∧ (∀ k, H k → T k ∨ w0.heap.size ≤ k) ∧ Fr T w0 w
theorem JFr.fr (h : JFr w0 T w p q j) : Fr T w0 w := by obtain ⟨_, _, _, h⟩ := h; exact h
theorem JFr.step {j' : JS} {H : Nat → Prop} (hH : ∀ k, H k → T k ∨ w0.heap.size ≤ k) (hf : Fr T w0 w) (hs : JStep w H p q j' w') : JFr w0 T w' p q j' := by
  obtain ⟨H', h1, h2, h3⟩ := hs
  refine ⟨H', h1, fun k hk => ?_, hf.trans h3 hH⟩
  rcases h2 k hk with h | h
  · exact hH k h
  · exact .inr (Nat.le_trans hf.size h)
theorem JFr.new (h : JFr w0 T w p q j) (f : New w w') : JFr w0 T w' p q j := by
  obtain ⟨H, hB, hH, hf⟩ := h
  exact .step hH hf (hB.step_new f)
theorem JFr.lift (h : JFr w0 T w p q j) {f : FuncId} {args : Array Value} {j' : JS} {R : Ending → World → Prop}
    (hc : ∀ H, JB w H p q j → (∀ k, H k → T k ∨ w0.heap.size ≤ k) → Calls Try.prog f args w fun e w' => R e w' ∧ JStep w H p q j' w') :
    Calls Try.prog f args w fun e w' => R e w' ∧ JFr w0 T w' p q j' := by
  obtain ⟨H, hB, hH, hf⟩ := h
  exact (hc H hB hH).mono fun _ _ ⟨hR, hs⟩ => ⟨hR, .step hH hf hs⟩
theorem JFr.slabAt (h : JFr w0 T w p q j) : ∃ F, SlabAt w F p j.s ∧ (∀ k, F k → T k ∨ w0.heap.size ≤ k) := by
  obtain ⟨H, hB, hH, hf⟩ := h
  obtain ⟨F, h1, h2⟩ := hB.slabAt
  exact ⟨F, h1, fun k hk => hH k (h2 k hk)⟩
end
end Go.Proofs.Ytefalfalapnllaa
