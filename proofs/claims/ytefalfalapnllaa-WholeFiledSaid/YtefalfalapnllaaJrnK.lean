/- A slab with the journal over it, as one thing in memory; the contracts over it; The head of the journal's statements, walked: it says true; Journals that were only written: the state is known by the records; two journals side by side; JournalBound walked; A slab, a journal over it, and the boxed sum of the last record; A slab and its journal, all made since w0; a slab alone; an older journal beside a newer one over the same slab. -/
import Derived.Test.YtefalfalapnllaaJrnW
namespace Go.Proofs.Ytefalfalapnllaa
open Go.RowKit Go.Shelf
set_option linter.unusedVariables false
/-- at p lies a slab, at q a journal over it; all their blocks are in H -/
def JB (w : World) (H : Nat → Prop) (p q : Nat) (j : JS) : Prop :=
  ∃ (F G : Nat → Prop) (A : Option Addr) (c : Nat) (ps : List Part), SlabAt w F p j.s ∧ JAt w G q p j.rs j.last j.down A c ps ∧ (∀ k, F k → ¬ G k) ∧ ∀ k, H k ↔ F k ∨ G k
/-- something was done to them: what is turned is theirs -/
def JStep (w : World) (H : Nat → Prop) (p q : Nat) (j : JS) (w' : World) : Prop := ∃ H', JB w' H' p q j ∧ Gr w H H' ∧ Fr H w w'
section
variable {w w' w0 : World} {H T F : Nat → Prop} {p q : Nat} {j : JS}
theorem JB.lt (h : JB w H p q j) : ∀ k, H k → k < w.heap.size := by
  obtain ⟨F, G, A, c, ps, hS, hJ, hFG, hH⟩ := h
  intro k hk
  rcases (hH k).1 hk with h | h
  · exact hS.lt k h
  · exact hJ.glt k h
theorem JB.fr {S : Nat → Prop} (h : JB w H p q j) (f : Fr S w w') (hS : ∀ k, H k → ¬ S k) : JB w' H p q j := by
  obtain ⟨F, G, A, c, ps, h1, hJ, hFG, hH⟩ := h
  exact ⟨F, G, A, c, ps, h1.fr f (fun k hk => hS k ((hH k).2 (.inl hk))), hJ.fr f (fun k hk => hS k ((hH k).2 (.inr hk))), hFG, hH⟩
theorem JB.new (h : JB w H p q j) (f : New w w') : JB w' H p q j := h.fr f (fun _ _ => id)
theorem JB.step_new (h : JB w H p q j) (f : New w w') : JStep w H p q j w' := ⟨H, h.new f, Gr.refl _ _, f.mono fun _ h => h.elim⟩
theorem JB.down_eq (h : JB w H p q j) : j.last.length = 32 := by
  obtain ⟨F, G, A, c, ps, h1, hJ, hFG, hH⟩ := h
  exact hJ.len
theorem jb_Write (h : JB w H p q j) (A0 : Option Addr) (c0 : Nat) (d : List UInt8) (hd : Rd w A0 (d.map bv)) (hdH : 0 < d.length → ∀ k, ab A0 = some k → ¬ H k) (hdl : d.length ≤ 100000000) (hrl : j.rs.length < 1000000) :
    Calls Try.prog 34 #[.pointer (some ⟨q, 0, none⟩), .slice A0 d.length c0] w fun e w' => e = .returned (.int .i64 (j.write d).2) ∧ JStep w H p q (j.write d).1 w' := by
  obtain ⟨F, G, A, c, ps, h1, hJ, hFG, hH⟩ := h
  refine (j_Write h1 hJ hFG A0 c0 d hd (fun h0 k hk => ⟨fun hF => hdH h0 k hk ((hH k).2 (.inl hF)), fun hG => hdH h0 k hk ((hH k).2 (.inr hG))⟩) hdl hrl).mono ?_
  rintro e w' ⟨he, F', G', A', c', ps', a1, a2, a3, a4, a5, a6⟩
  refine ⟨he, fun k => F' k ∨ G' k, ⟨F', G', A', c', ps', a1, a2, a5, fun k => Iff.rfl⟩, ?_, a6.mono fun k hk => .inl ((hH k).2 hk)⟩
  intro k hk
  rcases hk with hk | hk
  · exact (a3 k hk).imp (fun h => (hH k).2 (.inl h)) id
  · exact (a4 k hk).imp (fun h => (hH k).2 (.inr h)) id
theorem jb_Len (h : JB w H p q j) :
    Calls Try.prog 35 #[.pointer (some ⟨q, 0, none⟩)] w fun e w' => e = .returned (.int .i64 (j.rs.length : Int)) ∧ JStep w H p q j w' := by
  have hb := h
  obtain ⟨F, G, A, c, ps, h1, hJ, hFG, hH⟩ := h
  exact (j_Len hJ).mono fun _ _ ⟨he, hw⟩ => ⟨he, hw ▸ hb.step_new (Fr.refl _ _)⟩
theorem jb_Last (h : JB w H p q j) :
    Calls Try.prog 39 #[.pointer (some ⟨q, 0, none⟩)] w fun e w' => e = .returned (.agg (ida j.last)) ∧ JStep w H p q j w' := by
  have hb := h
  obtain ⟨F, G, A, c, ps, h1, hJ, hFG, hH⟩ := h
  exact (j_Last hJ).mono fun _ _ ⟨he, hw⟩ => ⟨he, hb.step_new hw⟩
theorem jb_At_bad (h : JB w H p q j) (i : Int) (hi : i < 0 ∨ (j.rs.length : Int) ≤ i) :
    Calls Try.prog 36 #[.pointer (some ⟨q, 0, none⟩), .int .i64 i] w fun e w' => e = .returned (.tuple #[.slice none 0 0, .int .i64 4]) ∧ JStep w H p q j w' := by
  have hb := h
  obtain ⟨F, G, A, c, ps, h1, hJ, hFG, hH⟩ := h
  exact (j_At_bad hJ i hi).mono fun _ _ ⟨he, hw⟩ => ⟨he, hw ▸ hb.step_new (Fr.refl _ _)⟩
theorem jb_At_ok (h : JB w H p q j) (i : Nat) (d : List UInt8) (hi : j.rs[i]? = some d) (hdl : d.length ≤ 140737488355328) (hrl : j.rs.length < 1000000000000) :
    Calls Try.prog 36 #[.pointer (some ⟨q, 0, none⟩), .int .i64 i] w fun e w' => ∃ A2 c2, e = .returned (.tuple #[.slice A2 d.length c2, .int .i64 0]) ∧ RowN w w' A2 c2 d ∧ JStep w H p q j w' := by
  have hb := h
  obtain ⟨F, G, A, c, ps, h1, hJ, hFG, hH⟩ := h
  exact (j_At_ok hJ i d hi hdl hrl).mono fun _ _ ⟨A2, c2, he, hR⟩ => ⟨A2, c2, he, hR, hb.step_new hR.fr⟩
/-- what is done to the slab alone -/
theorem JB.slab (h : JB w H p q j) {s' : SlabS} (hc : ∀ F, SlabAt w F p j.s → (∀ k, F k → H k) → (∃ F', SlabAt w' F' p s' ∧ Gr w F F') ∧ Fr F w w') : JStep w H p q { j with s := s' } w' := by
  obtain ⟨F, G, A, c, ps, h1, hJ, hFG, hH⟩ := h
  obtain ⟨⟨F', a1, a2⟩, a3⟩ := hc F h1 (fun k hk => (hH k).2 (.inl hk))
  refine ⟨fun k => F' k ∨ G k, ⟨F', G, A, c, ps, a1, hJ.fr a3 (fun k hk hF => hFG k hF hk), ?_, fun k => Iff.rfl⟩, ?_, a3.mono fun k hk => .inl ((hH k).2 (.inl hk))⟩
  · intro k hk hG
    have := hJ.glt k hG
    rcases a2 k hk with h | h
    · exact hFG k h hG
    · omega
  · intro k hk
    rcases hk with hk | hk
    · exact (a2 k hk).imp (fun h => (hH k).2 (.inl h)) id
    · exact .inl ((hH k).2 (.inr hk))
theorem JB.slabAt (h : JB w H p q j) : ∃ F, SlabAt w F p j.s ∧ ∀ k, F k → H k := by
  obtain ⟨F, G, A, c, ps, h1, hJ, hFG, hH⟩ := h
  exact ⟨F, h1, fun k hk => (hH k).2 (.inl hk)⟩
/-- a step with one F to begin with -/
theorem JB.turn (h : JB w H p q j) {f : FuncId} {args : Array Value} {s' : SlabS} {R : Ending → World → Prop}
    (hc : ∀ F, SlabAt w F p j.s → Calls Try.prog f args w fun e w' => R e w' ∧ (∃ F', SlabAt w' F' p s' ∧ Gr w F F') ∧ Fr F w w') :
    Calls Try.prog f args w fun e w' => R e w' ∧ JStep w H p q { j with s := s' } w' := by
  obtain ⟨F, G, A, c, ps, h1, hJ, hFG, hH⟩ := h
  refine (hc F h1).mono ?_
  rintro e w' ⟨hR, ⟨F', a1, a2⟩, a3⟩
  refine ⟨hR, fun k => F' k ∨ G k, ⟨F', G, A, c, ps, a1, hJ.fr a3 (fun k hk hF => hFG k hF hk), ?_, fun k => Iff.rfl⟩, ?_, a3.mono fun k hk => .inl ((hH k).2 (.inl hk))⟩
  · intro k hk hG
    have := hJ.glt k hG
    rcases a2 k hk with h | h
    · exact hFG k h hG
    · omega
  · intro k hk
    rcases hk with hk | hk
    · exact (a2 k hk).imp (fun h => (hH k).2 (.inl h)) id
    · exact .inl ((hH k).2 (.inr hk))
theorem jb_Break (h : JB w H p q j) (n : Int) (hn : n ≤ 9223372036854775807) :
    Calls Try.prog 21 #[.pointer (some ⟨p, 0, none⟩), .int .i64 n] w fun e w' => e = .returned (.tuple #[]) ∧ JStep w H p q { j with s := { j.s with steps := max n (-1) } } w' :=
  h.turn (R := fun e _ => e = _) fun F hS => (slab_Break hS n hn).mono fun _ _ ⟨he, a, b⟩ => ⟨he, ⟨F, a, Gr.refl _ _⟩, b⟩
theorem jb_Crash (h : JB w H p q j) (n : Int) :
    Calls Try.prog 19 #[.pointer (some ⟨p, 0, none⟩), .int .i64 n] w fun e w' => e = .returned (.tuple #[]) ∧ JStep w H p q { j with s := j.s.crash n } w' :=
  h.turn (R := fun e _ => e = _) fun F hS => (slab_Crash hS n).mono fun _ _ ⟨he, a, b⟩ => ⟨he, ⟨F, a, Gr.refl _ _⟩, b⟩
theorem jb_Size (h : JB w H p q j) :
    Calls Try.prog 23 #[.pointer (some ⟨p, 0, none⟩)] w fun e w' => e = .returned (.tuple #[.int .i64 j.s.bs.length, .int .i64 j.s.sure]) ∧ JStep w H p q j w' :=
  h.turn (R := fun e _ => e = _) fun F hS => (slab_Size hS).mono fun _ _ ⟨he, a, b⟩ => ⟨he, ⟨F, a, Gr.refl _ _⟩, b.mono fun _ h => h.elim⟩
theorem jb_Bytes (h : JB w H p q j) :
    Calls Try.prog 20 #[.pointer (some ⟨p, 0, none⟩)] w fun e w' => (∃ A2 c2, e = .returned (.slice A2 j.s.bs.length c2) ∧ Row w' 5 A2 c2 (j.s.bs.map bv) ∧ (∀ k, ab A2 = some k → w.heap.size ≤ k)) ∧ JStep w H p q j w' := by
  have hb := h
  obtain ⟨F, h1, _⟩ := h.slabAt
  exact (slab_Bytes h1).mono fun _ _ ⟨A2, c2, he, hR, hn, ha, hw⟩ => ⟨⟨A2, c2, he, hR, hn⟩, hb.step_new hw⟩
theorem jb_Spoil_bad (h : JB w H p q j) (n : Int) (x : UInt8) (hn : n < 0 ∨ (j.s.bs.length : Int) ≤ n) :
    Calls Try.prog 31 #[.pointer (some ⟨p, 0, none⟩), .int .i64 n, bv x] w fun e w' => e = .returned (.int .i64 1) ∧ JStep w H p q j w' := by
  have hb := h
  obtain ⟨F, h1, _⟩ := h.slabAt
  exact (slab_Spoil_bad h1 n x hn).mono fun _ _ ⟨he, hw⟩ => ⟨he, hw ▸ hb.step_new (Fr.refl _ _)⟩
theorem jb_Spoil_yes (h : JB w H p q j) (n : Nat) (x : UInt8) (hn : n < j.s.bs.length) :
    Calls Try.prog 31 #[.pointer (some ⟨p, 0, none⟩), .int .i64 n, bv x] w fun e w' => e = .returned (.int .i64 0) ∧ JStep w H p q { j with s := j.s.spoil n x } w' :=
  h.turn (R := fun e _ => e = _) fun F hS => (slab_Spoil_yes hS n x hn).mono fun _ _ ⟨he, a, b⟩ => ⟨he, ⟨F, a, Gr.refl _ _⟩, b⟩
/-- a journal that was opened -/
theorem jb_Open {s : SlabS} {j : JS} {e0 : Int} (hS : SlabAt w F p s) (ho : openOf s = (some j, e0)) :
    Calls Try.prog 32 #[.pointer (some ⟨p, 0, none⟩)] w fun e w' => ∃ q H, e = .returned (.tuple #[.pointer (some ⟨q, 0, none⟩), .int .i64 0]) ∧ JB w' H p q j ∧ (∀ k, H k → F k ∨ w.heap.size ≤ k) ∧ Fr F w w' := by
  refine (j_Open hS).mono ?_
  intro e w' h
  unfold OpenPost at h
  rw [ho] at h
  obtain ⟨q, G, A, c, ps, he, h1, h2, h3, h4⟩ := h
  exact ⟨q, fun k => F k ∨ G k, he, ⟨F, G, A, c, ps, h1, h2, fun k hk hG => by have := h3 k hG; have := hS.lt k hk; omega, fun k => Iff.rfl⟩, fun k hk => hk.imp id (h3 k), h4⟩
theorem j_Open_no {s : SlabS} {e0 : Int} (hS : SlabAt w F p s) (ho : openOf s = (none, e0)) :
    Calls Try.prog 32 #[.pointer (some ⟨p, 0, none⟩)] w fun e w' => e = .returned (.tuple #[.pointer none, .int .i64 e0]) ∧ SlabAt w' F p s ∧ New w w' := by
  refine (j_Open hS).mono ?_
  intro e w' h
  unfold OpenPost at h
  rw [ho] at h
  exact h
/-- since w0 nothing was turned but what is in T; and they lie in T, or are new -/
def JFr (w0 : World) (T : Nat → Prop) (w : World) (p q : Nat) (j : JS) : Prop := ∃ H, JB w H p q j ∧ (∀ k, H k → T k ∨ w0.heap.size ≤ k) ∧ Fr T w0 w
theorem JFr.fr (h : JFr w0 T w p q j) : Fr T w0 w := by obtain ⟨_, _, _, h⟩ := h; exact h
theorem JFr.step {j' : JS} {H : Nat → Prop} (hH : ∀ k, H k → T k ∨ w0.heap.size ≤ k) (hf : Fr T w0 w) (hs : JStep w H p q j' w') : JFr w0 T w' p q j' := by
  obtain ⟨H', h1, h2, h3⟩ := hs
  refine ⟨H', h1, fun k hk => ?_, hf.trans h3 hH⟩
  rcases h2 k hk with h | h
  · exact hH k h
  · exact .inr (Nat.le_trans hf.size h)
theorem JFr.new (h : JFr w0 T w p q j) (f : New w w') : JFr w0 T w' p q j := by
  obtain ⟨H, hB, hH, hf⟩ := h
  exact .step hH hf (hB.step_new f)
theorem JFr.lift (h : JFr w0 T w p q j) {f : FuncId} {args : Array Value} {j' : JS} {R : Ending → World → Prop}
    (hc : ∀ H, JB w H p q j → (∀ k, H k → T k ∨ w0.heap.size ≤ k) → Calls Try.prog f args w fun e w' => R e w' ∧ JStep w H p q j' w') :
    Calls Try.prog f args w fun e w' => R e w' ∧ JFr w0 T w' p q j' := by
  obtain ⟨H, hB, hH, hf⟩ := h
  exact (hc H hB hH).mono fun _ _ ⟨hR, hs⟩ => ⟨hR, .step hH hf hs⟩
theorem JFr.slabAt (h : JFr w0 T w p q j) : ∃ F, SlabAt w F p j.s ∧ (∀ k, F k → T k ∨ w0.heap.size ≤ k) := by
  obtain ⟨H, hB, hH, hf⟩ := h
  obtain ⟨F, h1, h2⟩ := hB.slabAt
  exact ⟨F, h1, fun k hk => hH k (h2 k hk)⟩
end
end Go.Proofs.Ytefalfalapnllaa
namespace Go.Proofs.Ytefalfalapnllaa
open Go.RowKit Go.Shelf
set_option linter.unusedVariables false
theorem Rd.str {w : World} {A : Option Addr} {l : List UInt8} (c : Nat) (h : Rd w A (l.map bv)) : (convert 22 9 (.slice A l.length c)).run Try.prog w = .ok (.string ⟨l.toArray⟩) w :=
  run_str_rd w 22 5 Try.underlying22 Try.underlying5 A c l h 9 Try.underlying9
set_option maxHeartbeats 4000000 in
set_option maxRecDepth 20000 in
theorem writes_any (w : World) : Calls Try.prog 38 #[] w fun e w' => e = .returned (.bool true) ∧ New w w' := by
  obtain ⟨ii, hii, hz0, hz1, hz2⟩ := info_parts infoID
  have hl1 := Jrn.link_one
  have kc := fun (w : World) (C : Array Value) (n c : Nat) => Lib.run_convert_bytes_const (P := Try.prog) w 22 5 C n c Try.underlying22 Try.underlying5
  obtain ⟨j0, hj0⟩ : ∃ j0 : JS, j0 = ⟨⟨500, [], 0, -1⟩, [], Jrn.zero, false⟩ := ⟨_, rfl⟩
  obtain ⟨j1, hj1⟩ : ∃ j1 : JS, j1 = ⟨⟨500, Jrn.recB Jrn.zero Jrn.one, 38, -1⟩, [Jrn.one], Jrn.link Jrn.zero Jrn.one, false⟩ := ⟨_, rfl⟩
  have ho0 : openOf ⟨500, [], 0, -1⟩ = (some j0, 0) := by
    rw [hj0]
    exact openOf_all _ [] (by simp) rfl
  have hw0 : j0.write Jrn.one = (j1, 0) := by
    rw [hj0, hj1]
    exact JS.write_ok _ Jrn.one rfl (by decide) (by decide) rfl
  have ho1 : openOf j1.s = (some j1, 0) := by
    rw [hj1]
    refine openOf_all _ [Jrn.one] (by intro d hd; simp at hd; subst hd; decide) ?_
    simp [Jrn.all]
  have hrs0 : j0.rs.length = 0 := by rw [hj0]; rfl
  have hrs1 : j1.rs = [Jrn.one] := by rw [hj1]
  have hla1 : j1.last = Jrn.link Jrn.zero Jrn.one := by rw [hj1]
  have hll1 : j1.last.length = 32 := by rw [hla1]; rfl
  have hne : (!(j1.last == z32)) = true := by
    rw [hla1]
    have : (Jrn.link Jrn.zero Jrn.one == z32) = false := beq_false_of_ne hl1
    rw [this]
    rfl
  clear hl1 hla1 hj1
  have hs0 : j0.s = ⟨500, [], 0, -1⟩ := by rw [hj0]
  clear hj0
  go_enter Try.func38, Try.ntmps38
  go_wp2_with fail
  refine (slab_New 500 (by omega) (by omega)).mono ?_
  rintro e w1 ⟨rfl, hS1, hN1⟩
  go_wp2_with fail
  refine (jb_Open hS1 ho0).mono ?_
  rintro e w2 ⟨q, H, rfl, hB2, hH2, hf2⟩
  go_wp2_with fail
  have hB2' := hB2.new (Fr.alloc _ w2 (.cells (Jrn.one.map bv).toArray 5 (3, 4)))
  have hlt2 := hB2.lt
  refine Calls.mono (show Calls Try.prog 34 #[.pointer (some ⟨q, 0, none⟩), .slice (some ⟨w2.heap.size, 0, none⟩) 3 3] (w2.alloc (.cells (Jrn.one.map bv).toArray 5 (3, 4))) _ from
    jb_Write hB2' (some ⟨w2.heap.size, 0, none⟩) 3 Jrn.one (Rd.lit w2 (Jrn.one.map bv) 5 (3, 4)) (fun _ k hk hH => by have := hlt2 k hH; simp [ab] at hk; omega) (by decide) (by omega)) ?_
  rintro e w3 ⟨rfl, H3, hB3, hg3, hf3⟩
  rw [hw0] at hB3 ⊢
  have hN2 : New w w2 := hN1.trans hf2 (fun k hk => .inr (by omega))
  have hHw : ∀ k, H k → w.heap.size ≤ k := fun k hk => by have := hN1.size; rcases hH2 k hk with h | h <;> omega
  have hN3 : New w w3 := (hN2.then_alloc (.cells (Jrn.one.map bv).toArray 5 (3, 4))).trans hf3 (fun k hk => .inr (hHw k hk))
  have hH3w : ∀ k, H3 k → w.heap.size ≤ k := fun k hk => by have := hN2.size; have := hg3 k hk; rw [World.size_alloc] at this; rcases this with h | h; exact hHw k h; omega
  obtain ⟨F3, G3, A3, c3, ps3, hS3, hJ3, hFG3, hHH3⟩ := hB3
  clear hB2 hB2' hlt2 hf3 hg3 hf2 hN1 hN2 hS1 hH2
  have HW := Lib.hid (show ((∀ k, F3 k → w.heap.size ≤ k) ∧ (∀ k, G3 k → ¬ F3 k) ∧ JAt w3 G3 q w.heap.size j1.rs j1.last j1.down A3 c3 ps3 ∧ New w w3) from ⟨fun k hk => hH3w k ((hHH3 k).2 (.inl hk)), fun k hk hF => hFG3 k hF hk, hJ3, hN3⟩)
  clear hH3w hFG3 hJ3 hN3 hHH3
  go_wp2_with fail
  refine (jb_Open hS3 ho1).mono ?_
  rintro e w4 ⟨q2, H4, rfl, hB4, hH4, hf4⟩
  obtain ⟨hF3w, hGF3, hJ3, hN3⟩ := HW.out
  clear HW
  have hJ4 := hJ3.fr hf4 hGF3
  have hN4 := hN3.trans hf4 (fun k hk => .inr (hF3w k hk))
  obtain ⟨F4, G4, A4, c4, ps4, hS4, hK4, hFG4, hHH4⟩ := hB4
  clear hS3 hJ3 hf4 hN3 hF3w hGF3 hS4 hFG4 hHH4 hH4
  have HN4 := Lib.hid hN4
  clear hN4
  go_wp2_with fail
  refine (j_At_ok hK4 0 Jrn.one (by rw [hrs1]; rfl) (by decide) (by rw [hrs1]; decide)).mono ?_
  rintro e w5 ⟨A5, c5, rfl, hR5⟩
  have hJ5 := hJ4.new hR5.fr
  have hK5 := hK4.new hR5.fr
  have hN5 := HN4.out.trans hR5.fr (fun _ h => h.elim)
  have hstr := Rd.str c5 hR5.row.rd
  have HH := Lib.hid (show JAt w5 G3 q w.heap.size j1.rs j1.last j1.down A3 c3 ps3 ∧ JAt w5 G4 q2 w.heap.size j1.rs j1.last j1.down A4 c4 ps4 ∧ New w w5 from ⟨hJ5, hK5, hN5⟩)
  clear hJ4 hK4 HN4 hR5 hJ5 hK5 hN5
  rw [show Jrn.one.length = 3 from rfl] at hstr ⊢
  have hLL := Lib.hid hll1
  have hNE := Lib.hid hne
  have hKC := Lib.hid kc
  clear hll1 hne kc
  go_wp2_with fail
  obtain ⟨hJ5, hK5, hN5⟩ := HH.out
  refine (j_Len hK5).mono ?_
  rintro e _ ⟨rfl, rfl⟩
  clear hJ5 hK5 hN5
  rw [hrs1]
  go_wp2_with fail
  obtain ⟨hJ5, hK5, hN5⟩ := HH.out
  refine (j_Last hK5).mono ?_
  rintro e w6 ⟨rfl, hM6⟩
  have hJ6 := hJ5.new hM6
  have HN6 := Lib.hid (hN5.trans hM6 (fun _ h => h.elim))
  clear hJ5 hK5 hN5 HH hM6
  go_wp2_with fail
  refine (j_Last hJ6).mono ?_
  rintro e w7 ⟨rfl, hM7⟩
  have hJ7 := hJ6.new hM7
  have HN7 := Lib.hid (HN6.out.trans hM7 (fun _ h => h.elim))
  clear hJ6 HN6 hM7
  go_wp2_with (refine x_value (jeql_same rfl rfl rfl hLL.out) (by simp [go_sem, Region.wanted, yielded]) ?_)
  refine (j_Last hJ7).mono ?_
  rintro e w8 ⟨rfl, hM8⟩
  have HN8 := Lib.hid (HN7.out.trans hM8 (fun _ h => h.elim))
  clear hJ7 HN7 hM8
  go_wp2_with (first
    | (refine x_value (x_build0 (T := 60) rfl hii hz0 underID (s := 1) (fun w => by kernel_rfl)) (by simp [go_sem, Region.wanted, yielded]) ?_)
    | (refine x_value (jneq rfl rfl rfl hLL.out rfl hNE.out) (by simp [go_sem, Region.wanted, yielded]) ?_))
  go_ret
  exact ⟨rfl, HN8.out⟩
end Go.Proofs.Ytefalfalapnllaa
namespace Go.Proofs.Ytefalfalapnllaa
open Go.RowKit Go.Shelf
set_option linter.unusedVariables false
/-- a journal that holds these records, over a slab with so much room -/
def jof (room : Int) (rs : List (List UInt8)) : JS := ⟨⟨room, Jrn.all Jrn.zero rs, ((Jrn.all Jrn.zero rs).length : Nat), -1⟩, rs, Jrn.lastOf Jrn.zero rs, false⟩
theorem all_snoc (rs : List (List UInt8)) (d : List UInt8) : Jrn.all Jrn.zero (rs ++ [d]) = Jrn.all Jrn.zero rs ++ Jrn.recB (Jrn.lastOf Jrn.zero rs) d := by
  rw [Jrn.all_append]
  simp [Jrn.all]
theorem all_snoc_len (rs : List (List UInt8)) (d : List UInt8) : (Jrn.all Jrn.zero (rs ++ [d])).length = (Jrn.all Jrn.zero rs).length + (35 + d.length) := by
  rw [all_snoc, List.length_append, Jrn.recB_length]
theorem jof_write {room : Int} {rs : List (List UInt8)} {d : List UInt8} (hl : d.length ≤ 262144) (hr : (((Jrn.all Jrn.zero rs).length + 35 + d.length : Nat) : Int) ≤ room) : (jof room rs).write d = (jof room (rs ++ [d]), 0) := by
  rw [JS.write_ok (jof room rs) d rfl hl (by show _ ≤ room - ((Jrn.all Jrn.zero rs).length : Int); omega) rfl]
  unfold jof
  simp only
  rw [all_snoc, Jrn.lastOf_append]
theorem jof_full {room : Int} {rs : List (List UInt8)} {d : List UInt8} (hl : d.length ≤ 262144) (hr : room < (((Jrn.all Jrn.zero rs).length + 35 + d.length : Nat) : Int)) : (jof room rs).write d = (jof room rs, 3) := by
  have ha : (jof room rs).s.append (Jrn.recB (jof room rs).last d) = ((jof room rs).s, 3) := by
    unfold SlabS.append
    rw [if_pos]
    rw [Jrn.recB_length]
    show room - ((Jrn.all Jrn.zero rs).length : Int) < _
    omega
  unfold JS.write
  rw [if_neg (by simp [jof]), if_neg (by omega), ha]
  rfl
theorem jof_long {room : Int} {rs : List (List UInt8)} {d : List UInt8} (hl : 262144 < d.length) : (jof room rs).write d = (jof room rs, 2) := by
  unfold JS.write
  rw [if_neg (by simp [jof]), if_pos hl]
theorem jof_open (room : Int) (rs : List (List UInt8)) (hd : ∀ d ∈ rs, d.length < 16777216) : openOf (jof room rs).s = (some (jof room rs), 0) := by
  rw [openOf_all (jof room rs).s rs hd rfl]
  rfl
theorem jof_last (room : Int) (rs : List (List UInt8)) : (jof room rs).last = Jrn.lastOf Jrn.zero rs := rfl
theorem jof_rs (room : Int) (rs : List (List UInt8)) : (jof room rs).rs = rs := rfl
theorem jof_s (room : Int) (rs : List (List UInt8)) : (jof room rs).s = ⟨room, Jrn.all Jrn.zero rs, ((Jrn.all Jrn.zero rs).length : Nat), -1⟩ := rfl
theorem last_len (rs : List (List UInt8)) : (Jrn.lastOf Jrn.zero rs).length = 32 := Jrn.lastOf_length _ rfl rs
/-- two slabs with their journals, side by side, all made since w0 -/
def Two (w0 : World) (p1 q1 p2 q2 : Nat) (j1 j2 : JS) (W : World) : Prop :=
  ∃ H1 H2, JB W H1 p1 q1 j1 ∧ JB W H2 p2 q2 j2 ∧ (∀ k, H1 k → ¬ H2 k) ∧ (∀ k, H1 k → w0.heap.size ≤ k) ∧ (∀ k, H2 k → w0.heap.size ≤ k) ∧ New w0 W
section
variable {w0 w w' : World} {p1 q1 p2 q2 : Nat} {j1 j2 : JS} {f : FuncId} {args : Array Value} {R : Ending → World → Prop}
theorem Two.frm (h : Two w0 p1 q1 p2 q2 j1 j2 w) : New w0 w := by obtain ⟨_, _, _, _, _, _, _, h⟩ := h; exact h
theorem Two.swap (h : Two w0 p1 q1 p2 q2 j1 j2 w) : Two w0 p2 q2 p1 q1 j2 j1 w := by
  obtain ⟨H1, H2, h1, h2, h3, h4, h5, h6⟩ := h
  exact ⟨H2, H1, h2, h1, fun k hk h => h3 k h hk, h5, h4, h6⟩
theorem Two.new (h : Two w0 p1 q1 p2 q2 j1 j2 w) (f : New w w') : Two w0 p1 q1 p2 q2 j1 j2 w' := by
  obtain ⟨H1, H2, h1, h2, h3, h4, h5, h6⟩ := h
  exact ⟨H1, H2, h1.new f, h2.new f, h3, h4, h5, h6.trans f (fun _ h => h.elim)⟩
theorem Two.first {j1' : JS} (h : Two w0 p1 q1 p2 q2 j1 j2 w) (hc : ∀ H, JB w H p1 q1 j1 → (∀ k, H k → w0.heap.size ≤ k) → Calls Try.prog f args w fun e w' => R e w' ∧ JStep w H p1 q1 j1' w') :
    Calls Try.prog f args w fun e w' => R e w' ∧ Two w0 p1 q1 p2 q2 j1' j2 w' := by
  obtain ⟨H1, H2, h1, h2, h3, h4, h5, h6⟩ := h
  refine (hc H1 h1 h4).mono ?_
  rintro e w' ⟨hR, H', a1, a2, a3⟩
  refine ⟨hR, H', H2, a1, h2.fr a3 (fun k hk hk1 => h3 k hk1 hk), ?_, ?_, h5, h6.trans a3 (fun k hk => .inr (h4 k hk))⟩
  · intro k hk hk2
    rcases a2 k hk with h | h
    · exact h3 k h hk2
    · have := h2.lt k hk2
      omega
  · intro k hk
    rcases a2 k hk with h | h
    · exact h4 k h
    · exact Nat.le_trans h6.size h
theorem Two.second {j2' : JS} (h : Two w0 p1 q1 p2 q2 j1 j2 w) (hc : ∀ H, JB w H p2 q2 j2 → (∀ k, H k → w0.heap.size ≤ k) → Calls Try.prog f args w fun e w' => R e w' ∧ JStep w H p2 q2 j2' w') :
    Calls Try.prog f args w fun e w' => R e w' ∧ Two w0 p1 q1 p2 q2 j1 j2' w' :=
  (h.swap.first hc).mono fun _ _ ⟨hR, h⟩ => ⟨hR, h.swap⟩
end
/-- the list that came in: bytes of the world at the start -/
structure ListIn (w : World) (A : Option Addr) (ps : List Part) : Prop where
  at_ : PartsAt w A ps
  len : ∀ p ∈ ps, p.b.length ≤ 9223372036854775807
  num : ps.length ≤ 9223372036854775807
theorem ListIn.cell {w : World} {A : Option Addr} {ps : List Part} (h : ListIn w A ps) (i : Nat) (hi : i < ps.length) : ∃ b off, A = some ⟨b, off, none⟩ ∧ b < w.heap.size ∧ w.cell? ⟨b, off + i, none⟩ = some (.slice (ps[i]).a (ps[i]).b.length (ps[i]).c) := by
  obtain ⟨b, off, e, hb, hc⟩ := h.at_.row (by simp; omega)
  exact ⟨b, off, e, hb, by have := hc i (by simpa using hi); simpa [Part.v] using this⟩
end Go.Proofs.Ytefalfalapnllaa
namespace Go.Proofs.Ytefalfalapnllaa
open Go.RowKit Go.Shelf
set_option linter.unusedVariables false
theorem ListIn.new {w w' : World} {A : Option Addr} {ps : List Part} (h : ListIn w A ps) (f : New w w') : ListIn w' A ps :=
  ⟨h.at_.fr f ⟨fun _ _ _ h => h.elim, fun _ _ _ _ _ h => h.elim⟩, h.len, h.num⟩
theorem ListIn.rd {w : World} {A : Option Addr} {ps : List Part} (h : ListIn w A ps) (i : Nat) (hi : i < ps.length) : Rd w (ps[i]).a ((ps[i]).b.map bv) := h.at_.each _ (List.getElem_mem hi)
theorem ListIn.low {w : World} {A : Option Addr} {ps : List Part} (h : ListIn w A ps) (i : Nat) (hi : i < ps.length) (h0 : 0 < (ps[i]).b.length) : ∀ k, ab (ps[i]).a = some k → k < w.heap.size := (h.rd i hi).lt (by simpa using h0)
theorem Two.make {w0 w w1 w2 : World} {F1 F2 H1 H2 : Nat → Prop} {p1 q1 p2 q2 : Nat} {j1 j2 : JS} {s1 s2 : SlabS} (hN : New w0 w) (hS1 : SlabAt w F1 p1 s1) (hS2 : SlabAt w F2 p2 s2) (hd : ∀ k, F1 k → ¬ F2 k) (h1 : ∀ k, F1 k → w0.heap.size ≤ k) (h2 : ∀ k, F2 k → w0.heap.size ≤ k)
    (hB1 : JB w1 H1 p1 q1 j1) (hH1 : ∀ k, H1 k → F1 k ∨ w.heap.size ≤ k) (hf1 : Fr F1 w w1) (hB2 : JB w2 H2 p2 q2 j2) (hH2 : ∀ k, H2 k → F2 k ∨ w1.heap.size ≤ k) (hf2 : Fr F2 w1 w2) : Two w0 p1 q1 p2 q2 j1 j2 w2 := by
  have hl1 := hB1.lt
  have hlF2 := hS2.lt
  have hd1 : ∀ k, H1 k → ¬ F2 k := fun k hk hF => by
    rcases hH1 k hk with h | h
    · exact hd k h hF
    · have := hlF2 k hF
      omega
  refine ⟨H1, H2, hB1.fr hf2 hd1, hB2, ?_, ?_, ?_, (hN.trans hf1 (fun k hk => .inr (h1 k hk))).trans hf2 (fun k hk => .inr (h2 k hk))⟩
  · intro k hk hk2
    rcases hH2 k hk2 with h | h
    · exact hd1 k hk h
    · have := hl1 k hk
      omega
  · intro k hk
    rcases hH1 k hk with h | h
    · exact h1 k h
    · exact Nat.le_trans hN.size h
  · intro k hk
    rcases hH2 k hk with h | h
    · exact h2 k h
    · exact Nat.le_trans (Nat.le_trans hN.size hf1.size) h
/-- the same, behind a step that made something new -/
theorem Two.first_at {w0 w w1 : World} {p1 q1 p2 q2 : Nat} {j1 j2 j1' : JS} {f : FuncId} {args : Array Value} {R : Ending → World → Prop} (h : Two w0 p1 q1 p2 q2 j1 j2 w) (hf : New w w1)
    (hc : ∀ H, JB w1 H p1 q1 j1 → (∀ k, H k → k < w.heap.size) → Calls Try.prog f args w1 fun e w' => R e w' ∧ JStep w1 H p1 q1 j1' w') :
    Calls Try.prog f args w1 fun e w' => R e w' ∧ Two w0 p1 q1 p2 q2 j1' j2 w' := by
  obtain ⟨H1, H2, h1, h2, h3, h4, h5, h6⟩ := h
  have hlt := h1.lt
  have h2' := h2.new hf
  have hlt2 := h2.lt
  have hsz := hf.size
  refine (hc H1 (h1.new hf) hlt).mono ?_
  rintro e w' ⟨hR, H', a1, a2, a3⟩
  refine ⟨hR, H', H2, a1, h2'.fr a3 (fun k hk hk1 => h3 k hk1 hk), ?_, ?_, h5, (h6.trans hf (fun k hk => hk.elim)).trans a3 (fun k hk => .inr (h4 k hk))⟩
  · intro k hk hk2
    rcases a2 k hk with h | h
    · exact h3 k h hk2
    · have := hlt2 k hk2
      omega
  · intro k hk
    rcases a2 k hk with h | h
    · exact h4 k h
    · exact Nat.le_trans (Nat.le_trans h6.size hsz) h
section
variable {w0 w : World} {p1 q1 p2 q2 : Nat} {j1 j2 : JS}
theorem Two.write2_new (h : Two w0 p1 q1 p2 q2 j1 j2 w) (o : Obj) (c0 : Nat) (d : List UInt8) (hd : Rd (w.alloc o) (some ⟨w.heap.size, 0, none⟩) (d.map bv)) (hdl : d.length ≤ 100000000) (hrl : j2.rs.length < 1000000) :
    Calls Try.prog 34 #[.pointer (some ⟨q2, 0, none⟩), .slice (some ⟨w.heap.size, 0, none⟩) d.length c0] (w.alloc o) fun e w' => e = .returned (.int .i64 (j2.write d).2) ∧ Two w0 p1 q1 p2 q2 j1 (j2.write d).1 w' :=
  (h.swap.first_at (R := fun e _ => e = _) (Fr.alloc _ w o) fun H hB hH => jb_Write hB _ c0 d hd (fun h0 k hk hk2 => by have := hH k hk2; simp [ab] at hk; omega) hdl hrl).mono fun _ _ ⟨he, h⟩ => ⟨he, h.swap⟩
theorem Two.write1 (h : Two w0 p1 q1 p2 q2 j1 j2 w) (A0 : Option Addr) (c0 : Nat) (d : List UInt8) (hd : Rd w A0 (d.map bv)) (hdH : 0 < d.length → ∀ k, ab A0 = some k → k < w0.heap.size) (hdl : d.length ≤ 100000000) (hrl : j1.rs.length < 1000000) :
    Calls Try.prog 34 #[.pointer (some ⟨q1, 0, none⟩), .slice A0 d.length c0] w fun e w' => e = .returned (.int .i64 (j1.write d).2) ∧ Two w0 p1 q1 p2 q2 (j1.write d).1 j2 w' :=
  h.first (R := fun e _ => e = _) fun H hB hH => jb_Write hB A0 c0 d hd (fun h0 k hk hk2 => by have := hdH h0 k hk; have := hH k hk2; omega) hdl hrl
theorem Two.write2 (h : Two w0 p1 q1 p2 q2 j1 j2 w) (A0 : Option Addr) (c0 : Nat) (d : List UInt8) (hd : Rd w A0 (d.map bv)) (hdH : 0 < d.length → ∀ k, ab A0 = some k → k < w0.heap.size) (hdl : d.length ≤ 100000000) (hrl : j2.rs.length < 1000000) :
    Calls Try.prog 34 #[.pointer (some ⟨q2, 0, none⟩), .slice A0 d.length c0] w fun e w' => e = .returned (.int .i64 (j2.write d).2) ∧ Two w0 p1 q1 p2 q2 j1 (j2.write d).1 w' :=
  (h.swap.write1 A0 c0 d hd hdH hdl hrl).mono fun _ _ ⟨he, h⟩ => ⟨he, h.swap⟩
theorem Two.size1 (h : Two w0 p1 q1 p2 q2 j1 j2 w) :
    Calls Try.prog 23 #[.pointer (some ⟨p1, 0, none⟩)] w fun e w' => e = .returned (.tuple #[.int .i64 j1.s.bs.length, .int .i64 j1.s.sure]) ∧ Two w0 p1 q1 p2 q2 j1 j2 w' :=
  h.first (R := fun e _ => e = _) fun H hB hH => jb_Size hB
theorem Two.len1 (h : Two w0 p1 q1 p2 q2 j1 j2 w) :
    Calls Try.prog 35 #[.pointer (some ⟨q1, 0, none⟩)] w fun e w' => e = .returned (.int .i64 (j1.rs.length : Int)) ∧ Two w0 p1 q1 p2 q2 j1 j2 w' :=
  h.first (R := fun e _ => e = _) fun H hB hH => jb_Len hB
theorem Two.len2 (h : Two w0 p1 q1 p2 q2 j1 j2 w) :
    Calls Try.prog 35 #[.pointer (some ⟨q2, 0, none⟩)] w fun e w' => e = .returned (.int .i64 (j2.rs.length : Int)) ∧ Two w0 p1 q1 p2 q2 j1 j2 w' :=
  h.swap.len1.mono fun _ _ ⟨he, h⟩ => ⟨he, h.swap⟩
theorem Two.last1 (h : Two w0 p1 q1 p2 q2 j1 j2 w) :
    Calls Try.prog 39 #[.pointer (some ⟨q1, 0, none⟩)] w fun e w' => e = .returned (.agg (ida j1.last)) ∧ Two w0 p1 q1 p2 q2 j1 j2 w' :=
  h.first (R := fun e _ => e = _) fun H hB hH => jb_Last hB
theorem Two.last2 (h : Two w0 p1 q1 p2 q2 j1 j2 w) :
    Calls Try.prog 39 #[.pointer (some ⟨q2, 0, none⟩)] w fun e w' => e = .returned (.agg (ida j2.last)) ∧ Two w0 p1 q1 p2 q2 j1 j2 w' :=
  h.swap.last1.mono fun _ _ ⟨he, h⟩ => ⟨he, h.swap⟩
end
end Go.Proofs.Ytefalfalapnllaa
namespace Go.Proofs.Ytefalfalapnllaa
open Go.RowKit Go.Shelf
set_option linter.unusedVariables false
theorem jheld_want {ops : Array Oper} {fin : Act} {o : Oper} {p E : Prop} (hw : Region.wanted o (yielded ops fin.tmps) = true) (h : p) : if Region.wanted o (yielded ops fin.tmps) = true then p else E := by
  rw [if_pos hw]
  exact h
theorem jheld_not {ops : Array Oper} {fin : Act} {o : Oper} {p E : Prop} (hw : Region.wanted o (yielded ops fin.tmps) = false) (h : E) : if Region.wanted o (yielded ops fin.tmps) = true then p else E := by
  rw [if_neg (by rw [hw]; exact Bool.false_ne_true)]
  exact h
/-- the journal, and the box T with the sum a -/
def Agn (w0 : World) (T : Nat) (a : List UInt8) (p q : Nat) (j : JS) (W : World) : Prop :=
  ∃ H, JB W H p q j ∧ ¬ H T ∧ (∀ k, H k → w0.heap.size ≤ k) ∧ Blk W T 60 (ida a) ∧ w0.heap.size ≤ T ∧ New w0 W
/-- the slab alone, and the box -/
def AgS (w0 : World) (T : Nat) (a : List UInt8) (p : Nat) (s : SlabS) (W : World) : Prop :=
  ∃ F, SlabAt W F p s ∧ ¬ F T ∧ (∀ k, F k → w0.heap.size ≤ k) ∧ Blk W T 60 (ida a) ∧ w0.heap.size ≤ T ∧ New w0 W
section
variable {w0 w w' : World} {T p q : Nat} {a : List UInt8} {j : JS} {s : SlabS}
theorem Agn.frm (h : Agn w0 T a p q j w) : New w0 w := by obtain ⟨H, h1, h2, h3, h4, h5, h6⟩ := h; exact h6
theorem Agn.blk (h : Agn w0 T a p q j w) : Blk w T 60 (ida a) := by obtain ⟨H, h1, h2, h3, h4, h5, h6⟩ := h; exact h4
theorem AgS.blk (h : AgS w0 T a p s w) : Blk w T 60 (ida a) := by obtain ⟨H, h1, h2, h3, h4, h5, h6⟩ := h; exact h4
theorem AgS.frm (h : AgS w0 T a p s w) : New w0 w := by obtain ⟨H, h1, h2, h3, h4, h5, h6⟩ := h; exact h6
theorem Agn.new (h : Agn w0 T a p q j w) (f : New w w') : Agn w0 T a p q j w' := by
  obtain ⟨H, h1, h2, h3, h4, h5, h6⟩ := h
  exact ⟨H, h1.new f, h2, h3, h4.fr f id, h5, h6.trans f (fun _ h => h.elim)⟩
theorem AgS.new (h : AgS w0 T a p s w) (f : New w w') : AgS w0 T a p s w' := by
  obtain ⟨H, h1, h2, h3, h4, h5, h6⟩ := h
  exact ⟨H, h1.fr f (fun _ _ => id), h2, h3, h4.fr f id, h5, h6.trans f (fun _ h => h.elim)⟩
theorem Agn.lift {f : FuncId} {args : Array Value} {R : Ending → World → Prop} {j' : JS} (h : Agn w0 T a p q j w)
    (hc : ∀ H, JB w H p q j → (∀ k, H k → w0.heap.size ≤ k) → Calls Try.prog f args w fun e w' => R e w' ∧ JStep w H p q j' w') :
    Calls Try.prog f args w fun e w' => R e w' ∧ Agn w0 T a p q j' w' := by
  obtain ⟨H, h1, h2, h3, h4, h5, h6⟩ := h
  refine (hc H h1 h3).mono ?_
  rintro e w' ⟨hR, H', a1, a2, a3⟩
  refine ⟨hR, H', a1, ?_, ?_, h4.fr a3 h2, h5, h6.trans a3 (fun k hk => .inr (h3 k hk))⟩
  · intro hT
    rcases a2 T hT with h | h
    · exact h2 h
    · have := h4.lt
      omega
  · intro k hk
    rcases a2 k hk with h | h
    · exact h3 k h
    · exact Nat.le_trans h6.size h
theorem Agn.Len (h : Agn w0 T a p q j w) :
    Calls Try.prog 35 #[.pointer (some ⟨q, 0, none⟩)] w fun e w' => e = .returned (.int .i64 (j.rs.length : Int)) ∧ Agn w0 T a p q j w' :=
  h.lift (R := fun e _ => e = _) fun H hB hH => jb_Len hB
theorem Agn.Last (h : Agn w0 T a p q j w) :
    Calls Try.prog 39 #[.pointer (some ⟨q, 0, none⟩)] w fun e w' => e = .returned (.agg (ida j.last)) ∧ Agn w0 T a p q j w' :=
  h.lift (R := fun e _ => e = _) fun H hB hH => jb_Last hB
theorem Agn.Write (h : Agn w0 T a p q j w) (A0 : Option Addr) (c0 : Nat) (d : List UInt8) (hd : Rd w A0 (d.map bv)) (hdH : 0 < d.length → ∀ k, ab A0 = some k → k < w0.heap.size) (hdl : d.length ≤ 100000000) (hrl : j.rs.length < 1000000) :
    Calls Try.prog 34 #[.pointer (some ⟨q, 0, none⟩), .slice A0 d.length c0] w fun e w' => e = .returned (.int .i64 (j.write d).2) ∧ Agn w0 T a p q (j.write d).1 w' :=
  h.lift (R := fun e _ => e = _) fun H hB hH => jb_Write hB A0 c0 d hd (fun h0 k hk hk2 => by have := hdH h0 k hk; have := hH k hk2; omega) hdl hrl
theorem Agn.store (h : Agn w0 T a p q j w) (b : List UInt8) : Agn w0 T b p q j (w.setRow T (ida b)) := by
  obtain ⟨H, h1, h2, h3, h4, h5, h6⟩ := h
  exact ⟨H, h1.fr ((Fr.refl (fun k => k = T) w).setRow (g := T) rfl _) (fun k hk e => h2 (e ▸ hk)), h2, h3, h4.setRow _, h5, h6.trans ((Fr.refl (fun k => k = T) w).setRow (g := T) rfl _) (fun k hk => .inr (by omega))⟩
theorem Agn.slab (h : Agn w0 T a p q j w) : AgS w0 T a p j.s w := by
  obtain ⟨H, h1, h2, h3, h4, h5, h6⟩ := h
  obtain ⟨F, g1, g2⟩ := h1.slabAt
  exact ⟨F, g1, fun hF => h2 (g2 _ hF), fun k hk => h3 k (g2 k hk), h4, h5, h6⟩
theorem AgS.Open {e0 : Int} (h : AgS w0 T a p s w) (ho : openOf s = (some j, e0)) :
    Calls Try.prog 32 #[.pointer (some ⟨p, 0, none⟩)] w fun e w' => ∃ q, e = .returned (.tuple #[.pointer (some ⟨q, 0, none⟩), .int .i64 0]) ∧ Agn w0 T a p q j w' := by
  obtain ⟨F, h1, h2, h3, h4, h5, h6⟩ := h
  refine (jb_Open h1 ho).mono ?_
  rintro e w' ⟨q, H, he, hB, hH, hf⟩
  refine ⟨q, he, H, hB, ?_, ?_, h4.fr hf h2, h5, h6.trans hf (fun k hk => .inr (h3 k hk))⟩
  · intro hT
    rcases hH T hT with h | h
    · exact h2 h
    · have := h4.lt
      omega
  · intro k hk
    rcases hH k hk with h | h
    · exact h3 k h
    · exact Nat.le_trans h6.size h
/-- another slab with the same bytes -/
theorem AgS.copy (h : AgS w0 T a p s w) {p2 : Nat} {room : Int} (hS : SlabAt w (fun k => k = p2) p2 ⟨room, [], 0, -1⟩) (hp2 : w0.heap.size ≤ p2) (hpT : p2 ≠ T) (hr : (s.bs.length : Int) ≤ room) {A2 : Option Addr} {c2 : Nat} (hR : Rd w A2 (s.bs.map bv)) (hA : ∀ k, ab A2 = some k → p2 < k) :
    Calls Try.prog 17 #[.pointer (some ⟨p2, 0, none⟩), .slice A2 s.bs.length c2] w fun e w' => e = .returned (.int .i64 0) ∧ AgS w0 T a p2 ⟨room, s.bs, 0, -1⟩ w' := by
  obtain ⟨F, h1, h2, h3, h4, h5, h6⟩ := h
  refine (slab_Append_yes hS A2 c2 s.bs (by simpa using hr) (by simp) hR (fun _ k hk e => by have := hA k hk; omega)).mono ?_
  rintro e w' ⟨he, ⟨F', g1, g2⟩, g3⟩
  refine ⟨he, F', g1, ?_, ?_, h4.fr g3 (fun e => hpT e.symm), h5, h6.trans g3 (fun k hk => .inr (by omega))⟩
  · intro hT
    rcases g2 T hT with h | h
    · exact hpT h.symm
    · have := h4.lt
      omega
  · intro k hk
    rcases g2 k hk with h | h
    · omega
    · exact Nat.le_trans h6.size h
end
end Go.Proofs.Ytefalfalapnllaa
namespace Go.Proofs.Ytefalfalapnllaa
open Go.RowKit Go.Shelf
set_option linter.unusedVariables false
def One (w0 : World) (p q : Nat) (j : JS) (W : World) : Prop := ∃ H, JB W H p q j ∧ (∀ k, H k → w0.heap.size ≤ k) ∧ New w0 W
def Sl (w0 : World) (p : Nat) (s : SlabS) (W : World) : Prop := ∃ F, SlabAt W F p s ∧ (∀ k, F k → w0.heap.size ≤ k) ∧ New w0 W
/-- the journal q over the slab p, and an older one q' -/
def Old (w0 : World) (p q q' : Nat) (j j' : JS) (W : World) : Prop :=
  ∃ (H G : Nat → Prop) (A : Option Addr) (c : Nat) (ps : List Part), JB W H p q j ∧ JAt W G q' p j'.rs j'.last j'.down A c ps ∧ (∀ k, G k → ¬ H k) ∧ (∀ k, G k → k < W.heap.size) ∧ (∀ k, H k → w0.heap.size ≤ k) ∧ New w0 W
section
variable {w0 w w' : World} {p q q' : Nat} {j j' : JS} {s : SlabS}
theorem One.frm (h : One w0 p q j w) : New w0 w := by obtain ⟨H, h1, h2, h3⟩ := h; exact h3
theorem Sl.frm (h : Sl w0 p s w) : New w0 w := by obtain ⟨H, h1, h2, h3⟩ := h; exact h3
theorem Old.frm (h : Old w0 p q q' j j' w) : New w0 w := by obtain ⟨_, _, _, _, _, _, _, _, _, _, h⟩ := h; exact h
theorem One.new (h : One w0 p q j w) (f : New w w') : One w0 p q j w' := by
  obtain ⟨H, h1, h2, h3⟩ := h
  exact ⟨H, h1.new f, h2, h3.trans f (fun _ h => h.elim)⟩
theorem Sl.new (h : Sl w0 p s w) (f : New w w') : Sl w0 p s w' := by
  obtain ⟨H, h1, h2, h3⟩ := h
  exact ⟨H, h1.fr f (fun _ _ => id), h2, h3.trans f (fun _ h => h.elim)⟩
theorem Old.new (h : Old w0 p q q' j j' w) (f : New w w') : Old w0 p q q' j j' w' := by
  obtain ⟨H, G, A, c, ps, h1, h2, h3, h4, h5, h6⟩ := h
  exact ⟨H, G, A, c, ps, h1.new f, h2.new f, h3, fun k hk => Nat.lt_of_lt_of_le (h4 k hk) f.size, h5, h6.trans f (fun _ h => h.elim)⟩
theorem One.lift {f : FuncId} {args : Array Value} {R : Ending → World → Prop} (h : One w0 p q j w)
    (hc : ∀ H, JB w H p q j → (∀ k, H k → w0.heap.size ≤ k) → Calls Try.prog f args w fun e w' => R e w' ∧ JStep w H p q j' w') :
    Calls Try.prog f args w fun e w' => R e w' ∧ One w0 p q j' w' := by
  obtain ⟨H, h1, h2, h3⟩ := h
  refine (hc H h1 h2).mono ?_
  rintro e w' ⟨hR, H', a1, a2, a3⟩
  refine ⟨hR, H', a1, ?_, h3.trans a3 (fun k hk => .inr (h2 k hk))⟩
  intro k hk
  rcases a2 k hk with h | h
  · exact h2 k h
  · exact Nat.le_trans h3.size h
theorem Old.lift {f : FuncId} {args : Array Value} {R : Ending → World → Prop} {j2 : JS} (h : Old w0 p q q' j j' w)
    (hc : ∀ H, JB w H p q j → (∀ k, H k → k < w.heap.size) → (∀ k, H k → w0.heap.size ≤ k) → Calls Try.prog f args w fun e w' => R e w' ∧ JStep w H p q j2 w') :
    Calls Try.prog f args w fun e w' => R e w' ∧ Old w0 p q q' j2 j' w' := by
  obtain ⟨H, G, A, c, ps, h1, h2, h3, h4, h5, h6⟩ := h
  refine (hc H h1 h1.lt h5).mono ?_
  rintro e w' ⟨hR, H', a1, a2, a3⟩
  refine ⟨hR, H', G, A, c, ps, a1, h2.fr a3 h3, ?_, fun k hk => Nat.lt_of_lt_of_le (h4 k hk) a3.size, ?_, h6.trans a3 (fun k hk => .inr (h5 k hk))⟩
  · intro k hk hH
    rcases a2 k hH with h | h
    · exact h3 k hk h
    · have := h4 k hk
      omega
  · intro k hk
    rcases a2 k hk with h | h
    · exact h5 k h
    · exact Nat.le_trans h6.size h
theorem One.Len (h : One w0 p q j w) :
    Calls Try.prog 35 #[.pointer (some ⟨q, 0, none⟩)] w fun e w' => e = .returned (.int .i64 (j.rs.length : Int)) ∧ w = w' := by
  obtain ⟨H, ⟨F, G, A, c, ps, h1, hJ, hFG, hH⟩, _⟩ := h
  exact j_Len hJ
theorem One.Last (h : One w0 p q j w) :
    Calls Try.prog 39 #[.pointer (some ⟨q, 0, none⟩)] w fun e w' => e = .returned (.agg (ida j.last)) ∧ One w0 p q j w' :=
  h.lift (R := fun e _ => e = _) fun H hB hH => jb_Last hB
theorem One.At (h : One w0 p q j w) (i : Nat) (d : List UInt8) (hi : j.rs[i]? = some d) (hdl : d.length ≤ 140737488355328) (hrl : j.rs.length < 1000000000000) :
    Calls Try.prog 36 #[.pointer (some ⟨q, 0, none⟩), .int .i64 i] w fun e w' => ∃ A2 c2, e = .returned (.tuple #[.slice A2 d.length c2, .int .i64 0]) ∧ RowN w w' A2 c2 d ∧ One w0 p q j w' := by
  have h0 := h
  obtain ⟨H, hB, _⟩ := h
  exact (jb_At_ok hB i d hi hdl hrl).mono fun _ _ ⟨A2, c2, he, hR, _⟩ => ⟨A2, c2, he, hR, h0.new hR.fr⟩
theorem One.Write (h : One w0 p q j w) (A0 : Option Addr) (c0 : Nat) (d : List UInt8) (hd : Rd w A0 (d.map bv)) (hdH : 0 < d.length → ∀ k, ab A0 = some k → k < w0.heap.size) (hdl : d.length ≤ 100000000) (hrl : j.rs.length < 1000000) :
    Calls Try.prog 34 #[.pointer (some ⟨q, 0, none⟩), .slice A0 d.length c0] w fun e w' => e = .returned (.int .i64 (j.write d).2) ∧ One w0 p q (j.write d).1 w' :=
  h.lift (R := fun e _ => e = _) fun H hB hH => jb_Write hB A0 c0 d hd (fun h0 k hk hk2 => by have := hdH h0 k hk; have := hH k hk2; omega) hdl hrl
theorem One.Break (h : One w0 p q j w) (n : Int) (hn : n ≤ 9223372036854775807) :
    Calls Try.prog 21 #[.pointer (some ⟨p, 0, none⟩), .int .i64 n] w fun e w' => e = .returned (.tuple #[]) ∧ One w0 p q { j with s := { j.s with steps := max n (-1) } } w' :=
  h.lift (R := fun e _ => e = _) fun H hB hH => jb_Break hB n hn
theorem One.Crash (h : One w0 p q j w) (n : Int) :
    Calls Try.prog 19 #[.pointer (some ⟨p, 0, none⟩), .int .i64 n] w fun e w' => e = .returned (.tuple #[]) ∧ One w0 p q { j with s := j.s.crash n } w' :=
  h.lift (R := fun e _ => e = _) fun H hB hH => jb_Crash hB n
theorem One.slab (h : One w0 p q j w) : Sl w0 p j.s w := by
  obtain ⟨H, h1, h2, h3⟩ := h
  obtain ⟨F, g1, g2⟩ := h1.slabAt
  exact ⟨F, g1, fun k hk => h2 k (g2 k hk), h3⟩
theorem Sl.Open {e0 : Int} (h : Sl w0 p s w) (ho : openOf s = (some j, e0)) :
    Calls Try.prog 32 #[.pointer (some ⟨p, 0, none⟩)] w fun e w' => ∃ q, e = .returned (.tuple #[.pointer (some ⟨q, 0, none⟩), .int .i64 0]) ∧ One w0 p q j w' := by
  obtain ⟨F, h1, h3, h6⟩ := h
  refine (jb_Open h1 ho).mono ?_
  rintro e w' ⟨q, H, he, hB, hH, hf⟩
  refine ⟨q, he, H, hB, ?_, h6.trans hf (fun k hk => .inr (h3 k hk))⟩
  intro k hk
  rcases hH k hk with h | h
  · exact h3 k h
  · exact Nat.le_trans h6.size h
theorem Sl.OpenNo {e0 : Int} (h : Sl w0 p s w) (ho : openOf s = (none, e0)) :
    Calls Try.prog 32 #[.pointer (some ⟨p, 0, none⟩)] w fun e w' => e = .returned (.tuple #[.pointer none, .int .i64 e0]) ∧ Sl w0 p s w' := by
  obtain ⟨F, h1, h3, h6⟩ := h
  exact (j_Open_no h1 ho).mono fun _ _ ⟨he, hS, hN⟩ => ⟨he, F, hS, h3, h6.trans hN (fun _ h => h.elim)⟩
/-- opened once more, the older journal stays -/
theorem One.again {e0 : Int} {j2 : JS} (h : One w0 p q' j' w) (ho : openOf j'.s = (some j2, e0)) :
    Calls Try.prog 32 #[.pointer (some ⟨p, 0, none⟩)] w fun e w' => ∃ q, e = .returned (.tuple #[.pointer (some ⟨q, 0, none⟩), .int .i64 0]) ∧ Old w0 p q q' j2 j' w' := by
  obtain ⟨H0, hB0, h3, h6⟩ := h
  have hlt0 := hB0.lt
  obtain ⟨F, G, A, c, ps, h1, hJ, hFG, hH0⟩ := hB0
  refine (jb_Open h1 ho).mono ?_
  rintro e w' ⟨q, H, he, hB, hH, hf⟩
  refine ⟨q, he, H, G, A, c, ps, hB, hJ.fr hf (fun k hk hF => hFG k hF hk), ?_, fun k hk => Nat.lt_of_lt_of_le (hlt0 k ((hH0 k).2 (.inr hk))) hf.size, ?_, h6.trans hf (fun k hk => .inr (h3 k ((hH0 k).2 (.inl hk))))⟩
  · intro k hk hHk
    rcases hH k hHk with h | h
    · exact hFG k h hk
    · have := hlt0 k ((hH0 k).2 (.inr hk))
      omega
  · intro k hk
    rcases hH k hk with h | h
    · exact h3 k ((hH0 k).2 (.inl h))
    · exact Nat.le_trans h6.size h
theorem Old.LenOld (h : Old w0 p q q' j j' w) :
    Calls Try.prog 35 #[.pointer (some ⟨q', 0, none⟩)] w fun e w' => e = .returned (.int .i64 (j'.rs.length : Int)) ∧ w = w' := by
  obtain ⟨H, G, A, c, ps, h1, h2, _⟩ := h
  exact j_Len h2
theorem Old.one (h : Old w0 p q q' j j' w) : One w0 p q j w := by
  obtain ⟨H, G, A, c, ps, h1, h2, h3, h4, h5, h6⟩ := h
  exact ⟨H, h1, h5, h6⟩
theorem Old.Write_new (h : Old w0 p q q' j j' w) (o : Obj) (c0 : Nat) (d : List UInt8) (hd : Rd (w.alloc o) (some ⟨w.heap.size, 0, none⟩) (d.map bv)) (hdl : d.length ≤ 100000000) (hrl : j.rs.length < 1000000) :
    Calls Try.prog 34 #[.pointer (some ⟨q, 0, none⟩), .slice (some ⟨w.heap.size, 0, none⟩) d.length c0] (w.alloc o) fun e w' => e = .returned (.int .i64 (j.write d).2) ∧ Old w0 p q q' (j.write d).1 j' w' := by
  obtain ⟨H, G, A, c, ps, h1, h2, h3, h4, h5, h6⟩ := h
  have hlt := h1.lt
  have f : New w (w.alloc o) := Fr.alloc _ w o
  refine (jb_Write (h1.new f) _ c0 d hd (fun h0 k hk hk2 => by have := hlt k hk2; simp [ab] at hk; omega) hdl hrl).mono ?_
  rintro e w' ⟨he, H', a1, a2, a3⟩
  refine ⟨he, H', G, A, c, ps, a1, (h2.new f).fr a3 h3, ?_, fun k hk => Nat.lt_of_lt_of_le (Nat.lt_of_lt_of_le (h4 k hk) f.size) a3.size, ?_, (h6.trans f (fun _ h => h.elim)).trans a3 (fun k hk => .inr (h5 k hk))⟩
  · intro k hk hH
    rcases a2 k hH with h | h
    · exact h3 k hk h
    · have := h4 k hk
      have := f.size
      omega
  · intro k hk
    rcases a2 k hk with h | h
    · exact h5 k h
    · exact Nat.le_trans (Nat.le_trans h6.size f.size) h
end
end Go.Proofs.Ytefalfalapnllaa
