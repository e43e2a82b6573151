/- A range over an iterator with cells of its own, by a body that never leaves but keeps rows that it makes while it goes: what is the body's (U) is told from what is the iterator's; what is handed out is told by a word on the world (Enc). -/
import Derived.Test.YtefalfalapnllaaRange
namespace Go.Proofs.Ytefalfalapnllaa
open Go.RowKit
set_option linter.unusedVariables false
/-- J abides whatever turns of O, or at or beyond B, but for what is the body's -/
def AbU (B : Nat) (O : Nat → Prop) (J : Nat → (Nat → Prop) → World → Prop) : Prop := ∀ i U X Y, J i U X → Fr (fun k => O k ∨ (B ≤ k ∧ ¬ U k)) X Y → J i U Y
/-- the iterator's contract -/
def SeqU {α : Type} (F : Fence) (n : Nat) (P : Program) (g : Nat) (lb : Array Value) (O : Nat → Prop) (Enc : Nat → α → Array Value → World → Prop) (xs : List α) (Pz : (Nat → Prop) → World → Prop) (Z : World → Prop) : Prop :=
  ∀ (l : Nat) (T : Nat → Prop) (J : Nat → (Nat → Prop) → World → Prop) (W : World), Pz T W → (∀ k, T k → k < W.heap.size ∧ ¬ O k) → AbU W.heap.size O J →
    (∀ i x args U W1, xs[i]? = some x → (∀ V, Fr (fun k => T k ∨ U k) W1 V → Enc i x args V) → J i U W1 → W.heap.size ≤ W1.heap.size → (∀ k, U k → W.heap.size ≤ k ∧ k < W1.heap.size) → YieldAt F (n - 1) P l args W1 fun e W' =>
      e = .returned (.bool true) ∧ ∃ U', J (i + 1) U' W' ∧ (∀ k, U' k → U k ∨ W1.heap.size ≤ k) ∧ (∀ k, U' k → k < W'.heap.size) ∧ Fr (fun k => T k ∨ U k) W1 W') →
    J 0 (fun _ => False) W →
    CallsIn F n P g (#[.func (.yield l) #[] #[]] ++ lb) W fun e W' => (∃ v, e = .returned v) ∧ (∃ U, J xs.length U W') ∧ Z W'

variable {F : Fence} {n : Nat} {P : Program} {w : World}
/-- what a round leaves behind -/
def roundU (T U : Nat → Prop) (S1 : Nat) (I : (Nat → Prop) → World → Prop) (W : World) : Exit → Act → World → Prop
  | .normal, _, W' => ∃ U', I U' W' ∧ (∀ k, U' k → U k ∨ S1 ≤ k) ∧ (∀ k, U' k → k < W'.heap.size) ∧ Fr (fun k => T k ∨ U k ∨ S1 ≤ k) W W'
  | _, _, _ => False

theorem wpIn_rangeFunc_U {α : Type} {g : Operand} {ps : Array Tmp} {assign body : Code} {Q : Exit → Act → World → Prop} {a : Act}
    (hro : F.round = none) (h1 : 1 ≤ n) {gf : Nat} {lb : Array Value} (hg : a.eval g = .func (.func gf) #[] lb) (hFg : F.fn gf) (eg : ∀ args w, (callFunc gf args).run P w = .ok (.enter gf args) w)
    {O : Nat → Prop} {Enc : Nat → α → Array Value → World → Prop} {xs : List α} {Pz : (Nat → Prop) → World → Prop} {Z : World → Prop} (hseq : SeqU F (n - 1) P gf lb O Enc xs Pz Z) (hZ : ∀ X Y, Z X → Fr (fun k => w.heap.size ≤ k) X Y → Z Y)
    (T : Nat → Prop) (hT : ∀ k, T k → k < w.heap.size ∧ ¬ O k) (hO : ∀ k, O k → k < w.heap.size) (hPz : ∀ W, New w W → Pz (fun k => T k ∨ k = w.heap.size + 1) W) (hps : ∀ i x args W, Enc i x args W → args.size = ps.size)
    (I : Nat → (Nat → Prop) → World → Prop) (hI : AbU w.heap.size O I) (h0 : I 0 (fun _ => False) w)
    (hround : ∀ (l i : Nat) (x : α) (args : Array Value) (U : Nat → Prop) (W : World) (K : Act → World → Prop), xs[i]? = some x → (∀ V, Fr (fun k => (T k ∨ k = w.heap.size + 1) ∨ U k) W V → Enc i x args V) → I i U W → w.heap.size + 2 ≤ W.heap.size → (∀ k, U k → w.heap.size + 2 ≤ k ∧ k < W.heap.size) →
      (∀ a' W', Fr (fun _ => False) W W' → (∀ W2, Fr (fun k => k = w.heap.size + 1) W' W2 → body.wpIn (F.inRound l) (n - 1 - 1) P (roundU T U W.heap.size (I (i + 1)) W2) a' W2) → K a' W') →
      assign.wpIn (F.inRound l) (n - 1 - 1) P (Exit.then K (fun _ _ _ => False)) { tmps := (ps.zip args).foldl (fun t (p, v) => t.setIfInBounds p v) a.tmps, defers := [] } W)
    (hdone : ∀ (D : Nat) (U : Nat → Prop) (W : World), w.heap.size ≤ D → I xs.length U W → Z W → W.heap[D]? = some (.deferred (some [])) → Q .normal { a with defers := { target := .collected D, args := #[] } :: a.defers } W) :
    (Code.rangeFunc g ps assign body).wpIn F n P Q a w := by
  refine wpIn_rangeFunc ?_
  intro fn hfn
  rw [hro]
  obtain ⟨rec, hrec⟩ : ∃ rec : LoopState → Option Code → Loop, rec = fun st pe => { state := st, pending := pe, fn, tmps := a.tmps, params := ps, assign, body, defers := w.heap.size } := ⟨_, rfl⟩
  obtain ⟨W1, hW1⟩ : ∃ W1, (w.alloc (.deferred (some []))).alloc (.loop (rec .ready none)) = W1 := ⟨_, rfl⟩
  have hN1 : New w W1 := by rw [← hW1]; exact ((Fr.refl _ w).then_alloc _).then_alloc _
  have hS1 : W1.heap.size = w.heap.size + 2 := by rw [← hW1]; simp
  have hL1 : W1.heap[w.heap.size + 1]? = some (.loop (rec .ready none)) := by
    rw [← hW1]; have := World.alloc_heap_new (w.alloc (.deferred (some []))) (.loop (rec .ready none)); rwa [World.size_alloc] at this
  have hK1 : W1.heap[w.heap.size]? = some (.deferred (some [])) := by
    rw [← hW1]; exact (Below.heap_alloc _ _ _ (by simp)).trans (World.alloc_heap_new w _)
  have hIl : ∀ i U X Y, (∀ k, U k → w.heap.size + 2 ≤ k) → I i U X → Fr (fun k => k = w.heap.size + 1) X Y → I i U Y := fun i U X Y hU hi hf =>
    hI i U X Y hi (hf.mono fun k hk => .inl (.inr ⟨by omega, fun h => by have := hU k h; omega⟩))
  refine ⟨w.heap.size + 1, [{ target := .collected w.heap.size, args := #[] }], W1, { target := .fn (.func gf) lb, args := #[.func (.yield (w.heap.size + 1)) #[] #[]] }, W1, gf,
    #[.func (.yield (w.heap.size + 1)) #[] #[]] ++ lb, W1, ?_, ?_, ?_, ?_, fun _ => h1, ?_⟩
  · rw [← hW1, hrec]; exact run_enterLoop_outer _ _ _ _ _
  · simp only [resolve, hg]
    simp [go_sem]
  · intro f' hf'; simp [Target.leads] at hf'; subst hf'; exact hFg
  · simp [invoke, go_sem, eg]
  · refine (hseq (w.heap.size + 1) (fun k => T k ∨ k = w.heap.size + 1)
      (fun i U W => I i U W ∧ W.heap[w.heap.size + 1]? = some (.loop (rec .ready none)) ∧ W.heap[w.heap.size]? = some (.deferred (some [])) ∧ ∀ k, U k → w.heap.size + 2 ≤ k)
      W1 (hPz W1 hN1) (fun k hk => by
        rcases hk with h | h
        · have := hT k h
          exact ⟨by omega, this.2⟩
        · exact ⟨by omega, fun ho => by have := hO k ho; omega⟩) ?_ ?_ ⟨hI 0 _ w W1 h0 (hN1.mono fun _ h => h.elim), hL1, hK1, fun _ h => h.elim⟩).mono ?_
    · rintro i U X Y ⟨hi, hl, hk, hu⟩ hf
      refine ⟨hI i U X Y hi (hf.mono fun k h => .inl (h.imp id fun h => ⟨by omega, h.2⟩)), (hf.block _ (Array.getElem?_eq_some_iff.1 hl).1 (fun h => by rcases h with h | h; have := hO _ h; omega; omega)).trans hl, (hf.block _ (Array.getElem?_eq_some_iff.1 hk).1 (fun h => by rcases h with h | h; have := hO _ h; omega; omega)).trans hk, hu⟩
    · rintro i x args U W hx henc ⟨hi, hl, hk, hu⟩ hsz hU
      have hlt : w.heap.size + 1 < W.heap.size := (Array.getElem?_eq_some_iff.1 hl).1
      have hy := run_yield (P := P) (args := args) hl (by rw [hrec]; exact hps i x args W (henc W (Fr.refl _ _)))
      rw [hrec] at hy
      refine ⟨fn, _, assign, body, hy, roundIn_of_wpIn hfn (hround _ i x args U W _ hx henc hi (by omega) (fun k hk => ⟨hu k hk, (hU k hk).2⟩) ?_)⟩
      clear hy
      intro a' Wa hfa hb
      have hla := (hfa.block _ hlt id).trans hl
      have hka := (hfa.block _ (by omega) id).trans hk
      have hlta : w.heap.size + 1 < Wa.heap.size := Nat.lt_of_lt_of_le hlt hfa.size
      refine ⟨_, run_beginRound hla (by rw [hrec]), ?_⟩
      have hl2 : (Wa.putObj (w.heap.size + 1) (.loop { rec .ready none with state := .busy })).heap[w.heap.size + 1]? = some (.loop { rec .ready none with state := .busy }) := World.putObj_heap_same hlta
      have hk2 : (Wa.putObj (w.heap.size + 1) (.loop { rec .ready none with state := .busy })).heap[w.heap.size]? = some (.deferred (some [])) := (World.putObj_heap_other (by omega)).trans hka
      have hb2 := hb (Wa.putObj (w.heap.size + 1) (.loop { rec .ready none with state := .busy })) (Fr.putObj (S := fun k => k = w.heap.size + 1) _ rfl _)
      refine wpIn_mono hb2 ?_
      rintro e a3 W3 hp
      cases e with
      | normal =>
        obtain ⟨U', i3, hg, hU3, f3⟩ := hp
        have hno : ∀ k, k ≤ w.heap.size + 1 → w.heap.size ≤ k → ¬ (T k ∨ U k ∨ W.heap.size ≤ k) := fun k h1 h2 h => by
          rcases h with h | h | h
          · have := (hT k h).1; omega
          · have := hu k h; omega
          · omega
        have hl3 := (f3.block _ (Array.getElem?_eq_some_iff.1 hl2).1 (hno _ (by omega) (by omega))).trans hl2
        have hk3 := (f3.block _ (Array.getElem?_eq_some_iff.1 hk2).1 (hno _ (by omega) (by omega))).trans hk2
        have hr := run_endRound (P := P) none hl3
        rw [hrec] at hr
        have hu3 : ∀ k, U' k → w.heap.size + 2 ≤ k := fun k hk => by rcases hg k hk with h | h; exact hu k h; omega
        have q1 : Fr (fun k => (T k ∨ k = w.heap.size + 1) ∨ U k) W Wa := hfa.mono fun _ h => h.elim
        have q2 : Fr (fun k => (T k ∨ k = w.heap.size + 1) ∨ U k) W (Wa.putObj (w.heap.size + 1) (.loop { rec .ready none with state := .busy })) := q1.trans (Fr.putObj (S := fun k => k = w.heap.size + 1) Wa rfl _) fun k h => .inl (.inl (.inr h))
        have q3 : Fr (fun k => (T k ∨ k = w.heap.size + 1) ∨ U k) W W3 := q2.trans f3 fun k h => by
          rcases h with h | h | h
          · exact .inl (.inl (.inl h))
          · exact .inl (.inr h)
          · exact .inr h
        refine ⟨_, _, hr, rfl, U', ⟨?_, ?_, ?_, hu3⟩, hg, ?_, ?_⟩
        · exact hIl _ _ _ _ hu3 i3 (Fr.putObj (S := fun k => k = w.heap.size + 1) _ rfl _)
        · rw [hrec]; exact World.putObj_heap_same (Array.getElem?_eq_some_iff.1 hl3).1
        · exact (World.putObj_heap_other (by omega)).trans hk3
        · intro k hk
          have := hU3 k hk
          simpa using this
        · exact q3.trans (Fr.putObj (S := fun k => k = w.heap.size + 1) W3 rfl _) fun k h => .inl (.inl (.inr h))
      | ret => exact hp.elim
      | exit id => exact hp.elim
      | goto t => exact hp.elim
      | panic ch => exact hp.elim
      | outgrown => exact hp.elim
    · rintro e W2 ⟨⟨v, rfl⟩, ⟨U, hi, hl, hk, hu⟩, hz⟩
      exact ⟨none, _, by have := run_endLoop (P := P) hl (by rw [hrec]; simp); rw [hrec] at this; exact this, hdone _ U _ (Nat.le_refl _) (hIl _ _ _ _ hu hi (Fr.putObj (S := fun k => k = w.heap.size + 1) _ rfl _)) (hZ _ _ hz (Fr.putObj (S := fun k => w.heap.size ≤ k) _ (by show w.heap.size ≤ w.heap.size + 1; omega) _)) ((World.putObj_heap_other (by omega)).trans hk)⟩
end Go.Proofs.Ytefalfalapnllaa
