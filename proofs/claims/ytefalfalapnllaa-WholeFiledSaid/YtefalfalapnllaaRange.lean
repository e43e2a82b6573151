/- A range over an iterator that keeps cells of its own, by a body that never leaves: the caller's word J abides whatever turns at or beyond the heap's end where the iterator begins; a round turns T alone. -/
import Derived.Test.YtefalfalapnllaaBase
import Derived.Test.YtefalfalapnllaaAgg
import Derived.Shelf.Abstract
import Derived.Shelf.RegionOpen
namespace Go.Proofs.Ytefalfalapnllaa
open Go.RowKit
set_option linter.unusedVariables false

/-- J abides whatever turns at or beyond B -/
def AbidesAll (B : Nat) (J : Nat → World → Prop) : Prop := ∀ i X Y, J i X → Fr (fun k => B ≤ k) X Y → J i Y

/-- the iterator's contract: it hands out xs, one after the other; Pz: what it reads, which stays where T alone turns -/
def SeqAny {α : Type} (F : Fence) (n : Nat) (P : Program) (g : Nat) (lb : Array Value) (encs : α → Array Value) (xs : List α) (Pz : (Nat → Prop) → World → Prop) : Prop :=
  ∀ (l : Nat) (T : Nat → Prop) (J : Nat → World → Prop) (W : World), Pz T W → (∀ k, T k → k < W.heap.size) → AbidesAll W.heap.size J →
    (∀ i x W1, xs[i]? = some x → J i W1 → W.heap.size ≤ W1.heap.size → YieldAt F (n - 1) P l (encs x) W1 fun e W' => e = .returned (.bool true) ∧ J (i + 1) W' ∧ Fr T W1 W') →
    J 0 W →
    CallsIn F n P g (#[.func (.yield l) #[] #[]] ++ lb) W fun e W' => (∃ v, e = .returned v) ∧ J xs.length W'

variable {F : Fence} {n : Nat} {P : Program} {w : World}

theorem Fr.putObj {S : Nat → Prop} (W : World) {l : Nat} (h : S l) (o : Obj) : Fr S W (W.putObj l o) :=
  ⟨rfl, rfl, rfl, by simp, fun k _ hs => World.putObj_heap_other (fun e => hs (e ▸ h))⟩

/-- what a round leaves behind -/
def roundAny (T : Nat → Prop) (I : World → Prop) (W : World) : Exit → Act → World → Prop
  | .normal, _, W' => Fr T W W' ∧ I W'
  | _, _, _ => False

theorem wpIn_rangeFunc_any {α : Type} {g : Operand} {ps : Array Tmp} {assign body : Code} {Q : Exit → Act → World → Prop} {a : Act}
    (hro : F.round = none) (h1 : 1 ≤ n) {gf : Nat} {lb : Array Value} (hg : a.eval g = .func (.func gf) #[] lb) (hFg : F.fn gf) (eg : ∀ args w, (callFunc gf args).run P w = .ok (.enter gf args) w)
    {encs : α → Array Value} {xs : List α} {Pz : (Nat → Prop) → World → Prop} (hseq : SeqAny F (n - 1) P gf lb encs xs Pz)
    (T : Nat → Prop) (hT : ∀ k, T k → k < w.heap.size) (hPz : ∀ W, New w W → Pz (fun k => T k ∨ k = w.heap.size + 1) W) (hps : ∀ x, (encs x).size = ps.size)
    (I : Nat → World → Prop) (hI : AbidesAll w.heap.size I) (h0 : I 0 w)
    (hround : ∀ (l i : Nat) (x : α) (W : World) (K : Act → World → Prop), xs[i]? = some x → I i W → w.heap.size ≤ W.heap.size →
      (∀ a' W', Fr (fun _ => False) W W' → (∀ W2, Fr (fun k => w.heap.size ≤ k ∧ k < W.heap.size) W' W2 → body.wpIn (F.inRound l) (n - 1 - 1) P (roundAny T (I (i + 1)) W2) a' W2) → K a' W') →
      assign.wpIn (F.inRound l) (n - 1 - 1) P (Exit.then K (fun _ _ _ => False)) { tmps := (ps.zip (encs x)).foldl (fun t (p, v) => t.setIfInBounds p v) a.tmps, defers := [] } W)
    (hdone : ∀ (D : Nat) (W : World), w.heap.size ≤ D → I xs.length W → W.heap[D]? = some (.deferred (some [])) → Q .normal { a with defers := { target := .collected D, args := #[] } :: a.defers } W) :
    (Code.rangeFunc g ps assign body).wpIn F n P Q a w := by
  refine wpIn_rangeFunc ?_
  intro fn hfn
  rw [hro]
  obtain ⟨rec, hrec⟩ : ∃ rec : LoopState → Option Code → Loop, rec = fun st pe => { state := st, pending := pe, fn, tmps := a.tmps, params := ps, assign, body, defers := w.heap.size } := ⟨_, rfl⟩
  obtain ⟨W1, hW1⟩ : ∃ W1, (w.alloc (.deferred (some []))).alloc (.loop (rec .ready none)) = W1 := ⟨_, rfl⟩
  have hN1 : New w W1 := by rw [← hW1]; exact ((Fr.refl _ w).then_alloc _).then_alloc _
  have hS1 : W1.heap.size = w.heap.size + 2 := by rw [← hW1]; simp
  have hL1 : W1.heap[w.heap.size + 1]? = some (.loop (rec .ready none)) := by
    rw [← hW1]; have := World.alloc_heap_new (w.alloc (.deferred (some []))) (.loop (rec .ready none)); rwa [World.size_alloc] at this
  have hK1 : W1.heap[w.heap.size]? = some (.deferred (some [])) := by
    rw [← hW1]; exact (Below.heap_alloc _ _ _ (by simp)).trans (World.alloc_heap_new w _)
  refine ⟨w.heap.size + 1, [{ target := .collected w.heap.size, args := #[] }], W1, { target := .fn (.func gf) lb, args := #[.func (.yield (w.heap.size + 1)) #[] #[]] }, W1, gf,
    #[.func (.yield (w.heap.size + 1)) #[] #[]] ++ lb, W1, ?_, ?_, ?_, ?_, fun _ => h1, ?_⟩
  · rw [← hW1, hrec]; exact run_enterLoop_outer _ _ _ _ _
  · simp only [resolve, hg]
    simp [go_sem]
  · intro f' hf'; simp [Target.leads] at hf'; subst hf'; exact hFg
  · simp [invoke, go_sem, eg]
  · refine (hseq (w.heap.size + 1) (fun k => T k ∨ k = w.heap.size + 1)
      (fun i W => I i W ∧ W.heap[w.heap.size + 1]? = some (.loop (rec .ready none)) ∧ W.heap[w.heap.size]? = some (.deferred (some [])))
      W1 (hPz W1 hN1) (fun k hk => by
        rcases hk with h | h
        · have := hT k h
          omega
        · omega) ?_ ?_ ⟨hI 0 w W1 h0 (hN1.mono fun _ h => h.elim), hL1, hK1⟩).mono ?_
    · rintro i X Y ⟨hi, hl, hk⟩ hf
      refine ⟨hI i X Y hi (hf.mono fun k h => .inl (by omega)), (hf.block _ (Array.getElem?_eq_some_iff.1 hl).1 (by omega)).trans hl, (hf.block _ (Array.getElem?_eq_some_iff.1 hk).1 (by omega)).trans hk⟩
    · rintro i x W hx ⟨hi, hl, hk⟩ hsz
      have hlt : w.heap.size + 1 < W.heap.size := (Array.getElem?_eq_some_iff.1 hl).1
      have hy := run_yield (P := P) (args := encs x) hl (by rw [hrec]; exact hps x)
      rw [hrec] at hy
      refine ⟨fn, _, assign, body, hy, roundIn_of_wpIn hfn (hround _ i x W _ hx hi (by omega) ?_)⟩
      clear hy
      intro a' Wa hfa hb
      have hla := (hfa.block _ hlt id).trans hl
      have hka := (hfa.block _ (by omega) id).trans hk
      have hlta : w.heap.size + 1 < Wa.heap.size := Nat.lt_of_lt_of_le hlt hfa.size
      refine ⟨_, run_beginRound hla (by rw [hrec]), ?_⟩
      have hl2 : (Wa.putObj (w.heap.size + 1) (.loop { rec .ready none with state := .busy })).heap[w.heap.size + 1]? = some (.loop { rec .ready none with state := .busy }) := World.putObj_heap_same hlta
      have hk2 : (Wa.putObj (w.heap.size + 1) (.loop { rec .ready none with state := .busy })).heap[w.heap.size]? = some (.deferred (some [])) := (World.putObj_heap_other (by omega)).trans hka
      have hb2 := hb (Wa.putObj (w.heap.size + 1) (.loop { rec .ready none with state := .busy })) (Fr.putObj _ ⟨by omega, hlt⟩ _)
      refine wpIn_mono hb2 ?_
      rintro e a3 W3 hp
      cases e with
      | normal =>
        obtain ⟨f3, i3⟩ := hp
        have hl3 := (f3.block _ (Array.getElem?_eq_some_iff.1 hl2).1 (fun ht => by have := hT _ ht; omega)).trans hl2
        have hk3 := (f3.block _ (Array.getElem?_eq_some_iff.1 hk2).1 (fun ht => by have := hT _ ht; omega)).trans hk2
        have hr := run_endRound (P := P) none hl3
        rw [hrec] at hr
        refine ⟨_, _, hr, rfl, ⟨?_, ?_, ?_⟩, ?_⟩
        · exact hI _ _ _ i3 (Fr.putObj _ (by omega) _)
        · rw [hrec]; exact World.putObj_heap_same (Array.getElem?_eq_some_iff.1 hl3).1
        · exact (World.putObj_heap_other (by omega)).trans hk3
        · have q1 : Fr (fun k => T k ∨ k = w.heap.size + 1) W Wa := hfa.mono fun _ h => h.elim
          refine ((q1.trans (Fr.putObj (S := fun k => T k ∨ k = w.heap.size + 1) Wa (.inr rfl) _) fun _ h => .inl h).trans (f3.mono (T := fun k => T k ∨ k = w.heap.size + 1) fun _ h => .inl (.inl h)) fun _ h => .inl h).trans (Fr.putObj (S := fun k => T k ∨ k = w.heap.size + 1) W3 (.inr rfl) _) fun _ h => .inl h
      | ret => exact hp.elim
      | exit id => exact hp.elim
      | goto t => exact hp.elim
      | panic ch => exact hp.elim
      | outgrown => exact hp.elim
    · rintro e W2 ⟨⟨v, rfl⟩, hi, hl, hk⟩
      exact ⟨none, _, by have := run_endLoop (P := P) hl (by rw [hrec]; simp); rw [hrec] at this; exact this, hdone _ _ (Nat.le_refl _) (hI _ _ _ hi (Fr.putObj _ (by omega) _)) ((World.putObj_heap_other (by omega)).trans hk)⟩
end Go.Proofs.Ytefalfalapnllaa
