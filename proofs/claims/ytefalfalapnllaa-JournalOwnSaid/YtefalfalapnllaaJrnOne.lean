/- A slab and its journal, all made since w0; a slab alone; an older journal beside a newer one over the same slab. -/
import Derived.Test.YtefalfalapnllaaJrnAg
namespace Go.Proofs.Ytefalfalapnllaa
open Go.RowKit Go.Shelf
set_option linter.unusedVariables false
def One (w0 : World) (p q : Nat) (j : JS) (W : World) : Prop := ∃ H, JB W H p q j ∧ (∀ k, H k → w0.heap.size ≤ k) ∧ New w0 W
def Sl (w0 : World) (p : Nat) (s : SlabS) (W : World) : Prop := ∃ F, SlabAt W F p s ∧ (∀ k, F k → w0.heap.size ≤ k) ∧ New w0 W
/-- the journal q over the slab p, and an older one q' -/
def Old (w0 : World) (p q q' : Nat) (j j' : JS) (W : World) : Prop :=
  ∃ (H G : Nat → Prop) (A : Option Addr) (c : Nat) (ps : List Part), JB W H p q j ∧ JAt W G q' p j'.rs j'.last j'.down A c ps ∧ (∀ k, G k → ¬ H k) ∧ (∀ k, G k → k < W.heap.size) ∧ (∀ k, H k → w0.heap.size ≤ k) ∧ New w0 W
section
variable {w0 w w' : World} {p q q' : Nat} {j j' : JS} {s : SlabS}
theorem One.frm (h : One w0 p q j w) : New w0 w := by obtain ⟨H, h1, h2, h3⟩ := h; exact h3
theorem Sl.frm (h : Sl w0 p s w) : New w0 w := by obtain ⟨H, h1, h2, h3⟩ := h; exact h3
theorem Old.frm (h : Old w0 p q q' j j' w) : New w0 w := by obtain ⟨_, _, _, _, _, _, _, _, _, _, h⟩ := h; exact h
theorem One.new (h : One w0 p q j w) (f : New w w') : One w0 p q j w' := by
  obtain ⟨H, h1, h2, h3⟩ := h
  exact ⟨H, h1.new f, h2, h3.trans f (fun _ h => h.elim)⟩
theorem Sl.new (h : Sl w0 p s w) (f : New w w') : Sl w0 p s w' := by
  obtain ⟨H, h1, h2, h3⟩ := h
  exact ⟨H, h1.fr f (fun _ _ => id), h2, h3.trans f (fun _ h => h.elim)⟩
theorem Old.new (h : Old w0 p q q' j j' w) (f : New w w') : Old w0 p q q' j j' w' := by
  obtain ⟨H, G, A, c, ps, h1, h2, h3, h4, h5, h6⟩ := h
  exact ⟨H, G, A, c, ps, h1.new f, h2.new f, h3, fun k hk => Nat.lt_of_lt_of_le (h4 k hk) f.size, h5, h6.trans f (fun _ h => h.elim)⟩
theorem One.lift {f : FuncId} {args : Array Value} {R : Ending → World → Prop} (h : One w0 p q j w)
    (hc : ∀ H, JB w H p q j → (∀ k, H k → w0.heap.size ≤ k) → Calls Try.prog f args w fun e w' => R e w' ∧ JStep w H p q j' w') :
    Calls Try.prog f args w fun e w' => R e w' ∧ One w0 p q j' w' := by
  obtain ⟨H, h1, h2, h3⟩ := h
  refine (hc H h1 h2).mono ?_
  rintro e w' ⟨hR, H', a1, a2, a3⟩
  refine ⟨hR, H', a1, ?_, h3.trans a3 (fun k hk => .inr (h2 k hk))⟩
  intro k hk
  rcases a2 k hk with h | h
  · exact h2 k h
  · exact Nat.le_trans h3.size h
theorem Old.lift {f : FuncId} {args : Array Value} {R : Ending → World → Prop} {j2 : JS} (h : Old w0 p q q' j j' w)
    (hc : ∀ H, JB w H p q j → (∀ k, H k → k < w.heap.size) → (∀ k, H k → w0.heap.size ≤ k) → Calls Try.prog f args w fun e w' => R e w' ∧ JStep w H p q j2 w') :
    Calls Try.prog f args w fun e w' => R e w' ∧ Old w0 p q q' j2 j' w' := by
  obtain ⟨H, G, A, c, ps, h1, h2, h3, h4, h5, h6⟩ := h
  refine (hc H h1 h1.lt h5).mono ?_
  rintro e w' ⟨hR, H', a1, a2, a3⟩
  refine ⟨hR, H', G, A, c, ps, a1, h2.fr a3 h3, ?_, fun k hk => Nat.lt_of_lt_of_le (h4 k hk) a3.size, ?_, h6.trans a3 (fun k hk => .inr (h5 k hk))⟩
  · intro k hk hH
    rcases a2 k hH with h | h
    · exact h3 k hk h
    · have := h4 k hk
      omega
  · intro k hk
    rcases a2 k hk with h | h
    · exact h5 k h
    · exact Nat.le_trans h6.size h
theorem One.Len (h : One w0 p q j w) :
    Calls Try.prog 35 #[.pointer (some ⟨q, 0, none⟩)] w fun e w' => e = .returned (.int .i64 (j.rs.length : Int)) ∧ w = w' := by
  obtain ⟨H, ⟨F, G, A, c, ps, h1, hJ, hFG, hH⟩, _⟩ := h
  exact j_Len hJ
theorem One.Last (h : One w0 p q j w) :
    Calls Try.prog 39 #[.pointer (some ⟨q, 0, none⟩)] w fun e w' => e = .returned (.agg (ida j.last)) ∧ One w0 p q j w' :=
  h.lift (R := fun e _ => e = _) fun H hB hH => jb_Last hB
theorem One.At (h : One w0 p q j w) (i : Nat) (d : List UInt8) (hi : j.rs[i]? = some d) (hdl : d.length ≤ 140737488355328) (hrl : j.rs.length < 1000000000000) :
    Calls Try.prog 36 #[.pointer (some ⟨q, 0, none⟩), .int .i64 i] w fun e w' => ∃ A2 c2, e = .returned (.tuple #[.slice A2 d.length c2, .int .i64 0]) ∧ RowN w w' A2 c2 d ∧ One w0 p q j w' := by
  have h0 := h
  obtain ⟨H, hB, _⟩ := h
  exact (jb_At_ok hB i d hi hdl hrl).mono fun _ _ ⟨A2, c2, he, hR, _⟩ => ⟨A2, c2, he, hR, h0.new hR.fr⟩
theorem One.Write (h : One w0 p q j w) (A0 : Option Addr) (c0 : Nat) (d : List UInt8) (hd : Rd w A0 (d.map bv)) (hdH : 0 < d.length → ∀ k, ab A0 = some k → k < w0.heap.size) (hdl : d.length ≤ 100000000) (hrl : j.rs.length < 1000000) :
    Calls Try.prog 34 #[.pointer (some ⟨q, 0, none⟩), .slice A0 d.length c0] w fun e w' => e = .returned (.int .i64 (j.write d).2) ∧ One w0 p q (j.write d).1 w' :=
  h.lift (R := fun e _ => e = _) fun H hB hH => jb_Write hB A0 c0 d hd (fun h0 k hk hk2 => by have := hdH h0 k hk; have := hH k hk2; omega) hdl hrl
theorem One.Break (h : One w0 p q j w) (n : Int) (hn : n ≤ 9223372036854775807) :
    Calls Try.prog 21 #[.pointer (some ⟨p, 0, none⟩), .int .i64 n] w fun e w' => e = .returned (.tuple #[]) ∧ One w0 p q { j with s := { j.s with steps := max n (-1) } } w' :=
  h.lift (R := fun e _ => e = _) fun H hB hH => jb_Break hB n hn
theorem One.Crash (h : One w0 p q j w) (n : Int) :
    Calls Try.prog 19 #[.pointer (some ⟨p, 0, none⟩), .int .i64 n] w fun e w' => e = .returned (.tuple #[]) ∧ One w0 p q { j with s := j.s.crash n } w' :=
  h.lift (R := fun e _ => e = _) fun H hB hH => jb_Crash hB n
theorem One.slab (h : One w0 p q j w) : Sl w0 p j.s w := by
  obtain ⟨H, h1, h2, h3⟩ := h
  obtain ⟨F, g1, g2⟩ := h1.slabAt
  exact ⟨F, g1, fun k hk => h2 k (g2 k hk), h3⟩
theorem Sl.Open {e0 : Int} (h : Sl w0 p s w) (ho : openOf s = (some j, e0)) :
    Calls Try.prog 32 #[.pointer (some ⟨p, 0, none⟩)] w fun e w' => ∃ q, e = .returned (.tuple #[.pointer (some ⟨q, 0, none⟩), .int .i64 0]) ∧ One w0 p q j w' := by
  obtain ⟨F, h1, h3, h6⟩ := h
  refine (jb_Open h1 ho).mono ?_
  rintro e w' ⟨q, H, he, hB, hH, hf⟩
  refine ⟨q, he, H, hB, ?_, h6.trans hf (fun k hk => .inr (h3 k hk))⟩
  intro k hk
  rcases hH k hk with h | h
  · exact h3 k h
  · exact Nat.le_trans h6.size h
theorem Sl.OpenNo {e0 : Int} (h : Sl w0 p s w) (ho : openOf s = (none, e0)) :
    Calls Try.prog 32 #[.pointer (some ⟨p, 0, none⟩)] w fun e w' => e = .returned (.tuple #[.pointer none, .int .i64 e0]) ∧ Sl w0 p s w' := by
  obtain ⟨F, h1, h3, h6⟩ := h
  exact (j_Open_no h1 ho).mono fun _ _ ⟨he, hS, hN⟩ => ⟨he, F, hS, h3, h6.trans hN (fun _ h => h.elim)⟩
/-- opened once more, the older journal stays -/
theorem One.again {e0 : Int} {j2 : JS} (h : One w0 p q' j' w) (ho : openOf j'.s = (some j2, e0)) :
    Calls Try.prog 32 #[.pointer (some ⟨p, 0, none⟩)] w fun e w' => ∃ q, e = .returned (.tuple #[.pointer (some ⟨q, 0, none⟩), .int .i64 0]) ∧ Old w0 p q q' j2 j' w' := by
  obtain ⟨H0, hB0, h3, h6⟩ := h
  have hlt0 := hB0.lt
  obtain ⟨F, G, A, c, ps, h1, hJ, hFG, hH0⟩ := hB0
  refine (jb_Open h1 ho).mono ?_
  rintro e w' ⟨q, H, he, hB, hH, hf⟩
  refine ⟨q, he, H, G, A, c, ps, hB, hJ.fr hf (fun k hk hF => hFG k hF hk), ?_, fun k hk => Nat.lt_of_lt_of_le (hlt0 k ((hH0 k).2 (.inr hk))) hf.size, ?_, h6.trans hf (fun k hk => .inr (h3 k ((hH0 k).2 (.inl hk))))⟩
  · intro k hk hHk
    rcases hH k hHk with h | h
    · exact hFG k h hk
    · have := hlt0 k ((hH0 k).2 (.inr hk))
      omega
  · intro k hk
    rcases hH k hk with h | h
    · exact h3 k ((hH0 k).2 (.inl h))
    · exact Nat.le_trans h6.size h
theorem Old.LenOld (h : Old w0 p q q' j j' w) :
    Calls Try.prog 35 #[.pointer (some ⟨q', 0, none⟩)] w fun e w' => e = .returned (.int .i64 (j'.rs.length : Int)) ∧ w = w' := by
  obtain ⟨H, G, A, c, ps, h1, h2, _⟩ := h
  exact j_Len h2
theorem Old.one (h : Old w0 p q q' j j' w) : One w0 p q j w := by
  obtain ⟨H, G, A, c, ps, h1, h2, h3, h4, h5, h6⟩ := h
  exact ⟨H, h1, h5, h6⟩
theorem Old.Write_new (h : Old w0 p q q' j j' w) (o : Obj) (c0 : Nat) (d : List UInt8) (hd : Rd (w.alloc o) (some ⟨w.heap.size, 0, none⟩) (d.map bv)) (hdl : d.length ≤ 100000000) (hrl : j.rs.length < 1000000) :
    Calls Try.prog 34 #[.pointer (some ⟨q, 0, none⟩), .slice (some ⟨w.heap.size, 0, none⟩) d.length c0] (w.alloc o) fun e w' => e = .returned (.int .i64 (j.write d).2) ∧ Old w0 p q q' (j.write d).1 j' w' := by
  obtain ⟨H, G, A, c, ps, h1, h2, h3, h4, h5, h6⟩ := h
  have hlt := h1.lt
  have f : New w (w.alloc o) := Fr.alloc _ w o
  refine (jb_Write (h1.new f) _ c0 d hd (fun h0 k hk hk2 => by have := hlt k hk2; simp [ab] at hk; omega) hdl hrl).mono ?_
  rintro e w' ⟨he, H', a1, a2, a3⟩
  refine ⟨he, H', G, A, c, ps, a1, (h2.new f).fr a3 h3, ?_, fun k hk => Nat.lt_of_lt_of_le (Nat.lt_of_lt_of_le (h4 k hk) f.size) a3.size, ?_, (h6.trans f (fun _ h => h.elim)).trans a3 (fun k hk => .inr (h5 k hk))⟩
  · intro k hk hH
    rcases a2 k hH with h | h
    · exact h3 k hk h
    · have := h4 k hk
      have := f.size
      omega
  · intro k hk
    rcases a2 k hk with h | h
    · exact h5 k h
    · exact Nat.le_trans (Nat.le_trans h6.size f.size) h
end
end Go.Proofs.Ytefalfalapnllaa
