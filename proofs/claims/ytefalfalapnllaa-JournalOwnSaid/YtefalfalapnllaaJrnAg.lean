/- A slab, a journal over it, and the boxed sum of the last record. -/
import Derived.Test.YtefalfalapnllaaJrnBound
namespace Go.Proofs.Ytefalfalapnllaa
open Go.RowKit Go.Shelf
set_option linter.unusedVariables false
theorem jheld_want {ops : Array Oper} {fin : Act} {o : Oper} {p E : Prop} (hw : Region.wanted o (yielded ops fin.tmps) = true) (h : p) : if Region.wanted o (yielded ops fin.tmps) = true then p else E := by
  rw [if_pos hw]
  exact h
theorem jheld_not {ops : Array Oper} {fin : Act} {o : Oper} {p E : Prop} (hw : Region.wanted o (yielded ops fin.tmps) = false) (h : E) : if Region.wanted o (yielded ops fin.tmps) = true then p else E := by
  rw [if_neg (by rw [hw]; exact Bool.false_ne_true)]
  exact h
/-- the journal, and the box T with the sum a -/
def Agn (w0 : World) (T : Nat) (a : List UInt8) (p q : Nat) (j : JS) (W : World) : Prop :=
  ∃ H, JB W H p q j ∧ ¬ H T ∧ (∀ k, H k → w0.heap.size ≤ k) ∧ Blk W T 60 (ida a) ∧ w0.heap.size ≤ T ∧ New w0 W
/-- the slab alone, and the box -/
def AgS (w0 : World) (T : Nat) (a : List UInt8) (p : Nat) (s : SlabS) (W : World) : Prop :=
  ∃ F, SlabAt W F p s ∧ ¬ F T ∧ (∀ k, F k → w0.heap.size ≤ k) ∧ Blk W T 60 (ida a) ∧ w0.heap.size ≤ T ∧ New w0 W
section
variable {w0 w w' : World} {T p q : Nat} {a : List UInt8} {j : JS} {s : SlabS}
theorem Agn.frm (h : Agn w0 T a p q j w) : New w0 w := by obtain ⟨H, h1, h2, h3, h4, h5, h6⟩ := h; exact h6
theorem Agn.blk (h : Agn w0 T a p q j w) : Blk w T 60 (ida a) := by obtain ⟨H, h1, h2, h3, h4, h5, h6⟩ := h; exact h4
theorem AgS.blk (h : AgS w0 T a p s w) : Blk w T 60 (ida a) := by obtain ⟨H, h1, h2, h3, h4, h5, h6⟩ := h; exact h4
theorem AgS.frm (h : AgS w0 T a p s w) : New w0 w := by obtain ⟨H, h1, h2, h3, h4, h5, h6⟩ := h; exact h6
theorem Agn.new (h : Agn w0 T a p q j w) (f : New w w') : Agn w0 T a p q j w' := by
  obtain ⟨H, h1, h2, h3, h4, h5, h6⟩ := h
  exact ⟨H, h1.new f, h2, h3, h4.fr f id, h5, h6.trans f (fun _ h => h.elim)⟩
theorem AgS.new (h : AgS w0 T a p s w) (f : New w w') : AgS w0 T a p s w' := by
  obtain ⟨H, h1, h2, h3, h4, h5, h6⟩ := h
  exact ⟨H, h1.fr f (fun _ _ => id), h2, h3, h4.fr f id, h5, h6.trans f (fun _ h => h.elim)⟩
theorem Agn.lift {f : FuncId} {args : Array Value} {R : Ending → World → Prop} {j' : JS} (h : Agn w0 T a p q j w)
    (hc : ∀ H, JB w H p q j → (∀ k, H k → w0.heap.size ≤ k) → Calls Try.prog f args w fun e w' => R e w' ∧ JStep w H p q j' w') :
    Calls Try.prog f args w fun e w' => R e w' ∧ Agn w0 T a p q j' w' := by
  obtain ⟨H, h1, h2, h3, h4, h5, h6⟩ := h
  refine (hc H h1 h3).mono ?_
  rintro e w' ⟨hR, H', a1, a2, a3⟩
  refine ⟨hR, H', a1, ?_, ?_, h4.fr a3 h2, h5, h6.trans a3 (fun k hk => .inr (h3 k hk))⟩
  · intro hT
    rcases a2 T hT with h | h
    · exact h2 h
    · have := h4.lt
      omega
  · intro k hk
    rcases a2 k hk with h | h
    · exact h3 k h
    · exact Nat.le_trans h6.size h
theorem Agn.Len (h : Agn w0 T a p q j w) :
    Calls Try.prog 35 #[.pointer (some ⟨q, 0, none⟩)] w fun e w' => e = .returned (.int .i64 (j.rs.length : Int)) ∧ Agn w0 T a p q j w' :=
  h.lift (R := fun e _ => e = _) fun H hB hH => jb_Len hB
theorem Agn.Last (h : Agn w0 T a p q j w) :
    Calls Try.prog 39 #[.pointer (some ⟨q, 0, none⟩)] w fun e w' => e = .returned (.agg (ida j.last)) ∧ Agn w0 T a p q j w' :=
  h.lift (R := fun e _ => e = _) fun H hB hH => jb_Last hB
theorem Agn.Write (h : Agn w0 T a p q j w) (A0 : Option Addr) (c0 : Nat) (d : List UInt8) (hd : Rd w A0 (d.map bv)) (hdH : 0 < d.length → ∀ k, ab A0 = some k → k < w0.heap.size) (hdl : d.length ≤ 100000000) (hrl : j.rs.length < 1000000) :
    Calls Try.prog 34 #[.pointer (some ⟨q, 0, none⟩), .slice A0 d.length c0] w fun e w' => e = .returned (.int .i64 (j.write d).2) ∧ Agn w0 T a p q (j.write d).1 w' :=
  h.lift (R := fun e _ => e = _) fun H hB hH => jb_Write hB A0 c0 d hd (fun h0 k hk hk2 => by have := hdH h0 k hk; have := hH k hk2; omega) hdl hrl
theorem Agn.store (h : Agn w0 T a p q j w) (b : List UInt8) : Agn w0 T b p q j (w.setRow T (ida b)) := by
  obtain ⟨H, h1, h2, h3, h4, h5, h6⟩ := h
  exact ⟨H, h1.fr ((Fr.refl (fun k => k = T) w).setRow (g := T) rfl _) (fun k hk e => h2 (e ▸ hk)), h2, h3, h4.setRow _, h5, h6.trans ((Fr.refl (fun k => k = T) w).setRow (g := T) rfl _) (fun k hk => .inr (by omega))⟩
theorem Agn.slab (h : Agn w0 T a p q j w) : AgS w0 T a p j.s w := by
  obtain ⟨H, h1, h2, h3, h4, h5, h6⟩ := h
  obtain ⟨F, g1, g2⟩ := h1.slabAt
  exact ⟨F, g1, fun hF => h2 (g2 _ hF), fun k hk => h3 k (g2 k hk), h4, h5, h6⟩
theorem AgS.Open {e0 : Int} (h : AgS w0 T a p s w) (ho : openOf s = (some j, e0)) :
    Calls Try.prog 32 #[.pointer (some ⟨p, 0, none⟩)] w fun e w' => ∃ q, e = .returned (.tuple #[.pointer (some ⟨q, 0, none⟩), .int .i64 0]) ∧ Agn w0 T a p q j w' := by
  obtain ⟨F, h1, h2, h3, h4, h5, h6⟩ := h
  refine (jb_Open h1 ho).mono ?_
  rintro e w' ⟨q, H, he, hB, hH, hf⟩
  refine ⟨q, he, H, hB, ?_, ?_, h4.fr hf h2, h5, h6.trans hf (fun k hk => .inr (h3 k hk))⟩
  · intro hT
    rcases hH T hT with h | h
    · exact h2 h
    · have := h4.lt
      omega
  · intro k hk
    rcases hH k hk with h | h
    · exact h3 k h
    · exact Nat.le_trans h6.size h
/-- another slab with the same bytes -/
theorem AgS.copy (h : AgS w0 T a p s w) {p2 : Nat} {room : Int} (hS : SlabAt w (fun k => k = p2) p2 ⟨room, [], 0, -1⟩) (hp2 : w0.heap.size ≤ p2) (hpT : p2 ≠ T) (hr : (s.bs.length : Int) ≤ room) {A2 : Option Addr} {c2 : Nat} (hR : Rd w A2 (s.bs.map bv)) (hA : ∀ k, ab A2 = some k → p2 < k) :
    Calls Try.prog 17 #[.pointer (some ⟨p2, 0, none⟩), .slice A2 s.bs.length c2] w fun e w' => e = .returned (.int .i64 0) ∧ AgS w0 T a p2 ⟨room, s.bs, 0, -1⟩ w' := by
  obtain ⟨F, h1, h2, h3, h4, h5, h6⟩ := h
  refine (slab_Append_yes hS A2 c2 s.bs (by simpa using hr) (by simp) hR (fun _ k hk e => by have := hA k hk; omega)).mono ?_
  rintro e w' ⟨he, ⟨F', g1, g2⟩, g3⟩
  refine ⟨he, F', g1, ?_, ?_, h4.fr g3 (fun e => hpT e.symm), h5, h6.trans g3 (fun k hk => .inr (by omega))⟩
  · intro hT
    rcases g2 T hT with h | h
    · exact hpT h.symm
    · have := h4.lt
      omega
  · intro k hk
    rcases g2 k hk with h | h
    · omega
    · exact Nat.le_trans h6.size h
end
end Go.Proofs.Ytefalfalapnllaa
