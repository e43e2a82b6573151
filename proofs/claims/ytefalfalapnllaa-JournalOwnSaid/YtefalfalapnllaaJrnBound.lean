/- JournalBound walked. -/
import Derived.Test.YtefalfalapnllaaJrnV
namespace Go.Proofs.Ytefalfalapnllaa
open Go.RowKit Go.Shelf
set_option linter.unusedVariables false
theorem ListIn.new {w w' : World} {A : Option Addr} {ps : List Part} (h : ListIn w A ps) (f : New w w') : ListIn w' A ps :=
  ⟨h.at_.fr f ⟨fun _ _ _ h => h.elim, fun _ _ _ _ _ h => h.elim⟩, h.len, h.num⟩
theorem ListIn.rd {w : World} {A : Option Addr} {ps : List Part} (h : ListIn w A ps) (i : Nat) (hi : i < ps.length) : Rd w (ps[i]).a ((ps[i]).b.map bv) := h.at_.each _ (List.getElem_mem hi)
theorem ListIn.low {w : World} {A : Option Addr} {ps : List Part} (h : ListIn w A ps) (i : Nat) (hi : i < ps.length) (h0 : 0 < (ps[i]).b.length) : ∀ k, ab (ps[i]).a = some k → k < w.heap.size := (h.rd i hi).lt (by simpa using h0)
theorem Two.make {w0 w w1 w2 : World} {F1 F2 H1 H2 : Nat → Prop} {p1 q1 p2 q2 : Nat} {j1 j2 : JS} {s1 s2 : SlabS} (hN : New w0 w) (hS1 : SlabAt w F1 p1 s1) (hS2 : SlabAt w F2 p2 s2) (hd : ∀ k, F1 k → ¬ F2 k) (h1 : ∀ k, F1 k → w0.heap.size ≤ k) (h2 : ∀ k, F2 k → w0.heap.size ≤ k)
    (hB1 : JB w1 H1 p1 q1 j1) (hH1 : ∀ k, H1 k → F1 k ∨ w.heap.size ≤ k) (hf1 : Fr F1 w w1) (hB2 : JB w2 H2 p2 q2 j2) (hH2 : ∀ k, H2 k → F2 k ∨ w1.heap.size ≤ k) (hf2 : Fr F2 w1 w2) : Two w0 p1 q1 p2 q2 j1 j2 w2 := by
  have hl1 := hB1.lt
  have hlF2 := hS2.lt
  have hd1 : ∀ k, H1 k → ¬ F2 k := fun k hk hF => by
    rcases hH1 k hk with h | h
    · exact hd k h hF
    · have := hlF2 k hF
      omega
  refine ⟨H1, H2, hB1.fr hf2 hd1, hB2, ?_, ?_, ?_, (hN.trans hf1 (fun k hk => .inr (h1 k hk))).trans hf2 (fun k hk => .inr (h2 k hk))⟩
  · intro k hk hk2
    rcases hH2 k hk2 with h | h
    · exact hd1 k hk h
    · have := hl1 k hk
      omega
  · intro k hk
    rcases hH1 k hk with h | h
    · exact h1 k h
    · exact Nat.le_trans hN.size h
  · intro k hk
    rcases hH2 k hk with h | h
    · exact h2 k h
    · exact Nat.le_trans (Nat.le_trans hN.size hf1.size) h
/-- the same, behind a step that made something new -/
theorem Two.first_at {w0 w w1 : World} {p1 q1 p2 q2 : Nat} {j1 j2 j1' : JS} {f : FuncId} {args : Array Value} {R : Ending → World → Prop} (h : Two w0 p1 q1 p2 q2 j1 j2 w) (hf : New w w1)
    (hc : ∀ H, JB w1 H p1 q1 j1 → (∀ k, H k → k < w.heap.size) → Calls Try.prog f args w1 fun e w' => R e w' ∧ JStep w1 H p1 q1 j1' w') :
    Calls Try.prog f args w1 fun e w' => R e w' ∧ Two w0 p1 q1 p2 q2 j1' j2 w' := by
  obtain ⟨H1, H2, h1, h2, h3, h4, h5, h6⟩ := h
  have hlt := h1.lt
  have h2' := h2.new hf
  have hlt2 := h2.lt
  have hsz := hf.size
  refine (hc H1 (h1.new hf) hlt).mono ?_
  rintro e w' ⟨hR, H', a1, a2, a3⟩
  refine ⟨hR, H', H2, a1, h2'.fr a3 (fun k hk hk1 => h3 k hk1 hk), ?_, ?_, h5, (h6.trans hf (fun k hk => hk.elim)).trans a3 (fun k hk => .inr (h4 k hk))⟩
  · intro k hk hk2
    rcases a2 k hk with h | h
    · exact h3 k h hk2
    · have := hlt2 k hk2
      omega
  · intro k hk
    rcases a2 k hk with h | h
    · exact h4 k h
    · exact Nat.le_trans (Nat.le_trans h6.size hsz) h
section
variable {w0 w : World} {p1 q1 p2 q2 : Nat} {j1 j2 : JS}
theorem Two.write2_new (h : Two w0 p1 q1 p2 q2 j1 j2 w) (o : Obj) (c0 : Nat) (d : List UInt8) (hd : Rd (w.alloc o) (some ⟨w.heap.size, 0, none⟩) (d.map bv)) (hdl : d.length ≤ 100000000) (hrl : j2.rs.length < 1000000) :
    Calls Try.prog 34 #[.pointer (some ⟨q2, 0, none⟩), .slice (some ⟨w.heap.size, 0, none⟩) d.length c0] (w.alloc o) fun e w' => e = .returned (.int .i64 (j2.write d).2) ∧ Two w0 p1 q1 p2 q2 j1 (j2.write d).1 w' :=
  (h.swap.first_at (R := fun e _ => e = _) (Fr.alloc _ w o) fun H hB hH => jb_Write hB _ c0 d hd (fun h0 k hk hk2 => by have := hH k hk2; simp [ab] at hk; omega) hdl hrl).mono fun _ _ ⟨he, h⟩ => ⟨he, h.swap⟩
theorem Two.write1 (h : Two w0 p1 q1 p2 q2 j1 j2 w) (A0 : Option Addr) (c0 : Nat) (d : List UInt8) (hd : Rd w A0 (d.map bv)) (hdH : 0 < d.length → ∀ k, ab A0 = some k → k < w0.heap.size) (hdl : d.length ≤ 100000000) (hrl : j1.rs.length < 1000000) :
    Calls Try.prog 34 #[.pointer (some ⟨q1, 0, none⟩), .slice A0 d.length c0] w fun e w' => e = .returned (.int .i64 (j1.write d).2) ∧ Two w0 p1 q1 p2 q2 (j1.write d).1 j2 w' :=
  h.first (R := fun e _ => e = _) fun H hB hH => jb_Write hB A0 c0 d hd (fun h0 k hk hk2 => by have := hdH h0 k hk; have := hH k hk2; omega) hdl hrl
theorem Two.write2 (h : Two w0 p1 q1 p2 q2 j1 j2 w) (A0 : Option Addr) (c0 : Nat) (d : List UInt8) (hd : Rd w A0 (d.map bv)) (hdH : 0 < d.length → ∀ k, ab A0 = some k → k < w0.heap.size) (hdl : d.length ≤ 100000000) (hrl : j2.rs.length < 1000000) :
    Calls Try.prog 34 #[.pointer (some ⟨q2, 0, none⟩), .slice A0 d.length c0] w fun e w' => e = .returned (.int .i64 (j2.write d).2) ∧ Two w0 p1 q1 p2 q2 j1 (j2.write d).1 w' :=
  (h.swap.write1 A0 c0 d hd hdH hdl hrl).mono fun _ _ ⟨he, h⟩ => ⟨he, h.swap⟩
theorem Two.size1 (h : Two w0 p1 q1 p2 q2 j1 j2 w) :
    Calls Try.prog 23 #[.pointer (some ⟨p1, 0, none⟩)] w fun e w' => e = .returned (.tuple #[.int .i64 j1.s.bs.length, .int .i64 j1.s.sure]) ∧ Two w0 p1 q1 p2 q2 j1 j2 w' :=
  h.first (R := fun e _ => e = _) fun H hB hH => jb_Size hB
theorem Two.len1 (h : Two w0 p1 q1 p2 q2 j1 j2 w) :
    Calls Try.prog 35 #[.pointer (some ⟨q1, 0, none⟩)] w fun e w' => e = .returned (.int .i64 (j1.rs.length : Int)) ∧ Two w0 p1 q1 p2 q2 j1 j2 w' :=
  h.first (R := fun e _ => e = _) fun H hB hH => jb_Len hB
theorem Two.len2 (h : Two w0 p1 q1 p2 q2 j1 j2 w) :
    Calls Try.prog 35 #[.pointer (some ⟨q2, 0, none⟩)] w fun e w' => e = .returned (.int .i64 (j2.rs.length : Int)) ∧ Two w0 p1 q1 p2 q2 j1 j2 w' :=
  h.swap.len1.mono fun _ _ ⟨he, h⟩ => ⟨he, h.swap⟩
theorem Two.last1 (h : Two w0 p1 q1 p2 q2 j1 j2 w) :
    Calls Try.prog 39 #[.pointer (some ⟨q1, 0, none⟩)] w fun e w' => e = .returned (.agg (ida j1.last)) ∧ Two w0 p1 q1 p2 q2 j1 j2 w' :=
  h.first (R := fun e _ => e = _) fun H hB hH => jb_Last hB
theorem Two.last2 (h : Two w0 p1 q1 p2 q2 j1 j2 w) :
    Calls Try.prog 39 #[.pointer (some ⟨q2, 0, none⟩)] w fun e w' => e = .returned (.agg (ida j2.last)) ∧ Two w0 p1 q1 p2 q2 j1 j2 w' :=
  h.swap.last1.mono fun _ _ ⟨he, h⟩ => ⟨he, h.swap⟩
end
end Go.Proofs.Ytefalfalapnllaa
