/- Journals that were only written: the state is known by the records; two journals side by side. -/
import Derived.Test.YtefalfalapnllaaJrnX
namespace Go.Proofs.Ytefalfalapnllaa
open Go.RowKit Go.Shelf
set_option linter.unusedVariables false
/-- a journal that holds these records, over a slab with so much room -/
def jof (room : Int) (rs : List (List UInt8)) : JS := ⟨⟨room, Jrn.all Jrn.zero rs, ((Jrn.all Jrn.zero rs).length : Nat), -1⟩, rs, Jrn.lastOf Jrn.zero rs, false⟩
theorem all_snoc (rs : List (List UInt8)) (d : List UInt8) : Jrn.all Jrn.zero (rs ++ [d]) = Jrn.all Jrn.zero rs ++ Jrn.recB (Jrn.lastOf Jrn.zero rs) d := by
  rw [Jrn.all_append]
  simp [Jrn.all]
theorem all_snoc_len (rs : List (List UInt8)) (d : List UInt8) : (Jrn.all Jrn.zero (rs ++ [d])).length = (Jrn.all Jrn.zero rs).length + (35 + d.length) := by
  rw [all_snoc, List.length_append, Jrn.recB_length]
theorem jof_write {room : Int} {rs : List (List UInt8)} {d : List UInt8} (hl : d.length ≤ 262144) (hr : (((Jrn.all Jrn.zero rs).length + 35 + d.length : Nat) : Int) ≤ room) : (jof room rs).write d = (jof room (rs ++ [d]), 0) := by
  rw [JS.write_ok (jof room rs) d rfl hl (by show _ ≤ room - ((Jrn.all Jrn.zero rs).length : Int); omega) rfl]
  unfold jof
  simp only
  rw [all_snoc, Jrn.lastOf_append]
theorem jof_full {room : Int} {rs : List (List UInt8)} {d : List UInt8} (hl : d.length ≤ 262144) (hr : room < (((Jrn.all Jrn.zero rs).length + 35 + d.length : Nat) : Int)) : (jof room rs).write d = (jof room rs, 3) := by
  have ha : (jof room rs).s.append (Jrn.recB (jof room rs).last d) = ((jof room rs).s, 3) := by
    unfold SlabS.append
    rw [if_pos]
    rw [Jrn.recB_length]
    show room - ((Jrn.all Jrn.zero rs).length : Int) < _
    omega
  unfold JS.write
  rw [if_neg (by simp [jof]), if_neg (by omega), ha]
  rfl
theorem jof_long {room : Int} {rs : List (List UInt8)} {d : List UInt8} (hl : 262144 < d.length) : (jof room rs).write d = (jof room rs, 2) := by
  unfold JS.write
  rw [if_neg (by simp [jof]), if_pos hl]
theorem jof_open (room : Int) (rs : List (List UInt8)) (hd : ∀ d ∈ rs, d.length < 16777216) : openOf (jof room rs).s = (some (jof room rs), 0) := by
  rw [openOf_all (jof room rs).s rs hd rfl]
  rfl
theorem jof_last (room : Int) (rs : List (List UInt8)) : (jof room rs).last = Jrn.lastOf Jrn.zero rs := rfl
theorem jof_rs (room : Int) (rs : List (List UInt8)) : (jof room rs).rs = rs := rfl
theorem jof_s (room : Int) (rs : List (List UInt8)) : (jof room rs).s = ⟨room, Jrn.all Jrn.zero rs, ((Jrn.all Jrn.zero rs).length : Nat), -1⟩ := rfl
theorem last_len (rs : List (List UInt8)) : (Jrn.lastOf Jrn.zero rs).length = 32 := Jrn.lastOf_length _ rfl rs
/-- two slabs with their journals, side by side, all made since w0 -/
def Two (w0 : World) (p1 q1 p2 q2 : Nat) (j1 j2 : JS) (W : World) : Prop :=
  ∃ H1 H2, JB W H1 p1 q1 j1 ∧ JB W H2 p2 q2 j2 ∧ (∀ k, H1 k → ¬ H2 k) ∧ (∀ k, H1 k → w0.heap.size ≤ k) ∧ (∀ k, H2 k → w0.heap.size ≤ k) ∧ New w0 W
section
variable {w0 w w' : World} {p1 q1 p2 q2 : Nat} {j1 j2 : JS} {f : FuncId} {args : Array Value} {R : Ending → World → Prop}
theorem Two.frm (h : Two w0 p1 q1 p2 q2 j1 j2 w) : New w0 w := by obtain ⟨_, _, _, _, _, _, _, h⟩ := h; exact h
theorem Two.swap (h : Two w0 p1 q1 p2 q2 j1 j2 w) : Two w0 p2 q2 p1 q1 j2 j1 w := by
  obtain ⟨H1, H2, h1, h2, h3, h4, h5, h6⟩ := h
  exact ⟨H2, H1, h2, h1, fun k hk h => h3 k h hk, h5, h4, h6⟩
theorem Two.new (h : Two w0 p1 q1 p2 q2 j1 j2 w) (f : New w w') : Two w0 p1 q1 p2 q2 j1 j2 w' := by
  obtain ⟨H1, H2, h1, h2, h3, h4, h5, h6⟩ := h
  exact ⟨H1, H2, h1.new f, h2.new f, h3, h4, h5, h6.trans f (fun _ h => h.elim)⟩
theorem Two.first {j1' : JS} (h : Two w0 p1 q1 p2 q2 j1 j2 w) (hc : ∀ H, JB w H p1 q1 j1 → (∀ k, H k → w0.heap.size ≤ k) → Calls Try.prog f args w fun e w' => R e w' ∧ JStep w H p1 q1 j1' w') :
    Calls Try.prog f args w fun e w' => R e w' ∧ Two w0 p1 q1 p2 q2 j1' j2 w' := by
  obtain ⟨H1, H2, h1, h2, h3, h4, h5, h6⟩ := h
  refine (hc H1 h1 h4).mono ?_
  rintro e w' ⟨hR, H', a1, a2, a3⟩
  refine ⟨hR, H', H2, a1, h2.fr a3 (fun k hk hk1 => h3 k hk1 hk), ?_, ?_, h5, h6.trans a3 (fun k hk => .inr (h4 k hk))⟩
  · intro k hk hk2
    rcases a2 k hk with h | h
    · exact h3 k h hk2
    · have := h2.lt k hk2
      omega
  · intro k hk
    rcases a2 k hk with h | h
    · exact h4 k h
    · exact Nat.le_trans h6.size h
theorem Two.second {j2' : JS} (h : Two w0 p1 q1 p2 q2 j1 j2 w) (hc : ∀ H, JB w H p2 q2 j2 → (∀ k, H k → w0.heap.size ≤ k) → Calls Try.prog f args w fun e w' => R e w' ∧ JStep w H p2 q2 j2' w') :
    Calls Try.prog f args w fun e w' => R e w' ∧ Two w0 p1 q1 p2 q2 j1 j2' w' :=
  (h.swap.first hc).mono fun _ _ ⟨hR, h⟩ => ⟨hR, h.swap⟩
end
/-- the list that came in: bytes of the world at the start -/
structure ListIn (w : World) (A : Option Addr) (ps : List Part) : Prop where
  at_ : PartsAt w A ps
  len : ∀ p ∈ ps, p.b.length ≤ 9223372036854775807
  num : ps.length ≤ 9223372036854775807
theorem ListIn.cell {w : World} {A : Option Addr} {ps : List Part} (h : ListIn w A ps) (i : Nat) (hi : i < ps.length) : ∃ b off, A = some ⟨b, off, none⟩ ∧ b < w.heap.size ∧ w.cell? ⟨b, off + i, none⟩ = some (.slice (ps[i]).a (ps[i]).b.length (ps[i]).c) := by
  obtain ⟨b, off, e, hb, hc⟩ := h.at_.row (by simp; omega)
  exact ⟨b, off, e, hb, by have := hc i (by simpa using hi); simpa [Part.v] using this⟩
end Go.Proofs.Ytefalfalapnllaa
