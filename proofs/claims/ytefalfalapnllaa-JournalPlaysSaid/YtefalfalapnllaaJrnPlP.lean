/- JournalPlays: the journal and the document's answer side by side. -/
import Derived.Test.YtefalfalapnllaaJrnK
import Derived.Test.YtefalfalapnllaaR10P
namespace Go.Proofs.Ytefalfalapnllaa
open Go.RowKit Go.Shelf
set_option linter.unusedVariables false
/-- at p a slab, at q a journal over it; at M the document's journal, its records at A -/
def PlS (w0 : World) (p q M : Nat) (j m : JS) (A : Option Addr) (c : Nat) (W : World) : Prop :=
  ∃ H, JB W H p q j ∧ (∀ k, H k → w0.heap.size ≤ k) ∧ ¬ H M ∧ Blk W M 79 (jd m.s A m.rs.length c m.last m.down) ∧ w0.heap.size ≤ M ∧ Row W 9 A c (tv m.rs) ∧ (∀ k, ab A = some k → ¬ H k ∧ k ≠ M) ∧ New w0 W
section
variable {w0 w w' w1 : World} {p q M : Nat} {j m j' m' : JS} {A A' : Option Addr} {c c' : Nat}
theorem PlS.frm (h : PlS w0 p q M j m A c w) : New w0 w := by obtain ⟨H, h1, h2, h3, h4, h5, h6, h7, h8⟩ := h; exact h8
theorem PlS.blk (h : PlS w0 p q M j m A c w) : Blk w M 79 (jd m.s A m.rs.length c m.last m.down) := by obtain ⟨H, h1, h2, h3, h4, h5, h6, h7, h8⟩ := h; exact h4
theorem PlS.row (h : PlS w0 p q M j m A c w) : Row w 9 A c (tv m.rs) := by obtain ⟨H, h1, h2, h3, h4, h5, h6, h7, h8⟩ := h; exact h6
theorem PlS.one (h : PlS w0 p q M j m A c w) : One w0 p q j w := by obtain ⟨H, h1, h2, h3, h4, h5, h6, h7, h8⟩ := h; exact ⟨H, h1, h2, h8⟩
theorem PlS.ok (h : PlS w0 p q M j m A c w) : j.s.ok := by
  obtain ⟨H, h1, _⟩ := h
  obtain ⟨F, hF, _⟩ := h1.slabAt
  exact hF.good
theorem PlS.last (h : PlS w0 p q M j m A c w) : j.last.length = 32 := by obtain ⟨H, h1, _⟩ := h; exact h1.down_eq
theorem PlS.new (h : PlS w0 p q M j m A c w) (f : New w w') : PlS w0 p q M j m A c w' := by
  obtain ⟨H, h1, h2, h3, h4, h5, h6, h7, h8⟩ := h
  exact ⟨H, h1.new f, h2, h3, h4.fr f id, h5, h6.fr f (fun _ _ => id), h7, h8.trans f (fun _ h => h.elim)⟩
theorem PlS.real {f : FuncId} {args : Array Value} {R : Ending → World → Prop} (h : PlS w0 p q M j m A c w)
    (hc : ∀ H, JB w H p q j → (∀ k, H k → w0.heap.size ≤ k) → Calls Try.prog f args w fun e w' => R e w' ∧ JStep w H p q j' w') :
    Calls Try.prog f args w fun e w' => R e w' ∧ PlS w0 p q M j' m A c w' := by
  obtain ⟨H, h1, h2, h3, h4, h5, h6, h7, h8⟩ := h
  refine (hc H h1 h2).mono ?_
  rintro e w' ⟨hR, H', a1, a2, a3⟩
  have hno : ∀ k, k < w.heap.size → ¬ H k → ¬ H' k := fun k hk hn hH => by
    rcases a2 k hH with h | h
    · exact hn h
    · omega
  refine ⟨hR, H', a1, ?_, hno M h4.lt h3, h4.fr a3 h3, h5, h6.fr a3 (fun k hk => (h7 k hk).1), fun k hk => ⟨hno k (h6.lt hk) (h7 k hk).1, (h7 k hk).2⟩, h8.trans a3 (fun k hk => .inr (h2 k hk))⟩
  intro k hk
  rcases a2 k hk with h | h
  · exact h2 k h
  · exact Nat.le_trans h8.size h
theorem PlS.real_at {f : FuncId} {args : Array Value} {R : Ending → World → Prop} (h : PlS w0 p q M j m A c w) (hf : New w w1)
    (hc : ∀ H, JB w1 H p q j → (∀ k, H k → w0.heap.size ≤ k) → Calls Try.prog f args w1 fun e w' => R e w' ∧ JStep w1 H p q j' w') :
    Calls Try.prog f args w1 fun e w' => R e w' ∧ PlS w0 p q M j' m A c w' ∧ Fr (fun k => k < w.heap.size) w1 w' := by
  obtain ⟨H, h1, h2, h3, h4, h5, h6, h7, h8⟩ := h
  have hlt := h1.lt
  have hsz := hf.size
  have h4' := h4.fr hf id
  have h6' := h6.fr hf (fun _ _ => id)
  refine (hc H (h1.new hf) h2).mono ?_
  rintro e w' ⟨hR, H', a1, a2, a3⟩
  have hno : ∀ k, k < w1.heap.size → ¬ H k → ¬ H' k := fun k hk hn hH => by
    rcases a2 k hH with h | h
    · exact hn h
    · omega
  refine ⟨hR, ⟨H', a1, ?_, hno M h4'.lt h3, h4'.fr a3 h3, h5, h6'.fr a3 (fun k hk => (h7 k hk).1), fun k hk => ⟨hno k (h6'.lt hk) (h7 k hk).1, (h7 k hk).2⟩, (h8.trans hf (fun _ h => h.elim)).trans a3 (fun k hk => .inr (h2 k hk))⟩, a3.mono fun k hk => .inl (hlt k hk)⟩
  intro k hk
  rcases a2 k hk with h | h
  · exact h2 k h
  · exact Nat.le_trans (Nat.le_trans h8.size hsz) h
theorem Sl.OpenG {p : Nat} {s : SlabS} {e0 : Int} (h : Sl w0 p s w1) (hf : New w1 w) (ho : openOf s = (some j, e0)) :
    Calls Try.prog 32 #[.pointer (some ⟨p, 0, none⟩)] w fun e w' => ∃ q, e = .returned (.tuple #[.pointer (some ⟨q, 0, none⟩), .int .i64 0]) ∧ One w0 p q j w' ∧ Fr (fun k => k < w1.heap.size) w w' := by
  obtain ⟨F, h1, h3, h6⟩ := h
  have hlt := h1.lt
  have h6' := h6.trans hf (fun _ h => h.elim)
  refine (jb_Open (h1.fr hf (fun _ _ => id)) ho).mono ?_
  rintro e w' ⟨q, H, he, hB, hH, hf2⟩
  refine ⟨q, he, ⟨H, hB, ?_, h6'.trans hf2 (fun k hk => .inr (h3 k hk))⟩, hf2.mono fun k hk => .inl (hlt k hk)⟩
  intro k hk
  rcases hH k hk with h | h
  · exact h3 k h
  · exact Nat.le_trans h6'.size h
theorem PlS.mk0 (h : One w0 p q j w) (f : New w w1) (hR : Row w1 9 A c (tv j.rs)) (hA : ∀ k, ab A = some k → w.heap.size ≤ k) :
    PlS w0 p q w1.heap.size j j A c (w1.alloc (.cells (jd j.s A j.rs.length c j.last j.down) 79)) := by
  obtain ⟨H, h1, h2, h3⟩ := h
  have hlt := h1.lt
  have hsz := f.size
  have hs0 := h3.size
  exact ⟨H, (h1.new f).new (Fr.alloc _ w1 _), h2, fun hM => by have := hlt _ hM; omega, Blk.new w1 79 (jd j.s A j.rs.length c j.last j.down), by omega, hR.fr (Fr.alloc (fun _ => False) w1 _) (fun _ _ => id), fun k hk => ⟨fun hH => by have := hlt k hH; have := hA k hk; omega, fun e => by have := hR.lt hk; omega⟩, (h3.trans f (fun _ h => h.elim)).then_alloc _⟩
theorem One.AtBad (h : One w0 p q j w) (i : Int) (hi : i < 0 ∨ (j.rs.length : Int) ≤ i) :
    Calls Try.prog 36 #[.pointer (some ⟨q, 0, none⟩), .int .i64 i] w fun e w' => e = .returned (.tuple #[.slice none 0 0, .int .i64 4]) ∧ w = w' := by
  obtain ⟨H, ⟨F, G, A, c, ps, h1, hJ, hFG, hH⟩, _⟩ := h
  exact j_At_bad hJ i hi
/-- the document's journal is another one -/
theorem PlS.doc (h : PlS w0 p q M j m A c w) (f : New w w1) (hR : Row w1 9 A' c' (tv m'.rs)) (hA : ∀ k, ab A' = some k → ab A = some k ∨ w.heap.size ≤ k) :
    PlS w0 p q M j m' A' c' (w1.setRow M (jd m'.s A' m'.rs.length c' m'.last m'.down)) := by
  obtain ⟨H, h1, h2, h3, h4, h5, h6, h7, h8⟩ := h
  have hlt := h1.lt
  have hM := h4.lt
  have hap : ∀ k, ab A' = some k → ¬ H k ∧ k ≠ M := fun k hk => by
    rcases hA k hk with h | h
    · exact h7 k h
    · exact ⟨fun hH => by have := hlt k hH; omega, by omega⟩
  have g : Fr (fun k => k = M) w1 (w1.setRow M (jd m'.s A' m'.rs.length c' m'.last m'.down)) := (Fr.refl (fun k => k = M) w1).setRow (g := M) rfl _
  exact ⟨H, (h1.new f).fr g (fun k hk e => h3 (e ▸ hk)), h2, h3, (h4.fr f id).setRow _, h5, hR.fr g (fun k hk => (hap k hk).2), hap, (h8.trans f (fun _ h => h.elim)).trans g (fun k hk => .inr (by omega))⟩
theorem PlS.Open {e0 : Int} (h : PlS w0 p q M j m A c w) (ho : openOf j.s = (some j', e0)) :
    Calls Try.prog 32 #[.pointer (some ⟨p, 0, none⟩)] w fun e w' => ∃ q2, e = .returned (.tuple #[.pointer (some ⟨q2, 0, none⟩), .int .i64 0]) ∧ PlS w0 p q2 M j' m A c w' := by
  obtain ⟨H, h1, h2, h3, h4, h5, h6, h7, h8⟩ := h
  obtain ⟨F, hF, hFH⟩ := h1.slabAt
  refine (jb_Open hF ho).mono ?_
  rintro e w' ⟨q2, H', he, hB, hH', hf⟩
  have hno : ∀ k, k < w.heap.size → ¬ H k → ¬ H' k := fun k hk hn hH => by
    rcases hH' k hH with h | h
    · exact hn (hFH k h)
    · omega
  refine ⟨q2, he, H', hB, ?_, hno M h4.lt h3, h4.fr hf (fun hF => h3 (hFH _ hF)), h5, h6.fr hf (fun k hk hF => (h7 k hk).1 (hFH k hF)), fun k hk => ⟨hno k (h6.lt hk) (h7 k hk).1, (h7 k hk).2⟩, h8.trans hf (fun k hk => .inr (h2 k (hFH k hk)))⟩
  intro k hk
  rcases hH' k hk with h | h
  · exact h2 k (hFH k h)
  · exact Nat.le_trans h8.size h
theorem PlS.OpenNo {e0 : Int} (h : PlS w0 p q M j m A c w) (ho : openOf j.s = (none, e0)) :
    Calls Try.prog 32 #[.pointer (some ⟨p, 0, none⟩)] w fun e w' => e = .returned (.tuple #[.pointer none, .int .i64 e0]) ∧ PlS w0 p q M j m A c w' := by
  have h0 := h
  obtain ⟨H, h1, _⟩ := h
  obtain ⟨F, hF, hFH⟩ := h1.slabAt
  exact (j_Open_no hF ho).mono fun _ _ ⟨he, _, hN⟩ => ⟨he, h0.new hN⟩
theorem PlS.Bytes (h : PlS w0 p q M j m A c w) :
    Calls Try.prog 20 #[.pointer (some ⟨p, 0, none⟩)] w fun e w' => ∃ A2 c2, e = .returned (.slice A2 j.s.bs.length c2) ∧ Rd w' A2 (j.s.bs.map bv) ∧ New w w' := by
  obtain ⟨H, h1, _⟩ := h
  obtain ⟨F, hF, hFH⟩ := h1.slabAt
  exact (slab_Bytes hF).mono fun _ _ ⟨A2, c2, he, hR, _, _, hN⟩ => ⟨A2, c2, he, hR.rd, hN⟩
theorem PlS.Last (h : PlS w0 p q M j m A c w) :
    Calls Try.prog 39 #[.pointer (some ⟨q, 0, none⟩)] w fun e w' => e = .returned (.agg (ida j.last)) ∧ New w w' := by
  obtain ⟨H, ⟨F, G, A, c, ps, h1, hJ, hFG, hH⟩, _⟩ := h
  exact j_Last hJ
theorem PlS.rec (h : PlS w0 p q M j m A c w) (i : Nat) (hi : i < m.rs.length) : ∃ b off, A = some ⟨b, off, none⟩ ∧ w.cell? ⟨b, off + i, none⟩ = some (.string ⟨(m.rs[i]).toArray⟩) := by
  have hr : Rd w A (tv m.rs) := h.row.rd
  obtain ⟨b, off, e, _, hc⟩ := hr (by simp [tv]; omega)
  exact ⟨b, off, e, by have := hc i (by simpa [tv] using hi); simpa [tv] using this⟩
end
end Go.Proofs.Ytefalfalapnllaa
