/- Package journal: a record more in memory; fields that are set. -/
import Derived.Test.YtefalfalapnllaaJrnC
namespace Go.Proofs.Ytefalfalapnllaa
open Go.RowKit Go.Shelf
set_option linter.unusedVariables false
theorem jc_down (p : Nat) (A : Option Addr) (n c : Nat) (last : List UInt8) (dn x : Bool) (h : last.length = 32) : (jc p A n c last dn).setIfInBounds 34 (.bool x) = jc p A n c last x := by
  unfold jc
  simp [List.set_append, h]
theorem jc_rec (p : Nat) (A A' : Option Addr) (n n' c c' : Nat) (last : List UInt8) (dn : Bool) : (jc p A n c last dn).setIfInBounds 1 (.slice A' n' c') = jc p A' n' c' last dn := by
  unfold jc
  simp
theorem jc_last (p : Nat) (A : Option Addr) (n c : Nat) (last l' : List UInt8) (dn : Bool) (h : last.length = 32) (h' : l'.length = 32) : ((jc p A n c last dn).toList.take 2 ++ (ida l').toList ++ (jc p A n c last dn).toList.drop (2 + (ida l').size)).toArray = jc p A n c l' dn := by
  rw [ida_size, h']
  unfold jc
  simp [ida, h, List.drop_append]
section
variable {w : World} {G : Nat → Prop} {q p : Nat} {rs : List (List UInt8)} {last : List UInt8} {down : Bool} {A : Option Addr} {c : Nat} {ps : List Part}
theorem JAt.setq (h : JAt w G q p rs last down A c ps) {w' : World} (hf : Fr (fun k => k = q) w w') {last' : List UInt8} {down' : Bool} (hb : Blk w' q 92 (jc p A ps.length c last' down')) (hl : last'.length = 32) : JAt w' G q p rs last' down' A c ps :=
  ⟨hb, h.row.fr hf (fun k hk => (h.ga k hk).2), h.data, fun x hx => (h.each x hx).fr' hf (fun h0 k hk => (h.gp x hx (by simpa using h0) k hk).2.1), h.gq, h.ga, h.gp, fun k hk => Nat.lt_of_lt_of_le (h.glt k hk) hf.size, hl⟩
theorem JAt.setDown (h : JAt w G q p rs last down A c ps) (x : Bool) : JAt (w.setCell ⟨q, 34, none⟩ (.bool x)) G q p rs last x A c ps :=
  h.setq (Fr.setCell (S := fun k => k = q) w rfl _) (by have := h.blk.set 34 (.bool x); rwa [jc_down _ _ _ _ _ _ _ h.len] at this) h.len
theorem JAt.setLast (h : JAt w G q p rs last down A c ps) (l' : List UInt8) (hl : l'.length = 32) : JAt (w.setRow q (jc p A ps.length c l' down)) G q p rs l' down A c ps :=
  h.setq ((Fr.refl (fun k => k = q) w).setRow (g := q) rfl _) (h.blk.setRow _) hl
/-- where the records grow: new blocks -/
def Grown (w w' : World) (G : Nat → Prop) (k : Nat) : Prop := G k ∨ (w.heap.size ≤ k ∧ k < w'.heap.size)
theorem JAt.more (h : JAt w G q p rs last down A c ps) {W' : World} {A4 : Option Addr} {c4 : Nat} {d : List UInt8} (hR : RowN w W' A4 c4 d) (hrl : rs.length < 1000000) :
    ∃ A5 c5 w5, (Builtin.append_ #[62, 62] 62 #[.slice A ps.length c, .slice (some ⟨W'.heap.size, 0, none⟩) 1 1]).run Try.prog (W'.alloc (.cells #[.slice A4 d.length c4] 22)) = .ok (.slice A5 (ps.length + 1) c5) w5 ∧
      w5.cell? ⟨q, 1, none⟩ = some (.slice A ps.length c) ∧ w5.frozen? ⟨q, 1, none⟩ = false ∧ Fr G w (w5.setCell ⟨q, 1, none⟩ (.slice A5 (ps.length + 1) c5)) ∧
      JAt (w5.setCell ⟨q, 1, none⟩ (.slice A5 (ps.length + 1) c5)) (Grown w w5 G) q p (rs ++ [d]) last down A5 c5 (ps ++ [⟨A4, c4, d⟩]) := by
  obtain ⟨ie, hie, he0, he1, he2⟩ := info_parts (show (Try.prog.info? 22).map (fun i => (i.zero, i.size, i.bytes)) = some (some (.slice none 0 0), 1, 24) by kernel_rfl)
  have hpl := h.pslen
  have f1 : New w (W'.alloc (.cells #[.slice A4 d.length c4] 22)) := hR.fr.then_alloc _
  have hsz := hR.fr.size
  have hAlt : ∀ k, ab A = some k → k < w.heap.size := fun k hk => h.row.lt hk
  have hq := h.blk.lt
  have hlit := lit_rd W' [.slice A4 d.length c4] 22
  obtain ⟨A5, c5, w5, hrun, hrow, hfr, hA5⟩ := run_append_rd (P := Try.prog) (W'.alloc (.cells #[.slice A4 d.length c4] 22)) 62 62 22 ie _ 24 Try.underlying62 hie he0 he1 he2 rfl A c (ps.map Part.v)
    (h.row.fr f1 (fun _ _ => id)) (some ⟨W'.heap.size, 0, none⟩) 1 _ hlit (fun u hu => by simp at hu; subst hu; rfl) (by simp [maxLen]; omega) (by simp; omega)
  have hqA : ¬ (some q = ab A) := fun e => (h.ga q e.symm).2 rfl
  have hb5 : Blk w5 q 92 (jc p A ps.length c last down) := (h.blk.fr f1 id).fr hfr hqA
  have hs5 := hfr.size
  rw [World.size_alloc] at hs5 hA5
  have hfA : Fr G w w5 := (f1.mono (T := G) fun _ h => h.elim).trans hfr (fun k hk => .inl (h.ga k hk.symm).1)
  have hset := hb5.set 1 (.slice A5 (ps.length + 1) c5)
  rw [jc_rec] at hset
  have hA5q : ∀ k, ab A5 = some k → k ≠ q := fun k hk e => by
    rcases hA5 k hk with h1 | h1
    · exact (h.ga k h1).2 e
    · omega
  have hR4 : ∀ k, ab A4 = some k → w.heap.size ≤ k := hR.new
  have hR4lt : ∀ k, ab A4 = some k → k < W'.heap.size := fun k hk => hR.row.lt hk
  have hfq : Fr (fun k => k = q) w5 (w5.setCell ⟨q, 1, none⟩ (.slice A5 (ps.length + 1) c5)) := Fr.setCell (S := fun k => k = q) w5 rfl _
  have hgrown : ∀ k, Grown w w5 G k → k < (w5.setCell ⟨q, 1, none⟩ (.slice A5 (ps.length + 1) c5)).heap.size := fun k hk => by
    have h1 := hfq.size
    rcases hk with h2 | h2
    · have := h.glt k h2
      have := f1.size
      rw [World.size_alloc] at this
      omega
    · omega
  refine ⟨A5, c5, w5, by simpa using hrun, hb5.cell 1, hb5.frozen 1, hfA.trans hfq (fun k hk => .inl (hk ▸ h.gq)), ?_, ?_, ?_, ?_, .inl h.gq, ?_, ?_, hgrown, h.len⟩
  · rw [List.length_append]
    exact hset
  · rw [List.map_append]
    exact hrow.fr hfq hA5q
  · rw [List.map_append, h.data]
    rfl
  · intro x hx
    rcases List.mem_append.1 hx with hx | hx
    · exact (((h.each x hx).fr f1 (fun _ _ => id)).fr' hfr (fun h0 k hk e => (h.gp x hx (by simpa using h0) k hk).2.2 e.symm)).fr' hfq (fun h0 k hk => (h.gp x hx (by simpa using h0) k hk).2.1)
    · simp at hx
      subst hx
      exact ((hR.row.rd.alloc _).fr hfr (fun k hk e => by
        have := hR4 k hk
        have := hAlt k e.symm
        omega)).fr hfq (fun k hk e => by
        have := hR4 k hk
        omega)
  · intro k hk
    refine ⟨?_, hA5q k hk⟩
    have hlt := hrow.lt hk
    rcases hA5 k hk with h1 | h1
    · exact .inl (h.ga k h1).1
    · exact .inr ⟨by omega, hlt⟩
  · intro x hx h0 k hk
    rcases List.mem_append.1 hx with hx | hx
    · obtain ⟨g1, g2, g3⟩ := h.gp x hx h0 k hk
      refine ⟨.inl g1, g2, fun e => ?_⟩
      rcases hA5 k e with h1 | h1
      · exact g3 h1
      · have := h.glt k g1
        omega
    · simp at hx
      subst hx
      have h1 := hR4 k hk
      have h2 := hR4lt k hk
      refine ⟨.inr ⟨h1, by omega⟩, by omega, fun e => ?_⟩
      rcases hA5 k e with h3 | h3
      · have := hAlt k h3
        omega
      · omega
end
end Go.Proofs.Ytefalfalapnllaa
