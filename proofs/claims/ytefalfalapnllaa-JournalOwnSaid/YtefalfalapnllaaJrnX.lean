/- The head of the journal's statements, walked: it says true. -/
import Derived.Test.YtefalfalapnllaaJrnU
namespace Go.Proofs.Ytefalfalapnllaa
open Go.RowKit Go.Shelf
set_option linter.unusedVariables false
theorem Rd.str {w : World} {A : Option Addr} {l : List UInt8} (c : Nat) (h : Rd w A (l.map bv)) : (convert 22 9 (.slice A l.length c)).run Try.prog w = .ok (.string ⟨l.toArray⟩) w :=
  run_str_rd w 22 5 Try.underlying22 Try.underlying5 A c l h 9 Try.underlying9
set_option maxHeartbeats 4000000 in
set_option maxRecDepth 20000 in
theorem writes_any (w : World) : Calls Try.prog 38 #[] w fun e w' => e = .returned (.bool true) ∧ New w w' := by
  obtain ⟨ii, hii, hz0, hz1, hz2⟩ := info_parts infoID
  have hl1 := Jrn.link_one
  have kc := fun (w : World) (C : Array Value) (n c : Nat) => Lib.run_convert_bytes_const (P := Try.prog) w 22 5 C n c Try.underlying22 Try.underlying5
  obtain ⟨j0, hj0⟩ : ∃ j0 : JS, j0 = ⟨⟨500, [], 0, -1⟩, [], Jrn.zero, false⟩ := ⟨_, rfl⟩
  obtain ⟨j1, hj1⟩ : ∃ j1 : JS, j1 = ⟨⟨500, Jrn.recB Jrn.zero Jrn.one, 38, -1⟩, [Jrn.one], Jrn.link Jrn.zero Jrn.one, false⟩ := ⟨_, rfl⟩
  have ho0 : openOf ⟨500, [], 0, -1⟩ = (some j0, 0) := by
    rw [hj0]
    exact openOf_all _ [] (by simp) rfl
  have hw0 : j0.write Jrn.one = (j1, 0) := by
    rw [hj0, hj1]
    exact JS.write_ok _ Jrn.one rfl (by decide) (by decide) rfl
  have ho1 : openOf j1.s = (some j1, 0) := by
    rw [hj1]
    refine openOf_all _ [Jrn.one] (by intro d hd; simp at hd; subst hd; decide) ?_
    simp [Jrn.all]
  have hrs0 : j0.rs.length = 0 := by rw [hj0]; rfl
  have hrs1 : j1.rs = [Jrn.one] := by rw [hj1]
  have hla1 : j1.last = Jrn.link Jrn.zero Jrn.one := by rw [hj1]
  have hll1 : j1.last.length = 32 := by rw [hla1]; rfl
  have hne : (!(j1.last == z32)) = true := by
    rw [hla1]
    have : (Jrn.link Jrn.zero Jrn.one == z32) = false := beq_false_of_ne hl1
    rw [this]
    rfl
  clear hl1 hla1 hj1
  have hs0 : j0.s = ⟨500, [], 0, -1⟩ := by rw [hj0]
  clear hj0
  go_enter Try.func38, Try.ntmps38
  go_wp2_with fail
  refine (slab_New 500 (by omega) (by omega)).mono ?_
  rintro e w1 ⟨rfl, hS1, hN1⟩
  go_wp2_with fail
  refine (jb_Open hS1 ho0).mono ?_
  rintro e w2 ⟨q, H, rfl, hB2, hH2, hf2⟩
  go_wp2_with fail
  have hB2' := hB2.new (Fr.alloc _ w2 (.cells (Jrn.one.map bv).toArray 5 (3, 4)))
  have hlt2 := hB2.lt
  refine Calls.mono (show Calls Try.prog 34 #[.pointer (some ⟨q, 0, none⟩), .slice (some ⟨w2.heap.size, 0, none⟩) 3 3] (w2.alloc (.cells (Jrn.one.map bv).toArray 5 (3, 4))) _ from
    jb_Write hB2' (some ⟨w2.heap.size, 0, none⟩) 3 Jrn.one (Rd.lit w2 (Jrn.one.map bv) 5 (3, 4)) (fun _ k hk hH => by have := hlt2 k hH; simp [ab] at hk; omega) (by decide) (by omega)) ?_
  rintro e w3 ⟨rfl, H3, hB3, hg3, hf3⟩
  rw [hw0] at hB3 ⊢
  have hN2 : New w w2 := hN1.trans hf2 (fun k hk => .inr (by omega))
  have hHw : ∀ k, H k → w.heap.size ≤ k := fun k hk => by have := hN1.size; rcases hH2 k hk with h | h <;> omega
  have hN3 : New w w3 := (hN2.then_alloc (.cells (Jrn.one.map bv).toArray 5 (3, 4))).trans hf3 (fun k hk => .inr (hHw k hk))
  have hH3w : ∀ k, H3 k → w.heap.size ≤ k := fun k hk => by have := hN2.size; have := hg3 k hk; rw [World.size_alloc] at this; rcases this with h | h; exact hHw k h; omega
  obtain ⟨F3, G3, A3, c3, ps3, hS3, hJ3, hFG3, hHH3⟩ := hB3
  clear hB2 hB2' hlt2 hf3 hg3 hf2 hN1 hN2 hS1 hH2
  have HW := Lib.hid (show ((∀ k, F3 k → w.heap.size ≤ k) ∧ (∀ k, G3 k → ¬ F3 k) ∧ JAt w3 G3 q w.heap.size j1.rs j1.last j1.down A3 c3 ps3 ∧ New w w3) from ⟨fun k hk => hH3w k ((hHH3 k).2 (.inl hk)), fun k hk hF => hFG3 k hF hk, hJ3, hN3⟩)
  clear hH3w hFG3 hJ3 hN3 hHH3
  go_wp2_with fail
  refine (jb_Open hS3 ho1).mono ?_
  rintro e w4 ⟨q2, H4, rfl, hB4, hH4, hf4⟩
  obtain ⟨hF3w, hGF3, hJ3, hN3⟩ := HW.out
  clear HW
  have hJ4 := hJ3.fr hf4 hGF3
  have hN4 := hN3.trans hf4 (fun k hk => .inr (hF3w k hk))
  obtain ⟨F4, G4, A4, c4, ps4, hS4, hK4, hFG4, hHH4⟩ := hB4
  clear hS3 hJ3 hf4 hN3 hF3w hGF3 hS4 hFG4 hHH4 hH4
  have HN4 := Lib.hid hN4
  clear hN4
  go_wp2_with fail
  refine (j_At_ok hK4 0 Jrn.one (by rw [hrs1]; rfl) (by decide) (by rw [hrs1]; decide)).mono ?_
  rintro e w5 ⟨A5, c5, rfl, hR5⟩
  have hJ5 := hJ4.new hR5.fr
  have hK5 := hK4.new hR5.fr
  have hN5 := HN4.out.trans hR5.fr (fun _ h => h.elim)
  have hstr := Rd.str c5 hR5.row.rd
  have HH := Lib.hid (show JAt w5 G3 q w.heap.size j1.rs j1.last j1.down A3 c3 ps3 ∧ JAt w5 G4 q2 w.heap.size j1.rs j1.last j1.down A4 c4 ps4 ∧ New w w5 from ⟨hJ5, hK5, hN5⟩)
  clear hJ4 hK4 HN4 hR5 hJ5 hK5 hN5
  rw [show Jrn.one.length = 3 from rfl] at hstr ⊢
  have hLL := Lib.hid hll1
  have hNE := Lib.hid hne
  have hKC := Lib.hid kc
  clear hll1 hne kc
  go_wp2_with fail
  obtain ⟨hJ5, hK5, hN5⟩ := HH.out
  refine (j_Len hK5).mono ?_
  rintro e _ ⟨rfl, rfl⟩
  clear hJ5 hK5 hN5
  rw [hrs1]
  go_wp2_with fail
  obtain ⟨hJ5, hK5, hN5⟩ := HH.out
  refine (j_Last hK5).mono ?_
  rintro e w6 ⟨rfl, hM6⟩
  have hJ6 := hJ5.new hM6
  have HN6 := Lib.hid (hN5.trans hM6 (fun _ h => h.elim))
  clear hJ5 hK5 hN5 HH hM6
  go_wp2_with fail
  refine (j_Last hJ6).mono ?_
  rintro e w7 ⟨rfl, hM7⟩
  have hJ7 := hJ6.new hM7
  have HN7 := Lib.hid (HN6.out.trans hM7 (fun _ h => h.elim))
  clear hJ6 HN6 hM7
  go_wp2_with (refine x_value (jeql_same rfl rfl rfl hLL.out) (by simp [go_sem, Region.wanted, yielded]) ?_)
  refine (j_Last hJ7).mono ?_
  rintro e w8 ⟨rfl, hM8⟩
  have HN8 := Lib.hid (HN7.out.trans hM8 (fun _ h => h.elim))
  clear hJ7 HN7 hM8
  go_wp2_with (first
    | (refine x_value (x_build0 (T := 60) rfl hii hz0 underID (s := 1) (fun w => by kernel_rfl)) (by simp [go_sem, Region.wanted, yielded]) ?_)
    | (refine x_value (jneq rfl rfl rfl hLL.out rfl hNE.out) (by simp [go_sem, Region.wanted, yielded]) ?_))
  go_ret
  exact ⟨rfl, HN8.out⟩
end Go.Proofs.Ytefalfalapnllaa
