/- What a script that can be read as data holds. -/
import Derived.Test.YtefalfalapnllaaSlabOpen
import Derived.Test.YtefalfalapnllaaSlabPlayC
namespace Go.Proofs.Ytefalfalapnllaa
open Go.ChangeShapes Go.WideShapes Go.ChangeAt Go.RowKit Go.Joins
set_option linter.unusedVariables false
section
variable {H : Type} {enc : TypeId × Value → H} {w : World} {base : Nat} {spare : Nat → Bool} {held : Bool}

theorem jcellsOp : Try.prog.cellsOf 84 = 4 := by kernel_rfl
theorem jcellsInt : Try.prog.cellsOf 3 = 1 := by kernel_rfl
theorem jcellsByte : Try.prog.cellsOf 5 = 1 := by kernel_rfl
theorem jcellsBytes : Try.prog.cellsOf 22 = 1 := by kernel_rfl

theorem jfour_of {l : List Value} (h : l.length = 4) : ∃ c0 c1 c2 c3, l = [c0, c1, c2, c3] := by
  match l, h with
  | [a, b, c, d], _ => exact ⟨a, b, c, d, rfl⟩
/-- one thing of a script, out of its four cells -/
theorem jopn_op {fuel : Nat} {cs : List Value} {x : DataW H × List MemPlace} (h : DataW.trod enc Try.prog w base spare held fuel 84 cs = some x) :
    ∃ o : OpD, cs = [.int .i64 o.kind, .int .i64 o.n, bv o.x, .slice o.A o.data.length o.c] ∧ BytesIn w o.A o.data.length o.c o.data ∧ (Lit.int .i64 o.kind).wf = true ∧ (Lit.int .i64 o.n).wf = true := by
  obtain ⟨y0, y1, y2, y3, n, -, hl, h0, h1, h2, h3⟩ := trod_struct4 Try.underlying84 h
  rw [jcellsOp] at hl
  obtain ⟨c0, c1, c2, c3, rfl⟩ := jfour_of hl
  simp only [jcellsInt, jcellsByte, jcellsBytes, List.drop_succ_cons, List.drop_zero, List.take_succ_cons, List.take_zero] at h0 h1 h2 h3
  obtain ⟨k, e0, _, wk⟩ := DataW.trod_int Try.underlying3 h0
  obtain ⟨m, e1, _, wm⟩ := DataW.trod_int Try.underlying3 h1
  obtain ⟨z, e2, _, wz⟩ := DataW.trod_int Try.underlying5 h2
  obtain ⟨A, len, c, l, e3, hb⟩ := opn_bytes h3
  simp at e0 e1 e2 e3
  subst e0 e1 e2 e3
  obtain rfl := hb.len
  exact ⟨⟨k, m, UInt8.ofNat z.toNat, A, c, l⟩, by simp only [bv_of _ wz], hb, wk, wm⟩

theorem jopn_ops {fuel : Nat} {cs : List Value} {x : DataW H × List MemPlace} (h : DataW.trod enc Try.prog w base spare held fuel 83 cs = some x) :
    ∃ A n c, ∃ ops : List OpD, cs = [.slice A n c] ∧ ops.length = n ∧ OpsIn w A ops := by
  rcases Go.Deep.open_slice Try.underlying83 h with ⟨rfl, _⟩ | ⟨a, len, cap, m, n, D, Pl, rfl, _, hl, hm, hmm, _, hx⟩
  · exact ⟨none, 0, 0, [], rfl, rfl, ⟨fun h => by simp at h, fun o ho => by simp at ho⟩⟩
  · have hlm : len ≤ m := by rw [hmm]; split <;> omega
    rw [jcellsOp] at hx
    have hb : ∀ i, i < len → ∃ o : OpD, (w.cell? (a.add (i * 4)) = some (.int .i64 o.kind) ∧ w.cell? ((a.add (i * 4)).add 1) = some (.int .i64 o.n) ∧ w.cell? ((a.add (i * 4)).add 2) = some (bv o.x) ∧
        w.cell? ((a.add (i * 4)).add 3) = some (.slice o.A o.data.length o.c)) ∧ BytesIn w o.A o.data.length o.c o.data ∧ (Lit.int .i64 o.kind).wf = true ∧ (Lit.int .i64 o.n).wf = true := fun i hi => by
      obtain ⟨cs', hc, ht⟩ := hx i (by omega)
      obtain ⟨o, rfl, h1, h2, h3⟩ := jopn_op ht
      obtain ⟨_, _, hcell⟩ := World.cells?_some hc
      have q0 := hcell 0 (by omega)
      have q1 := hcell 1 (by omega)
      have q2 := hcell 2 (by omega)
      have q3 := hcell 3 (by omega)
      have hz : ∀ a : Addr, a.add 0 = a := fun a => by unfold Addr.add; simp
      rw [hz] at q0
      exact ⟨o, ⟨q0, q1, q2, q3⟩, h1, h2, h3⟩
    obtain ⟨O, hO⟩ := @Go.Deep.choose_lt OpD ⟨⟨0, 0, 0, none, 0, []⟩⟩ len _ hb
    refine ⟨some a, len, cap, (List.range len).map O, rfl, by simp, ⟨fun h0 => ?_, fun o ho => ?_⟩⟩
    · simp at h0
      have hspot : a.spot = none := by
        have := (hO 0 h0).1.1
        have h2 : a.add (0 * 4) = a := by unfold Addr.add; simp
        rw [h2] at this
        exact World.cell?_spot this
      obtain ⟨b, off, spot⟩ := a
      simp at hspot
      subst hspot
      refine ⟨b, off, rfl, ?_, fun k hk => ?_⟩
      · have := (hO 0 h0).1.1
        rw [add_none] at this
        exact World.block_lt_of_cell? _ _ this
      · simp at hk
        have := (hO k hk).1
        simp only [add_none] at this
        simpa using this
    · obtain ⟨i, hi, rfl⟩ := List.mem_map.1 ho
      exact (hO i (List.mem_range.1 hi)).2
end
end Go.Proofs.Ytefalfalapnllaa
