/- What an argument that can be read as data holds: votes, slices of votes. -/
import Derived.Test.YtepmlmfacpbhkaaROpenIds
import Derived.Test.YtepmlmfacpbhkaaRPlaysA
namespace Go.Proofs.YtepmlmfacpbhkaaR
open Go.ChangeShapes Go.WideShapes Go.ChangeAt Go.RowKit Go.Joins
set_option linter.unusedVariables false
set_option maxRecDepth 20000
theorem cellsV : Try.prog.cellsOf 40 = 35 := by kernel_rfl
theorem cellsN : Try.prog.cellsOf 3 = 1 := by kernel_rfl
section
variable {H : Type} {enc : TypeId × Value → H} {w : World} {base : Nat} {spare : Nat → Bool} {held : Bool}
theorem opn_vote {fuel : Nat} {cs : List Value} {x : DataW H × List MemPlace} (h : DataW.trod enc Try.prog w base spare held fuel 40 cs = some x) : ∃ v : Cnt.Vote, v.id.length = 32 ∧ cs = voteC v := by
  obtain ⟨y0, y1, y2, y3, n, -, hl, h0, h1, h2, h3⟩ := trod_struct4 Try.underlying40 h
  rw [cellsV] at hl
  obtain ⟨c0, c1, c2, cs, rfl⟩ : ∃ c0 c1 c2 cs', cs = c0 :: c1 :: c2 :: cs' := by
    match cs, hl with
    | c0 :: c1 :: c2 :: cs', _ => exact ⟨c0, c1, c2, cs', rfl⟩
  simp only [cellsN, cellsI, List.drop_succ_cons, List.drop_zero, List.take_succ_cons, List.take_zero] at h0 h1 h2 h3
  obtain ⟨a, e0, _, _⟩ := DataW.trod_int Try.underlying3 h0
  obtain ⟨b, e1, _, _⟩ := DataW.trod_int Try.underlying3 h1
  obtain ⟨c, e2, _, _⟩ := DataW.trod_int Try.underlying3 h2
  have hl3 : cs.length = 32 := by simpa using hl
  rw [List.take_of_length_le (by omega)] at h3
  obtain ⟨l, hll, e3⟩ := opn_id h3
  simp at e0 e1 e2
  subst e0 e1 e2 e3
  exact ⟨⟨a, b, c, l⟩, hll, rfl⟩
theorem opn_votes {fuel : Nat} {cs : List Value} {x : DataW H × List MemPlace} (h : DataW.trod enc Try.prog w base spare held fuel 37 cs = some x) :
    ∃ A n c, ∃ l : List Cnt.Vote, cs = [.slice A n c] ∧ l.length = n ∧ n ≤ maxLen ∧ VotesAt w A l := by
  rcases Go.Deep.open_slice Try.underlying37 h with ⟨rfl, _⟩ | ⟨a, len, cap, m, n, D, Pl, rfl, _, hl, hm, hmm, _, hx⟩
  · exact ⟨none, 0, 0, [], rfl, rfl, by simp, VotesAt.nil⟩
  · have hlm : len ≤ m := by rw [hmm]; split <;> omega
    rw [cellsV] at hx
    have hb : ∀ i, i < len → ∃ v : Cnt.Vote, v.id.length = 32 ∧ ∀ j (h : j < (voteC v).length), w.cell? ((a.add (i * 35)).add j) = some (voteC v)[j] := fun i hi => by
      obtain ⟨cs', hc, ht⟩ := hx i (by omega)
      obtain ⟨v, hvl, rfl⟩ := opn_vote ht
      obtain ⟨_, _, hcell⟩ := World.cells?_some hc
      refine ⟨v, hvl, fun j hj => ?_⟩
      have := hcell j (by rw [voteC_length v hvl] at hj; omega)
      rw [this]
      simp [List.getElem?_eq_getElem hj]
    obtain ⟨O, hO⟩ := @Go.Deep.choose_lt Cnt.Vote ⟨⟨0, 0, 0, []⟩⟩ len _ hb
    refine ⟨some a, len, cap, (List.range len).map O, rfl, by simp, by omega, ⟨fun h0 => ?_, fun o ho => ?_⟩⟩
    · simp at h0
      have hz : ∀ a : Addr, a.add 0 = a := fun a => by unfold Addr.add; simp
      have e0 : (a.add (0 * 35)).add 0 = a := by rw [Nat.zero_mul, hz, hz]
      obtain ⟨v00, h00⟩ : ∃ v, w.cell? ((a.add (0 * 35)).add 0) = some v := ⟨_, (hO 0 h0).2 0 (by rw [voteC_length _ (hO 0 h0).1]; omega)⟩
      rw [e0] at h00
      have hspot : a.spot = none := World.cell?_spot h00
      obtain ⟨b, off, spot⟩ := a
      simp at hspot
      subst hspot
      refine ⟨b, off, rfl, World.block_lt_of_cell? _ _ h00, fun j hj => ?_⟩
      simp at hj
      intro q hq
      have hq' : q < (voteC (O j)).length := by simpa using hq
      have := (hO j hj).2 q hq'
      rw [add_none, add_none] at this
      simpa using this
    · obtain ⟨i, hi, rfl⟩ := List.mem_map.1 ho
      exact (hO i (List.mem_range.1 hi)).1
end
end Go.Proofs.YtepmlmfacpbhkaaR
