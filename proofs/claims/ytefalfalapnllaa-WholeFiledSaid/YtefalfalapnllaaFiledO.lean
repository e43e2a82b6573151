/- WholeFiled: what an argument that can be read as data holds: lists of messages, and of pairs of numbers. -/
import Derived.Test.YtefalfalapnllaaFiledC
import Derived.Test.YtefalfalapnllaaJrnOpn
import Derived.Test.YtefalfalapnllaaOpenOnce
namespace Go.Proofs.Ytefalfalapnllaa
open Go.ChangeShapes Go.WideShapes Go.ChangeAt Go.RowKit Go.Joins
set_option linter.unusedVariables false
set_option maxRecDepth 20000
theorem cellsM : Try.prog.cellsOf 64 = 41 := by kernel_rfl
theorem cellsN1 : Try.prog.cellsOf 3 = 1 := by kernel_rfl
theorem cellsP : Try.prog.cellsOf 67 = 2 := by kernel_rfl
theorem cellsS1 : Try.prog.cellsOf 22 = 1 ∧ Try.prog.cellsOf 61 = 1 ∧ Try.prog.cellsOf 62 = 1 := ⟨by kernel_rfl, by kernel_rfl, by kernel_rfl⟩
section
variable {H : Type} {enc : TypeId × Value → H} {w : World} {base : Nat} {spare : Nat → Bool} {held : Bool}
theorem fopn_ids {fuel : Nat} {cs : List Value} {x : DataW H × List MemPlace} (h : DataW.trod enc Try.prog w base spare held fuel 61 cs = some x) :
    ∃ A n c, ∃ l : List (List UInt8), cs = [.slice A n c] ∧ l.length = n ∧ IdsL w A l ∧ ∀ x ∈ l, x.length = 32 := by
  rcases Go.Deep.open_slice Try.underlying61 h with ⟨rfl, _⟩ | ⟨a, len, cap, m, n, D, Pl, rfl, _, hl, hm, hmm, _, hx⟩
  · exact ⟨none, 0, 0, [], rfl, rfl, fun h => by simp at h, by simp⟩
  · have hlm : len ≤ m := by rw [hmm]; split <;> omega
    rw [cellsID] at hx
    have hb : ∀ i, i < len → ∃ l : List UInt8, l.length = 32 ∧ ∀ j (h : j < l.length), w.cell? ((a.add (i * 32)).add j) = some (bv l[j]) := fun i hi => by
      obtain ⟨cs', hc, ht⟩ := hx i (by omega)
      obtain ⟨l, hll, rfl⟩ := oopn_id ht
      obtain ⟨_, _, hcell⟩ := World.cells?_some hc
      refine ⟨l, hll, fun j hj => ?_⟩
      have := hcell j (by omega)
      rw [this]
      simp [List.getElem?_eq_getElem hj]
    obtain ⟨O, hO⟩ := @Go.Deep.choose_lt (List UInt8) ⟨[]⟩ len _ hb
    refine ⟨some a, len, cap, (List.range len).map O, rfl, by simp, fun h0 => ?_, fun o ho => ?_⟩
    · simp at h0
      have hz : ∀ a : Addr, a.add 0 = a := fun a => by unfold Addr.add; simp
      have e0 : (a.add (0 * 32)).add 0 = a := by rw [Nat.zero_mul, hz, hz]
      obtain ⟨v00, h00⟩ : ∃ v, w.cell? ((a.add (0 * 32)).add 0) = some v := ⟨_, (hO 0 h0).2 0 (by have := (hO 0 h0).1; omega)⟩
      rw [e0] at h00
      have hspot : a.spot = none := World.cell?_spot h00
      obtain ⟨b, off, spot⟩ := a
      simp at hspot
      subst hspot
      refine ⟨b, off, rfl, World.block_lt_of_cell? _ _ h00, fun j hj => ?_⟩
      simp at hj
      intro q hq
      have hl32 := (hO j hj).1
      have hq' : q < (O j).length := by simpa [ida] using hq
      have := (hO j hj).2 q hq'
      rw [add_none, add_none] at this
      simpa [ida] using this
    · obtain ⟨i, hi, rfl⟩ := List.mem_map.1 ho
      exact (hO i (List.mem_range.1 hi)).1
theorem fopn_msg {fuel : Nat} {cs : List Value} {x : DataW H × List MemPlace} (h : DataW.trod enc Try.prog w base spare held fuel 64 cs = some x) : ∃ m : MsgD, MsgIn w m ∧ cs = m.X.toList := by
  obtain ⟨xs, n, _, rfl, hl, hlen, hf⟩ := DataW.trod_struct Try.underlying64 h
  rw [cellsM] at hl
  have g0 := hf 0 _ rfl
  have g1 := hf 1 _ rfl
  have g2 := hf 2 _ rfl
  have g3 := hf 3 _ rfl
  have g4 := hf 4 _ rfl
  have g5 := hf 5 _ rfl
  have g6 := hf 6 _ rfl
  have g7 := hf 7 _ rfl
  have g8 := hf 8 _ rfl
  have g9 := hf 9 _ rfl
  clear hf h
  match xs, hlen with
  | [y0, y1, y2, y3, y4, y5, y6, y7, y8, y9], _ =>
    simp only [List.getElem?_cons_zero, List.getElem?_cons_succ, List.getElem_toArray, List.getElem_cons_zero, List.getElem_cons_succ, cellsN1, cellsID, cellsS1.1, cellsS1.2.1, cellsS1.2.2] at g0 g1 g2 g3 g4 g5 g6 g7 g8 g9
    obtain ⟨c0, c1, c2, c3, c4, c5, r, rfl⟩ : ∃ c0 c1 c2 c3 c4 c5 r, cs = c0 :: c1 :: c2 :: c3 :: c4 :: c5 :: r := by
      match cs, hl with
      | c0 :: c1 :: c2 :: c3 :: c4 :: c5 :: r, _ => exact ⟨c0, c1, c2, c3, c4, c5, r, rfl⟩
    have hr : r.length = 35 := by simpa using hl
    have hr3 : (r.drop 32).length = 3 := by rw [List.length_drop, hr]
    obtain ⟨a, b, c, he⟩ : ∃ a b c, r.drop 32 = [a, b, c] := by
      match r.drop 32, hr3 with
      | [a, b, c], _ => exact ⟨a, b, c, rfl⟩
    have e7 : r.drop 33 = [b, c] := by rw [show 33 = 32 + 1 from rfl, ← List.drop_drop, he]; rfl
    have e8 : r.drop 34 = [c] := by rw [show 34 = 32 + 2 from rfl, ← List.drop_drop, he]; rfl
    simp only [List.drop_succ_cons, List.drop_zero, List.take_succ_cons, List.take_zero, he, e7, e8] at g0 g1 g2 g3 g4 g5 g6 g7 g8 g9
    obtain ⟨k, q0, _, _⟩ := DataW.trod_int Try.underlying3 g0
    obtain ⟨n1, q1, _, _⟩ := DataW.trod_int Try.underlying3 g1
    obtain ⟨n2, q2, _, _⟩ := DataW.trod_int Try.underlying3 g2
    obtain ⟨n3, q3, _, _⟩ := DataW.trod_int Try.underlying3 g3
    obtain ⟨n4, q4, _, _⟩ := DataW.trod_int Try.underlying3 g4
    obtain ⟨n5, q5, _, _⟩ := DataW.trod_int Try.underlying3 g5
    obtain ⟨id, hid, q6⟩ := oopn_id g6
    obtain ⟨p, q7, _, hp⟩ := jopn_bytes g7
    obtain ⟨Ai, ni, ci, ids, q8, hni, hids, hie⟩ := fopn_ids g8
    obtain ⟨Al, nl, cl, ps, q9, _, _⟩ := jopn_list g9
    simp at q0 q1 q2 q3 q4 q5 q7 q8 q9
    subst q0 q1 q2 q3 q4 q5 q7 q8 q9 hni
    refine ⟨⟨k, n1, n2, n3, n4, n5, id, p.b, ids, p.a, p.c, Ai, ci, Al, nl, cl⟩, ⟨hid, hp, hids, hie⟩, ?_⟩
    have e : r = id.map bv ++ [p.v, .slice Ai ids.length ci, .slice Al nl cl] := by
      rw [← List.take_append_drop 32 r, he, q6]
    rw [e]
    rfl
theorem fopn_msgs {fuel : Nat} {cs : List Value} {x : DataW H × List MemPlace} (h : DataW.trod enc Try.prog w base spare held fuel 53 cs = some x) :
    ∃ A n c, ∃ l : List MsgD, cs = [.slice A n c] ∧ l.length = n ∧ MsgsIn w A l := by
  rcases Go.Deep.open_slice Try.underlying53 h with ⟨rfl, _⟩ | ⟨a, len, cap, m, n, D, Pl, rfl, _, hl, hm, hmm, _, hx⟩
  · exact ⟨none, 0, 0, [], rfl, rfl, fun h => by simp at h, by simp⟩
  · have hlm : len ≤ m := by rw [hmm]; split <;> omega
    rw [cellsM] at hx
    have hb : ∀ i, i < len → ∃ v : MsgD, MsgIn w v ∧ ∀ j (h : j < v.X.size), w.cell? ((a.add (i * 41)).add j) = some v.X[j] := fun i hi => by
      obtain ⟨cs', hc, ht⟩ := hx i (by omega)
      obtain ⟨v, hv, rfl⟩ := fopn_msg ht
      obtain ⟨_, _, hcell⟩ := World.cells?_some hc
      refine ⟨v, hv, fun j hj => ?_⟩
      have hz : v.X.size = 41 := mc_size hv.1
      have := hcell j (by omega)
      rw [this]
      simp [Array.getElem?_eq_getElem hj]
    obtain ⟨O, hO⟩ := @Go.Deep.choose_lt MsgD ⟨⟨0, 0, 0, 0, 0, 0, [], [], [], none, 0, none, 0, none, 0, 0⟩⟩ len _ hb
    refine ⟨some a, len, cap, (List.range len).map O, rfl, by simp, fun h0 => ?_, fun o ho => ?_⟩
    · simp at h0
      have hz : ∀ a : Addr, a.add 0 = a := fun a => by unfold Addr.add; simp
      have e0 : (a.add (0 * 41)).add 0 = a := by rw [Nat.zero_mul, hz, hz]
      obtain ⟨v00, h00⟩ : ∃ v, w.cell? ((a.add (0 * 41)).add 0) = some v := ⟨_, (hO 0 h0).2 0 (by have : (O 0).X.size = 41 := mc_size (hO 0 h0).1.1; omega)⟩
      rw [e0] at h00
      have hspot : a.spot = none := World.cell?_spot h00
      obtain ⟨b, off, spot⟩ := a
      simp at hspot
      subst hspot
      refine ⟨b, off, rfl, World.block_lt_of_cell? _ _ h00, fun j hj => ?_⟩
      simp at hj
      intro q hq
      have hq' : q < (O j).X.size := by simpa using hq
      have := (hO j hj).2 q hq'
      rw [add_none, add_none] at this
      simpa using this
    · obtain ⟨i, hi, rfl⟩ := List.mem_map.1 ho
      exact (hO i (List.mem_range.1 hi)).1
theorem fopn_cut {fuel : Nat} {cs : List Value} {x : DataW H × List MemPlace} (h : DataW.trod enc Try.prog w base spare held fuel 67 cs = some x) : ∃ v : Int × Int, v.1 ≤ 9223372036854775807 ∧ cs = [.int .i64 v.1, .int .i64 v.2] := by
  obtain ⟨xs, m, _, _, hl, hx, hel⟩ := DataW.trod_array Try.underlying67 h
  rw [cellsP] at hl
  rw [cellsN1] at hel
  match cs, hl with
  | [v0, v1], _ =>
    have e0 := hel 0 (by omega)
    have e1 := hel 1 (by omega)
    rw [List.getElem?_eq_getElem (by omega)] at e0 e1
    simp only [Nat.zero_mul, Nat.one_mul, List.drop_zero, List.drop_succ_cons, List.take_succ_cons, List.take_zero] at e0 e1
    obtain ⟨a, q0, _, wa⟩ := DataW.trod_int Try.underlying3 e0
    obtain ⟨b, q1, _, wb⟩ := DataW.trod_int Try.underlying3 e1
    simp at q0 q1
    subst q0 q1
    have := bounds_i64 wa
    exact ⟨(a, b), by omega, rfl⟩
theorem fopn_cuts {fuel : Nat} {cs : List Value} {x : DataW H × List MemPlace} (h : DataW.trod enc Try.prog w base spare held fuel 54 cs = some x) :
    ∃ A n c, ∃ l : List (Int × Int), cs = [.slice A n c] ∧ l.length = n ∧ CutsIn w A l := by
  rcases Go.Deep.open_slice Try.underlying54 h with ⟨rfl, _⟩ | ⟨a, len, cap, m, n, D, Pl, rfl, _, hl, hm, hmm, _, hx⟩
  · exact ⟨none, 0, 0, [], rfl, rfl, fun h => by simp at h, by simp⟩
  · have hlm : len ≤ m := by rw [hmm]; split <;> omega
    rw [cellsP] at hx
    have hb : ∀ i, i < len → ∃ v : Int × Int, v.1 ≤ 9223372036854775807 ∧ w.cell? ((a.add (i * 2)).add 0) = some (.int .i64 v.1) ∧ w.cell? ((a.add (i * 2)).add 1) = some (.int .i64 v.2) := fun i hi => by
      obtain ⟨cs', hc, ht⟩ := hx i (by omega)
      obtain ⟨v, hv, rfl⟩ := fopn_cut ht
      obtain ⟨_, _, hcell⟩ := World.cells?_some hc
      exact ⟨v, hv, by rw [hcell 0 (by omega)]; rfl, by rw [hcell 1 (by omega)]; rfl⟩
    obtain ⟨O, hO⟩ := @Go.Deep.choose_lt (Int × Int) ⟨(0, 0)⟩ len _ hb
    refine ⟨some a, len, cap, (List.range len).map O, rfl, by simp, fun h0 => ?_, fun o ho => ?_⟩
    · simp at h0
      have hz : ∀ a : Addr, a.add 0 = a := fun a => by unfold Addr.add; simp
      have e0 : (a.add (0 * 2)).add 0 = a := by rw [Nat.zero_mul, hz, hz]
      obtain ⟨v00, h00⟩ : ∃ v, w.cell? ((a.add (0 * 2)).add 0) = some v := ⟨_, (hO 0 h0).2.1⟩
      rw [e0] at h00
      have hspot : a.spot = none := World.cell?_spot h00
      obtain ⟨b, off, spot⟩ := a
      simp at hspot
      subst hspot
      refine ⟨b, off, rfl, World.block_lt_of_cell? _ _ h00, fun j hj => ?_⟩
      simp at hj
      have t0 := (hO j hj).2.1
      have t1 := (hO j hj).2.2
      rw [add_none, add_none] at t0 t1
      simp only [List.getElem_map, List.getElem_range]
      exact ⟨t0, t1⟩
    · obtain ⟨i, hi, rfl⟩ := List.mem_map.1 ho
      exact (hO i (List.mem_range.1 hi)).1
end
end Go.Proofs.Ytefalfalapnllaa
