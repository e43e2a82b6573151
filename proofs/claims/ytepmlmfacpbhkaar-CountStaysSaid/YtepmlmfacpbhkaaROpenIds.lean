/- What an argument that can be read as data holds: sums, slices of sums, two slices of sums. -/
import Derived.Test.YtepmlmfacpbhkaaRCntOneW
import Derived.ProofKit
import Derived.OpenShut
import Derived.ShutString
import Derived.ChangeOld
import Derived.Below
import Derived.Deep.Slices
import Derived.Lib.SmallJoins
namespace Go.Proofs.YtepmlmfacpbhkaaR
open Go.ChangeShapes Go.WideShapes Go.ChangeAt Go.RowKit Go.Joins
set_option linter.unusedVariables false
set_option maxRecDepth 20000

theorem bv_of (z : Int) (h : (Lit.int .u8 z).wf = true) : bv (UInt8.ofNat z.toNat) = .int .u8 z := by
  have hb := bounds_u8 h
  unfold bv
  have : ((UInt8.ofNat z.toNat).toNat : Int) = z := by
    rw [UInt8.toNat_ofNat']
    omega
  rw [this]
theorem cellsI : Try.prog.cellsOf 32 = 32 := by kernel_rfl
theorem cellsB : Try.prog.cellsOf 5 = 1 := by kernel_rfl
theorem cellsS : Try.prog.cellsOf 22 = 1 := by kernel_rfl
section
variable {H : Type} {enc : TypeId × Value → H} {w : World} {base : Nat} {spare : Nat → Bool} {held : Bool}
/-- bytes, out of their readings one by one -/
theorem bytes_of {m : Nat} {xs : List (DataW H × List MemPlace)} (cs : List Value) (n : Nat) (hc : cs.length = n) (hx : xs.length = n)
    (h : ∀ i, i < n → DataW.trod enc Try.prog w base spare held m 5 ((cs.drop (i * 1)).take 1) = xs[i]?) : ∃ l : List UInt8, l.length = n ∧ cs = l.map bv := by
  have each : ∀ i, i < n → ∃ b : UInt8, cs[i]? = some (bv b) := fun i hi => by
    have h1 := h i hi
    rw [List.getElem?_eq_getElem (by omega)] at h1
    obtain ⟨z, e, _, wz⟩ := DataW.trod_int Try.underlying5 h1
    refine ⟨UInt8.ofNat z.toNat, ?_⟩
    rw [Nat.mul_one, List.drop_eq_getElem_cons (by omega), List.take_succ_cons, List.take_zero] at e
    simp at e
    rw [List.getElem?_eq_getElem (by omega), e, bv_of _ wz]
  obtain ⟨f, hf⟩ := @Go.Deep.choose_lt UInt8 ⟨0⟩ n _ each
  refine ⟨(List.range n).map f, by simp, ?_⟩
  apply List.ext_getElem?
  intro i
  by_cases hi : i < n
  · rw [hf i hi]
    simp [hi]
  · rw [List.getElem?_eq_none (by omega), List.getElem?_eq_none (by simp; omega)]
theorem opn_id {fuel : Nat} {cs : List Value} {x : DataW H × List MemPlace} (h : DataW.trod enc Try.prog w base spare held fuel 32 cs = some x) : ∃ l : List UInt8, l.length = 32 ∧ cs = l.map bv := by
  obtain ⟨xs, m, _, _, hl, hx, hel⟩ := DataW.trod_array underI h
  rw [cellsI] at hl
  rw [cellsB] at hel
  exact bytes_of cs 32 hl hx hel
theorem opn_ids {fuel : Nat} {cs : List Value} {x : DataW H × List MemPlace} (h : DataW.trod enc Try.prog w base spare held fuel 22 cs = some x) :
    ∃ A n c, ∃ l : List Cnt.Vid, cs = [.slice A n c] ∧ l.length = n ∧ n ≤ maxLen ∧ IdsAt w A l := by
  rcases Go.Deep.open_slice Try.underlying22 h with ⟨rfl, _⟩ | ⟨a, len, cap, m, n, D, Pl, rfl, _, hl, hm, hmm, _, hx⟩
  · exact ⟨none, 0, 0, [], rfl, rfl, by simp, ⟨fun h => by simp at h, fun o ho => by simp at ho⟩⟩
  · have hlm : len ≤ m := by rw [hmm]; split <;> omega
    rw [cellsI] at hx
    have hb : ∀ i, i < len → ∃ l : Cnt.Vid, l.length = 32 ∧ ∀ j (h : j < l.length), w.cell? ((a.add (i * 32)).add j) = some (bv l[j]) := fun i hi => by
      obtain ⟨cs', hc, ht⟩ := hx i (by omega)
      obtain ⟨l, hll, rfl⟩ := opn_id ht
      obtain ⟨_, _, hcell⟩ := World.cells?_some hc
      refine ⟨l, hll, fun j hj => ?_⟩
      have := hcell j (by omega)
      rw [this]
      simp [List.getElem?_eq_getElem hj]
    obtain ⟨O, hO⟩ := @Go.Deep.choose_lt Cnt.Vid ⟨[]⟩ len _ hb
    refine ⟨some a, len, cap, (List.range len).map O, rfl, by simp, by omega, ⟨fun h0 => ?_, fun o ho => ?_⟩⟩
    · simp at h0
      have hz : ∀ a : Addr, a.add 0 = a := fun a => by unfold Addr.add; simp
      have e0 : (a.add (0 * 32)).add 0 = a := by rw [Nat.zero_mul, hz, hz]
      obtain ⟨v00, h00⟩ : ∃ v, w.cell? ((a.add (0 * 32)).add 0) = some v := ⟨_, (hO 0 h0).2 0 (by have := (hO 0 h0).1; omega)⟩
      rw [e0] at h00
      have hspot : a.spot = none := World.cell?_spot h00
      obtain ⟨b, off, spot⟩ := a
      simp at hspot
      subst hspot
      refine ⟨b, off, rfl, World.block_lt_of_cell? _ _ h00, fun j hj => ?_⟩
      simp at hj
      intro q hq
      have hl32 := (hO j hj).1
      have hq' : q < (O j).length := by simpa [ida] using hq
      have := (hO j hj).2 q hq'
      rw [add_none, add_none] at this
      simpa [ida] using this
    · obtain ⟨i, hi, rfl⟩ := List.mem_map.1 ho
      exact (hO i (List.mem_range.1 hi)).1
/-- an array by value -/
theorem okWide_arr {t : TypeId} {n : Nat} {e : TypeId} {v : Value} {r : Reach} {b0 : Nat} (ht : Try.prog.underlying t = some (.array n e)) (h : Value.okWide Try.prog w r b0 t v) : ∃ cs, v = .agg cs ∧ cs.size = Try.prog.cellsOf t := by
  simp only [Value.okWide, ht] at h
  obtain ⟨cs, h1, h2, _⟩ := h
  exact ⟨cs, h1, h2⟩
theorem opn_two {fuel : Nat} {cs : List Value} {x : DataW H × List MemPlace} (h : DataW.trod enc Try.prog w base spare held fuel 23 cs = some x) :
    ∃ A n c A' n' c', ∃ l l' : List Cnt.Vid, cs = [.slice A n c, .slice A' n' c'] ∧ l.length = n ∧ l'.length = n' ∧ n ≤ maxLen ∧ n' ≤ maxLen ∧ IdsAt w A l ∧ IdsAt w A' l' := by
  obtain ⟨xs, m, _, _, hl, hx, hel⟩ := DataW.trod_array Try.underlying23 h
  have hc2 : Try.prog.cellsOf 23 = 2 := by kernel_rfl
  rw [hc2] at hl
  rw [cellsS] at hel
  match cs, hl with
  | [v0, v1], _ =>
    have e0 := hel 0 (by omega)
    have e1 := hel 1 (by omega)
    rw [List.getElem?_eq_getElem (by omega)] at e0 e1
    simp only [Nat.zero_mul, Nat.one_mul, List.drop_zero, List.drop_succ_cons, List.take_succ_cons, List.take_zero] at e0 e1
    obtain ⟨A, n, c, l, q1, q2, q3, q4⟩ := opn_ids e0
    obtain ⟨A', n', c', l', p1, p2, p3, p4⟩ := opn_ids e1
    simp at q1 p1
    subst q1 p1
    exact ⟨A, n, c, A', n', c', l, l', rfl, q2, p2, q3, p3, q4, p4⟩
end
end Go.Proofs.YtepmlmfacpbhkaaR
