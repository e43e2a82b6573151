/- What an argument that can be read as data holds: a sum; a slice of bytes, with how long it may be. -/
import Derived.Test.YtefalfalapnllaaArm
import Derived.ProofKit
import Derived.OpenShut
import Derived.ShutString
import Derived.ChangeOld
import Derived.Below
import Derived.SizedLaws
import Derived.Deep.Slices
import Derived.Lib.SmallJoins
namespace Go.Proofs.Ytefalfalapnllaa
open Go.ChangeShapes Go.WideShapes Go.ChangeAt Go.RowKit Go.Joins
set_option linter.unusedVariables false
set_option maxRecDepth 20000

theorem bvo_of (z : Int) (h : (Lit.int .u8 z).wf = true) : bv (UInt8.ofNat z.toNat) = .int .u8 z := by
  have hb := bounds_u8 h
  unfold bv
  have : ((UInt8.ofNat z.toNat).toNat : Int) = z := by
    rw [UInt8.toNat_ofNat']
    omega
  rw [this]
theorem cellsID : Try.prog.cellsOf 60 = 32 := by kernel_rfl
theorem cellsU8 : Try.prog.cellsOf 5 = 1 := by kernel_rfl
theorem bytesU8 : Try.prog.bytesOf 5 = 1 := by kernel_rfl
section
variable {H : Type} {enc : TypeId × Value → H} {w : World} {base : Nat} {spare : Nat → Bool} {held : Bool}
theorem obytes_of {m : Nat} {xs : List (DataW H × List MemPlace)} (cs : List Value) (n : Nat) (hc : cs.length = n) (hx : xs.length = n)
    (h : ∀ i, i < n → DataW.trod enc Try.prog w base spare held m 5 ((cs.drop (i * 1)).take 1) = xs[i]?) : ∃ l : List UInt8, l.length = n ∧ cs = l.map bv := by
  have each : ∀ i, i < n → ∃ b : UInt8, cs[i]? = some (bv b) := fun i hi => by
    have h1 := h i hi
    rw [List.getElem?_eq_getElem (by omega)] at h1
    obtain ⟨z, e, _, wz⟩ := DataW.trod_int Try.underlying5 h1
    refine ⟨UInt8.ofNat z.toNat, ?_⟩
    rw [Nat.mul_one, List.drop_eq_getElem_cons (by omega), List.take_succ_cons, List.take_zero] at e
    simp at e
    rw [List.getElem?_eq_getElem (by omega), e, bvo_of _ wz]
  obtain ⟨f, hf⟩ := @Go.Deep.choose_lt UInt8 ⟨0⟩ n _ each
  refine ⟨(List.range n).map f, by simp, ?_⟩
  apply List.ext_getElem?
  intro i
  by_cases hi : i < n
  · rw [hf i hi]
    simp [hi]
  · rw [List.getElem?_eq_none (by omega), List.getElem?_eq_none (by simp; omega)]
theorem oopn_id {fuel : Nat} {cs : List Value} {x : DataW H × List MemPlace} (h : DataW.trod enc Try.prog w base spare held fuel 60 cs = some x) : ∃ l : List UInt8, l.length = 32 ∧ cs = l.map bv := by
  obtain ⟨xs, m, _, _, hl, hx, hel⟩ := DataW.trod_array underID h
  rw [cellsID] at hl
  rw [cellsU8] at hel
  exact obytes_of cs 32 hl hx hel
theorem oopn_bytes {fuel : Nat} {cs : List Value} {d : DataW H} {pl : List MemPlace} (h : DataW.trod enc Try.prog w base spare held fuel 22 cs = some (d, pl)) :
    ∃ A n c, ∃ l : List UInt8, cs = [.slice A n c] ∧ l.length = n ∧ Rd w A (l.map bv) ∧ (n = 0 ∨ ∃ es sp, d = .slice es sp ∧ es.length = n) := by
  rcases open_ints Try.underlying22 Try.underlying5 (by kernel_rfl) h with ⟨rfl, _⟩ | ⟨a, len, cap, zs, rfl, _, hl, hm, hz, hxx, hcell, hwz⟩
  · exact ⟨none, 0, 0, [], rfl, rfl, Rd.nil, .inl rfl⟩
  · have hzl : len ≤ zs.length := by rw [hz]; split <;> omega
    injection hxx with hd _
    refine ⟨some a, len, cap, (zs.take len).map fun z => UInt8.ofNat z.toNat, rfl, by simp; omega, ?_, .inr ⟨_, _, hd, by simp [lits]; omega⟩⟩
    intro h0
    simp at h0
    have h00 : 0 < zs.length := by omega
    have hspot : a.spot = none := by
      have := hcell 0 h00
      have h2 : a.add 0 = a := by unfold Addr.add; simp
      rw [h2] at this
      exact World.cell?_spot this
    obtain ⟨b, off, spot⟩ := a
    simp at hspot
    subst hspot
    have hadd : ∀ j, (⟨b, off, none⟩ : Addr).add j = ⟨b, off + j, none⟩ := fun j => add_none b off j
    refine ⟨b, off, rfl, ?_, fun j hj => ?_⟩
    · have := hcell 0 h00
      rw [hadd] at this
      exact World.block_lt_of_cell? _ _ this
    · simp at hj
      have hjz : j < zs.length := by omega
      have := hcell j hjz
      rw [hadd] at this
      rw [this]
      simp only [List.getElem_map, List.getElem_take]
      rw [bvo_of _ (hwz _ (List.getElem_mem hjz))]
      simp [List.getD_eq_getElem?_getD, List.getElem?_eq_getElem hjz]
/-- an array by value -/
theorem oWide_arr {t : TypeId} {n : Nat} {e : TypeId} {v : Value} {r : Reach} {b0 : Nat} (ht : Try.prog.underlying t = some (.array n e)) (h : Value.okWide Try.prog w r b0 t v) : ∃ cs, v = .agg cs ∧ cs.size = Try.prog.cellsOf t := by
  simp only [Value.okWide, ht] at h
  obtain ⟨cs, h1, h2, _⟩ := h
  exact ⟨cs, h1, h2⟩
/-- how long bytes may be that were read -/
theorem obytes_le {ts : List TypeId} {ds : List (DataW H)} (h : (DataW.weightsEach Try.prog ts ds).all (· ≤ reachBytes) = true) {j n : Nat} {d : DataW H} (ht : ts[j]? = some 22) (hd : ds[j]? = some d) (hn : n = 0 ∨ ∃ es sp, d = .slice es sp ∧ es.length = n) : n ≤ 140737488351232 := by
  rcases hn with h0 | ⟨es, sp, rfl, hl⟩
  · omega
  · have := sized_slice h ht hd Try.underlying22
    rw [bytesU8] at this
    simp only [reachBytes] at this
    omega
end
end Go.Proofs.Ytefalfalapnllaa
