/- A list of slices of bytes that was read. -/
import Derived.Test.YtefalfalapnllaaJrnK
import Derived.ProofKit
import Derived.OpenShut
import Derived.ShutString
import Derived.ChangeOld
import Derived.Below
import Derived.Deep.Slices
import Derived.Lib.SmallJoins
namespace Go.Proofs.Ytefalfalapnllaa
open Go.ChangeShapes Go.WideShapes Go.ChangeAt Go.RowKit Go.Joins
set_option linter.unusedVariables false
set_option maxRecDepth 20000
theorem jbv_of (z : Int) (h : (Lit.int .u8 z).wf = true) : bv (UInt8.ofNat z.toNat) = .int .u8 z := by
  have hb := bounds_u8 h
  unfold bv
  have : ((UInt8.ofNat z.toNat).toNat : Int) = z := by
    rw [UInt8.toNat_ofNat']
    omega
  rw [this]
section
variable {H : Type} {enc : TypeId × Value → H} {w : World} {base : Nat} {spare : Nat → Bool} {held : Bool}
theorem jopn_bytes {fuel : Nat} {cs : List Value} {x : DataW H × List MemPlace} (h : DataW.trod enc Try.prog w base spare held fuel 22 cs = some x) :
    ∃ p : Part, cs = [p.v] ∧ p.b.length ≤ 9223372036854775807 ∧ Rd w p.a (p.b.map bv) := by
  rcases open_ints Try.underlying22 Try.underlying5 (by kernel_rfl) h with ⟨rfl, _⟩ | ⟨a, len, cap, zs, rfl, _, hl, hm, hz, _, hcell, hwz⟩
  · exact ⟨⟨none, 0, []⟩, rfl, by simp, Rd.nil⟩
  · have hzl : len ≤ zs.length := by rw [hz]; split <;> omega
    refine ⟨⟨some a, cap, (zs.take len).map fun z => UInt8.ofNat z.toNat⟩, by simp [Part.v]; omega, by simp only [maxLen] at hm; simp; omega, ?_⟩
    intro h0
    simp at h0
    have h00 : 0 < zs.length := by omega
    have hspot : a.spot = none := by
      have := hcell 0 h00
      have h2 : a.add 0 = a := by unfold Addr.add; simp
      rw [h2] at this
      exact World.cell?_spot this
    obtain ⟨b, off, spot⟩ := a
    simp at hspot
    subst hspot
    have hadd : ∀ j, (⟨b, off, none⟩ : Addr).add j = ⟨b, off + j, none⟩ := fun j => add_none b off j
    refine ⟨b, off, rfl, ?_, fun j hj => ?_⟩
    · have := hcell 0 h00
      rw [hadd] at this
      exact World.block_lt_of_cell? _ _ this
    · simp at hj
      have hjz : j < zs.length := by omega
      have := hcell j hjz
      rw [hadd] at this
      rw [this]
      simp only [List.getElem_map, List.getElem_take]
      rw [jbv_of _ (hwz _ (List.getElem_mem hjz))]
      simp [List.getD_eq_getElem?_getD, List.getElem?_eq_getElem hjz]
theorem jopn_list {fuel : Nat} {cs : List Value} {x : DataW H × List MemPlace} (h : DataW.trod enc Try.prog w base spare held fuel 62 cs = some x) :
    ∃ A n c, ∃ ps : List Part, cs = [.slice A n c] ∧ ps.length = n ∧ ListIn w A ps := by
  rcases Go.Deep.open_slice1 Try.underlying62 (by kernel_rfl) h with ⟨rfl, _⟩ | ⟨a, len, cap, m, n, V, D, Pl, rfl, _, hl, hm, hmm, _, hx⟩
  · exact ⟨none, 0, 0, [], rfl, rfl, ⟨⟨Rd.nil, by simp⟩, by simp, by simp⟩⟩
  · have hlm : len ≤ m := by rw [hmm]; split <;> omega
    have hb : ∀ i, i < m → ∃ p : Part, V i = p.v ∧ p.b.length ≤ 9223372036854775807 ∧ Rd w p.a (p.b.map bv) := fun i hi => by
      obtain ⟨p, hp, h1, h2⟩ := jopn_bytes (hx i hi).2
      exact ⟨p, by simpa using hp, h1, h2⟩
    obtain ⟨B, hB⟩ := @Go.Deep.choose_lt Part ⟨⟨none, 0, []⟩⟩ m _ hb
    have hmem : ∀ p ∈ (List.range len).map B, p.b.length ≤ 9223372036854775807 ∧ Rd w p.a (p.b.map bv) := fun p hp => by
      obtain ⟨i, hi, rfl⟩ := List.mem_map.1 hp
      exact (hB i (by have := List.mem_range.1 hi; omega)).2
    refine ⟨some a, len, cap, (List.range len).map B, rfl, by simp, ⟨⟨?_, fun p hp => (hmem p hp).2⟩, fun p hp => (hmem p hp).1, by simp only [maxLen] at hm; simp; omega⟩⟩
    intro h0
    simp at h0
    have hspot : a.spot = none := by
      have := (hx 0 (by omega)).1
      have h2 : a.add 0 = a := by unfold Addr.add; simp
      rw [h2] at this
      exact World.cell?_spot this
    obtain ⟨b, off, spot⟩ := a
    simp at hspot
    subst hspot
    refine ⟨b, off, rfl, ?_, fun j hj => ?_⟩
    · have := (hx 0 (by omega)).1
      rw [add_none] at this
      exact World.block_lt_of_cell? _ _ this
    · simp at hj
      have := (hx j (by omega)).1
      rw [add_none] at this
      rw [this, (hB j (by omega)).1]
      simp
end
end Go.Proofs.Ytefalfalapnllaa
