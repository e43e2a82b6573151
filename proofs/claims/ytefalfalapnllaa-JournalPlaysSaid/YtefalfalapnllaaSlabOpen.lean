/- What an argument that can be read as data holds: slices of bytes and of bools. -/
import Derived.Test.YtefalfalapnllaaSlabLaws
import Derived.Deep.Slices
import Derived.Lib.SmallJoins
namespace Go.Proofs.Ytefalfalapnllaa
open Go.ChangeShapes Go.WideShapes Go.ChangeAt Go.RowKit Go.Joins
set_option linter.unusedVariables false

theorem bv_of (z : Int) (h : (Lit.int .u8 z).wf = true) : bv (UInt8.ofNat z.toNat) = .int .u8 z := by
  have hb := bounds_u8 h
  unfold bv
  have : ((UInt8.ofNat z.toNat).toNat : Int) = z := by
    rw [UInt8.toNat_ofNat']
    omega
  rw [this]

section
variable {H : Type} {enc : TypeId × Value → H} {w : World} {base : Nat} {spare : Nat → Bool} {held : Bool}

theorem opn_bytes {fuel : Nat} {cs : List Value} {x : DataW H × List MemPlace} (h : DataW.trod enc Try.prog w base spare held fuel 22 cs = some x) :
    ∃ A n c l, cs = [.slice A n c] ∧ BytesIn w A n c l := by
  rcases open_ints Try.underlying22 Try.underlying5 (by kernel_rfl) h with ⟨rfl, _⟩ | ⟨a, len, cap, zs, rfl, _, hl, hm, hz, _, hcell, hwz⟩
  · exact ⟨none, 0, 0, [], rfl, ⟨rfl, Nat.le_refl _, by simp [maxLen], Rd.nil⟩⟩
  · have hzl : len ≤ zs.length := by rw [hz]; split <;> omega
    refine ⟨some a, len, cap, (zs.take len).map fun z => UInt8.ofNat z.toNat, rfl, ⟨by simp; omega, hl, hm, ?_⟩⟩
    intro h0
    simp at h0
    have h00 : 0 < zs.length := by omega
    have hspot : a.spot = none := by
      have := hcell 0 h00
      have h2 : a.add 0 = a := by unfold Addr.add; simp
      rw [h2] at this
      exact World.cell?_spot this
    obtain ⟨b, off, spot⟩ := a
    simp at hspot
    subst hspot
    have hadd : ∀ j, (⟨b, off, none⟩ : Addr).add j = ⟨b, off + j, none⟩ := fun j => add_none b off j
    refine ⟨b, off, rfl, ?_, fun j hj => ?_⟩
    · have := hcell 0 h00
      rw [hadd] at this
      exact World.block_lt_of_cell? _ _ this
    · simp at hj
      have hjz : j < zs.length := by omega
      have := hcell j hjz
      rw [hadd] at this
      rw [this]
      simp only [List.getElem_map, List.getElem_take]
      rw [bv_of _ (hwz _ (List.getElem_mem hjz))]
      simp [List.getD_eq_getElem?_getD, List.getElem?_eq_getElem hjz]

theorem opn_bools {fuel : Nat} {cs : List Value} {x : DataW H × List MemPlace} (h : DataW.trod enc Try.prog w base spare held fuel 34 cs = some x) :
    ∃ A n c, ∃ ks : List Bool, cs = [.slice A n c] ∧ ks.length = n ∧ n ≤ c ∧ c ≤ maxLen ∧ Rd w A (ks.map Value.bool) := by
  rcases Go.Deep.open_slice1 Try.underlying34 (by kernel_rfl) h with ⟨rfl, _⟩ | ⟨a, len, cap, m, n, V, D, Pl, rfl, _, hl, hm, hmm, _, hx⟩
  · exact ⟨none, 0, 0, [], rfl, rfl, Nat.le_refl _, by simp [maxLen], Rd.nil⟩
  · have hlm : len ≤ m := by rw [hmm]; split <;> omega
    have hb : ∀ i, i < m → ∃ b, V i = .bool b := fun i hi => by
      obtain ⟨b, hb, _⟩ := DataW.trod_bool Try.underlying4 (hx i hi).2
      exact ⟨b, by simpa using hb⟩
    obtain ⟨B, hB⟩ := Go.Deep.choose_lt hb
    refine ⟨some a, len, cap, (List.range len).map B, rfl, by simp, hl, hm, ?_⟩
    intro h0
    simp at h0
    have hspot : a.spot = none := by
      have := (hx 0 (by omega)).1
      have h2 : a.add 0 = a := by unfold Addr.add; simp
      rw [h2] at this
      exact World.cell?_spot this
    obtain ⟨b, off, spot⟩ := a
    simp at hspot
    subst hspot
    refine ⟨b, off, rfl, ?_, fun j hj => ?_⟩
    · have := (hx 0 (by omega)).1
      rw [add_none] at this
      exact World.block_lt_of_cell? _ _ this
    · simp at hj
      have := (hx j (by omega)).1
      rw [add_none] at this
      rw [this, hB j (by omega)]
      simp
end
end Go.Proofs.Ytefalfalapnllaa
