/- What is sure stays sure; there is never less: plain. -/
import Derived.Test.YtepmlmfacpbhkaaROrdP
namespace Go.Proofs.YtepmlmfacpbhkaaR.Cnt
set_option linter.unusedVariables false

/-- a table that holds what the other holds, and perhaps more -/
def Ge (V V' : Tab) : Prop := ∀ r k w x, V r k w = some x → V' r k w = some x
theorem putOf_ge (n : Nat) (V : Tab) (v : Vote) : Ge V (putOf n V v) := by
  intro r k w x h
  by_cases hv : right n v.r v.k v.w = false ∨ v.id = z
  · rw [putOf_bad hv]; exact h
  · rw [putOf_good hv]
    split
    · exact h
    · rename_i hn
      by_cases he : r = v.r.toNat ∧ k = v.k.toNat ∧ w = v.w.toNat
      · obtain ⟨rfl, rfl, rfl⟩ := he
        rw [h] at hn
        simp at hn
      · rw [put_other he]; exact h
theorem forN_mono {n : Nat} {V V' : Tab} (h : Ge V V') (r k : Int) (x : Vid) : forN (castsAt n V r k) x ≤ forN (castsAt n V' r k) x := by
  unfold castsAt
  split
  · rw [forN_count, forN_count]
    refine List.countP_mono_left fun w _ hw => ?_
    simp only [beq_iff_eq] at hw ⊢
    exact h _ _ _ _ hw
  · exact Nat.le_refl _
theorem len_mono {n : Nat} {V V' : Tab} (h : Ge V V') (r k : Int) : (castsAt n V r k).length ≤ (castsAt n V' r k).length := by
  unfold castsAt
  split
  · rw [casts_count, casts_count]
    refine List.countP_mono_left fun w _ hw => ?_
    obtain ⟨y, hy⟩ := Option.isSome_iff_exists.1 hw
    rw [h _ _ _ _ hy]
    rfl
  · exact Nat.le_refl _
theorem len_le (n : Nat) (V : Tab) (r k : Int) : (castsAt n V r k).length ≤ n := by
  unfold castsAt
  split
  · unfold casts; exact Nat.le_trans (List.length_filterMap_le _ _) (by simp)
  · simp
theorem sure_stays {n : Nat} (hn : n = 1 ∨ n = 4 ∨ n = 7) {V V' : Tab} (h : Ge V V') {r k : Int} {x : Vid} (hs : sure n V r k = some x) : sure n V' r k = some x := by
  have h1 := sure_need' hs
  have h2 := forN_mono (n := n) h r k x
  exact sure_of hn (by omega)
end Go.Proofs.YtepmlmfacpbhkaaR.Cnt
