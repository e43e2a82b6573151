/- Package journal: the drawn region in which a record is put behind the others (in Write and in Open). -/
import Derived.Test.YtefalfalapnllaaJrnE
namespace Go.Proofs.Ytefalfalapnllaa
open Go.RowKit Go.Shelf
set_option linter.unusedVariables false
/-- which world stands, by what is done -/
def MoreAt (u0 u1 u2 u3 u4 u5 : World) (L : Array Bool) (W : World) : Prop :=
  ((L.getD 12 false = true → L.getD 9 false = true) ∧ (L.getD 9 false = true → L.getD 8 false = true) ∧ (L.getD 8 false = true → L.getD 7 false = true) ∧ (L.getD 7 false = true → L.getD 5 false = true) ∧ (L.getD 9 false = true → L.getD 4 false = true)) ∧
  W = (if L.getD 12 false = true then u5 else if L.getD 9 false = true then u4 else if L.getD 8 false = true then u3 else if L.getD 7 false = true then u2 else if L.getD 5 false = true then u1 else u0)
section
variable {u0 u1 u2 u3 u4 u5 W : World} {L : Array Bool}
theorem imp_false {a b : Bool} (h : a = true → b = true) (hb : b = false) : a = false := by
  cases a with
  | false => rfl
  | true => rw [h rfl] at hb; cases hb
theorem MoreAt.start (h : MoreAt u0 u1 u2 u3 u4 u5 (Array.replicate 13 false) u0) : True := trivial
theorem MoreAt.zero (u0 u1 u2 u3 u4 u5 : World) : MoreAt u0 u1 u2 u3 u4 u5 (Array.replicate 13 false) u0 :=
  ⟨⟨fun h => by simp at h, fun h => by simp at h, fun h => by simp at h, fun h => by simp at h, fun h => by simp at h⟩, by simp⟩
theorem MoreAt.list (h : MoreAt u0 u1 u2 u3 u4 u5 L W) (i : Nat) (h5 : i ≠ 5) (h7 : i ≠ 7) (h8 : i ≠ 8) (h9 : i ≠ 9) (h12 : i ≠ 12) : MoreAt u0 u1 u2 u3 u4 u5 (L.setIfInBounds i true) W := by
  unfold MoreAt at h ⊢
  rw [getD_set_ne false h5, getD_set_ne false h7, getD_set_ne false h8, getD_set_ne false h9, getD_set_ne false h12]
  exact ⟨⟨h.1.1, h.1.2.1, h.1.2.2.1, h.1.2.2.2.1, fun x => getD_mono (h.1.2.2.2.2 x)⟩, h.2⟩
theorem MoreAt.early (h : MoreAt u0 u1 u2 u3 u4 u5 L W) (h4 : L.getD 4 false = false) (n1 : New u0 u1) (n2 : New u0 u2) (n3 : New u0 u3) : New u0 W := by
  have h9 := imp_false h.1.2.2.2.2 h4
  have h12 := imp_false h.1.1 h9
  have h2 := h.2
  rw [h12, if_neg (by decide), h9, if_neg (by decide)] at h2
  split at h2
  · rw [h2]; exact n3
  · split at h2
    · rw [h2]; exact n2
    · split at h2
      · rw [h2]; exact n1
      · rw [h2]; exact Fr.refl _ _
theorem MoreAt.at5 (h : MoreAt u0 u1 u2 u3 u4 u5 L W) (hz : L.size = 13) (h5 : L.getD 5 false = false) : W = u0 ∧ MoreAt u0 u1 u2 u3 u4 u5 (L.setIfInBounds 5 true) u1 := by
  have h7 := imp_false h.1.2.2.2.1 h5
  have h8 := imp_false h.1.2.2.1 h7
  have h9 := imp_false h.1.2.1 h8
  have h12 := imp_false h.1.1 h9
  have h2 := h.2
  rw [h12, h9, h8, h7, h5] at h2
  refine ⟨h2, ?_⟩
  unfold MoreAt
  rw [getD_set_ne false (show 5 ≠ 12 by decide), getD_set_ne false (show 5 ≠ 9 by decide), getD_set_ne false (show 5 ≠ 8 by decide), getD_set_ne false (show 5 ≠ 7 by decide), getD_set_self (by rw [hz]; decide), h12, h9, h8, h7]
  refine ⟨⟨fun x => (by cases x), fun x => (by cases x), fun x => (by cases x), fun x => (by cases x), fun x => (by cases x)⟩, rfl⟩
theorem MoreAt.at7 (h : MoreAt u0 u1 u2 u3 u4 u5 L W) (hz : L.size = 13) (h7 : L.getD 7 false = false) (h5 : L.getD 5 false = true) : W = u1 ∧ MoreAt u0 u1 u2 u3 u4 u5 (L.setIfInBounds 7 true) u2 := by
  have h8 := imp_false h.1.2.2.1 h7
  have h9 := imp_false h.1.2.1 h8
  have h12 := imp_false h.1.1 h9
  have h2 := h.2
  rw [h12, h9, h8, h7, h5] at h2
  refine ⟨h2, ?_⟩
  unfold MoreAt
  rw [getD_set_ne false (show 7 ≠ 12 by decide), getD_set_ne false (show 7 ≠ 9 by decide), getD_set_ne false (show 7 ≠ 8 by decide), getD_set_ne false (show 7 ≠ 5 by decide), getD_set_self (by rw [hz]; decide), h12, h9, h8, h5]
  refine ⟨⟨fun x => (by cases x), fun x => (by cases x), fun x => (by cases x), fun _ => rfl, fun x => (by cases x)⟩, rfl⟩
theorem MoreAt.at8 (h : MoreAt u0 u1 u2 u3 u4 u5 L W) (hz : L.size = 13) (h8 : L.getD 8 false = false) (h7 : L.getD 7 false = true) : W = u2 ∧ MoreAt u0 u1 u2 u3 u4 u5 (L.setIfInBounds 8 true) u3 := by
  have h9 := imp_false h.1.2.1 h8
  have h12 := imp_false h.1.1 h9
  have h5 := h.1.2.2.2.1 h7
  have h2 := h.2
  rw [h12, h9, h8, h7] at h2
  refine ⟨h2, ?_⟩
  unfold MoreAt
  rw [getD_set_ne false (show 8 ≠ 12 by decide), getD_set_ne false (show 8 ≠ 9 by decide), getD_set_ne false (show 8 ≠ 7 by decide), getD_set_ne false (show 8 ≠ 5 by decide), getD_set_self (by rw [hz]; decide), h12, h9, h7, h5]
  refine ⟨⟨fun x => (by cases x), fun x => (by cases x), fun _ => rfl, fun _ => rfl, fun x => (by cases x)⟩, rfl⟩
theorem MoreAt.at9 (h : MoreAt u0 u1 u2 u3 u4 u5 L W) (hz : L.size = 13) (h9 : L.getD 9 false = false) (h8 : L.getD 8 false = true) (h4 : L.getD 4 false = true) : W = u3 ∧ MoreAt u0 u1 u2 u3 u4 u5 (L.setIfInBounds 9 true) u4 := by
  have h12 := imp_false h.1.1 h9
  have h7 := h.1.2.2.1 h8
  have h5 := h.1.2.2.2.1 h7
  have h2 := h.2
  rw [h12, h9, h8] at h2
  refine ⟨h2, ?_⟩
  unfold MoreAt
  rw [getD_set_ne false (show 9 ≠ 12 by decide), getD_set_ne false (show 9 ≠ 8 by decide), getD_set_ne false (show 9 ≠ 7 by decide), getD_set_ne false (show 9 ≠ 5 by decide), getD_set_ne false (show 9 ≠ 4 by decide), getD_set_self (by rw [hz]; decide), h12, h8, h7, h5, h4]
  refine ⟨⟨fun x => (by cases x), fun _ => rfl, fun _ => rfl, fun _ => rfl, fun _ => rfl⟩, rfl⟩
theorem MoreAt.at12 (h : MoreAt u0 u1 u2 u3 u4 u5 L W) (hz : L.size = 13) (h12 : L.getD 12 false = false) (h9 : L.getD 9 false = true) : W = u4 ∧ MoreAt u0 u1 u2 u3 u4 u5 (L.setIfInBounds 12 true) u5 := by
  have h8 := h.1.2.1 h9
  have h7 := h.1.2.2.1 h8
  have h5 := h.1.2.2.2.1 h7
  have h4 := h.1.2.2.2.2 h9
  have h2 := h.2
  rw [h12, h9] at h2
  refine ⟨h2, ?_⟩
  unfold MoreAt
  rw [getD_set_ne false (show 12 ≠ 9 by decide), getD_set_ne false (show 12 ≠ 8 by decide), getD_set_ne false (show 12 ≠ 7 by decide), getD_set_ne false (show 12 ≠ 5 by decide), getD_set_ne false (show 12 ≠ 4 by decide), getD_set_self (by rw [hz]; decide), h9, h8, h7, h5, h4]
  refine ⟨⟨fun _ => rfl, fun _ => rfl, fun _ => rfl, fun _ => rfl, fun _ => rfl⟩, rfl⟩
theorem MoreAt.last (h : MoreAt u0 u1 u2 u3 u4 u5 L W) (hz : L.size = 13) (hal : ∀ i, L.getD i true = true) : W = u5 := by
  have h12 : L.getD 12 false = true := by
    have := hal 12
    rw [Array.getD_eq_getD_getElem?] at this ⊢
    rw [Array.getElem?_eq_getElem (by rw [hz]; decide)] at this ⊢
    exact this
  have h2 := h.2
  rw [h12, if_pos rfl] at h2
  exact h2
end
end Go.Proofs.Ytefalfalapnllaa
