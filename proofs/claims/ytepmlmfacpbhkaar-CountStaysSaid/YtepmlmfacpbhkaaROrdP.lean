/- Votes of unlike voters count the same in whatever order they come: plain. -/
import Derived.Test.YtepmlmfacpbhkaaRRef13P
namespace Go.Proofs.YtepmlmfacpbhkaaR.Cnt
set_option linter.unusedVariables false

def putOf (n : Nat) (V : Tab) (v : Vote) : Tab := (put n V v.r v.k v.w v.id).1
def puts (n : Nat) (V : Tab) (l : List Vote) : Tab := l.foldl (putOf n) V
def Unlike (u v : Vote) : Prop := ¬ (u.r = v.r ∧ u.k = v.k ∧ u.w = v.w)
theorem putOf_bad {n : Nat} {V : Tab} {v : Vote} (h : right n v.r v.k v.w = false ∨ v.id = z) : putOf n V v = V := by
  unfold putOf put
  rw [if_pos h]
theorem putOf_good {n : Nat} {V : Tab} {v : Vote} (h : ¬ (right n v.r v.k v.w = false ∨ v.id = z)) : putOf n V v = if (V v.r.toNat v.k.toNat v.w.toNat).isSome then V else V.put v.r.toNat v.k.toNat v.w.toNat v.id := by
  unfold putOf put
  rw [if_neg h]
  split <;> rfl
theorem put_other {V : Tab} {r k w r' k' w' : Nat} {x : Vid} (h : ¬ (r' = r ∧ k' = k ∧ w' = w)) : V.put r k w x r' k' w' = V r' k' w' := by
  unfold Tab.put
  rw [if_neg h]
theorem put_comm {V : Tab} {r k w r' k' w' : Nat} {x y : Vid} (h : ¬ (r' = r ∧ k' = k ∧ w' = w)) : (V.put r k w x).put r' k' w' y = (V.put r' k' w' y).put r k w x := by
  funext a b c
  unfold Tab.put
  by_cases h1 : a = r' ∧ b = k' ∧ c = w'
  · rw [if_pos h1]
    have h2 : ¬ (a = r ∧ b = k ∧ c = w) := fun h2 => h ⟨h1.1 ▸ h2.1, h1.2.1 ▸ h2.2.1, h1.2.2 ▸ h2.2.2⟩
    rw [if_neg h2, if_pos h1]
  · rw [if_neg h1]
    by_cases h2 : a = r ∧ b = k ∧ c = w
    · rw [if_pos h2, if_pos h2]
    · rw [if_neg h2, if_neg h2, if_neg h1]
theorem putOf_comm {n : Nat} (V : Tab) {u v : Vote} (h : Unlike u v) : putOf n (putOf n V u) v = putOf n (putOf n V v) u := by
  by_cases hu : right n u.r u.k u.w = false ∨ u.id = z
  · rw [putOf_bad hu, putOf_bad hu]
  · by_cases hv : right n v.r v.k v.w = false ∨ v.id = z
    · rw [putOf_bad hv, putOf_bad hv]
    · have ru := right_spec (n := n) (by simpa using fun e => hu (.inl e) : right n u.r u.k u.w = true)
      have rv := right_spec (n := n) (by simpa using fun e => hv (.inl e) : right n v.r v.k v.w = true)
      have hne : ¬ (v.r.toNat = u.r.toNat ∧ v.k.toNat = u.k.toNat ∧ v.w.toNat = u.w.toNat) := fun ⟨a, b, c⟩ => h ⟨by omega, by omega, by omega⟩
      have hne' : ¬ (u.r.toNat = v.r.toNat ∧ u.k.toNat = v.k.toNat ∧ u.w.toNat = v.w.toNat) := fun ⟨a, b, c⟩ => h ⟨by omega, by omega, by omega⟩
      rw [putOf_good hu, putOf_good hv, putOf_good hv, putOf_good hu]
      cases h1 : (V u.r.toNat u.k.toNat u.w.toNat).isSome <;> cases h2 : (V v.r.toNat v.k.toNat v.w.toNat).isSome <;> simp [h1, h2, put_other hne, put_other hne', put_comm hne]
theorem puts_perm {n : Nat} {V : Tab} {l l' : List Vote} (hp : l.Perm l') (h : l.Pairwise Unlike) : puts n V l = puts n V l' := by
  unfold puts
  refine hp.foldl_eq' (fun x hx y hy z => ?_) V
  obtain ⟨i, hi, rfl⟩ := List.mem_iff_getElem.1 hx
  obtain ⟨j, hj, rfl⟩ := List.mem_iff_getElem.1 hy
  have hg := List.pairwise_iff_getElem.1 h
  by_cases h1 : i < j
  · exact putOf_comm z (hg i j hi hj h1)
  · by_cases h2 : j < i
    · exact (putOf_comm z (hg j i hj hi h2)).symm
    · obtain rfl : i = j := by omega
      rfl
theorem puts_turn {n : Nat} {V : Tab} {l : List Vote} (h : l.Pairwise Unlike) (t : Nat) : puts n V (l.drop t ++ l.take t) = puts n V l := by
  refine (puts_perm ?_ h).symm
  refine List.Perm.trans ?_ List.perm_append_comm
  rw [List.take_append_drop]
theorem puts_snoc {n : Nat} {V : Tab} {l : List Vote} {j : Nat} (h : j < l.length) : puts n V (l.take (j + 1)) = putOf n (puts n V (l.take j)) l[j] := by
  unfold puts
  rw [List.take_succ_eq_append_getElem h, List.foldl_append]
  rfl
theorem unlike_snoc {l : List Vote} {v : Vote} {ks : List (Int × Int × Int)} (h : l.Pairwise Unlike) (hk : ∀ u ∈ l, (u.r, u.k, u.w) ∈ ks) (hv : (v.r, v.k, v.w) ∉ ks) : (l ++ [v]).Pairwise Unlike := by
  refine List.pairwise_append.2 ⟨h, List.pairwise_singleton _ _, fun a ha b hb => ?_⟩
  rw [List.mem_singleton.1 hb]
  rintro ⟨e1, e2, e3⟩
  have := hk a ha
  rw [e1, e2, e3] at this
  exact hv this
end Go.Proofs.YtepmlmfacpbhkaaR.Cnt
