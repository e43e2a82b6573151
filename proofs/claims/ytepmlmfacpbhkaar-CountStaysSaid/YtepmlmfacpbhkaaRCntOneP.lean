/- No two are sure, plain: of two counts of a round in which those who aren't faulty voted alike. -/
import Derived.Test.YtepmlmfacpbhkaaRCntI
namespace Go.Proofs.YtepmlmfacpbhkaaR.Cnt
set_option linter.unusedVariables false

/-- who is heard: a vote that is not the zero sum -/
def heard (F : Nat → Option Vid) (v : Nat) : Option Vid := match F v with | none => none | some x => if x = z then none else some x
theorem heard_none {F : Nat → Option Vid} {v : Nat} (h : F v = none) : heard F v = none := by unfold heard; rw [h]
theorem heard_z {F : Nat → Option Vid} {v : Nat} (h : F v = some z) : heard F v = none := by unfold heard; rw [h]; simp
theorem heard_some {F : Nat → Option Vid} {v : Nat} {x : Vid} (h : F v = some x) (hx : x ≠ z) : heard F v = some x := by unfold heard; rw [h]; simp [hx]
theorem filterMap_same {α β : Type} {f g : α → Option β} : ∀ l : List α, (∀ v ∈ l, f v = g v) → l.filterMap f = l.filterMap g
  | [], _ => rfl
  | a :: l, h => by
    rw [List.filterMap_cons, List.filterMap_cons, h a (List.mem_cons_self ..), filterMap_same l fun v hv => h v (List.mem_cons_of_mem _ hv)]
/-- the first j voters' votes, in the first round -/
def tabOf (j : Nat) (F : Nat → Option Vid) : Tab := fun r k v => if r = 0 ∧ k = 0 ∧ v < j then heard F v else none
theorem tabOf_0 (F : Nat → Option Vid) : tabOf 0 F = empty := by funext r k v; simp [tabOf, empty]
theorem tabOf_none (j : Nat) (F : Nat → Option Vid) (h : F j = none) : tabOf (j + 1) F = tabOf j F := by
  funext r k v
  unfold tabOf
  by_cases hr : r = 0 ∧ k = 0
  · obtain ⟨rfl, rfl⟩ := hr
    by_cases hv : v = j
    · subst hv
      simp [heard_none h]
    · by_cases hv2 : v < j
      · simp [hv2, show v < j + 1 by omega]
      · simp [hv2, show ¬ v < j + 1 by omega]
  · have a2 : ¬ (r = 0 ∧ k = 0 ∧ v < j) := fun h => hr ⟨h.1, h.2.1⟩
    have a3 : ¬ (r = 0 ∧ k = 0 ∧ v < j + 1) := fun h => hr ⟨h.1, h.2.1⟩
    rw [if_neg a2, if_neg a3]
theorem tabOf_some (n j : Nat) (F : Nat → Option Vid) (x : Vid) (h : F j = some x) (hj : j < n) : (put n (tabOf j F) 0 0 j x).1 = tabOf (j + 1) F := by
  have h1 : right n 0 0 j = true := by simp [right]; omega
  have e0 : (0 : Int).toNat = 0 := rfl
  unfold put
  by_cases hx : x = z
  · rw [if_pos (.inr hx)]
    show tabOf j F = tabOf (j + 1) F
    funext r k v
    unfold tabOf
    by_cases hr : r = 0 ∧ k = 0
    · obtain ⟨rfl, rfl⟩ := hr
      by_cases hv : v = j
      · subst hv
        simp [heard_z (hx ▸ h)]
      · by_cases hv2 : v < j
        · simp [hv2, show v < j + 1 by omega]
        · simp [hv2, show ¬ v < j + 1 by omega]
    · have a2 : ¬ (r = 0 ∧ k = 0 ∧ v < j) := fun h => hr ⟨h.1, h.2.1⟩
      have a3 : ¬ (r = 0 ∧ k = 0 ∧ v < j + 1) := fun h => hr ⟨h.1, h.2.1⟩
      rw [if_neg a2, if_neg a3]
  · have h3 : (tabOf j F 0 0 j).isSome = false := by simp [tabOf]
    rw [h1, if_neg (by simp [hx]), e0, Int.toNat_natCast, if_neg (by rw [h3]; simp)]
    funext r k v
    unfold Tab.put tabOf
    by_cases hr : r = 0 ∧ k = 0
    · obtain ⟨rfl, rfl⟩ := hr
      by_cases hv : v = j
      · subst hv
        simp [heard_some h hx]
      · by_cases hv2 : v < j
        · simp [hv, hv2, show v < j + 1 by omega]
        · simp [hv, hv2, show ¬ v < j + 1 by omega]
    · have a1 : ¬ (r = 0 ∧ k = 0 ∧ v = j) := fun h => hr ⟨h.1, h.2.1⟩
      have a2 : ¬ (r = 0 ∧ k = 0 ∧ v < j) := fun h => hr ⟨h.1, h.2.1⟩
      have a3 : ¬ (r = 0 ∧ k = 0 ∧ v < j + 1) := fun h => hr ⟨h.1, h.2.1⟩
      simp only [a1, a2, a3, if_false]
theorem forN_count (n : Nat) (G : Nat → Option Vid) (x : Vid) : forN (casts n G) x = (List.range n).countP fun v => G v == some x := by
  induction n with
  | zero => rfl
  | succ n ih =>
    rw [casts_succ, List.range_succ, List.countP_append, ← ih]
    unfold forN
    rw [List.filter_append, List.length_append]
    congr 1
    cases hg : G n with
    | none => simp [hg]
    | some y =>
      by_cases hxy : x = y
      · subst hxy
        simp [List.countP_cons, hg]
      · have h1 : (x == y) = false := by simp [hxy]
        have h2 : (y == x) = false := by simp [Ne.symm hxy]
        simp [List.countP_cons, List.filter_cons, hg, h1, h2]
theorem count_two {α : Type} (p q : α → Bool) : ∀ l : List α, l.countP p + l.countP q ≤ l.length + l.countP fun v => p v && q v
  | [] => by simp
  | a :: l => by
    have := count_two p q l
    simp only [List.countP_cons, List.length_cons]
    cases p a <;> cases q a <;> simp <;> omega
theorem count_part {α : Type} (p q : α → Bool) : ∀ l : List α, l.countP p ≤ (l.filter q).countP p + (l.filter fun v => !q v).length
  | [] => by simp
  | a :: l => by
    have := count_part p q l
    simp only [List.countP_cons, List.filter_cons]
    cases hq : q a <;> cases hp : p a <;> simp [List.countP_cons, hp] <;> omega
theorem sure_need (n : Nat) (V : Tab) (x : Vid) (h : sure n V 0 0 = some x) : need n ≤ (forN (castsAt n V 0 0) x : Int) := by
  unfold sure at h
  obtain ⟨p, hp, rfl⟩ := Option.map_eq_some_iff.1 h
  have := List.find?_some hp
  simpa using this
/-- the law -/
theorem one (n : Nat) (hn : n = 1 ∨ n = 4 ∨ n = 7) (Fa Fb : Nat → Option Vid) (hF : ∀ v : Nat, faults n ≤ v → Fa v = Fb v) (x y : Vid) (hx : sure n (tabOf n Fa) 0 0 = some x) (hy : sure n (tabOf n Fb) 0 0 = some y) : x = y := by
  have h1 := sure_need _ _ _ hx
  have h2 := sure_need _ _ _ hy
  have hr : right n 0 0 0 = true := by rcases hn with rfl | rfl | rfl <;> decide
  have e0 : (0 : Int).toNat = 0 := rfl
  have hc : ∀ F, casts n (tabOf n F 0 0) = casts n (heard F) := fun F => by
    unfold casts
    refine filterMap_same _ fun v hv => ?_
    have : v < n := List.mem_range.1 hv
    simp [tabOf, this]
  unfold castsAt at h1 h2
  rw [hr, if_pos rfl, e0, hc, forN_count] at h1 h2
  obtain ⟨f, hf, hn3⟩ : ∃ f : Nat, faults n = f ∧ n = 3 * f + 1 := by
    rcases hn with rfl | rfl | rfl
    · exact ⟨0, rfl, rfl⟩
    · exact ⟨1, rfl, rfl⟩
    · exact ⟨2, rfl, rfl⟩
  have hl1 : ((List.range n).filter fun v => !decide (f ≤ v)).length = f := by
    have : f = 0 ∨ f = 1 ∨ f = 2 := by omega
    rcases this with rfl | rfl | rfl <;> subst hn3 <;> decide
  have hl2 : ((List.range n).filter fun v => decide (f ≤ v)).length = 2 * f + 1 := by
    have : f = 0 ∨ f = 1 ∨ f = 2 := by omega
    rcases this with rfl | rfl | rfl <;> subst hn3 <;> decide
  have p1 := count_part (fun v => heard Fa v == some x) (fun v => decide (f ≤ v)) (List.range n)
  have p2 := count_part (fun v => heard Fb v == some y) (fun v => decide (f ≤ v)) (List.range n)
  have p3 := count_two (fun v => heard Fa v == some x) (fun v => heard Fb v == some y) ((List.range n).filter fun v => decide (f ≤ v))
  unfold need at h1 h2
  rw [hf] at h1 h2
  have hpos : 0 < ((List.range n).filter fun v => decide (f ≤ v)).countP fun v => (heard Fa v == some x) && (heard Fb v == some y) := by omega
  obtain ⟨v, hv, hb⟩ := List.countP_pos_iff.1 hpos
  have hfv : f ≤ v := by simpa using (List.mem_filter.1 hv).2
  simp only [Bool.and_eq_true, beq_iff_eq] at hb
  have hab : heard Fa v = heard Fb v := by unfold heard; rw [hF v (by rw [hf]; omega)]
  rw [hab, hb.2] at hb
  simpa using hb.1.symm
end Go.Proofs.YtepmlmfacpbhkaaR.Cnt
