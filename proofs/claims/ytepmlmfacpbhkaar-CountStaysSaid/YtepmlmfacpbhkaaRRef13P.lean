/- The document's answer for votes, plain: a list of votes; and that it is what the table says. -/
import Derived.Test.YtepmlmfacpbhkaaRCntOneP
namespace Go.Proofs.YtepmlmfacpbhkaaR.Cnt
set_option linter.unusedVariables false

structure Vote where
  r : Int
  k : Int
  w : Int
  id : Vid
def rfor (l : List Vote) (r k : Int) (x : Vid) : Nat := (l.filter fun v => v.r == r && v.k == k && v.id == x).length
def rall (l : List Vote) (r k : Int) : Nat := (l.filter fun v => v.r == r && v.k == k).length
def rfind (l : List Vote) (r k w : Int) : Option Vote := l.find? fun v => v.r == r && v.k == k && v.w == w
def rget (l : List Vote) (r k w : Int) : Vid := ((rfind l r k w).map (·.id)).getD z
def rsure (n : Int) (l : List Vote) (r k : Int) : Option Vid := (l.find? fun v => v.r == r && v.k == k && decide (need n ≤ (rfor l r k v.id : Int))).map (·.id)
def rput (n : Nat) (l : List Vote) (v : Vote) : List Vote × Int := if right n v.r v.k v.w = false ∨ v.id = z then (l, 1) else if rget l v.r v.k v.w ≠ z then (l, 5) else (l ++ [v], 0)
def rvoted (j : Nat) (l : List Vote) (r : Int) : Nat := ((List.range j).filter fun w : Nat => rget l r 0 w != z || rget l r 1 w != z).length
def raheadFrom (n : Nat) (l : List Vote) (round : Int) : Nat → Option Nat
  | 0 => none
  | m + 1 => if round < m then (if faults n < (rvoted n l m : Int) then some m else raheadFrom n l round m) else none
def rahead (n : Nat) (l : List Vote) (round : Int) : Option Nat := raheadFrom n l round 12

/-- the table that a list of votes makes -/
inductive Rel (n : Nat) : Tab → List Vote → Prop
  | nil : Rel n empty []
  | put {V : Tab} {l : List Vote} (v : Vote) : Rel n V l → right n v.r v.k v.w = true → v.id ≠ z → V v.r.toNat v.k.toNat v.w.toNat = none → Rel n (V.put v.r.toNat v.k.toNat v.w.toNat v.id) (l ++ [v])

theorem right_spec {n : Nat} {r k w : Int} (h : right n r k w = true) : 0 ≤ r ∧ r < 12 ∧ (k = 0 ∨ k = 1) ∧ 0 ≤ w ∧ w < n := by simpa [right] using h
theorem Rel.find {n : Nat} {V : Tab} {l : List Vote} (h : Rel n V l) : ∀ r k w, (right n r k w = true → (rfind l r k w).map (·.id) = V r.toNat k.toNat w.toNat) ∧ (right n r k w = false → rfind l r k w = none) := by
  induction h with
  | nil => exact fun r k w => ⟨fun _ => rfl, fun _ => rfl⟩
  | @put V l v hr hv hz hn ih =>
    intro r k w
    have hk := right_spec hv
    unfold rfind
    rw [List.find?_append]
    refine ⟨fun h => ?_, fun h => ?_⟩
    · have hk2 := right_spec h
      have ih1 := (ih r k w).1 h
      unfold rfind at ih1
      by_cases he : v.r = r ∧ v.k = k ∧ v.w = w
      · obtain ⟨rfl, rfl, rfl⟩ := he
        rw [hn] at ih1
        rw [Option.map_eq_none_iff.1 ih1]
        simp [Tab.put]
      · have h1 : (List.find? (fun x => x.r == r && x.k == k && x.w == w) [v]) = none := by
          simp only [List.find?_singleton]
          rw [if_neg]
          simp only [Bool.and_eq_true, beq_iff_eq]
          exact fun h => he ⟨h.1.1, h.1.2, h.2⟩
        have h2 : ¬ (r.toNat = v.r.toNat ∧ k.toNat = v.k.toNat ∧ w.toNat = v.w.toNat) := fun ⟨a, b, c⟩ => he ⟨by omega, by omega, by omega⟩
        rw [h1, Option.or_none, ih1]
        simp [Tab.put, h2]
    · have ih1 := (ih r k w).2 h
      unfold rfind at ih1
      rw [ih1, Option.none_or, List.find?_singleton, if_neg]
      simp only [Bool.and_eq_true, beq_iff_eq]
      rintro ⟨⟨rfl, rfl⟩, rfl⟩
      rw [hv] at h
      cases h
theorem Rel.get {n : Nat} {V : Tab} {l : List Vote} (h : Rel n V l) (r k w : Int) : rget l r k w = Cnt.get n V r k w := by
  unfold rget Cnt.get
  cases hr : right n r k w with
  | true => rw [(h.find r k w).1 hr]; simp
  | false => rw [(h.find r k w).2 hr]; simp
theorem count_one (n i : Nat) (p : Nat → Bool) (hi : i < n) (hp : ∀ v, p v = true → v = i) : (List.range n).countP p = if p i then 1 else 0 := by
  induction n with
  | zero => omega
  | succ n ih =>
    rw [List.range_succ, List.countP_append]
    by_cases h : i < n
    · have : p n = false := by
        cases hpn : p n with
        | false => rfl
        | true => have := hp n hpn; omega
      rw [ih h]
      simp [List.countP_cons, this]
    · obtain rfl : i = n := by omega
      have : (List.range i).countP p = 0 := by
        rw [List.countP_eq_zero]
        intro v hv hpv
        have h1 := hp v hpv
        have h2 := List.mem_range.1 hv
        omega
      rw [this]
      simp [List.countP_cons]
theorem count_put (n i : Nat) (G : Nat → Option Vid) (x : Vid) (p : Option Vid → Bool) (hp : p none = false) (hi : i < n) (hG : G i = none) :
    (List.range n).countP (fun v => p (if v = i then some x else G v)) = (List.range n).countP (fun v => p (G v)) + if p (some x) then 1 else 0 := by
  have h1 : ∀ l : List Nat, l.countP (fun v => p (if v = i then some x else G v)) = l.countP (fun v => p (G v)) + l.countP (fun v => decide (v = i) && p (some x)) := by
    intro l
    induction l with
    | nil => rfl
    | cons a l ih =>
      simp only [List.countP_cons, ih]
      by_cases h : a = i
      · subst h
        simp [hG, hp]
        omega
      · simp [h]
        omega
  have h2 : (List.range n).countP (fun v => decide (v = i) && p (some x)) = if p (some x) then 1 else 0 := by
    rw [count_one n i (fun v => decide (v = i) && p (some x)) hi (fun v hv => by simp only [Bool.and_eq_true, decide_eq_true_eq] at hv; exact hv.1)]
    simp
  rw [h1, h2]
theorem casts_count (n : Nat) (G : Nat → Option Vid) : (casts n G).length = (List.range n).countP fun v => (G v).isSome := by
  induction n with
  | zero => rfl
  | succ n ih =>
    rw [casts_succ, List.range_succ, List.countP_append, ← ih, List.length_append]
    congr 1
    cases hg : G n <;> simp [List.countP_cons, hg]
theorem put_row (V : Tab) (r k w : Nat) (x : Vid) (r' k' : Nat) : V.put r k w x r' k' = if r' = r ∧ k' = k then (fun v => if v = w then some x else V r' k' v) else V r' k' := by
  funext v
  unfold Tab.put
  by_cases h : r' = r ∧ k' = k
  · rw [if_pos h]
    by_cases hv : v = w
    · rw [if_pos ⟨h.1, h.2, hv⟩, if_pos hv]
    · rw [if_neg (fun c => hv c.2.2), if_neg hv]
  · rw [if_neg h, if_neg (fun c => h ⟨c.1, c.2.1⟩)]
theorem Rel.counts {n : Nat} {V : Tab} {l : List Vote} (h : Rel n V l) (hn : 0 < n) : ∀ (r k : Int), (∀ x, rfor l r k x = forN (castsAt n V r k) x) ∧ rall l r k = (castsAt n V r k).length := by
  induction h with
  | nil =>
    intro r k
    have : castsAt n empty r k = [] := by
      unfold castsAt
      split
      · unfold casts
        rw [List.filterMap_eq_nil_iff]
        exact fun a _ => rfl
      · rfl
    rw [this]
    exact ⟨fun x => rfl, rfl⟩
  | @put V l v hr hv hz hnn ih =>
    intro r k
    have hk := right_spec hv
    obtain ⟨ih1, ih2⟩ := ih r k
    have e1 : ∀ x, rfor (l ++ [v]) r k x = rfor l r k x + if v.r == r && v.k == k && v.id == x then 1 else 0 := fun x => by
      unfold rfor
      rw [List.filter_append, List.length_append]
      congr 1
      by_cases hc : (v.r == r && v.k == k && v.id == x) = true <;> simp [List.filter_cons, hc]
    have e2 : rall (l ++ [v]) r k = rall l r k + if v.r == r && v.k == k then 1 else 0 := by
      unfold rall
      rw [List.filter_append, List.length_append]
      congr 1
      by_cases hc : (v.r == r && v.k == k) = true <;> simp [List.filter_cons, hc]
    cases hrk : right n r k 0 with
    | false =>
      have hne : (v.r == r && v.k == k) = false := by
        cases hb : (v.r == r && v.k == k) with
        | false => rfl
        | true =>
          simp only [Bool.and_eq_true, beq_iff_eq] at hb
          have : right n r k 0 = true := by simp [right]; omega
          rw [this] at hrk
          cases hrk
      have c1 : castsAt n (V.put v.r.toNat v.k.toNat v.w.toNat v.id) r k = [] := by unfold castsAt; rw [hrk]; rfl
      have c2 : castsAt n V r k = [] := by unfold castsAt; rw [hrk]; rfl
      rw [c1]
      rw [c2] at ih1 ih2
      exact ⟨fun x => by rw [e1, ih1, hne]; simp, by rw [e2, ih2, hne]; simp⟩
    | true =>
      have hk2 := right_spec hrk
      have c1 : castsAt n (V.put v.r.toNat v.k.toNat v.w.toNat v.id) r k = casts n (V.put v.r.toNat v.k.toNat v.w.toNat v.id r.toNat k.toNat) := by unfold castsAt; rw [hrk]; rfl
      have c2 : castsAt n V r k = casts n (V r.toNat k.toNat) := by unfold castsAt; rw [hrk]; rfl
      rw [c1, put_row]
      rw [c2] at ih1 ih2
      by_cases he : v.r = r ∧ v.k = k
      · obtain ⟨rfl, rfl⟩ := he
        rw [if_pos ⟨rfl, rfl⟩]
        refine ⟨fun x => ?_, ?_⟩
        · rw [e1, ih1, forN_count, forN_count, count_put n v.w.toNat (V v.r.toNat v.k.toNat) v.id (fun o => o == some x) rfl (by omega) hnn]
          simp
        · rw [e2, ih2, casts_count, casts_count, count_put n v.w.toNat (V v.r.toNat v.k.toNat) v.id (fun o => o.isSome) rfl (by omega) hnn]
          simp
      · have hb : (v.r == r && v.k == k) = false := by
          cases hb : (v.r == r && v.k == k) with
          | false => rfl
          | true => simp only [Bool.and_eq_true, beq_iff_eq] at hb; exact absurd hb he
        have hn2 : ¬ (r.toNat = v.r.toNat ∧ k.toNat = v.k.toNat) := fun ⟨a, b⟩ => he ⟨by omega, by omega⟩
        rw [if_neg hn2]
        exact ⟨fun x => by rw [e1, ih1, hb]; simp, by rw [e2, ih2, hb]; simp⟩
theorem forN_two (L : List (Nat × Vid)) {x y : Vid} (h : x ≠ y) : forN L x + forN L y ≤ L.length := by
  unfold forN
  induction L with
  | nil => simp
  | cons p L ih =>
    simp only [List.filter_cons, List.length_cons]
    by_cases h1 : x = p.2
    · have h2 : (y == p.2) = false := by simp [← h1, Ne.symm h]
      simp [h1, h2]
      rw [← h1]
      omega
    · have h3 : (x == p.2) = false := by simp [h1]
      rw [h3]
      by_cases h2 : (y == p.2) = true
      · simp [h2]; omega
      · simp [h2]; omega
theorem need_pos {n : Nat} (hn : n = 1 ∨ n = 4 ∨ n = 7) : 1 ≤ need n ∧ (n : Int) < 2 * need n := by rcases hn with rfl | rfl | rfl <;> decide
theorem sure_need' {n : Nat} {V : Tab} {r k : Int} {x : Vid} (h : sure n V r k = some x) : need n ≤ (forN (castsAt n V r k) x : Int) := by
  unfold sure at h
  obtain ⟨p, hp, rfl⟩ := Option.map_eq_some_iff.1 h
  have := List.find?_some hp
  simpa using this
theorem sure_one {n : Nat} (hn : n = 1 ∨ n = 4 ∨ n = 7) {V : Tab} {r k : Int} {x y : Vid} (hx : need n ≤ (forN (castsAt n V r k) x : Int)) (hy : need n ≤ (forN (castsAt n V r k) y : Int)) : x = y := by
  apply Classical.byContradiction
  intro h
  have h1 := forN_two (castsAt n V r k) h
  have h2 : (castsAt n V r k).length ≤ n := by
    unfold castsAt
    split
    · unfold casts; exact Nat.le_trans (List.length_filterMap_le _ _) (by simp)
    · simp
  have h3 := need_pos hn
  omega
/-- what is sure is told by the counts -/
theorem sure_of {n : Nat} (hn : n = 1 ∨ n = 4 ∨ n = 7) {V : Tab} {r k : Int} {x : Vid} (hx : need n ≤ (forN (castsAt n V r k) x : Int)) : sure n V r k = some x := by
  have hp : 0 < forN (castsAt n V r k) x := by have := need_pos hn; omega
  unfold forN at hp
  obtain ⟨p, hp⟩ := List.exists_mem_of_length_pos hp
  obtain ⟨hm, he⟩ := List.mem_filter.1 hp
  have hex : x = p.2 := by simpa using he
  cases hs : sure n V r k with
  | some y => rw [sure_one hn (sure_need' hs) hx]
  | none =>
    exfalso
    unfold sure at hs
    rw [Option.map_eq_none_iff, List.find?_eq_none] at hs
    have := hs p hm
    rw [← hex] at this
    simp at this
    omega
theorem Rel.sure {n : Nat} {V : Tab} {l : List Vote} (h : Rel n V l) (hn : n = 1 ∨ n = 4 ∨ n = 7) (r k : Int) : rsure n l r k = Cnt.sure n V r k := by
  have hc := (h.counts (by omega) r k).1
  cases hs : Cnt.sure n V r k with
  | some x =>
    have hx := sure_need' hs
    have hp : 0 < rfor l r k x := by have := need_pos hn; rw [hc]; omega
    unfold rfor at hp
    obtain ⟨v, hv⟩ := List.exists_mem_of_length_pos hp
    obtain ⟨hm, he⟩ := List.mem_filter.1 hv
    simp only [Bool.and_eq_true, beq_iff_eq] at he
    unfold rsure
    cases hf : l.find? fun v => v.r == r && v.k == k && decide (need n ≤ (rfor l r k v.id : Int)) with
    | none =>
      exfalso
      rw [List.find?_eq_none] at hf
      have := hf v hm
      rw [he.2, hc] at this
      simp [he.1.1, he.1.2] at this
      omega
    | some u =>
      have := List.find?_some hf
      simp only [Bool.and_eq_true, decide_eq_true_eq] at this
      rw [hc] at this
      rw [Option.map_some, sure_one hn this.2 hx]
  | none =>
    unfold rsure
    rw [Option.map_eq_none_iff, List.find?_eq_none]
    intro v hv hb
    simp only [Bool.and_eq_true, decide_eq_true_eq] at hb
    rw [hc] at hb
    rw [sure_of hn hb.2] at hs
    cases hs
theorem Rel.put_eq {n : Nat} {V : Tab} {l : List Vote} (h : Rel n V l) (hz : ∀ r k w, V r k w ≠ some z) (v : Vote) : (Cnt.put n V v.r v.k v.w v.id).2 = (rput n l v).2 ∧ Rel n (Cnt.put n V v.r v.k v.w v.id).1 (rput n l v).1 := by
  unfold Cnt.put rput
  by_cases h1 : right n v.r v.k v.w = false ∨ v.id = z
  · rw [if_pos h1, if_pos h1]
    exact ⟨rfl, h⟩
  · rw [if_neg h1, if_neg h1]
    have hr : right n v.r v.k v.w = true := by
      cases hb : right n v.r v.k v.w with
      | true => rfl
      | false => exact absurd (.inl hb) h1
    have hid : v.id ≠ z := fun e => h1 (.inr e)
    have hg : rget l v.r v.k v.w = (V v.r.toNat v.k.toNat v.w.toNat).getD z := by rw [h.get]; unfold Cnt.get; rw [if_pos hr]
    cases hV : V v.r.toNat v.k.toNat v.w.toNat with
    | none =>
      rw [hV] at hg
      rw [if_neg (by simp), if_neg (by rw [hg]; simp)]
      exact ⟨rfl, .put v h hr hid hV⟩
    | some y =>
      rw [hV] at hg
      have : y ≠ z := fun e => hz _ _ _ (by rw [hV, e])
      rw [if_pos (by simp), if_pos (by rw [hg]; exact this)]
      exact ⟨rfl, h⟩
theorem Rel.voted {n : Nat} {V : Tab} {l : List Vote} (h : Rel n V l) (hz : ∀ r k w, V r k w ≠ some z) (m : Nat) (hm : m < 12) : rvoted n l m = Cnt.voted n V m := by
  unfold rvoted Cnt.voted
  congr 1
  apply List.filter_congr
  intro w hw
  have hw := List.mem_range.1 hw
  have each : ∀ k : Int, k = 0 ∨ k = 1 → (rget l m k w != z) = (V m k.toNat w).isSome := fun k hk => by
    have hr : right n m k w = true := by simp [right]; omega
    rw [h.get]
    unfold Cnt.get
    rw [if_pos hr, Int.toNat_natCast, Int.toNat_natCast]
    cases hv : V m k.toNat w with
    | none => simp
    | some y =>
      have : y ≠ z := fun e => hz _ _ _ (by rw [hv, e])
      simp [this]
  rw [each 0 (.inl rfl), each 1 (.inr rfl)]
  rfl
theorem Rel.ahead {n : Nat} {V : Tab} {l : List Vote} (h : Rel n V l) (hz : ∀ r k w, V r k w ≠ some z) (round : Int) : rahead n l round = Cnt.ahead n V round := by
  unfold rahead Cnt.ahead
  have : ∀ m, m ≤ 12 → raheadFrom n l round m = aheadFrom n V round m := by
    intro m
    induction m with
    | zero => exact fun _ => rfl
    | succ m ih =>
      intro hm
      unfold raheadFrom aheadFrom
      rw [ih (by omega), h.voted hz m (by omega)]
      by_cases h1 : faults n < (Cnt.voted n V m : Int)
      · rw [if_pos h1, if_pos (show faults n + 1 ≤ (Cnt.voted n V m : Int) by omega)]
      · rw [if_neg h1, if_neg (show ¬ faults n + 1 ≤ (Cnt.voted n V m : Int) by omega)]
  exact this 12 (Nat.le_refl _)
end Go.Proofs.YtepmlmfacpbhkaaR.Cnt
