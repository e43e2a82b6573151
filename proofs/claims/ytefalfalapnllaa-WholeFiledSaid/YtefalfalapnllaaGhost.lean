/- A region that draws its order, once more: the values may hang on a ghost that the operations turn (an address that is known only when it is made). -/
import Derived.Test.YtefalfalapnllaaHeld
namespace Go.Proofs.Ytefalfalapnllaa
open Go.RowKit Go.Shelf
set_option linter.unusedVariables false

theorem apart_ne : ∀ (os : List Oper) (i j : Nat) (o o' : Oper) (t : Tmp), apartB os = true → os[i]? = some o → os[j]? = some o' → i ≠ j → o.dst = some t → o'.dst ≠ some t
  | [], _, _, _, _, _, _, h, _, _, _ => by simp at h
  | x :: os, 0, 0, _, _, _, _, _, _, h, _ => absurd rfl h
  | x :: os, 0, j + 1, o, o', t, hB, hi, hj, _, hd => by
    simp at hi hj
    subst hi
    simp only [apartB, hd, Bool.and_eq_true, List.all_eq_true, bne_iff_ne] at hB
    exact hB.1 o' (List.mem_of_getElem? hj)
  | x :: os, i + 1, 0, o, o', t, hB, hi, hj, _, hd => by
    simp at hi hj
    subst hj
    intro hd'
    simp only [apartB, hd', Bool.and_eq_true, List.all_eq_true, bne_iff_ne] at hB
    exact hB.1 o (List.mem_of_getElem? hi) hd
  | x :: os, i + 1, j + 1, o, o', t, hB, hi, hj, hne, hd => by
    simp only [apartB, Bool.and_eq_true] at hB
    exact apart_ne os i j o o' t hB.2 (by simpa using hi) (by simpa using hj) (by omega) hd

/-- one operation: it comes to a value and to a world of which R holds -/
def opGhost (F : Fence) (n : Nat) (P : Program) (o : Oper) (ev : Operand → Value) (w : World) (R : Value → World → Prop) : Prop :=
  match (execOp ev o).run P w with
  | .ok (.value v') w' => R v' w'
  | .ok .skip w' => R undef w'
  | .ok (.enter f args) w' => CallsIn F (n - 1) P f args w' fun e w'' => ∃ v, e = .returned v ∧ R v w''
  | _ => False

variable {F : Fence} {n : Nat} {P : Program} {G : Type}
theorem wpAnyIn_ghost (hF : ∀ f, F.fn f) (hdp : F.depth = none) {md : Region.Mode} {ops : Array Oper} {Q : Exit → Act → World → Prop} (hB : heldB md ops = true) (vs : G → List Value) (hvs : ∀ g, (vs g).length = ops.size)
    (S : Array Bool → G → World → Prop) (a : Act) (hsz : ∀ (j : Nat) (oj : Oper) (t : Tmp), ops[j]? = some oj → oj.dst = some t → t < a.tmps.size)
    (hop : ∀ (i : Nat) (o : Oper), ops[i]? = some o → ∀ (g : G) (L : Array Bool) (w' : World), L.size = ops.size → (∀ e ∈ o.after, Region.binds md e = true → L.getD e.on false = true) → L.getD i true = false → S L g w' →
      if Region.wanted o (yielded ops (putAll ops.toList (vs g) a).tmps) = true then opGhost F n P o (putAll ops.toList (vs g) a).eval w' (fun v w'' => ∃ g', vs g' = (vs g).set i v ∧ S (L.setIfInBounds i true) g' w'')
        else ∃ g', vs g' = (vs g).set i undef ∧ S (L.setIfInBounds i true) g' w')
    (hend : ∀ (g : G) (L : Array Bool) (w' : World), L.size = ops.size → (∀ i, L.getD i true = true) → S L g w' → Q .normal (putAll ops.toList (vs g) a) w') :
    ∀ (fuel : Nat) (L : Array Bool) (a' : Act) (w' : World) (g : G), L.size = ops.size → ((List.range ops.size).filter fun j => !L.getD j true).length ≤ fuel → Agree ops (putAll ops.toList (vs g) a) L a' → S L g w' → wpAnyIn F n P md ops Q fuel L a' w' := by
  have hap : apartB ops.toList = true := by unfold heldB at hB; simp only [Bool.and_eq_true] at hB; exact hB.1
  intro fuel
  induction fuel with
  | zero =>
    intro L a' w' g hs hc hA hS
    have hnil : ((List.range ops.size).filter fun j => !L.getD j true) = [] := List.eq_nil_of_length_eq_zero (by omega)
    have hall : ∀ i, L.getD i true = true := by
      intro i
      rcases Nat.lt_or_ge i ops.size with h | h
      · have := List.filter_eq_nil_iff.1 hnil i (List.mem_range.2 h)
        simpa using this
      · simp [Array.getElem?_eq_none (show L.size ≤ i by omega)]
    refine ⟨?_, by rw [hA.done hall]; exact hend g L w' hs hall hS⟩
    unfold Region.ready
    rw [List.filter_eq_nil_iff]
    intro i _
    simp only [hall i]
    simp
  | succ fuel ih =>
    intro L a' w' g hs hc hA hS
    refine ⟨fun hr => ?_, fun i hi => ?_⟩
    · have hall := all_listed hB hs hr
      rw [hA.done hall]
      exact hend g L w' hs hall hS
    · obtain ⟨hun, o, ho, haf⟩ := mem_ready.1 hi
      obtain ⟨hsel, hdef, hlt, hlook⟩ := heldB_spec hB ho
      have hio : i < ops.size := (Array.getElem?_eq_some_iff.1 ho).1
      have hthis := hop i o ho g L w' hs haf hun hS
      have hslot : ∀ t ∈ o.looksAt ops, a'.tmps[t]? = (putAll ops.toList (vs g) a).tmps[t]? := by
        intro t ht
        by_cases hex : ∃ (j : Nat) (oj : Oper), ops[j]? = some oj ∧ oj.dst = some t
        · obtain ⟨j, oj, h1, h2⟩ := hex
          obtain ⟨e, he, hb, rfl⟩ := hlook t ht j oj h1 h2
          exact hA.there _ oj t h1 h2 (getD_of_both (haf e he hb))
        · exact hA.other t fun j oj h1 h2 => hex ⟨j, oj, h1, h2⟩
      have hev : execOp a'.eval o = execOp (putAll ops.toList (vs g) a).eval o := execOp_congr o hsel fun x hx => by
        cases x with
        | tmp t =>
          have := hslot t (List.mem_append_left _ (List.mem_filterMap.2 ⟨.tmp t, by simpa using hx, rfl⟩))
          simp only [Act.eval, Array.getD_eq_getD_getElem?, this]
        | _ => rfl
      have hwa : Region.wanted o (yielded ops a'.tmps) = Region.wanted o (yielded ops (putAll ops.toList (vs g) a).tmps) := by
        unfold Region.wanted
        cases hg : o.guard with
        | none => rfl
        | some gb =>
          obtain ⟨g1, b⟩ := gb
          have : yielded ops a'.tmps g1 = yielded ops (putAll ops.toList (vs g) a).tmps g1 := by
            unfold yielded
            cases hd : (ops[g1]?).bind (·.dst) with
            | none => rfl
            | some t =>
              have ht : t ∈ o.looksAt ops := List.mem_append_right _ (by rw [hg]; simp [hd])
              simp only [Option.bind_some, hslot t ht]
          simp only [this]
      have hstep : ∀ (v : Value) (w'' : World), (∃ g', vs g' = (vs g).set i v ∧ S (L.setIfInBounds i true) g' w'') → wpAnyIn F n P md ops Q fuel (L.setIfInBounds i true) (a'.put o.dst v) w'' := by
        rintro v w'' ⟨g', hg', hS''⟩
        refine ih (L.setIfInBounds i true) (a'.put o.dst v) w'' g' (by simp [hs]) ?_ ⟨?_, ?_, ?_, ?_⟩ hS''
        · have := unlisted_set hun ops.size
          rw [if_pos hio] at this
          omega
        · rw [putAll_defers]
          have := hA.defers
          rw [putAll_defers] at this
          rw [← this]; cases o.dst <;> rfl
        · rw [putAll_size]
          have := hA.size
          rw [putAll_size] at this
          rw [← this]; cases hd : o.dst <;> simp [Act.put]
        · intro j oj t h1 h2 h3
          have hsj := hsz j oj t h1 h2
          have hjo : j < ops.size := (Array.getElem?_eq_some_iff.1 h1).1
          by_cases hij : i = j
          · subst hij
            rw [ho] at h1; cases h1
            have hv : (vs g')[i]? = some v := by rw [hg', List.getElem?_set_self (by rw [hvs]; exact hio)]
            rw [putAll_get _ _ _ i o v t hap (by simpa using ho) hv h2 hsj, h2]
            exact put_same _ _ _ (by have := hA.size; rw [putAll_size] at this; exact this ▸ hsj)
          · rw [getD_set_ne true hij] at h3
            have hne := apart_ne ops.toList j i oj o t hap (by simpa using h1) (by simpa using ho) (Ne.symm hij) h2
            have hv : (vs g)[j]? = some ((vs g)[j]'(by rw [hvs]; exact hjo)) := List.getElem?_eq_getElem _
            generalize (vs g)[j]'(by rw [hvs]; exact hjo) = v0 at hv
            have hv' : (vs g')[j]? = some v0 := by rw [hg', List.getElem?_set_ne hij]; exact hv
            rw [put_other _ _ _ _ hne, hA.there j oj t h1 h2 h3, putAll_get _ _ _ j oj v0 t hap (by simpa using h1) hv h2 hsj, putAll_get _ _ _ j oj v0 t hap (by simpa using h1) hv' h2 hsj]
        · intro t ht
          have hno : ∀ o ∈ ops.toList, o.dst ≠ some t := fun o ho => by
            obtain ⟨j, hj⟩ := List.mem_iff_getElem?.1 ho
            exact ht j o (by simpa using hj)
          rw [put_other _ _ _ _ (ht i o ho), hA.other t ht, putAll_other _ _ _ t hno, putAll_other _ _ _ t hno]
      unfold wpOpIn
      simp only [ho]
      rw [hwa]
      by_cases hwt : Region.wanted o (yielded ops (putAll ops.toList (vs g) a).tmps) = true
      · rw [if_pos hwt] at hthis ⊢
        refine ⟨fun f _ => hF f, ?_⟩
        rw [Oper.semAt_eq _ _ _ hdef, hev]
        unfold opGhost at hthis
        generalize (execOp (putAll ops.toList (vs g) a).eval o).run P w' = r at *
        cases r with
        | halt x w2 => exact hthis.elim
        | ok x w2 =>
          cases x with
          | value v' => exact hstep _ _ hthis
          | skip => exact hstep _ _ hthis
          | enter f args =>
            refine ⟨fun h => (by rw [hdp] at h; cases h), hthis.mono fun e w3 he => ?_⟩
            obtain ⟨v, rfl, hS2⟩ := he
            exact hstep _ _ hS2
          | _ => exact hthis.elim
      · rw [if_neg hwt] at hthis ⊢
        exact ⟨fun f _ => hF f, hstep _ _ hthis⟩
/-- what is asked of the operations, one behind the other -/
def ghostAll (F : Fence) (n : Nat) (P : Program) (ops : Array Oper) (fin : G → Act) (vs : G → List Value) (S : Array Bool → G → World → Prop) : Nat → List Oper → Prop
  | i, o :: os => (∀ (g : G) (L : Array Bool) (w' : World), L.size = ops.size → (∀ e ∈ o.after, Region.binds .any e = true → L.getD e.on false = true) → L.getD i true = false → S L g w' →
      if Region.wanted o (yielded ops (fin g).tmps) = true then opGhost F n P o (fin g).eval w' (fun v w'' => ∃ g', vs g' = (vs g).set i v ∧ S (L.setIfInBounds i true) g' w'')
        else ∃ g', vs g' = (vs g).set i undef ∧ S (L.setIfInBounds i true) g' w') ∧ ghostAll F n P ops fin vs S (i + 1) os
  | _, [] => True
theorem ghostAll_get {ops : Array Oper} {fin : G → Act} {vs : G → List Value} {S : Array Bool → G → World → Prop} : ∀ (os : List Oper) (i : Nat), ghostAll F n P ops fin vs S i os → ∀ (j : Nat) (o : Oper), os[j]? = some o →
    ∀ (g : G) (L : Array Bool) (w' : World), L.size = ops.size → (∀ e ∈ o.after, Region.binds .any e = true → L.getD e.on false = true) → L.getD (i + j) true = false → S L g w' →
      if Region.wanted o (yielded ops (fin g).tmps) = true then opGhost F n P o (fin g).eval w' (fun v w'' => ∃ g', vs g' = (vs g).set (i + j) v ∧ S (L.setIfInBounds (i + j) true) g' w'')
        else ∃ g', vs g' = (vs g).set (i + j) undef ∧ S (L.setIfInBounds (i + j) true) g' w'
  | [], _, _, j, o, h => by simp at h
  | o :: os, i, h, 0, o', ho => by
    simp at ho
    subst ho
    exact h.1
  | o :: os, i, h, j + 1, o', ho => by
    have := ghostAll_get os (i + 1) h.2 j o' (by simpa using ho)
    have e : i + 1 + j = i + (j + 1) := by omega
    rw [e] at this
    exact this
theorem wpIn_region_ghost (hF : ∀ f, F.fn f) (hdp : F.depth = none) (hm : P.follows .mixedOrders = true) {id : Nat} {ops : Array Oper} {a : Act} {w : World} {Q : Exit → Act → World → Prop} (hB : heldB .any ops = true) (vs : G → List Value) (hvs : ∀ g, (vs g).length = ops.size)
    (hsz : (ops.toList.all fun o => match o.dst with | none => true | some t => decide (t < a.tmps.size)) = true) (S : Array Bool → G → World → Prop) (g0 : G) (h0 : S (Array.replicate ops.size false) g0 w.drew)
    (fin : G → Act) (hfin : (fun g => putAll ops.toList (vs g) a) = fin) (hop : ghostAll F n P ops fin vs S 0 ops.toList)
    (hend : ∀ (g : G) (L : Array Bool) (w' : World), L.size = ops.size → (∀ i, L.getD i true = true) → S L g w' → Q .normal (fin g) w') : (Code.region id ops true).wpIn F n P Q a w := by
  subst hfin
  refine wpIn_region_any hm ?_
  have hts : ∀ (j : Nat) (oj : Oper) (t : Tmp), ops[j]? = some oj → oj.dst = some t → t < a.tmps.size := fun j oj t h1 h2 => by
    have := List.all_eq_true.1 hsz oj (by rw [Array.mem_toList_iff]; exact Array.mem_of_getElem? h1)
    rw [h2] at this
    simpa using this
  refine wpAnyIn_ghost hF hdp hB vs hvs S a hts (fun i o ho => ?_) hend _ _ _ _ g0 (by simp)
    (by exact Nat.le_trans (List.length_filter_le _ _) (by simp)) ⟨(putAll_defers _ _ _).symm, (putAll_size _ _ _).symm, fun j oj t h1 h2 h3 => ?_, fun t ht => ?_⟩ h0
  · have := ghostAll_get _ _ hop i o (by simpa using ho)
    simpa only [Nat.zero_add] using this
  · have hj : j < ops.size := (Array.getElem?_eq_some_iff.1 h1).1
    simp [hj] at h3
  · refine (putAll_other _ _ _ t fun o ho => ?_).symm
    obtain ⟨j, hj⟩ := List.mem_iff_getElem?.1 ho
    exact ht j o (by simpa using hj)
theorem wp_region_ghost (hm : P.follows .mixedOrders = true) {id : Nat} {ops : Array Oper} {a : Act} {w : World} {Q : Exit → Act → World → Prop} (hB : heldB .any ops = true) (vs : G → List Value) (hvs : ∀ g, (vs g).length = ops.size)
    (hsz : (ops.toList.all fun o => match o.dst with | none => true | some t => decide (t < a.tmps.size)) = true) (S : Array Bool → G → World → Prop) (g0 : G) (h0 : S (Array.replicate ops.size false) g0 w.drew)
    (fin : G → Act) (hfin : (fun g => putAll ops.toList (vs g) a) = fin) (hop : ghostAll Fence.wide 1 P ops fin vs S 0 ops.toList)
    (hend : ∀ (g : G) (L : Array Bool) (w' : World), L.size = ops.size → (∀ i, L.getD i true = true) → S L g w' → Q .normal (fin g) w') : (Code.region id ops true).wp P Q a w :=
  wpIn_wide.1 (wpIn_region_ghost (fun _ => trivial) rfl hm hB vs hvs hsz S g0 h0 fin hfin hop hend)
theorem ghost_value {o : Oper} {ev : Operand → Value} {w w' : World} {v : Value} {R : Value → World → Prop} (hr : (execOp ev o).run P w = .ok (.value v) w') (hS : R v w') : opGhost F n P o ev w R := by
  unfold opGhost
  rw [hr]
  exact hS
theorem ghost_skip {o : Oper} {ev : Operand → Value} {w w' : World} {R : Value → World → Prop} (hr : (execOp ev o).run P w = .ok .skip w') (hS : R undef w') : opGhost F n P o ev w R := by
  unfold opGhost
  rw [hr]
  exact hS
/-- an operation whose value is known: the ghost stays -/
theorem ghost_keep {vs : G → List Value} {S : Array Bool → G → World → Prop} {L : Array Bool} {g : G} {i : Nat} {v : Value} {w : World} (hv : (vs g)[i]? = some v) (hS : S (L.setIfInBounds i true) g w) : ∃ g', vs g' = (vs g).set i v ∧ S (L.setIfInBounds i true) g' w :=
  ⟨g, by
    apply List.ext_getElem?
    intro j
    by_cases h : i = j
    · subst h
      rw [List.getElem?_set_self (List.getElem?_eq_some_iff.1 hv).1, hv]
    · rw [List.getElem?_set_ne h], hS⟩
end Go.Proofs.Ytefalfalapnllaa
