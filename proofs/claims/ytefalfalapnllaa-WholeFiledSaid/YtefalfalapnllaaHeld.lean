/- A region that draws its order, whose operations may call and make memory: one proof for each operation, whatever the order: its value is known, and a word S on the world is carried on. -/
import Derived.Test.YtefalfalapnllaaRange
import Derived.Sort.CutIn
namespace Go.Proofs.Ytefalfalapnllaa
open Go.RowKit Go.Shelf
set_option linter.unusedVariables false

/-- the values laid into their slots -/
def putAll : List Oper → List Value → Act → Act
  | o :: os, v :: vs, a => putAll os vs (a.put o.dst v)
  | _, _, a => a
theorem putAll_defers : ∀ (os : List Oper) (vs : List Value) (a : Act), (putAll os vs a).defers = a.defers
  | [], _, _ => by simp [putAll]
  | _ :: _, [], _ => by simp [putAll]
  | o :: os, v :: vs, a => by
    rw [putAll, putAll_defers os vs]
    cases o.dst <;> rfl
theorem putAll_size : ∀ (os : List Oper) (vs : List Value) (a : Act), (putAll os vs a).tmps.size = a.tmps.size
  | [], _, _ => by simp [putAll]
  | _ :: _, [], _ => by simp [putAll]
  | o :: os, v :: vs, a => by
    rw [putAll, putAll_size os vs]
    cases h : o.dst <;> simp [Act.put]
theorem put_other (a : Act) (d : Option Tmp) (v : Value) (t : Tmp) (h : d ≠ some t) : (a.put d v).tmps[t]? = a.tmps[t]? := by
  cases d with
  | none => rfl
  | some d => simp only [Act.put]; rw [Array.getElem?_setIfInBounds_ne (fun e => h (by rw [e]))]
theorem put_same (a : Act) (v : Value) (t : Tmp) (h : t < a.tmps.size) : (a.put (some t) v).tmps[t]? = some v := by
  simp only [Act.put]
  rw [Array.getElem?_setIfInBounds_self_of_lt h]
theorem putAll_other : ∀ (os : List Oper) (vs : List Value) (a : Act) (t : Tmp), (∀ o ∈ os, o.dst ≠ some t) → (putAll os vs a).tmps[t]? = a.tmps[t]?
  | [], _, _, _, _ => by simp [putAll]
  | _ :: _, [], _, _, _ => by simp [putAll]
  | o :: os, v :: vs, a, t, h => by
    rw [putAll, putAll_other os vs _ t (fun o' ho => h o' (List.mem_cons_of_mem _ ho)), put_other _ _ _ _ (h o (List.mem_cons_self ..))]
/-- no two lay into one slot -/
def apartB : List Oper → Bool
  | [] => true
  | o :: os => (match o.dst with | none => true | some t => os.all fun o' => o'.dst != some t) && apartB os
theorem putAll_get : ∀ (os : List Oper) (vs : List Value) (a : Act) (j : Nat) (o : Oper) (v : Value) (t : Tmp), apartB os = true → os[j]? = some o → vs[j]? = some v → o.dst = some t → t < a.tmps.size →
    (putAll os vs a).tmps[t]? = some v
  | [], _, _, _, _, _, _, _, h, _, _, _ => by simp at h
  | _ :: _, [], _, _, _, _, _, _, _, h, _, _ => by simp at h
  | o :: os, v :: vs, a, 0, o', v', t, hB, ho, hv, hd, ht => by
    simp at ho hv
    subst ho hv
    simp only [apartB, hd, Bool.and_eq_true, List.all_eq_true, bne_iff_ne] at hB
    rw [putAll, putAll_other os vs _ t hB.1, hd]
    exact put_same _ _ _ ht
  | o :: os, v :: vs, a, j + 1, o', v', t, hB, ho, hv, hd, ht => by
    simp only [apartB, Bool.and_eq_true] at hB
    rw [putAll]
    refine putAll_get os vs _ j o' v' t hB.2 (by simpa using ho) (by simpa using hv) hd ?_
    cases h : o.dst <;> simpa [Act.put] using ht

/-- what the walk asks of a region's text -/
def heldB (md : Region.Mode) (ops : Array Oper) : Bool :=
  apartB ops.toList &&
  (List.range ops.size).all fun i =>
    match ops[i]? with
    | none => false
    | some o =>
      (match o.op with | .select _ _ => false | .defer _ => false | _ => true) &&
      (o.after.all fun e => !Region.binds md e || decide (e.on < i)) &&
      ((o.looksAt ops).all fun t => (List.range ops.size).all fun j =>
        match ops[j]? with
        | none => false
        | some oj => oj.dst != some t || o.after.any fun e => Region.binds md e && e.on == j)
theorem heldB_spec {md : Region.Mode} {ops : Array Oper} (h : heldB md ops = true) {i : Nat} {o : Oper} (ho : ops[i]? = some o) :
    (∀ cs b, o.op ≠ .select cs b) ∧ (∀ c, o.op ≠ .defer c) ∧ (∀ e ∈ o.after, Region.binds md e = true → e.on < i) ∧ (∀ t ∈ o.looksAt ops, ∀ (j : Nat) (oj : Oper), ops[j]? = some oj → oj.dst = some t → ∃ e ∈ o.after, Region.binds md e = true ∧ e.on = j) := by
  unfold heldB at h
  simp only [Bool.and_eq_true] at h
  have hi := List.all_eq_true.1 h.2 i (List.mem_range.2 (Array.getElem?_eq_some_iff.1 ho).1)
  simp only [ho, Bool.and_eq_true] at hi
  obtain ⟨⟨h1, h2⟩, h3⟩ := hi
  refine ⟨fun cs b e => ?_, fun c e => ?_, fun e he hbn => ?_, fun t ht j oj hj hd => ?_⟩
  · rw [e] at h1; cases h1
  · rw [e] at h1; cases h1
  · have := (Array.all_eq_true'.1 h2) e he
    rw [hbn] at this
    simpa using this
  · have := List.all_eq_true.1 (List.all_eq_true.1 h3 t ht) j (List.mem_range.2 (Array.getElem?_eq_some_iff.1 hj).1)
    simp only [hj, hd, bne_self_eq_false, Bool.false_or] at this
    obtain ⟨e, he, hb⟩ := Array.any_eq_true'.1 this
    simp only [Bool.and_eq_true, beq_iff_eq] at hb
    exact ⟨e, he, hb⟩
/-- one operation: it comes to v, and to a world of which S holds -/
def opHeld (F : Fence) (n : Nat) (P : Program) (o : Oper) (ev : Operand → Value) (w : World) (v : Value) (S : World → Prop) : Prop :=
  match (execOp ev o).run P w with
  | .ok (.value v') w' => v' = v ∧ S w'
  | .ok .skip w' => v = undef ∧ S w'
  | .ok (.enter f args) w' => CallsIn F (n - 1) P f args w' fun e w'' => e = .returned v ∧ S w''
  | _ => False
/-- a frame in which those that are listed have laid their values -/
structure Agree (ops : Array Oper) (fin : Act) (L : Array Bool) (a' : Act) : Prop where
  defers : a'.defers = fin.defers
  size : a'.tmps.size = fin.tmps.size
  there : ∀ (j : Nat) (oj : Oper) (t : Tmp), ops[j]? = some oj → oj.dst = some t → L.getD j true = true → a'.tmps[t]? = fin.tmps[t]?
  other : ∀ t : Tmp, (∀ (j : Nat) (oj : Oper), ops[j]? = some oj → oj.dst ≠ some t) → a'.tmps[t]? = fin.tmps[t]?
theorem Agree.done {ops : Array Oper} {fin : Act} {L : Array Bool} {a' : Act} (h : Agree ops fin L a') (hL : ∀ i, L.getD i true = true) : a' = fin := by
  have ht : a'.tmps = fin.tmps := by
    apply Array.ext_getElem?
    intro t
    by_cases hex : ∃ (j : Nat) (oj : Oper), ops[j]? = some oj ∧ oj.dst = some t
    · obtain ⟨j, oj, h1, h2⟩ := hex
      exact h.there j oj t h1 h2 (hL j)
    · exact h.other t fun j oj h1 h2 => hex ⟨j, oj, h1, h2⟩
  have hd := h.defers
  cases a'
  cases fin
  simp_all
theorem getD_of_both {L : Array Bool} {i : Nat} (h : L.getD i false = true) : L.getD i true = true := by
  rcases Nat.lt_or_ge i L.size with h' | h'
  · simp [h'] at h ⊢; exact h
  · simp [Array.getElem?_eq_none h'] at h
theorem unlisted_set {L : Array Bool} {i : Nat} (h : L.getD i true = false) : ∀ m, ((List.range m).filter fun j => !(L.setIfInBounds i true).getD j true).length + (if i < m then 1 else 0) = ((List.range m).filter fun j => !L.getD j true).length
  | 0 => by simp
  | m + 1 => by
    have ih := unlisted_set h m
    rw [List.range_succ, List.filter_append, List.filter_append, List.length_append, List.length_append]
    by_cases hi : i = m
    · subst hi
      have e1 : (L.setIfInBounds i true).getD i true = true := by
        rcases Nat.lt_or_ge i L.size with h' | h'
        · simp [h']
        · simp [Array.getElem?_eq_none h'] at h
      simp only [List.filter_cons, h, e1, List.filter_nil] at ih ⊢
      simp at ih ⊢
      omega
    · have e1 : (L.setIfInBounds i true).getD m true = L.getD m true := getD_set_ne true hi
      have e2 : (if i < m + 1 then 1 else 0) = (if i < m then 1 else 0) := by
        by_cases h1 : i < m
        · rw [if_pos h1, if_pos (by omega)]
        · rw [if_neg h1, if_neg (by omega)]
      rw [e2, ← ih]
      simp only [List.filter_cons, e1, List.filter_nil]
      omega
theorem all_listed {ops : Array Oper} {md : Region.Mode} {L : Array Bool} (hB : heldB md ops = true) (hs : L.size = ops.size) (hr : Region.ready md ops L = []) : ∀ i, L.getD i true = true := by
  intro i
  induction i using Nat.strongRecOn with
  | _ i ih =>
    cases h : L.getD i true with
    | true => rfl
    | false =>
      exfalso
      have hi : i < L.size := by
        rcases Nat.lt_or_ge i L.size with h' | h'
        · exact h'
        · simp [Array.getElem?_eq_none h'] at h
      have ho : ops[i]? = some (ops[i]'(by omega)) := Array.getElem?_eq_getElem (by omega)
      have hsp := heldB_spec hB ho
      have : i ∈ Region.ready md ops L := mem_ready.2 ⟨h, _, ho, fun e he hbn => by
        have h1 := hsp.2.2.1 e he hbn
        have h2 := ih e.on h1
        have : e.on < L.size := by omega
        simp [this] at h2 ⊢
        exact h2⟩
      rw [hr] at this
      cases this

variable {F : Fence} {n : Nat} {P : Program}
theorem wpAnyIn_held (hF : ∀ f, F.fn f) (hdp : F.depth = none) {md : Region.Mode} {ops : Array Oper} {Q : Exit → Act → World → Prop} (hB : heldB md ops = true) (vs : List Value) (hvs : vs.length = ops.size)
    (S : Array Bool → World → Prop) (fin : Act)
    (hfv : ∀ (j : Nat) (oj : Oper) (v : Value) (t : Tmp), ops[j]? = some oj → vs[j]? = some v → oj.dst = some t → t < fin.tmps.size ∧ fin.tmps[t]? = some v)
    (hop : ∀ (i : Nat) (o : Oper) (v : Value), ops[i]? = some o → vs[i]? = some v → ∀ (L : Array Bool) (w' : World), L.size = ops.size → (∀ e ∈ o.after, Region.binds md e = true → L.getD e.on false = true) → L.getD i true = false → S L w' →
      if Region.wanted o (yielded ops fin.tmps) = true then opHeld F n P o fin.eval w' v (S (L.setIfInBounds i true)) else v = undef ∧ S (L.setIfInBounds i true) w')
    (hend : ∀ (L : Array Bool) (w' : World), L.size = ops.size → (∀ i, L.getD i true = true) → S L w' → Q .normal fin w') :
    ∀ (fuel : Nat) (L : Array Bool) (a' : Act) (w' : World), L.size = ops.size → ((List.range ops.size).filter fun j => !L.getD j true).length ≤ fuel → Agree ops fin L a' → S L w' → wpAnyIn F n P md ops Q fuel L a' w' := by
  intro fuel
  induction fuel with
  | zero =>
    intro L a' w' hs hc hA hS
    have hnil : ((List.range ops.size).filter fun j => !L.getD j true) = [] := List.eq_nil_of_length_eq_zero (by omega)
    have hall : ∀ i, L.getD i true = true := by
      intro i
      rcases Nat.lt_or_ge i ops.size with h | h
      · have := List.filter_eq_nil_iff.1 hnil i (List.mem_range.2 h)
        simpa using this
      · simp [Array.getElem?_eq_none (show L.size ≤ i by omega)]
    refine ⟨?_, by rw [hA.done hall]; exact hend L w' hs hall hS⟩
    unfold Region.ready
    rw [List.filter_eq_nil_iff]
    intro i _
    simp only [hall i]
    simp
  | succ fuel ih =>
    intro L a' w' hs hc hA hS
    refine ⟨fun hr => ?_, fun i hi => ?_⟩
    · have hall := all_listed hB hs hr
      rw [hA.done hall]
      exact hend L w' hs hall hS
    · obtain ⟨hun, o, ho, haf⟩ := mem_ready.1 hi
      obtain ⟨hsel, hdef, hlt, hlook⟩ := heldB_spec hB ho
      have hio : i < ops.size := (Array.getElem?_eq_some_iff.1 ho).1
      have hv : vs[i]? = some (vs[i]'(by omega)) := List.getElem?_eq_getElem (by omega)
      generalize vs[i]'(by omega) = v at hv
      have hthis := hop i o v ho hv L w' hs haf hun hS
      -- the operands stand as in fin
      have hslot : ∀ t ∈ o.looksAt ops, a'.tmps[t]? = fin.tmps[t]? := by
        intro t ht
        by_cases hex : ∃ (j : Nat) (oj : Oper), ops[j]? = some oj ∧ oj.dst = some t
        · obtain ⟨j, oj, h1, h2⟩ := hex
          obtain ⟨e, he, hb, rfl⟩ := hlook t ht j oj h1 h2
          exact hA.there _ oj t h1 h2 (getD_of_both (haf e he hb))
        · exact hA.other t fun j oj h1 h2 => hex ⟨j, oj, h1, h2⟩
      have hev : execOp a'.eval o = execOp fin.eval o := execOp_congr o hsel fun x hx => by
        cases x with
        | tmp t =>
          have := hslot t (List.mem_append_left _ (List.mem_filterMap.2 ⟨.tmp t, by simpa using hx, rfl⟩))
          simp only [Act.eval, Array.getD_eq_getD_getElem?, this]
        | _ => rfl
      have hwa : Region.wanted o (yielded ops a'.tmps) = Region.wanted o (yielded ops fin.tmps) := by
        unfold Region.wanted
        cases hg : o.guard with
        | none => rfl
        | some gb =>
          obtain ⟨g, b⟩ := gb
          have : yielded ops a'.tmps g = yielded ops fin.tmps g := by
            unfold yielded
            cases hd : (ops[g]?).bind (·.dst) with
            | none => rfl
            | some t =>
              have ht : t ∈ o.looksAt ops := List.mem_append_right _ (by rw [hg]; simp [hd])
              simp only [Option.bind_some, hslot t ht]
          simp only [this]
      have hstep : ∀ (w'' : World), S (L.setIfInBounds i true) w'' → wpAnyIn F n P md ops Q fuel (L.setIfInBounds i true) (a'.put o.dst v) w'' := by
        intro w'' hS''
        refine ih (L.setIfInBounds i true) (a'.put o.dst v) w'' (by simp [hs]) ?_ ⟨?_, ?_, ?_, ?_⟩ hS''
        · have := unlisted_set hun ops.size
          rw [if_pos hio] at this
          omega
        · rw [← hA.defers]; cases o.dst <;> rfl
        · rw [← hA.size]; cases hd : o.dst <;> simp [Act.put]
        · intro j oj t h1 h2 h3
          by_cases hij : i = j
          · subst hij
            rw [ho] at h1; cases h1
            obtain ⟨hts, htv⟩ := hfv i o v t ho hv h2
            rw [htv, h2]
            exact put_same _ _ _ (by rw [hA.size]; exact hts)
          · rw [getD_set_ne true hij] at h3
            by_cases hdd : o.dst = some t
            · obtain ⟨hts, htv⟩ := hfv i o v t ho hv hdd
              rw [htv, hdd]
              exact put_same _ _ _ (by rw [hA.size]; exact hts)
            · rw [put_other _ _ _ _ hdd]
              exact hA.there j oj t h1 h2 h3
        · intro t ht
          rw [put_other _ _ _ _ (ht i o ho)]
          exact hA.other t ht
      unfold wpOpIn
      simp only [ho]
      rw [hwa]
      by_cases hwt : Region.wanted o (yielded ops fin.tmps) = true
      · rw [if_pos hwt] at hthis ⊢
        refine ⟨fun f _ => hF f, ?_⟩
        rw [Oper.semAt_eq _ _ _ hdef, hev]
        unfold opHeld at hthis
        generalize (execOp fin.eval o).run P w' = r at *
        cases r with
        | halt x w2 => exact hthis.elim
        | ok x w2 =>
          cases x with
          | value v' => obtain ⟨rfl, hS2⟩ := hthis; exact hstep _ hS2
          | skip => obtain ⟨rfl, hS2⟩ := hthis; exact hstep _ hS2
          | enter f args =>
            refine ⟨fun h => (by rw [hdp] at h; cases h), hthis.mono fun e w3 he => ?_⟩
            obtain ⟨rfl, hS2⟩ := he
            exact hstep _ hS2
          | _ => exact hthis.elim
      · rw [if_neg hwt] at hthis ⊢
        obtain ⟨rfl, hS2⟩ := hthis
        exact ⟨fun f _ => hF f, hstep _ hS2⟩

theorem wpIn_region_held (hF : ∀ f, F.fn f) (hdp : F.depth = none) (hm : P.follows .mixedOrders = true) {id : Nat} {ops : Array Oper} {a : Act} {w : World} {Q : Exit → Act → World → Prop} (hB : heldB .any ops = true) (vs : List Value) (hvs : vs.length = ops.size)
    (hsz : (ops.toList.all fun o => match o.dst with | none => true | some t => decide (t < a.tmps.size)) = true) (S : Array Bool → World → Prop) (h0 : S (Array.replicate ops.size false) w.drew)
    (fin : Act) (hfin : putAll ops.toList vs a = fin)
    (hop : ∀ (i : Nat) (o : Oper) (v : Value), ops[i]? = some o → vs[i]? = some v → ∀ (L : Array Bool) (w' : World), L.size = ops.size → (∀ e ∈ o.after, Region.binds .any e = true → L.getD e.on false = true) → L.getD i true = false → S L w' →
      if Region.wanted o (yielded ops fin.tmps) = true then opHeld F n P o fin.eval w' v (S (L.setIfInBounds i true)) else v = undef ∧ S (L.setIfInBounds i true) w')
    (hend : ∀ (L : Array Bool) (w' : World), L.size = ops.size → (∀ i, L.getD i true = true) → S L w' → Q .normal fin w') : (Code.region id ops true).wpIn F n P Q a w := by
  refine wpIn_region_any hm ?_
  have hap : apartB ops.toList = true := by unfold heldB at hB; simp only [Bool.and_eq_true] at hB; exact hB.1
  have hts : ∀ (j : Nat) (oj : Oper) (t : Tmp), ops[j]? = some oj → oj.dst = some t → t < a.tmps.size := fun j oj t h1 h2 => by
    have := List.all_eq_true.1 hsz oj (by rw [Array.mem_toList_iff]; exact Array.mem_of_getElem? h1)
    rw [h2] at this
    simpa using this
  subst hfin
  refine wpAnyIn_held hF hdp hB vs hvs S _ (fun j oj v t h1 h2 h3 => ⟨by rw [putAll_size]; exact hts j oj t h1 h3, putAll_get _ _ _ j oj v t hap (by simpa using h1) h2 h3 (hts j oj t h1 h3)⟩) hop hend _ _ _ _ (by simp)
    (by exact Nat.le_trans (List.length_filter_le _ _) (by simp)) ⟨(putAll_defers _ _ _).symm, (putAll_size _ _ _).symm, fun j oj t h1 h2 h3 => ?_, fun t ht => ?_⟩ h0
  · have hj : j < ops.size := (Array.getElem?_eq_some_iff.1 h1).1
    simp [hj] at h3
  · refine (putAll_other _ _ _ t fun o ho => ?_).symm
    obtain ⟨j, hj⟩ := List.mem_iff_getElem?.1 ho
    exact ht j o (by simpa using hj)
/-- what is asked of the operations, one behind the other -/
def heldAll (F : Fence) (n : Nat) (P : Program) (ops : Array Oper) (fin : Act) (S : Array Bool → World → Prop) : Nat → List Oper → List Value → Prop
  | i, o :: os, v :: vs => (∀ (L : Array Bool) (w' : World), L.size = ops.size → (∀ e ∈ o.after, Region.binds .any e = true → L.getD e.on false = true) → L.getD i true = false → S L w' →
      if Region.wanted o (yielded ops fin.tmps) = true then opHeld F n P o fin.eval w' v (S (L.setIfInBounds i true)) else v = undef ∧ S (L.setIfInBounds i true) w') ∧ heldAll F n P ops fin S (i + 1) os vs
  | _, [], [] => True
  | _, _, _ => False
theorem heldAll_get {ops : Array Oper} {fin : Act} {S : Array Bool → World → Prop} : ∀ (os : List Oper) (vs : List Value) (i : Nat), heldAll F n P ops fin S i os vs → os.length = vs.length ∧ ∀ (j : Nat) (o : Oper) (v : Value), os[j]? = some o → vs[j]? = some v →
    ∀ (L : Array Bool) (w' : World), L.size = ops.size → (∀ e ∈ o.after, Region.binds .any e = true → L.getD e.on false = true) → L.getD (i + j) true = false → S L w' →
      if Region.wanted o (yielded ops fin.tmps) = true then opHeld F n P o fin.eval w' v (S (L.setIfInBounds (i + j) true)) else v = undef ∧ S (L.setIfInBounds (i + j) true) w'
  | [], [], _, _ => ⟨rfl, fun j o v h => by simp at h⟩
  | [], _ :: _, _, h => h.elim
  | _ :: _, [], _, h => h.elim
  | o :: os, v :: vs, i, h => by
    obtain ⟨h1, h2⟩ := h
    obtain ⟨hl, hr⟩ := heldAll_get os vs (i + 1) h2
    refine ⟨by simp [hl], fun j o' v' ho hv => ?_⟩
    cases j with
    | zero =>
      simp at ho hv
      subst ho hv
      exact h1
    | succ j =>
      have := hr j o' v' (by simpa using ho) (by simpa using hv)
      have e : i + 1 + j = i + (j + 1) := by omega
      rw [e] at this
      exact this
/-- the law, as a walk uses it -/
theorem wpIn_region_all (hF : ∀ f, F.fn f) (hdp : F.depth = none) (hm : P.follows .mixedOrders = true) {id : Nat} {ops : Array Oper} {a : Act} {w : World} {Q : Exit → Act → World → Prop} (hB : heldB .any ops = true) (vs : List Value)
    (hsz : (ops.toList.all fun o => match o.dst with | none => true | some t => decide (t < a.tmps.size)) = true) (S : Array Bool → World → Prop)
    (fin : Act) (hfin : putAll ops.toList vs a = fin) (h0 : S (Array.replicate ops.size false) w.drew)
    (hop : heldAll F n P ops fin S 0 ops.toList vs)
    (hend : ∀ (L : Array Bool) (w' : World), L.size = ops.size → (∀ i, L.getD i true = true) → S L w' → Q .normal fin w') : (Code.region id ops true).wpIn F n P Q a w := by
  obtain ⟨hl, hr⟩ := heldAll_get _ _ _ hop
  refine wpIn_region_held hF hdp hm hB vs (by rw [← hl]; simp) hsz S h0 fin hfin (fun i o v ho hv => ?_) hend
  have := hr i o v (by simpa using ho) hv
  simpa only [Nat.zero_add] using this
theorem wp_region_all (hm : P.follows .mixedOrders = true) {id : Nat} {ops : Array Oper} {a : Act} {w : World} {Q : Exit → Act → World → Prop} (hB : heldB .any ops = true) (vs : List Value)
    (hsz : (ops.toList.all fun o => match o.dst with | none => true | some t => decide (t < a.tmps.size)) = true) (S : Array Bool → World → Prop)
    (fin : Act) (hfin : putAll ops.toList vs a = fin) (h0 : S (Array.replicate ops.size false) w.drew)
    (hop : heldAll Fence.wide 1 P ops fin S 0 ops.toList vs)
    (hend : ∀ (L : Array Bool) (w' : World), L.size = ops.size → (∀ i, L.getD i true = true) → S L w' → Q .normal fin w') : (Code.region id ops true).wp P Q a w :=
  wpIn_wide.1 (wpIn_region_all (fun _ => trivial) rfl hm hB vs hsz S fin hfin h0 hop hend)
theorem held_plain {ops : Array Oper} {fin : Act} {o : Oper} {p E : Prop} (hg : o.guard = none) (h : p) : if Region.wanted o (yielded ops fin.tmps) = true then p else E := by
  have hw : Region.wanted o (yielded ops fin.tmps) = true := by simp [Region.wanted, hg]
  rw [if_pos hw]
  exact h
theorem held_value {o : Oper} {ev : Operand → Value} {w w' : World} {v : Value} {S : World → Prop} (hr : (execOp ev o).run P w = .ok (.value v) w') (hS : S w') : opHeld F n P o ev w v S := by
  unfold opHeld
  rw [hr]
  exact ⟨rfl, hS⟩
theorem held_skip {o : Oper} {ev : Operand → Value} {w w' : World} {S : World → Prop} (hr : (execOp ev o).run P w = .ok .skip w') (hS : S w') : opHeld F n P o ev w undef S := by
  unfold opHeld
  rw [hr]
  exact ⟨rfl, hS⟩
theorem held_call {o : Oper} {ev : Operand → Value} {w w' : World} {v : Value} {f : FuncId} {args : Array Value} {S : World → Prop} (hr : (execOp ev o).run P w = .ok (.enter f args) w') (hc : CallsIn F (n - 1) P f args w' fun e w'' => e = .returned v ∧ S w'') : opHeld F n P o ev w v S := by
  unfold opHeld
  rw [hr]
  exact hc
end Go.Proofs.Ytefalfalapnllaa
