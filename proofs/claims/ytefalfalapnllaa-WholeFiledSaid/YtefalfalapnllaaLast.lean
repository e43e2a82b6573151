/- A region that draws its order, whose last operation comes behind all others (an assignment to a variable that the others read). -/
import Derived.Test.YtefalfalapnllaaGhost
namespace Go.Proofs.Ytefalfalapnllaa
open Go.RowKit Go.Shelf
set_option linter.unusedVariables false

/-- what the walk asks of a region's text: m operations in any order, then one more -/
def lastB (md : Region.Mode) (ops : Array Oper) (m : Nat) : Bool :=
  ops.size == m + 1 && apartB (ops.toList.take m) &&
  ((List.range (m + 1)).all fun i =>
    match ops[i]? with
    | none => false
    | some o =>
      (match o.op with | .select _ _ => false | .defer _ => false | _ => true) &&
      (o.after.all fun e => !Region.binds md e || decide (e.on < i)) &&
      (i == m || (o.looksAt ops).all fun t => (List.range m).all fun j =>
        match ops[j]? with
        | none => false
        | some oj => oj.dst != some t || o.after.any fun e => Region.binds md e && e.on == j)) &&
  (match ops[m]? with
    | none => false
    | some o => o.guard.isNone && (List.range m).all fun i => o.after.any fun e => Region.binds md e && e.on == i)
theorem lastB_size {md : Region.Mode} {ops : Array Oper} {m : Nat} (h : lastB md ops m = true) : ops.size = m + 1 := by
  unfold lastB at h
  simp only [Bool.and_eq_true, beq_iff_eq] at h
  exact h.1.1.1
theorem lastB_apart {md : Region.Mode} {ops : Array Oper} {m : Nat} (h : lastB md ops m = true) : apartB (ops.toList.take m) = true := by
  unfold lastB at h
  simp only [Bool.and_eq_true] at h
  exact h.1.1.2
theorem lastB_spec {md : Region.Mode} {ops : Array Oper} {m : Nat} (h : lastB md ops m = true) {i : Nat} {o : Oper} (ho : ops[i]? = some o) :
    (∀ cs b, o.op ≠ .select cs b) ∧ (∀ c, o.op ≠ .defer c) ∧ (∀ e ∈ o.after, Region.binds md e = true → e.on < i) ∧
      (i ≠ m → ∀ t ∈ o.looksAt ops, ∀ (j : Nat) (oj : Oper), j < m → ops[j]? = some oj → oj.dst = some t → ∃ e ∈ o.after, Region.binds md e = true ∧ e.on = j) := by
  have hsz := lastB_size h
  unfold lastB at h
  simp only [Bool.and_eq_true] at h
  have hi := List.all_eq_true.1 h.1.2 i (List.mem_range.2 (by have := (Array.getElem?_eq_some_iff.1 ho).1; omega))
  simp only [ho, Bool.and_eq_true] at hi
  obtain ⟨⟨h1, h2⟩, h3⟩ := hi
  refine ⟨fun cs b e => ?_, fun c e => ?_, fun e he hbn => ?_, fun hm t ht j oj hjm hj hd => ?_⟩
  · rw [e] at h1; cases h1
  · rw [e] at h1; cases h1
  · have := (Array.all_eq_true'.1 h2) e he
    rw [hbn] at this
    simpa using this
  · have h3' : ((o.looksAt ops).all fun t => (List.range m).all fun j =>
        match ops[j]? with
        | none => false
        | some oj => oj.dst != some t || o.after.any fun e => Region.binds md e && e.on == j) = true := by
      rw [Bool.or_eq_true] at h3
      exact h3.resolve_left (by simpa using hm)
    have := List.all_eq_true.1 (List.all_eq_true.1 h3' t ht) j (List.mem_range.2 hjm)
    simp only [hj, hd, bne_self_eq_false, Bool.false_or] at this
    obtain ⟨e, he, hb⟩ := Array.any_eq_true'.1 this
    simp only [Bool.and_eq_true, beq_iff_eq] at hb
    exact ⟨e, he, hb⟩
theorem lastB_last {md : Region.Mode} {ops : Array Oper} {m : Nat} (h : lastB md ops m = true) {o : Oper} (ho : ops[m]? = some o) : o.guard = none ∧ ∀ i, i < m → ∃ e ∈ o.after, Region.binds md e = true ∧ e.on = i := by
  unfold lastB at h
  simp only [Bool.and_eq_true, ho] at h
  refine ⟨by simpa using h.2.1, fun i hi => ?_⟩
  have := List.all_eq_true.1 h.2.2 i (List.mem_range.2 hi)
  obtain ⟨e, he, hb⟩ := Array.any_eq_true'.1 this
  simp only [Bool.and_eq_true, beq_iff_eq] at hb
  exact ⟨e, he, hb⟩
/-- a frame in which those of the first m that are listed have laid their values -/
structure AgreeM (ops : Array Oper) (m : Nat) (fin : Act) (L : Array Bool) (a' : Act) : Prop where
  defers : a'.defers = fin.defers
  size : a'.tmps.size = fin.tmps.size
  there : ∀ (j : Nat) (oj : Oper) (t : Tmp), j < m → ops[j]? = some oj → oj.dst = some t → L.getD j true = true → a'.tmps[t]? = fin.tmps[t]?
  other : ∀ t : Tmp, (∀ (j : Nat) (oj : Oper), j < m → ops[j]? = some oj → oj.dst ≠ some t) → a'.tmps[t]? = fin.tmps[t]?
theorem AgreeM.done {ops : Array Oper} {m : Nat} {fin : Act} {L : Array Bool} {a' : Act} (h : AgreeM ops m fin L a') (hL : ∀ i, i < m → L.getD i true = true) : a' = fin := by
  have ht : a'.tmps = fin.tmps := by
    apply Array.ext_getElem?
    intro t
    by_cases hex : ∃ (j : Nat) (oj : Oper), j < m ∧ ops[j]? = some oj ∧ oj.dst = some t
    · obtain ⟨j, oj, h0, h1, h2⟩ := hex
      exact h.there j oj t h0 h1 h2 (hL j h0)
    · exact h.other t fun j oj h0 h1 h2 => hex ⟨j, oj, h0, h1, h2⟩
  have hd := h.defers
  cases a'
  cases fin
  simp_all
theorem all_listed_last {ops : Array Oper} {md : Region.Mode} {m : Nat} {L : Array Bool} (hB : lastB md ops m = true) (hs : L.size = ops.size) (hr : Region.ready md ops L = []) : ∀ i, L.getD i true = true := by
  intro i
  induction i using Nat.strongRecOn with
  | _ i ih =>
    cases h : L.getD i true with
    | true => rfl
    | false =>
      exfalso
      have hi : i < L.size := by
        rcases Nat.lt_or_ge i L.size with h' | h'
        · exact h'
        · simp [Array.getElem?_eq_none h'] at h
      have ho : ops[i]? = some (ops[i]'(by omega)) := Array.getElem?_eq_getElem (by omega)
      have hsp := lastB_spec hB ho
      have : i ∈ Region.ready md ops L := mem_ready.2 ⟨h, _, ho, fun e he hbn => by
        have h1 := hsp.2.2.1 e he hbn
        have h2 := ih e.on h1
        have : e.on < L.size := by omega
        simp [this] at h2 ⊢
        exact h2⟩
      rw [hr] at this
      cases this

variable {F : Fence} {n : Nat} {P : Program} {G : Type}
theorem take_get {ops : Array Oper} {m j : Nat} {oj : Oper} (hj : j < m) (h : ops[j]? = some oj) : (ops.toList.take m)[j]? = some oj := by
  rw [List.getElem?_take_of_lt hj]
  simpa using h
theorem wpAnyIn_last (hF : ∀ f, F.fn f) (hdp : F.depth = none) {md : Region.Mode} {ops : Array Oper} {m : Nat} {Q : Exit → Act → World → Prop} (hB : lastB md ops m = true) (vs : G → List Value) (hvs : ∀ g, (vs g).length = m)
    (S : Array Bool → G → World → Prop) (a : Act) (hsz : ∀ (j : Nat) (oj : Oper) (t : Tmp), ops[j]? = some oj → oj.dst = some t → t < a.tmps.size)
    (hop : ∀ (i : Nat) (o : Oper), i < m → ops[i]? = some o → ∀ (g : G) (L : Array Bool) (w' : World), L.size = ops.size → (∀ e ∈ o.after, Region.binds md e = true → L.getD e.on false = true) → L.getD i true = false → S L g w' →
      if Region.wanted o (yielded ops (putAll (ops.toList.take m) (vs g) a).tmps) = true then opGhost F n P o (putAll (ops.toList.take m) (vs g) a).eval w' (fun v w'' => ∃ g', vs g' = (vs g).set i v ∧ S (L.setIfInBounds i true) g' w'')
        else ∃ g', vs g' = (vs g).set i undef ∧ S (L.setIfInBounds i true) g' w')
    (hlast : ∀ (o : Oper), ops[m]? = some o → ∀ (g : G) (L : Array Bool) (w' : World), L.size = ops.size → (∀ i, i < m → L.getD i true = true) → S L g w' →
      opGhost F n P o (putAll (ops.toList.take m) (vs g) a).eval w' (fun v w'' => Q .normal ((putAll (ops.toList.take m) (vs g) a).put o.dst v) w'')) :
    ∀ (fuel : Nat) (L : Array Bool) (a' : Act) (w' : World) (g : G), L.size = ops.size → L.getD m true = false → ((List.range ops.size).filter fun j => !L.getD j true).length ≤ fuel → AgreeM ops m (putAll (ops.toList.take m) (vs g) a) L a' → S L g w' → wpAnyIn F n P md ops Q fuel L a' w' := by
  have hap := lastB_apart hB
  have hsize := lastB_size hB
  intro fuel
  induction fuel with
  | zero =>
    intro L a' w' g hs hm hc hA hS
    exfalso
    have hnil : ((List.range ops.size).filter fun j => !L.getD j true) = [] := List.eq_nil_of_length_eq_zero (by omega)
    have := List.filter_eq_nil_iff.1 hnil m (List.mem_range.2 (by omega))
    rw [hm] at this
    simp at this
  | succ fuel ih =>
    intro L a' w' g hs hm hc hA hS
    refine ⟨fun hr => ?_, fun i hi => ?_⟩
    · have hall := all_listed_last hB hs hr m
      rw [hm] at hall
      cases hall
    · obtain ⟨hun, o, ho, haf⟩ := mem_ready.1 hi
      obtain ⟨hsel, hdef, hlt, hlook⟩ := lastB_spec hB ho
      have hio : i < ops.size := (Array.getElem?_eq_some_iff.1 ho).1
      by_cases him : i = m
      · subst him
        obtain ⟨hgd, hafter⟩ := lastB_last hB ho
        have hall : ∀ j, j < i → L.getD j true = true := fun j hj => by
          obtain ⟨e, he, hb, rfl⟩ := hafter j hj
          exact getD_of_both (haf e he hb)
        have hthis := hlast o ho g L w' hs hall hS
        have ha' := hA.done hall
        subst ha'
        have hstep : ∀ (v : Value) (w'' : World), Q .normal ((putAll (ops.toList.take i) (vs g) a).put o.dst v) w'' → wpAnyIn F n P md ops Q fuel (L.setIfInBounds i true) ((putAll (ops.toList.take i) (vs g) a).put o.dst v) w'' := by
          intro v w'' hq
          have hall2 : ∀ j, (L.setIfInBounds i true).getD j true = true := fun j => by
            by_cases hij : i = j
            · subst hij
              rcases Nat.lt_or_ge i L.size with h' | h'
              · simp [h']
              · simp [Array.getElem?_eq_none h']
            · rw [getD_set_ne true hij]
              rcases Nat.lt_or_ge j i with h' | h'
              · exact hall j h'
              · simp [Array.getElem?_eq_none (show L.size ≤ j by omega)]
          refine wpAnyIn_done ?_ hq _
          unfold Region.ready
          rw [List.filter_eq_nil_iff]
          intro j _
          simp only [hall2 j]
          simp
        unfold wpOpIn
        simp only [ho]
        have hw : Region.wanted o (yielded ops (putAll (ops.toList.take i) (vs g) a).tmps) = true := by simp [Region.wanted, hgd]
        rw [if_pos hw]
        refine ⟨fun f _ => hF f, ?_⟩
        rw [Oper.semAt_eq _ _ _ hdef]
        unfold opGhost at hthis
        generalize (execOp (putAll (ops.toList.take i) (vs g) a).eval o).run P w' = r at *
        cases r with
        | halt x w2 => exact hthis.elim
        | ok x w2 =>
          cases x with
          | value v' => exact hstep _ _ hthis
          | skip => exact hstep _ _ hthis
          | enter f args =>
            refine ⟨fun h => (by rw [hdp] at h; cases h), hthis.mono fun e w3 he => ?_⟩
            obtain ⟨v, rfl, hS2⟩ := he
            exact hstep _ _ hS2
          | _ => exact hthis.elim
      · have him' : i < m := by omega
        have hthis := hop i o him' ho g L w' hs haf hun hS
        have hslot : ∀ t ∈ o.looksAt ops, a'.tmps[t]? = (putAll (ops.toList.take m) (vs g) a).tmps[t]? := by
          intro t ht
          by_cases hex : ∃ (j : Nat) (oj : Oper), j < m ∧ ops[j]? = some oj ∧ oj.dst = some t
          · obtain ⟨j, oj, h0, h1, h2⟩ := hex
            obtain ⟨e, he, hb, rfl⟩ := hlook him t ht j oj h0 h1 h2
            exact hA.there _ oj t h0 h1 h2 (getD_of_both (haf e he hb))
          · exact hA.other t fun j oj h0 h1 h2 => hex ⟨j, oj, h0, h1, h2⟩
        have hev : execOp a'.eval o = execOp (putAll (ops.toList.take m) (vs g) a).eval o := execOp_congr o hsel fun x hx => by
          cases x with
          | tmp t =>
            have := hslot t (List.mem_append_left _ (List.mem_filterMap.2 ⟨.tmp t, by simpa using hx, rfl⟩))
            simp only [Act.eval, Array.getD_eq_getD_getElem?, this]
          | _ => rfl
        have hwa : Region.wanted o (yielded ops a'.tmps) = Region.wanted o (yielded ops (putAll (ops.toList.take m) (vs g) a).tmps) := by
          unfold Region.wanted
          cases hg : o.guard with
          | none => rfl
          | some gb =>
            obtain ⟨g1, b⟩ := gb
            have : yielded ops a'.tmps g1 = yielded ops (putAll (ops.toList.take m) (vs g) a).tmps g1 := by
              unfold yielded
              cases hd : (ops[g1]?).bind (·.dst) with
              | none => rfl
              | some t =>
                have ht : t ∈ o.looksAt ops := List.mem_append_right _ (by rw [hg]; simp [hd])
                simp only [Option.bind_some, hslot t ht]
            simp only [this]
        have hstep : ∀ (v : Value) (w'' : World), (∃ g', vs g' = (vs g).set i v ∧ S (L.setIfInBounds i true) g' w'') → wpAnyIn F n P md ops Q fuel (L.setIfInBounds i true) (a'.put o.dst v) w'' := by
          rintro v w'' ⟨g', hg', hS''⟩
          refine ih (L.setIfInBounds i true) (a'.put o.dst v) w'' g' (by simp [hs]) (by rw [getD_set_ne true him]; exact hm) ?_ ⟨?_, ?_, ?_, ?_⟩ hS''
          · have := unlisted_set hun ops.size
            rw [if_pos hio] at this
            omega
          · rw [putAll_defers]
            have := hA.defers
            rw [putAll_defers] at this
            rw [← this]; cases o.dst <;> rfl
          · rw [putAll_size]
            have := hA.size
            rw [putAll_size] at this
            rw [← this]; cases hd : o.dst <;> simp [Act.put]
          · intro j oj t h0 h1 h2 h3
            have hsj := hsz j oj t h1 h2
            by_cases hij : i = j
            · subst hij
              rw [ho] at h1; cases h1
              have hv : (vs g')[i]? = some v := by rw [hg', List.getElem?_set_self (by rw [hvs]; exact him')]
              rw [putAll_get _ _ _ i o v t hap (take_get him' ho) hv h2 hsj, h2]
              exact put_same _ _ _ (by have := hA.size; rw [putAll_size] at this; exact this ▸ hsj)
            · rw [getD_set_ne true hij] at h3
              have hne := apart_ne (ops.toList.take m) j i oj o t hap (take_get h0 h1) (take_get him' ho) (Ne.symm hij) h2
              have hv : (vs g)[j]? = some ((vs g)[j]'(by rw [hvs]; exact h0)) := List.getElem?_eq_getElem _
              generalize (vs g)[j]'(by rw [hvs]; exact h0) = v0 at hv
              have hv' : (vs g')[j]? = some v0 := by rw [hg', List.getElem?_set_ne hij]; exact hv
              rw [put_other _ _ _ _ hne, hA.there j oj t h0 h1 h2 h3, putAll_get _ _ _ j oj v0 t hap (take_get h0 h1) hv h2 hsj, putAll_get _ _ _ j oj v0 t hap (take_get h0 h1) hv' h2 hsj]
          · intro t ht
            have hno : ∀ o ∈ ops.toList.take m, o.dst ≠ some t := fun o ho => by
              obtain ⟨j, hj⟩ := List.mem_iff_getElem?.1 ho
              have hjm : j < m := by
                have := (List.getElem?_eq_some_iff.1 hj).1
                simp at this
                omega
              rw [List.getElem?_take_of_lt hjm] at hj
              exact ht j o hjm (by simpa using hj)
            rw [put_other _ _ _ _ (ht i o him' ho), hA.other t ht, putAll_other _ _ _ t hno, putAll_other _ _ _ t hno]
        unfold wpOpIn
        simp only [ho]
        rw [hwa]
        by_cases hwt : Region.wanted o (yielded ops (putAll (ops.toList.take m) (vs g) a).tmps) = true
        · rw [if_pos hwt] at hthis ⊢
          refine ⟨fun f _ => hF f, ?_⟩
          rw [Oper.semAt_eq _ _ _ hdef, hev]
          unfold opGhost at hthis
          generalize (execOp (putAll (ops.toList.take m) (vs g) a).eval o).run P w' = r at *
          cases r with
          | halt x w2 => exact hthis.elim
          | ok x w2 =>
            cases x with
            | value v' => exact hstep _ _ hthis
            | skip => exact hstep _ _ hthis
            | enter f args =>
              refine ⟨fun h => (by rw [hdp] at h; cases h), hthis.mono fun e w3 he => ?_⟩
              obtain ⟨v, rfl, hS2⟩ := he
              exact hstep _ _ hS2
            | _ => exact hthis.elim
        · rw [if_neg hwt] at hthis ⊢
          exact ⟨fun f _ => hF f, hstep _ _ hthis⟩
/-- what is asked of the operations ahead of the last, one behind the other -/
def lastAll (F : Fence) (n : Nat) (P : Program) (ops : Array Oper) (front : List Oper) (a : Act) (vs : G → List Value) (S : Array Bool → G → World → Prop) : Nat → List Oper → Prop
  | i, o :: os => (∀ (g : G) (L : Array Bool) (w' : World), L.size = ops.size → (∀ e ∈ o.after, Region.binds .any e = true → L.getD e.on false = true) → L.getD i true = false → S L g w' →
      if Region.wanted o (yielded ops (putAll front (vs g) a).tmps) = true then opGhost F n P o (putAll front (vs g) a).eval w' (fun v w'' => ∃ g', vs g' = (vs g).set i v ∧ S (L.setIfInBounds i true) g' w'')
        else ∃ g', vs g' = (vs g).set i undef ∧ S (L.setIfInBounds i true) g' w') ∧ lastAll F n P ops front a vs S (i + 1) os
  | _, [] => True
theorem lastAll_get {ops : Array Oper} {front : List Oper} {a : Act} {vs : G → List Value} {S : Array Bool → G → World → Prop} : ∀ (os : List Oper) (i : Nat), lastAll F n P ops front a vs S i os → ∀ (j : Nat) (o : Oper), os[j]? = some o →
    ∀ (g : G) (L : Array Bool) (w' : World), L.size = ops.size → (∀ e ∈ o.after, Region.binds .any e = true → L.getD e.on false = true) → L.getD (i + j) true = false → S L g w' →
      if Region.wanted o (yielded ops (putAll front (vs g) a).tmps) = true then opGhost F n P o (putAll front (vs g) a).eval w' (fun v w'' => ∃ g', vs g' = (vs g).set (i + j) v ∧ S (L.setIfInBounds (i + j) true) g' w'')
        else ∃ g', vs g' = (vs g).set (i + j) undef ∧ S (L.setIfInBounds (i + j) true) g' w'
  | [], _, _, j, o, h => by simp at h
  | o :: os, i, h, 0, o', ho => by
    simp at ho
    subst ho
    exact h.1
  | o :: os, i, h, j + 1, o', ho => by
    have := lastAll_get os (i + 1) h.2 j o' (by simpa using ho)
    have e : i + 1 + j = i + (j + 1) := by omega
    rw [e] at this
    exact this
theorem wpIn_region_last (hF : ∀ f, F.fn f) (hdp : F.depth = none) (hm : P.follows .mixedOrders = true) {id : Nat} {ops : Array Oper} {a : Act} {w : World} {Q : Exit → Act → World → Prop} (m : Nat) (hB : lastB .any ops m = true) (vs : G → List Value) (hvs : ∀ g, (vs g).length = m)
    (hsz : (ops.toList.all fun o => match o.dst with | none => true | some t => decide (t < a.tmps.size)) = true) (S : Array Bool → G → World → Prop) (g0 : G) (h0 : S (Array.replicate ops.size false) g0 w.drew)
    (hop : lastAll F n P ops (ops.toList.take m) a vs S 0 (ops.toList.take m))
    (hlast : ∀ (o : Oper), ops[m]? = some o → ∀ (g : G) (L : Array Bool) (w' : World), L.size = ops.size → (∀ i, i < m → L.getD i true = true) → S L g w' →
      opGhost F n P o (putAll (ops.toList.take m) (vs g) a).eval w' (fun v w'' => Q .normal ((putAll (ops.toList.take m) (vs g) a).put o.dst v) w'')) : (Code.region id ops true).wpIn F n P Q a w := by
  refine wpIn_region_any hm ?_
  have hts : ∀ (j : Nat) (oj : Oper) (t : Tmp), ops[j]? = some oj → oj.dst = some t → t < a.tmps.size := fun j oj t h1 h2 => by
    have := List.all_eq_true.1 hsz oj (by rw [Array.mem_toList_iff]; exact Array.mem_of_getElem? h1)
    rw [h2] at this
    simpa using this
  have hsize := lastB_size hB
  refine wpAnyIn_last hF hdp hB vs hvs S a hts (fun i o him ho => ?_) hlast _ _ _ _ g0 (by simp) (by simp [hsize])
    (by exact Nat.le_trans (List.length_filter_le _ _) (by simp)) ⟨(putAll_defers _ _ _).symm, (putAll_size _ _ _).symm, fun j oj t h0 h1 h2 h3 => ?_, fun t ht => ?_⟩ h0
  · have := lastAll_get _ _ hop i o (take_get him ho)
    simpa only [Nat.zero_add] using this
  · simp [show j < ops.size by omega] at h3
  · refine (putAll_other _ _ _ t fun o ho => ?_).symm
    obtain ⟨j, hj⟩ := List.mem_iff_getElem?.1 ho
    have hjm : j < m := by
      have := (List.getElem?_eq_some_iff.1 hj).1
      simp at this
      omega
    rw [List.getElem?_take_of_lt hjm] at hj
    exact ht j o hjm (by simpa using hj)
theorem wp_region_last (hm : P.follows .mixedOrders = true) {id : Nat} {ops : Array Oper} {a : Act} {w : World} {Q : Exit → Act → World → Prop} (m : Nat) (hB : lastB .any ops m = true) (vs : G → List Value) (hvs : ∀ g, (vs g).length = m)
    (hsz : (ops.toList.all fun o => match o.dst with | none => true | some t => decide (t < a.tmps.size)) = true) (S : Array Bool → G → World → Prop) (g0 : G) (h0 : S (Array.replicate ops.size false) g0 w.drew)
    (hop : lastAll Fence.wide 1 P ops (ops.toList.take m) a vs S 0 (ops.toList.take m))
    (hlast : ∀ (o : Oper), ops[m]? = some o → ∀ (g : G) (L : Array Bool) (w' : World), L.size = ops.size → (∀ i, i < m → L.getD i true = true) → S L g w' →
      opGhost Fence.wide 1 P o (putAll (ops.toList.take m) (vs g) a).eval w' (fun v w'' => Q .normal ((putAll (ops.toList.take m) (vs g) a).put o.dst v) w'')) : (Code.region id ops true).wp P Q a w :=
  wpIn_wide.1 (wpIn_region_last (fun _ => trivial) rfl hm m hB vs hvs hsz S g0 h0 hop hlast)
/-- an operation whose value is known: the ghost stays -/
theorem ghost_known {vs : G → List Value} {S : Array Bool → G → World → Prop} {L : Array Bool} {g : G} {i : Nat} {v : Value} {o : Oper} {ev : Operand → Value} {w : World} (hv : (vs g)[i]? = some v) (h : opHeld F n P o ev w v (fun w'' => S (L.setIfInBounds i true) g w'')) :
    opGhost F n P o ev w (fun v w'' => ∃ g', vs g' = (vs g).set i v ∧ S (L.setIfInBounds i true) g' w'') := by
  unfold opHeld at h
  unfold opGhost
  generalize (execOp ev o).run P w = r at *
  cases r with
  | halt x w2 => exact h.elim
  | ok x w2 =>
    cases x with
    | value v' =>
      obtain ⟨rfl, hS⟩ := h
      exact ghost_keep hv hS
    | skip =>
      obtain ⟨rfl, hS⟩ := h
      exact ghost_keep hv hS
    | enter f args =>
      exact h.mono fun e w3 ⟨he, hS⟩ => ⟨v, he, ghost_keep hv hS⟩
    | _ => exact h.elim
/-- the same, where all values are known -/
theorem wpIn_region_lastK (hF : ∀ f, F.fn f) (hdp : F.depth = none) (hm : P.follows .mixedOrders = true) {id : Nat} {ops : Array Oper} {a : Act} {w : World} {Q : Exit → Act → World → Prop} (m : Nat) (hB : lastB .any ops m = true) (vs : List Value) (hvs : vs.length = m)
    (hsz : (ops.toList.all fun o => match o.dst with | none => true | some t => decide (t < a.tmps.size)) = true) (S : Array Bool → World → Prop) (fin : Act) (hfin : putAll (ops.toList.take m) vs a = fin) (h0 : S (Array.replicate ops.size false) w.drew)
    (hop : heldAll F n P ops fin S 0 (ops.toList.take m) vs)
    (hlast : ∀ (o : Oper), ops[m]? = some o → ∀ (L : Array Bool) (w' : World), L.size = ops.size → (∀ i, i < m → L.getD i true = true) → S L w' →
      opGhost F n P o fin.eval w' (fun v w'' => Q .normal (fin.put o.dst v) w'')) : (Code.region id ops true).wpIn F n P Q a w := by
  subst hfin
  refine wpIn_region_any hm ?_
  have hts : ∀ (j : Nat) (oj : Oper) (t : Tmp), ops[j]? = some oj → oj.dst = some t → t < a.tmps.size := fun j oj t h1 h2 => by
    have := List.all_eq_true.1 hsz oj (by rw [Array.mem_toList_iff]; exact Array.mem_of_getElem? h1)
    rw [h2] at this
    simpa using this
  have hsize := lastB_size hB
  obtain ⟨hl, hr⟩ := heldAll_get _ _ _ hop
  refine wpAnyIn_last (G := Unit) hF hdp hB (fun _ => vs) (fun _ => hvs) (fun L _ w' => S L w') a hts (fun i o him ho g L w' hs haf hun hS => ?_) (fun o ho g L w' hs hal hS => hlast o ho L w' hs hal hS) _ _ _ _ () (by simp) (by simp [hsize])
    (by exact Nat.le_trans (List.length_filter_le _ _) (by simp)) ⟨(putAll_defers _ _ _).symm, (putAll_size _ _ _).symm, fun j oj t h0 h1 h2 h3 => ?_, fun t ht => ?_⟩ h0
  · have hv : vs[i]? = some (vs[i]'(by omega)) := List.getElem?_eq_getElem (by omega)
    generalize vs[i]'(by omega) = v at hv
    have := hr i o v (take_get him ho) hv L w' hs haf (by rw [Nat.zero_add]; exact hun) hS
    rw [Nat.zero_add] at this
    by_cases hw : Region.wanted o (yielded ops (putAll (ops.toList.take m) vs a).tmps) = true
    · rw [if_pos hw] at this ⊢
      exact ghost_known (vs := fun _ : Unit => vs) (S := fun L _ w' => S L w') (g := ()) hv this
    · rw [if_neg hw] at this ⊢
      obtain ⟨rfl, hS2⟩ := this
      exact ghost_keep (vs := fun _ : Unit => vs) (S := fun L _ w' => S L w') (g := ()) hv hS2
  · simp [show j < ops.size by omega] at h3
  · refine (putAll_other _ _ _ t fun o ho => ?_).symm
    obtain ⟨j, hj⟩ := List.mem_iff_getElem?.1 ho
    have hjm : j < m := by
      have := (List.getElem?_eq_some_iff.1 hj).1
      simp at this
      omega
    rw [List.getElem?_take_of_lt hjm] at hj
    exact ht j o hjm (by simpa using hj)
theorem wp_region_lastK (hm : P.follows .mixedOrders = true) {id : Nat} {ops : Array Oper} {a : Act} {w : World} {Q : Exit → Act → World → Prop} (m : Nat) (hB : lastB .any ops m = true) (vs : List Value) (hvs : vs.length = m)
    (hsz : (ops.toList.all fun o => match o.dst with | none => true | some t => decide (t < a.tmps.size)) = true) (S : Array Bool → World → Prop) (fin : Act) (hfin : putAll (ops.toList.take m) vs a = fin) (h0 : S (Array.replicate ops.size false) w.drew)
    (hop : heldAll Fence.wide 1 P ops fin S 0 (ops.toList.take m) vs)
    (hlast : ∀ (o : Oper), ops[m]? = some o → ∀ (L : Array Bool) (w' : World), L.size = ops.size → (∀ i, i < m → L.getD i true = true) → S L w' →
      opGhost Fence.wide 1 P o fin.eval w' (fun v w'' => Q .normal (fin.put o.dst v) w'')) : (Code.region id ops true).wp P Q a w :=
  wpIn_wide.1 (wpIn_region_lastK (fun _ => trivial) rfl hm m hB vs hvs hsz S fin hfin h0 hop hlast)
end Go.Proofs.Ytefalfalapnllaa
