/- Package pack: fields, Write. -/
import Derived.Test.YtefalfalapnllaaFilF
import Derived.Test.YtefalfalapnllaaLast
namespace Go.Proofs.Ytefalfalapnllaa
open Go.RowKit Go.Shelf
set_option linter.unusedVariables false
theorem x_app {P : Program} {o : Oper} {ev : Operand → Value} {w w' : World} {s x : Operand} {t : TypeId} {v1 v2 v : Value} (ho : o.op = .call { callee := .builtin .append, args := #[s, x], argTypes := #[t, t] }) (hs : ev s = v1) (hx : ev x = v2)
    (hr : (Builtin.append_ #[t, t] o.type #[v1, v2]).run P w = .ok v w') : (execOp ev o).run P w = .ok (.value v) w' := by
  unfold execOp
  simp only [ho, resolve, invoke, builtin, Sem.run_bind, Sem.run_pure, Result.andThen_ok, List.map_toArray, List.map_cons, List.map_nil, hs, hx, hr]
set_option maxHeartbeats 2000000 in
set_option maxRecDepth 20000 in
theorem pk_fields (w : World) (X : Array Value) :
    Calls Try.prog 48 #[.agg X] w fun e w' => e = .returned (.func (.func 59) #[] #[.pointer (some ⟨w.heap.size, 0, none⟩)]) ∧ w' = w.alloc (.cells X 64) := by
  go_enter Try.func48, Try.ntmps48
  go_wp2_with (refine x_value (exec_box (T := 64) rfl rfl) (by simp [go_sem, Region.wanted, yielded]) ?_)
  go_ret
  exact ⟨rfl, rfl⟩
/-- what Write's drawn region has made -/
structure GW where
  R : Option Addr
  cR : Nat
  A2 : Option Addr
  c2 : Nat
/-- where it stands -/
def wrS (W0 : World) (ob : Nat) (A : Option Addr) (pre : List UInt8) (t : UInt8) (d : List UInt8) (A1 : Option Addr) (c1 : Nat) (W1 W4 : World) (L : Array Bool) (g : GW) (W' : World) : Prop :=
  ((L.getD 4 false = true → L.getD 3 false = true) ∧ (L.getD 7 false = true → L.getD 4 false = true) ∧ (L.getD 8 false = true → L.getD 7 false = true) ∧ (L.getD 9 false = true → ∀ i, i < 9 → L.getD i true = true)) ∧
  if L.getD 9 false then Row W' 5 g.A2 g.c2 ((pre ++ (t :: Pk.runB d)).map bv) ∧ (∀ k, ab g.A2 = some k → ab A = some k ∨ W0.heap.size ≤ k) ∧ Blk W' ob 22 #[.slice g.A2 (pre ++ (t :: Pk.runB d)).length g.c2] ∧ Fr (fun k => some k = ab A ∨ k = ob) W0 W'
  else Fr (fun k => some k = ab A) W0 W' ∧
  (if L.getD 8 false then Row W' 5 g.A2 g.c2 ((pre ++ (t :: Pk.runB d)).map bv) ∧ (∀ k, ab g.A2 = some k → ab A = some k ∨ W0.heap.size ≤ k)
    else if L.getD 7 false then Row W' 5 A1 c1 ((pre ++ [t]).map bv) ∧ Rd W' g.R ((Pk.runB d).map bv)
    else if L.getD 4 false then W' = W4 else if L.getD 3 false then W' = W1 else W' = W0)
section
variable {W0 W1 W4 W' : World} {ob : Nat} {A A1 : Option Addr} {pre d : List UInt8} {t : UInt8} {c1 : Nat} {L : Array Bool} {g : GW}
theorem wrS.no9 (h : wrS W0 ob A pre t d A1 c1 W1 W4 L g W') {i : Nat} (hi : i < 9) (hn : L.getD i true = false) : L.getD 9 false = false := by
  cases e : L.getD 9 false with
  | false => rfl
  | true => have := h.1.2.2.2 e i hi; rw [hn] at this; cases this
theorem wrS.fr9 (h : wrS W0 ob A pre t d A1 c1 W1 W4 L g W') (h9 : L.getD 9 false = false) : Fr (fun k => some k = ab A) W0 W' := by
  have := h.2
  rw [h9] at this
  exact this.1
theorem wrS.list (h : wrS W0 ob A pre t d A1 c1 W1 W4 L g W') {i : Nat} (hi : i < 9) (hn : L.getD i true = false) (h3 : i ≠ 3) (h4 : i ≠ 4) (h7 : i ≠ 7) (h8 : i ≠ 8) : wrS W0 ob A pre t d A1 c1 W1 W4 (L.setIfInBounds i true) g W' := by
  have h9 := h.no9 hi hn
  unfold wrS at h ⊢
  rw [getD_set_ne false h3, getD_set_ne false h4, getD_set_ne false h7, getD_set_ne false h8, getD_set_ne false (show i ≠ 9 by omega)]
  refine ⟨⟨h.1.1, h.1.2.1, h.1.2.2.1, fun e => by rw [h9] at e; cases e⟩, h.2⟩
theorem wrS.f9 (h : wrS W0 ob A pre t d A1 c1 W1 W4 L g W') {i : Nat} (hi : i < 9) (hz : L.size = 10) (hn : L.getD i true = false) : L.getD 9 false = false ∧ L.getD i false = false := ⟨h.no9 hi hn, getD_no (by omega) hn⟩
theorem wrS.at3 (h : wrS W0 ob A pre t d A1 c1 W1 W4 L g W') (hz : L.size = 10) (hn : L.getD 3 true = false) (hf : Fr (fun k => some k = ab A) W0 W1) : W' = W0 ∧ wrS W0 ob A pre t d A1 c1 W1 W4 (L.setIfInBounds 3 true) g W1 := by
  obtain ⟨h9, h3⟩ := h.f9 (by decide) hz hn
  obtain ⟨⟨c4, c7, c8, c9⟩, hw⟩ := h
  have h4 : L.getD 4 false = false := by cases e : L.getD 4 false with | false => rfl | true => have := c4 e; rw [h3] at this; cases this
  have h7 : L.getD 7 false = false := by cases e : L.getD 7 false with | false => rfl | true => have := c7 e; rw [h4] at this; cases this
  have h8 : L.getD 8 false = false := by cases e : L.getD 8 false with | false => rfl | true => have := c8 e; rw [h7] at this; cases this
  rw [h9] at hw
  have hw2 := hw.2
  rw [h8, h7, h4, h3] at hw2
  refine ⟨hw2, ?_⟩
  unfold wrS
  rw [getD_set_ne false (show 3 ≠ 4 by decide), getD_set_ne false (show 3 ≠ 7 by decide), getD_set_ne false (show 3 ≠ 8 by decide), getD_set_ne false (show 3 ≠ 9 by decide), getD_set_self (by omega), h4, h7, h8, h9]
  exact ⟨⟨fun e => (by cases e), fun e => (by cases e), fun e => (by cases e), fun e => (by cases e)⟩, hf, rfl⟩
theorem wrS.at4 (h : wrS W0 ob A pre t d A1 c1 W1 W4 L g W') (hz : L.size = 10) (h3 : L.getD 3 false = true) (hn : L.getD 4 true = false) (hf : Fr (fun k => some k = ab A) W0 W4) : W' = W1 ∧ wrS W0 ob A pre t d A1 c1 W1 W4 (L.setIfInBounds 4 true) g W4 := by
  obtain ⟨h9, h4⟩ := h.f9 (by decide) hz hn
  obtain ⟨⟨c4, c7, c8, c9⟩, hw⟩ := h
  have h7 : L.getD 7 false = false := by cases e : L.getD 7 false with | false => rfl | true => have := c7 e; rw [h4] at this; cases this
  have h8 : L.getD 8 false = false := by cases e : L.getD 8 false with | false => rfl | true => have := c8 e; rw [h7] at this; cases this
  rw [h9] at hw
  have hw2 := hw.2
  rw [h8, h7, h4, h3] at hw2
  refine ⟨hw2, ?_⟩
  unfold wrS
  rw [getD_set_ne false (show 4 ≠ 3 by decide), getD_set_ne false (show 4 ≠ 7 by decide), getD_set_ne false (show 4 ≠ 8 by decide), getD_set_ne false (show 4 ≠ 9 by decide), getD_set_self (by omega), h3, h7, h8, h9]
  exact ⟨⟨fun _ => rfl, fun e => (by cases e), fun e => (by cases e), fun e => (by cases e)⟩, hf, rfl⟩
theorem wrS.at7 (h : wrS W0 ob A pre t d A1 c1 W1 W4 L g W') (hz : L.size = 10) (h4 : L.getD 4 false = true) (hn : L.getD 7 true = false) : W' = W4 ∧
    ∀ R cR W'', Row W'' 5 A1 c1 ((pre ++ [t]).map bv) → Rd W'' R ((Pk.runB d).map bv) → Fr (fun k => some k = ab A) W0 W'' → wrS W0 ob A pre t d A1 c1 W1 W4 (L.setIfInBounds 7 true) ⟨R, cR, g.A2, g.c2⟩ W'' := by
  obtain ⟨h9, h7⟩ := h.f9 (by decide) hz hn
  obtain ⟨⟨c4, c7, c8, c9⟩, hw⟩ := h
  have h8 : L.getD 8 false = false := by cases e : L.getD 8 false with | false => rfl | true => have := c8 e; rw [h7] at this; cases this
  rw [h9] at hw
  have hw2 := hw.2
  rw [h8, h7, h4] at hw2
  refine ⟨hw2, fun R cR W'' hR hRd hF => ?_⟩
  unfold wrS
  rw [getD_set_ne false (show 7 ≠ 3 by decide), getD_set_ne false (show 7 ≠ 4 by decide), getD_set_ne false (show 7 ≠ 8 by decide), getD_set_ne false (show 7 ≠ 9 by decide), getD_set_self (by omega), h4, h8, h9]
  exact ⟨⟨fun _ => c4 h4, fun _ => rfl, fun e => (by cases e), fun e => (by cases e)⟩, hF, hR, hRd⟩
theorem wrS.at8 (h : wrS W0 ob A pre t d A1 c1 W1 W4 L g W') (hz : L.size = 10) (h7 : L.getD 7 false = true) (hn : L.getD 8 true = false) : (Fr (fun k => some k = ab A) W0 W' ∧ Row W' 5 A1 c1 ((pre ++ [t]).map bv) ∧ Rd W' g.R ((Pk.runB d).map bv)) ∧
    ∀ A2 c2 W'', Row W'' 5 A2 c2 ((pre ++ (t :: Pk.runB d)).map bv) → (∀ k, ab A2 = some k → ab A = some k ∨ W0.heap.size ≤ k) → Fr (fun k => some k = ab A) W0 W'' → wrS W0 ob A pre t d A1 c1 W1 W4 (L.setIfInBounds 8 true) ⟨g.R, g.cR, A2, c2⟩ W'' := by
  obtain ⟨h9, h8⟩ := h.f9 (by decide) hz hn
  obtain ⟨⟨c4, c7, c8, c9⟩, hw⟩ := h
  rw [h9] at hw
  have hw2 := hw.2
  rw [h8, h7] at hw2
  refine ⟨⟨hw.1, hw2⟩, fun A2 c2 W'' hR hA hF => ?_⟩
  unfold wrS
  rw [getD_set_ne false (show 8 ≠ 3 by decide), getD_set_ne false (show 8 ≠ 4 by decide), getD_set_ne false (show 8 ≠ 7 by decide), getD_set_ne false (show 8 ≠ 9 by decide), getD_set_self (by omega), h7, h9]
  exact ⟨⟨c4, fun _ => c7 h7, fun _ => rfl, fun e => (by cases e)⟩, hF, hR, hA⟩
theorem wrS.at9 (h : wrS W0 ob A pre t d A1 c1 W1 W4 L g W') (hz : L.size = 10) (hall : ∀ i, i < 9 → L.getD i true = true) (h8 : L.getD 8 false = true) (hn : L.getD 9 true = false) : (Fr (fun k => some k = ab A) W0 W' ∧ Row W' 5 g.A2 g.c2 ((pre ++ (t :: Pk.runB d)).map bv) ∧ (∀ k, ab g.A2 = some k → ab A = some k ∨ W0.heap.size ≤ k)) ∧
    ∀ W'', Row W'' 5 g.A2 g.c2 ((pre ++ (t :: Pk.runB d)).map bv) → Blk W'' ob 22 #[.slice g.A2 (pre ++ (t :: Pk.runB d)).length g.c2] → Fr (fun k => some k = ab A ∨ k = ob) W0 W'' → wrS W0 ob A pre t d A1 c1 W1 W4 (L.setIfInBounds 9 true) g W'' := by
  have h9 : L.getD 9 false = false := getD_no (by omega) hn
  obtain ⟨⟨c4, c7, c8, c9⟩, hw⟩ := h
  rw [h9] at hw
  have hw2 := hw.2
  rw [h8] at hw2
  refine ⟨⟨hw.1, hw2⟩, fun W'' hR hB hF => ?_⟩
  unfold wrS
  rw [getD_set_ne false (show 9 ≠ 3 by decide), getD_set_ne false (show 9 ≠ 4 by decide), getD_set_ne false (show 9 ≠ 7 by decide), getD_set_ne false (show 9 ≠ 8 by decide), getD_set_self (by omega), h8]
  exact ⟨⟨c4, c7, fun _ => c8 h8, fun _ i hi => by rw [getD_set_ne true (by omega)]; exact hall i hi⟩, hR, hw2.2, hB, hF⟩
theorem wrS.end (h : wrS W0 ob A pre t d A1 c1 W1 W4 L g W') (hz : L.size = 10) (hall : ∀ i, L.getD i true = true) : Row W' 5 g.A2 g.c2 ((pre ++ (t :: Pk.runB d)).map bv) ∧ (∀ k, ab g.A2 = some k → ab A = some k ∨ W0.heap.size ≤ k) ∧ Blk W' ob 22 #[.slice g.A2 (pre ++ (t :: Pk.runB d)).length g.c2] ∧ Fr (fun k => some k = ab A ∨ k = ob) W0 W' := by
  have h9 : L.getD 9 false = true := by
    have := hall 9
    rw [Array.getD_eq_getD_getElem?] at this ⊢
    rw [Array.getElem?_eq_getElem (by omega)] at this ⊢
    exact this
  have := h.2
  rw [h9] at this
  exact this
end
def wrV (A : Option Addr) (n c fb : Nat) (t : UInt8) (z : Nat) (A1 : Option Addr) (c1 : Nat) (Ad : Option Addr) (dn cd : Nat) (g : GW) : List Value :=
  [.slice A n c, .pointer (some ⟨fb, 0, none⟩), bv t, .slice (some ⟨z, 0, none⟩) 1 1, .slice A1 (n + 1) c1, .pointer (some ⟨fb, 1, none⟩), .slice Ad dn cd, .slice g.R (3 + dn) g.cR, .slice g.A2 (n + 1 + (3 + dn)) g.c2, undef]
theorem exec_lit1 {o : Oper} {ev : Operand → Value} {x : Operand} {t : UInt8} {v : Value} (w : World) (ho : o.op = .buildSlice 22 1 #[(0, x)]) (hx : ev x = bv t) (hv : bv t = v) :
    (execOp ev o).run Try.prog w = .ok (.value (.slice (some ⟨w.heap.size, 0, none⟩) 1 1)) (w.alloc (.cells #[v] 5)) := by
  subst hv
  unfold bv at *
  unfold execOp
  simp only [ho]
  go_simp
/-- the bytes so far -/
structure OutAt (w0 : World) (ob o0 : Nat) (bs : List UInt8) (U : Nat → Prop) (W : World) : Prop where
  ex : ∃ A c, Blk W ob 22 #[.slice A bs.length c] ∧ Row W 5 A c (bs.map bv) ∧ ∀ k, ab A = some k → k = o0 ∨ U k
  fr : Fr (fun k => k = ob ∨ k = o0 ∨ w0.heap.size ≤ k) w0 W
  lo : ∀ k, U k → w0.heap.size ≤ k
theorem OutAt.abides {w0 : World} {ob o0 : Nat} {bs : List UInt8} {U : Nat → Prop} {X Y : World} (hob : ob < w0.heap.size) (ho0 : o0 < w0.heap.size) (h : OutAt w0 ob o0 bs U X) (f : Fr (fun k => False ∨ (w0.heap.size ≤ k ∧ ¬ U k)) X Y) : OutAt w0 ob o0 bs U Y := by
  obtain ⟨A, c, hB, hR, hA⟩ := h.ex
  refine ⟨⟨A, c, hB.fr f (fun h => by rcases h with h | h; exact h; omega), hR.fr f (fun k hk h => by
    rcases h with h | h
    · exact h
    · rcases hA k hk with h2 | h2
      · omega
      · exact h.2 h2), hA⟩, h.fr.trans f (fun k hk => by
    rcases hk with h | h
    · exact h.elim
    · exact .inl (.inr (.inr h.1))), h.lo⟩
theorem fieldsB_le (fs : List (UInt8 × List UInt8)) (h : ∀ f ∈ fs, f.2.length ≤ 131072) : (Pk.fieldsB fs).length ≤ fs.length * 131076 := by
  induction fs with
  | nil => simp [Pk.fieldsB]
  | cons f fs ih =>
    have h1 := ih fun g hg => h g (List.mem_cons_of_mem _ hg)
    have h2 := h f (List.mem_cons_self ..)
    have e : Pk.fieldsB (f :: fs) = (f.1 :: Pk.runB f.2) ++ Pk.fieldsB fs := by unfold Pk.fieldsB; rw [List.flatMap_cons]
    rw [e, List.length_append, List.length_cons, Pk.runB_length, List.length_cons]
    omega
theorem numF_ok : ∀ (j : Nat) (ns : List Int), (∀ n ∈ ns, okN n) → (Pk.numF j ns).length ≤ ns.length ∧ ∀ f ∈ Pk.numF j ns, f.2.length ≤ 131072
  | _, [], _ => by simp [Pk.numF]
  | j, n :: ns, h => by
    have ih := numF_ok (j + 1) ns fun m hm => h m (List.mem_cons_of_mem _ hm)
    have hn := h n (List.mem_cons_self ..)
    unfold okN at hn
    have hl := Pk.numB_length 6 n.toNat (by omega)
    unfold Pk.numF
    by_cases hz : n = 0
    · rw [if_pos hz, List.nil_append]
      exact ⟨by have := ih.1; simp only [List.length_cons]; omega, ih.2⟩
    · rw [if_neg hz]
      refine ⟨by have := ih.1; simp only [List.length_append, List.length_cons, List.length_nil]; omega, fun f hf => ?_⟩
      rcases List.mem_append.1 hf with h | h
      · simp at h
        subst h
        show (Pk.numB n.toNat).length ≤ 131072
        omega
      · exact ih.2 f h
theorem fields_ok {k : Int} {ns : List Int} {id data : List UInt8} {ids : List (List UInt8)} (hn : ∀ n ∈ ns, okN n) (hl : ns.length = 5) (hid : id.length = 32) (hd : data.length ≤ 131072) (hi : ids.length ≤ 64) (hie : ∀ x ∈ ids, x.length = 32) :
    (Pk.fields ⟨k, ns, id, data, ids⟩).length ≤ 8 ∧ ∀ f ∈ Pk.fields ⟨k, ns, id, data, ids⟩, f.2.length ≤ 131072 := by
  have h0 := numF_ok 0 ns hn
  have hfl := flat_len ids hie
  unfold Pk.fields
  constructor
  · simp only [List.length_append]
    have h1 := h0.1
    have a : (if id = List.replicate 32 0 then ([] : List (UInt8 × List UInt8)) else [(6, id)]).length ≤ 1 := by split <;> simp
    have b : (if data = [] then ([] : List (UInt8 × List UInt8)) else [(7, data)]).length ≤ 1 := by split <;> simp
    have c : (if ids = [] then ([] : List (UInt8 × List UInt8)) else [(8, ids.flatten)]).length ≤ 1 := by split <;> simp
    show (Pk.numF 0 ns).length + _ + _ + _ ≤ 8
    omega
  · intro f hf
    rcases List.mem_append.1 hf with hf | hf
    · rcases List.mem_append.1 hf with hf | hf
      · rcases List.mem_append.1 hf with hf | hf
        · exact h0.2 f hf
        · split at hf
          · simp at hf
          · simp at hf; subst hf; show id.length ≤ _; omega
      · split at hf
        · simp at hf
        · simp at hf; subst hf; exact hd
    · split at hf
      · simp at hf
      · simp only [List.mem_singleton] at hf; subst hf; show ids.flatten.length ≤ _; omega
theorem infoFld : (Try.prog.info? 101).map (fun i => (i.zero, i.size, i.bytes)) = some (some (.agg #[.int .u8 0, .slice none 0 0]), 2, 32) := by kernel_rfl
theorem infoMsg : (Try.prog.info? 64).map (fun i => (i.zero, i.size, i.bytes)) = some (some (.agg (mc 0 0 0 0 0 0 z32 none 0 0 none 0 0 none 0 0)), 41, 152) := by kernel_rfl
end Go.Proofs.Ytefalfalapnllaa
