/- Package pack: the iterator over a message's fields. -/
import Derived.Test.YtefalfalapnllaaFilB
import Derived.Test.YtefalfalapnllaaFilR
import Derived.Test.YtefalfalapnllaaBlk
import Derived.OwnWalkIn
namespace Go.Proofs.Ytefalfalapnllaa
open Go.RowKit Go.Shelf
set_option linter.unusedVariables false
/-- a field that is handed out -/
def EncF (_ : Nat) (f : UInt8 × List UInt8) (args : Array Value) (W : World) : Prop := ∃ A c, args = #[.agg #[bv f.1, .slice A f.2.length c]] ∧ Rd W A (f.2.map bv)
/-- the sums that stand one behind the other -/
def IdsL (W : World) (A : Option Addr) (ids : List (List UInt8)) : Prop := 0 < ids.length → ∃ b off, A = some ⟨b, off, none⟩ ∧ b < W.heap.size ∧ ∀ k (h : k < ids.length), At W b (off + k * 32) (ida ids[k])
theorem At.fr {S : Nat → Prop} {W W' : World} {g off : Nat} {X : Array Value} (h : At W g off X) (hg : g < W.heap.size) (f : Fr S W W') (hs : ¬ S g) : At W' g off X := fun j hj => (f.cell (p := ⟨g, off + j, none⟩) hg hs).trans (h j hj)
theorem IdsL.fr {S : Nat → Prop} {W W' : World} {A : Option Addr} {ids : List (List UInt8)} (h : IdsL W A ids) (f : Fr S W W') (hs : 0 < ids.length → ∀ k, ab A = some k → ¬ S k) : IdsL W' A ids := fun h0 => by
  obtain ⟨b, off, e, hb, hc⟩ := h h0
  have := hs h0 b (by rw [e]; rfl)
  exact ⟨b, off, e, Nat.lt_of_lt_of_le hb f.size, fun k hk => (hc k hk).fr hb f this⟩
theorem rd_of_at {W : World} {g off : Nat} {l : List UInt8} (hg : g < W.heap.size) (h : At W g off (ida l)) : Rd W (some ⟨g, off, none⟩) (l.map bv) := fun h0 =>
  ⟨g, off, rfl, hg, fun j hj => by
    have := h j (by simpa [ida] using hj)
    rw [this]
    simp [ida]⟩
theorem idsl_lt {W : World} {A : Option Addr} {ids : List (List UInt8)} (h : IdsL W A ids) (h0 : 0 < ids.length) : ∀ k, ab A = some k → k < W.heap.size := fun k hk => by
  obtain ⟨b, off, e, hb, _⟩ := h h0
  rw [e] at hk
  simp [ab] at hk
  omega
theorem flat_le (ids : List (List UInt8)) (t : Nat) (h : ∀ x ∈ ids, x.length = 32) (hl : ids.length ≤ 64) : ((ids.take t).flatten).length ≤ 2048 := by
  have hm : ∀ (l : List (List UInt8)), (∀ x ∈ l, x.length = 32) → l.flatten.length = 32 * l.length := fun l => by
    induction l with
    | nil => simp
    | cons a l ih =>
      intro hx
      rw [List.flatten_cons, List.length_append, ih (fun x hx' => hx x (List.mem_cons_of_mem _ hx')), hx a (List.mem_cons_self ..), List.length_cons]
      omega
  rw [hm _ (fun x hx => h x (List.mem_of_mem_take hx)), List.length_take]
  omega
theorem flat_len (l : List (List UInt8)) (hx : ∀ x ∈ l, x.length = 32) : l.flatten.length = 32 * l.length := by
  induction l with
  | nil => simp
  | cons a l ih =>
    rw [List.flatten_cons, List.length_append, ih (fun x hx' => hx x (List.mem_cons_of_mem _ hx')), hx a (List.mem_cons_self ..), List.length_cons]
    omega
/-- where the iterator stands: i fields are handed out -/
def FM (W0 : World) (T : Nat → Prop) (J : Nat → (Nat → Prop) → World → Prop) (i : Nat) (U : Nat → Prop) (V : World) : Prop := J i U V ∧ (∀ k, U k → W0.heap.size ≤ k ∧ k < V.heap.size) ∧ Fr (fun k => T k ∨ W0.heap.size ≤ k) W0 V
section
variable {W0 V V' : World} {T U : Nat → Prop} {J : Nat → (Nat → Prop) → World → Prop} {i : Nat}
theorem FM.new (h : FM W0 T J i U V) (hJ : AbU W0.heap.size (fun _ => False) J) (f : New V V') : FM W0 T J i U V' :=
  ⟨hJ i U V V' h.1 (f.mono fun _ h => h.elim), fun k hk => ⟨(h.2.1 k hk).1, Nat.lt_of_lt_of_le (h.2.1 k hk).2 f.size⟩, h.2.2.trans f (fun _ h => h.elim)⟩
/-- the iterator turns what is its own -/
theorem FM.own (h : FM W0 T J i U V) (hJ : AbU W0.heap.size (fun _ => False) J) {S : Nat → Prop} (f : Fr S V V') (hS : ∀ k, S k → W0.heap.size ≤ k ∧ ¬ U k) : FM W0 T J i U V' :=
  ⟨hJ i U V V' h.1 (f.mono fun k hk => .inl (.inr (hS k hk))), fun k hk => ⟨(h.2.1 k hk).1, Nat.lt_of_lt_of_le (h.2.1 k hk).2 f.size⟩, h.2.2.trans f (fun k hk => .inl (.inr (hS k hk).1))⟩
theorem FM.after (h : FM W0 T J i U V) {U' : Nat → Prop} (hj : J (i + 1) U' V') (hg : ∀ k, U' k → U k ∨ V.heap.size ≤ k) (hu : ∀ k, U' k → k < V'.heap.size) (f : Fr (fun k => T k ∨ U k) V V') : FM W0 T J (i + 1) U' V' :=
  ⟨hj, fun k hk => ⟨by rcases hg k hk with h' | h'; exact (h.2.1 k h').1; exact Nat.le_trans h.2.2.size h', hu k hk⟩, h.2.2.trans f (fun k hk => .inl (hk.imp id fun hu => (h.2.1 k hu).1))⟩
end
theorem numF_append : ∀ (j : Nat) (a b : List Int), Pk.numF j (a ++ b) = Pk.numF j a ++ Pk.numF (j + a.length) b
  | j, [], b => by simp [Pk.numF]
  | j, n :: a, b => by
    simp only [List.cons_append, Pk.numF, numF_append (j + 1) a b, List.append_assoc, List.length_cons]
    rw [show j + 1 + a.length = j + (a.length + 1) by omega]
theorem numF_split (L : List Int) (t : Nat) (ht : t < L.length) : Pk.numF 0 L = Pk.numF 0 (L.take t) ++ ((if L[t] = 0 then [] else [(UInt8.ofNat (1 + t), Pk.numB (L[t]).toNat)]) ++ Pk.numF (t + 1) (L.drop (t + 1))) := by
  have e : L = L.take t ++ (L[t] :: L.drop (t + 1)) := by rw [List.getElem_cons_drop]; exact (List.take_append_drop t L).symm
  have hl : (L.take t).length = t := by rw [List.length_take]; omega
  have h2 : Pk.numF 0 L = Pk.numF 0 (L.take t ++ (L[t] :: L.drop (t + 1))) := congrArg (Pk.numF 0) e
  rw [h2, numF_append, hl, Nat.zero_add, Pk.numF]
theorem numF_next (L : List Int) (t : Nat) (ht : t < L.length) : Pk.numF 0 (L.take (t + 1)) = Pk.numF 0 (L.take t) ++ (if L[t] = 0 then [] else [(UInt8.ofNat (1 + t), Pk.numB (L[t]).toNat)]) := by
  have hl : (L.take t).length = t := by rw [List.length_take]; omega
  rw [List.take_succ_eq_append_getElem ht, numF_append, hl, Nat.zero_add]
  simp [Pk.numF]
theorem numF_at (L : List Int) (t : Nat) (ht : t < L.length) (h : L[t] ≠ 0) (R : List (UInt8 × List UInt8)) : (Pk.numF 0 L ++ R)[(Pk.numF 0 (L.take t)).length]? = some (UInt8.ofNat (1 + t), Pk.numB (L[t]).toNat) ∧ (Pk.numF 0 (L.take (t + 1))).length = (Pk.numF 0 (L.take t)).length + 1 := by
  constructor
  · rw [numF_split L t ht, if_neg h, List.append_assoc, List.getElem?_append_right (Nat.le_refl _), Nat.sub_self]
    rfl
  · rw [numF_next L t ht, if_neg h]
    simp
theorem numF_skip (L : List Int) (t : Nat) (ht : t < L.length) (h : L[t] = 0) : Pk.numF 0 (L.take (t + 1)) = Pk.numF 0 (L.take t) := by
  rw [numF_next L t ht, if_pos h, List.append_nil]
theorem wpListIn_append_run {F : Fence} {n : Nat} {P : Program} {ops : Array Oper} {rest : List Oper} {o : Oper} {a : Act} {Q : Exit → Act → World → Prop} {w w' : World} {v1 v2 v : Value} {t ty : TypeId}
    (hr : (Builtin.append_ #[t, t] ty #[v1, v2]).run P w = .ok v w') (hgd : o.guard = none) (hty : o.type = ty) (s x : Operand)
    (ho : o.op = .call { callee := .builtin .append, args := #[s, x], argTypes := #[t, t] }) (hs : a.eval s = v1) (hx : a.eval x = v2)
    (h : wpListIn F n P ops Q rest (a.put o.dst v) w') : wpListIn F n P ops Q (o :: rest) a w :=
  wpListIn_plain hgd fun _ hK => by
    subst hty
    unfold Oper.wpIn
    refine ⟨?_, ?_⟩
    · simp [Oper.about, ho, resolve, Target.leads, Sem.run_pure]
    · rw [Oper.semAt_plain F _ _ (by rw [ho]; intro c hc'; cases hc')]
      unfold execOp
      simp only [ho, resolve, invoke, builtin, Sem.run_bind, Sem.run_pure, Result.andThen_ok, List.map_toArray, List.map_cons, List.map_nil, hs, hx, hr]
      exact hK _ _ h
attribute [local go_sem] Oper.semAt_some
set_option maxHeartbeats 8000000 in
set_option maxRecDepth 100000 in
theorem fields_any (n : Nat) (hn : 2 ≤ n) (mb : Nat) (k n1 n2 n3 n4 n5 : Int) (id : List UInt8) (Ad : Option Addr) (cd : Nat) (data : List UInt8) (Ai : Option Addr) (ci : Nat) (ids : List (List UInt8)) (Al : Option Addr) (cl : Nat)
    (h1 : okN n1) (h2 : okN n2) (h3 : okN n3) (h4 : okN n4) (h5 : okN n5) (hid : id.length = 32) (hdl : data.length ≤ 131072) (hil : ids.length ≤ 64) (hie : ∀ x ∈ ids, x.length = 32) :
    SeqU Fence.wide n Try.prog 59 #[.pointer (some ⟨mb, 0, none⟩)] (fun _ => False) EncF (Pk.fields ⟨k, [n1, n2, n3, n4, n5], id, data, ids⟩)
      (fun T W => Blk W mb 64 (mc k n1 n2 n3 n4 n5 id Ad data.length cd Ai ids.length ci Al 0 cl) ∧ Rd W Ad (data.map bv) ∧ IdsL W Ai ids ∧ ¬ T mb ∧ (0 < data.length → ∀ k, ab Ad = some k → ¬ T k) ∧ (0 < ids.length → ∀ k, ab Ai = some k → ¬ T k)) (fun _ => True) := by
  obtain ⟨ii, hii, hi0, hi1, hi2⟩ := info_parts infoID
  rintro l T J W ⟨hB, hD, hI, hTm, hTd, hTi⟩ hT hJ hY h0
  refine callsIn_of_wp Try.func59 rfl trivial ?_ rfl
  simp only [Try.ntmps59, List.size_toArray, List.length_cons, List.length_nil, Nat.reduceAdd, Nat.reduceSub, Array.replicate_succ, Array.replicate_zero, List.push_toArray, List.append_toArray, List.nil_append, List.cons_append]
  have hF0 : FM W T J 0 (fun _ => False) W := ⟨h0, fun _ h => h.elim, Fr.refl _ _⟩
  have hmb := hB.lt
  obtain ⟨⟨b0, b1, b2, b3, b4, b5⟩, b38, b39, b40⟩ := mc_cells hB hid
  have HFE := Lib.hid (show Pk.fields ⟨k, [n1, n2, n3, n4, n5], id, data, ids⟩ = Pk.numF 0 [n1, n2, n3, n4, n5] ++ ((if id = List.replicate 32 0 then [] else [(6, id)]) ++ ((if data = [] then [] else [(7, data)]) ++ (if ids = [] then [] else [(8, ids.flatten)]))) by simp only [Pk.fields, List.append_assoc])
  have HF0 := Lib.hid hF0
  have HY := Lib.hid hY
  have HB := Lib.hid hB
  have HD := Lib.hid hD
  have HI := Lib.hid hI
  clear hY h0 hF0 hB hD hI b0
  gi_wp2_with fail
  gi_loopw [22] (fun iv V => ∃ (t cnt : Nat) (U : Nat → Prop), iv = .int .i64 t ∧ t ≤ 5 ∧ cnt = (Pk.numF 0 ([n1, n2, n3, n4, n5].take t)).length ∧ FM W T J cnt U V) (fun iv _ => 5 - (intOf iv).toNat)
  case atStart => exact ⟨0, 0, _, rfl, by omega, rfl, HF0.out⟩
  case round =>
    clear HF0
    obtain ⟨t, cnt, U, rfl, ht5, hcnt, hFM⟩ := hrel
    rcases (by omega : t = 0 ∨ t = 1 ∨ t = 2 ∨ t = 3 ∨ t = 4 ∨ t = 5) with rfl | rfl | rfl | rfl | rfl | rfl
    · by_cases hz : n1 = 0
      · have hzb : (n1 == 0) = true := beq_iff_eq.2 hz
        have hzb2 : (n1 != 0) = false := by rw [bne, hzb]; rfl
        have HSK := Lib.hid (show cnt = (Pk.numF 0 ([n1, n2, n3, n4, n5].take 1)).length by rw [numF_skip [n1, n2, n3, n4, n5] 0 (by simp) hz]; exact hcnt)
        have HFM := Lib.hid hFM
        clear hFM hcnt hz
        gi_wp2_with (refine x_value_in (exec_idx5 (idx5_0 _ n1 n2 n3 n4 n5) rfl rfl rfl) (fun _ h => by cases h) (fun _ h => by cases h) (by simp [go_sem, Region.wanted, yielded]) ?_)
        refine ⟨trivial, ?_⟩
        gi_wp2_with fail
        refine ⟨fun _ h => (by cases h), ?_⟩
        gi_wp2_with fail
        go_roundw
        case rel => exact ⟨1, cnt, U, by go_num, by omega, HSK.out, HFM.out⟩
        case measure => simp [intOf]
      · obtain ⟨m, hm⟩ : ∃ m : Nat, n1 = (m : Int) := ⟨n1.toNat, by unfold okN at h1; omega⟩
        have hzb : (n1 == 0) = false := beq_false_of_ne hz
        have hzb2 : (n1 != 0) = true := bne_iff_ne.2 hz
        obtain ⟨hx, hcnt2⟩ := numF_at [n1, n2, n3, n4, n5] 0 (by simp) hz ((if id = List.replicate 32 0 then [] else [(6, id)]) ++ ((if data = [] then [] else [(7, data)]) ++ (if ids = [] then [] else [(8, ids.flatten)])))
        rw [← hcnt] at hx hcnt2
        have HX := Lib.hid hx
        have HCN := Lib.hid hcnt2
        have HFM := Lib.hid hFM
        have HM := Lib.hid hm
        clear hFM hcnt hx hcnt2 hm hz
        gi_wp2_with (refine x_value_in (exec_idx5 (idx5_0 _ n1 n2 n3 n4 n5) rfl rfl rfl) (fun _ h => by cases h) (fun _ h => by cases h) (by simp [go_sem, Region.wanted, yielded]) ?_)
        have hcall := pk_number wr m (by unfold okN at h1; have := HM.out; omega)
        rw [← HM.out] at hcall
        refine ⟨trivial, (fun h => by cases h), CallsIn.mono (show CallsIn Fence.wide _ _ _ _ _ _ from callsIn_wide.2 hcall) ?_⟩
        rintro e w2 ⟨A2, c2, rfl, hR2⟩
        have hFM2 := HFM.out.new hJ hR2.fr
        have hto : n1.toNat = m := by have := HM.out; omega
        have hx2 : (Pk.numF 0 [n1, n2, n3, n4, n5] ++ ((if id = List.replicate 32 0 then [] else [(6, id)]) ++ ((if data = [] then [] else [(7, data)]) ++ (if ids = [] then [] else [(8, ids.flatten)]))))[cnt]? = some (UInt8.ofNat (1 + 0), Pk.numB m) := hto ▸ HX.out
        have hnotin : ∀ k, ab A2 = some k → ¬ (T k ∨ U k) := fun k hk h => by
          have hge := hR2.new k hk
          have hwz := HFM.out.2.2.size
          rcases h with h | h
          · have := (hT k h).1; omega
          · have := (HFM.out.2.1 k h).2; omega
        have hY2 := HY.out cnt (UInt8.ofNat (1 + 0), Pk.numB m) #[.agg #[bv (UInt8.ofNat (1 + 0)), .slice A2 (Pk.numB m).length c2]] U w2 (by rw [HFE.out]; exact hx2) (fun V hV => ⟨A2, c2, rfl, (hR2.row.rd.fr hV hnotin)⟩) hFM2.1 hFM2.2.2.size hFM2.2.1
        obtain ⟨fn, tmps, assign, body, hy, hRo⟩ := hY2
        have hy' : (Instr.yield l #[.agg #[.int .u8 1, .slice A2 (Pk.numB m).length c2]]).run Try.prog w2 = .ok (.round l fn tmps assign body) w2 := hy
        have HR := Lib.hid hRo
        have HF2 := Lib.hid hFM2
        clear hy hRo hFM2 hx2 hnotin hcall
        gi_wp2_with fail
        refine ⟨(fun h => by cases h), HR.out.mono ?_⟩
        clear hy' HR
        rintro e W3 ⟨rfl, U', hj, hg, hu, hf⟩
        have HF3 := Lib.hid (HF2.out.after hj hg hu hf)
        clear hj hg hu hf HF2
        gi_wp2_with fail
        go_roundw
        case rel => exact ⟨1, cnt + 1, U', by go_num, by omega, HCN.out.symm, HF3.out⟩
        case measure => simp [intOf]
    · by_cases hz : n2 = 0
      · have hzb : (n2 == 0) = true := beq_iff_eq.2 hz
        have hzb2 : (n2 != 0) = false := by rw [bne, hzb]; rfl
        have HSK := Lib.hid (show cnt = (Pk.numF 0 ([n1, n2, n3, n4, n5].take 2)).length by rw [numF_skip [n1, n2, n3, n4, n5] 1 (by simp) hz]; exact hcnt)
        have HFM := Lib.hid hFM
        clear hFM hcnt hz
        gi_wp2_with (refine x_value_in (exec_idx5 (idx5_1 _ n1 n2 n3 n4 n5) rfl rfl rfl) (fun _ h => by cases h) (fun _ h => by cases h) (by simp [go_sem, Region.wanted, yielded]) ?_)
        refine ⟨trivial, ?_⟩
        gi_wp2_with fail
        refine ⟨fun _ h => (by cases h), ?_⟩
        gi_wp2_with fail
        go_roundw
        case rel => exact ⟨2, cnt, U, by go_num, by omega, HSK.out, HFM.out⟩
        case measure => simp [intOf]
      · obtain ⟨m, hm⟩ : ∃ m : Nat, n2 = (m : Int) := ⟨n2.toNat, by unfold okN at h2; omega⟩
        have hzb : (n2 == 0) = false := beq_false_of_ne hz
        have hzb2 : (n2 != 0) = true := bne_iff_ne.2 hz
        obtain ⟨hx, hcnt2⟩ := numF_at [n1, n2, n3, n4, n5] 1 (by simp) hz ((if id = List.replicate 32 0 then [] else [(6, id)]) ++ ((if data = [] then [] else [(7, data)]) ++ (if ids = [] then [] else [(8, ids.flatten)])))
        rw [← hcnt] at hx hcnt2
        have HX := Lib.hid hx
        have HCN := Lib.hid hcnt2
        have HFM := Lib.hid hFM
        have HM := Lib.hid hm
        clear hFM hcnt hx hcnt2 hm hz
        gi_wp2_with (refine x_value_in (exec_idx5 (idx5_1 _ n1 n2 n3 n4 n5) rfl rfl rfl) (fun _ h => by cases h) (fun _ h => by cases h) (by simp [go_sem, Region.wanted, yielded]) ?_)
        have hcall := pk_number wr m (by unfold okN at h2; have := HM.out; omega)
        rw [← HM.out] at hcall
        refine ⟨trivial, (fun h => by cases h), CallsIn.mono (show CallsIn Fence.wide _ _ _ _ _ _ from callsIn_wide.2 hcall) ?_⟩
        rintro e w2 ⟨A2, c2, rfl, hR2⟩
        have hFM2 := HFM.out.new hJ hR2.fr
        have hto : n2.toNat = m := by have := HM.out; omega
        have hx2 : (Pk.numF 0 [n1, n2, n3, n4, n5] ++ ((if id = List.replicate 32 0 then [] else [(6, id)]) ++ ((if data = [] then [] else [(7, data)]) ++ (if ids = [] then [] else [(8, ids.flatten)]))))[cnt]? = some (UInt8.ofNat (1 + 1), Pk.numB m) := hto ▸ HX.out
        have hnotin : ∀ k, ab A2 = some k → ¬ (T k ∨ U k) := fun k hk h => by
          have hge := hR2.new k hk
          have hwz := HFM.out.2.2.size
          rcases h with h | h
          · have := (hT k h).1; omega
          · have := (HFM.out.2.1 k h).2; omega
        have hY2 := HY.out cnt (UInt8.ofNat (1 + 1), Pk.numB m) #[.agg #[bv (UInt8.ofNat (1 + 1)), .slice A2 (Pk.numB m).length c2]] U w2 (by rw [HFE.out]; exact hx2) (fun V hV => ⟨A2, c2, rfl, (hR2.row.rd.fr hV hnotin)⟩) hFM2.1 hFM2.2.2.size hFM2.2.1
        obtain ⟨fn, tmps, assign, body, hy, hRo⟩ := hY2
        have hy' : (Instr.yield l #[.agg #[.int .u8 2, .slice A2 (Pk.numB m).length c2]]).run Try.prog w2 = .ok (.round l fn tmps assign body) w2 := hy
        have HR := Lib.hid hRo
        have HF2 := Lib.hid hFM2
        clear hy hRo hFM2 hx2 hnotin hcall
        gi_wp2_with fail
        refine ⟨(fun h => by cases h), HR.out.mono ?_⟩
        clear hy' HR
        rintro e W3 ⟨rfl, U', hj, hg, hu, hf⟩
        have HF3 := Lib.hid (HF2.out.after hj hg hu hf)
        clear hj hg hu hf HF2
        gi_wp2_with fail
        go_roundw
        case rel => exact ⟨2, cnt + 1, U', by go_num, by omega, HCN.out.symm, HF3.out⟩
        case measure => simp [intOf]
    · by_cases hz : n3 = 0
      · have hzb : (n3 == 0) = true := beq_iff_eq.2 hz
        have hzb2 : (n3 != 0) = false := by rw [bne, hzb]; rfl
        have HSK := Lib.hid (show cnt = (Pk.numF 0 ([n1, n2, n3, n4, n5].take 3)).length by rw [numF_skip [n1, n2, n3, n4, n5] 2 (by simp) hz]; exact hcnt)
        have HFM := Lib.hid hFM
        clear hFM hcnt hz
        gi_wp2_with (refine x_value_in (exec_idx5 (idx5_2 _ n1 n2 n3 n4 n5) rfl rfl rfl) (fun _ h => by cases h) (fun _ h => by cases h) (by simp [go_sem, Region.wanted, yielded]) ?_)
        refine ⟨trivial, ?_⟩
        gi_wp2_with fail
        refine ⟨fun _ h => (by cases h), ?_⟩
        gi_wp2_with fail
        go_roundw
        case rel => exact ⟨3, cnt, U, by go_num, by omega, HSK.out, HFM.out⟩
        case measure => simp [intOf]
      · obtain ⟨m, hm⟩ : ∃ m : Nat, n3 = (m : Int) := ⟨n3.toNat, by unfold okN at h3; omega⟩
        have hzb : (n3 == 0) = false := beq_false_of_ne hz
        have hzb2 : (n3 != 0) = true := bne_iff_ne.2 hz
        obtain ⟨hx, hcnt2⟩ := numF_at [n1, n2, n3, n4, n5] 2 (by simp) hz ((if id = List.replicate 32 0 then [] else [(6, id)]) ++ ((if data = [] then [] else [(7, data)]) ++ (if ids = [] then [] else [(8, ids.flatten)])))
        rw [← hcnt] at hx hcnt2
        have HX := Lib.hid hx
        have HCN := Lib.hid hcnt2
        have HFM := Lib.hid hFM
        have HM := Lib.hid hm
        clear hFM hcnt hx hcnt2 hm hz
        gi_wp2_with (refine x_value_in (exec_idx5 (idx5_2 _ n1 n2 n3 n4 n5) rfl rfl rfl) (fun _ h => by cases h) (fun _ h => by cases h) (by simp [go_sem, Region.wanted, yielded]) ?_)
        have hcall := pk_number wr m (by unfold okN at h3; have := HM.out; omega)
        rw [← HM.out] at hcall
        refine ⟨trivial, (fun h => by cases h), CallsIn.mono (show CallsIn Fence.wide _ _ _ _ _ _ from callsIn_wide.2 hcall) ?_⟩
        rintro e w2 ⟨A2, c2, rfl, hR2⟩
        have hFM2 := HFM.out.new hJ hR2.fr
        have hto : n3.toNat = m := by have := HM.out; omega
        have hx2 : (Pk.numF 0 [n1, n2, n3, n4, n5] ++ ((if id = List.replicate 32 0 then [] else [(6, id)]) ++ ((if data = [] then [] else [(7, data)]) ++ (if ids = [] then [] else [(8, ids.flatten)]))))[cnt]? = some (UInt8.ofNat (1 + 2), Pk.numB m) := hto ▸ HX.out
        have hnotin : ∀ k, ab A2 = some k → ¬ (T k ∨ U k) := fun k hk h => by
          have hge := hR2.new k hk
          have hwz := HFM.out.2.2.size
          rcases h with h | h
          · have := (hT k h).1; omega
          · have := (HFM.out.2.1 k h).2; omega
        have hY2 := HY.out cnt (UInt8.ofNat (1 + 2), Pk.numB m) #[.agg #[bv (UInt8.ofNat (1 + 2)), .slice A2 (Pk.numB m).length c2]] U w2 (by rw [HFE.out]; exact hx2) (fun V hV => ⟨A2, c2, rfl, (hR2.row.rd.fr hV hnotin)⟩) hFM2.1 hFM2.2.2.size hFM2.2.1
        obtain ⟨fn, tmps, assign, body, hy, hRo⟩ := hY2
        have hy' : (Instr.yield l #[.agg #[.int .u8 3, .slice A2 (Pk.numB m).length c2]]).run Try.prog w2 = .ok (.round l fn tmps assign body) w2 := hy
        have HR := Lib.hid hRo
        have HF2 := Lib.hid hFM2
        clear hy hRo hFM2 hx2 hnotin hcall
        gi_wp2_with fail
        refine ⟨(fun h => by cases h), HR.out.mono ?_⟩
        clear hy' HR
        rintro e W3 ⟨rfl, U', hj, hg, hu, hf⟩
        have HF3 := Lib.hid (HF2.out.after hj hg hu hf)
        clear hj hg hu hf HF2
        gi_wp2_with fail
        go_roundw
        case rel => exact ⟨3, cnt + 1, U', by go_num, by omega, HCN.out.symm, HF3.out⟩
        case measure => simp [intOf]
    · by_cases hz : n4 = 0
      · have hzb : (n4 == 0) = true := beq_iff_eq.2 hz
        have hzb2 : (n4 != 0) = false := by rw [bne, hzb]; rfl
        have HSK := Lib.hid (show cnt = (Pk.numF 0 ([n1, n2, n3, n4, n5].take 4)).length by rw [numF_skip [n1, n2, n3, n4, n5] 3 (by simp) hz]; exact hcnt)
        have HFM := Lib.hid hFM
        clear hFM hcnt hz
        gi_wp2_with (refine x_value_in (exec_idx5 (idx5_3 _ n1 n2 n3 n4 n5) rfl rfl rfl) (fun _ h => by cases h) (fun _ h => by cases h) (by simp [go_sem, Region.wanted, yielded]) ?_)
        refine ⟨trivial, ?_⟩
        gi_wp2_with fail
        refine ⟨fun _ h => (by cases h), ?_⟩
        gi_wp2_with fail
        go_roundw
        case rel => exact ⟨4, cnt, U, by go_num, by omega, HSK.out, HFM.out⟩
        case measure => simp [intOf]
      · obtain ⟨m, hm⟩ : ∃ m : Nat, n4 = (m : Int) := ⟨n4.toNat, by unfold okN at h4; omega⟩
        have hzb : (n4 == 0) = false := beq_false_of_ne hz
        have hzb2 : (n4 != 0) = true := bne_iff_ne.2 hz
        obtain ⟨hx, hcnt2⟩ := numF_at [n1, n2, n3, n4, n5] 3 (by simp) hz ((if id = List.replicate 32 0 then [] else [(6, id)]) ++ ((if data = [] then [] else [(7, data)]) ++ (if ids = [] then [] else [(8, ids.flatten)])))
        rw [← hcnt] at hx hcnt2
        have HX := Lib.hid hx
        have HCN := Lib.hid hcnt2
        have HFM := Lib.hid hFM
        have HM := Lib.hid hm
        clear hFM hcnt hx hcnt2 hm hz
        gi_wp2_with (refine x_value_in (exec_idx5 (idx5_3 _ n1 n2 n3 n4 n5) rfl rfl rfl) (fun _ h => by cases h) (fun _ h => by cases h) (by simp [go_sem, Region.wanted, yielded]) ?_)
        have hcall := pk_number wr m (by unfold okN at h4; have := HM.out; omega)
        rw [← HM.out] at hcall
        refine ⟨trivial, (fun h => by cases h), CallsIn.mono (show CallsIn Fence.wide _ _ _ _ _ _ from callsIn_wide.2 hcall) ?_⟩
        rintro e w2 ⟨A2, c2, rfl, hR2⟩
        have hFM2 := HFM.out.new hJ hR2.fr
        have hto : n4.toNat = m := by have := HM.out; omega
        have hx2 : (Pk.numF 0 [n1, n2, n3, n4, n5] ++ ((if id = List.replicate 32 0 then [] else [(6, id)]) ++ ((if data = [] then [] else [(7, data)]) ++ (if ids = [] then [] else [(8, ids.flatten)]))))[cnt]? = some (UInt8.ofNat (1 + 3), Pk.numB m) := hto ▸ HX.out
        have hnotin : ∀ k, ab A2 = some k → ¬ (T k ∨ U k) := fun k hk h => by
          have hge := hR2.new k hk
          have hwz := HFM.out.2.2.size
          rcases h with h | h
          · have := (hT k h).1; omega
          · have := (HFM.out.2.1 k h).2; omega
        have hY2 := HY.out cnt (UInt8.ofNat (1 + 3), Pk.numB m) #[.agg #[bv (UInt8.ofNat (1 + 3)), .slice A2 (Pk.numB m).length c2]] U w2 (by rw [HFE.out]; exact hx2) (fun V hV => ⟨A2, c2, rfl, (hR2.row.rd.fr hV hnotin)⟩) hFM2.1 hFM2.2.2.size hFM2.2.1
        obtain ⟨fn, tmps, assign, body, hy, hRo⟩ := hY2
        have hy' : (Instr.yield l #[.agg #[.int .u8 4, .slice A2 (Pk.numB m).length c2]]).run Try.prog w2 = .ok (.round l fn tmps assign body) w2 := hy
        have HR := Lib.hid hRo
        have HF2 := Lib.hid hFM2
        clear hy hRo hFM2 hx2 hnotin hcall
        gi_wp2_with fail
        refine ⟨(fun h => by cases h), HR.out.mono ?_⟩
        clear hy' HR
        rintro e W3 ⟨rfl, U', hj, hg, hu, hf⟩
        have HF3 := Lib.hid (HF2.out.after hj hg hu hf)
        clear hj hg hu hf HF2
        gi_wp2_with fail
        go_roundw
        case rel => exact ⟨4, cnt + 1, U', by go_num, by omega, HCN.out.symm, HF3.out⟩
        case measure => simp [intOf]
    · by_cases hz : n5 = 0
      · have hzb : (n5 == 0) = true := beq_iff_eq.2 hz
        have hzb2 : (n5 != 0) = false := by rw [bne, hzb]; rfl
        have HSK := Lib.hid (show cnt = (Pk.numF 0 ([n1, n2, n3, n4, n5].take 5)).length by rw [numF_skip [n1, n2, n3, n4, n5] 4 (by simp) hz]; exact hcnt)
        have HFM := Lib.hid hFM
        clear hFM hcnt hz
        gi_wp2_with (refine x_value_in (exec_idx5 (idx5_4 _ n1 n2 n3 n4 n5) rfl rfl rfl) (fun _ h => by cases h) (fun _ h => by cases h) (by simp [go_sem, Region.wanted, yielded]) ?_)
        refine ⟨trivial, ?_⟩
        gi_wp2_with fail
        refine ⟨fun _ h => (by cases h), ?_⟩
        gi_wp2_with fail
        go_roundw
        case rel => exact ⟨5, cnt, U, by go_num, by omega, HSK.out, HFM.out⟩
        case measure => simp [intOf]
      · obtain ⟨m, hm⟩ : ∃ m : Nat, n5 = (m : Int) := ⟨n5.toNat, by unfold okN at h5; omega⟩
        have hzb : (n5 == 0) = false := beq_false_of_ne hz
        have hzb2 : (n5 != 0) = true := bne_iff_ne.2 hz
        obtain ⟨hx, hcnt2⟩ := numF_at [n1, n2, n3, n4, n5] 4 (by simp) hz ((if id = List.replicate 32 0 then [] else [(6, id)]) ++ ((if data = [] then [] else [(7, data)]) ++ (if ids = [] then [] else [(8, ids.flatten)])))
        rw [← hcnt] at hx hcnt2
        have HX := Lib.hid hx
        have HCN := Lib.hid hcnt2
        have HFM := Lib.hid hFM
        have HM := Lib.hid hm
        clear hFM hcnt hx hcnt2 hm hz
        gi_wp2_with (refine x_value_in (exec_idx5 (idx5_4 _ n1 n2 n3 n4 n5) rfl rfl rfl) (fun _ h => by cases h) (fun _ h => by cases h) (by simp [go_sem, Region.wanted, yielded]) ?_)
        have hcall := pk_number wr m (by unfold okN at h5; have := HM.out; omega)
        rw [← HM.out] at hcall
        refine ⟨trivial, (fun h => by cases h), CallsIn.mono (show CallsIn Fence.wide _ _ _ _ _ _ from callsIn_wide.2 hcall) ?_⟩
        rintro e w2 ⟨A2, c2, rfl, hR2⟩
        have hFM2 := HFM.out.new hJ hR2.fr
        have hto : n5.toNat = m := by have := HM.out; omega
        have hx2 : (Pk.numF 0 [n1, n2, n3, n4, n5] ++ ((if id = List.replicate 32 0 then [] else [(6, id)]) ++ ((if data = [] then [] else [(7, data)]) ++ (if ids = [] then [] else [(8, ids.flatten)]))))[cnt]? = some (UInt8.ofNat (1 + 4), Pk.numB m) := hto ▸ HX.out
        have hnotin : ∀ k, ab A2 = some k → ¬ (T k ∨ U k) := fun k hk h => by
          have hge := hR2.new k hk
          have hwz := HFM.out.2.2.size
          rcases h with h | h
          · have := (hT k h).1; omega
          · have := (HFM.out.2.1 k h).2; omega
        have hY2 := HY.out cnt (UInt8.ofNat (1 + 4), Pk.numB m) #[.agg #[bv (UInt8.ofNat (1 + 4)), .slice A2 (Pk.numB m).length c2]] U w2 (by rw [HFE.out]; exact hx2) (fun V hV => ⟨A2, c2, rfl, (hR2.row.rd.fr hV hnotin)⟩) hFM2.1 hFM2.2.2.size hFM2.2.1
        obtain ⟨fn, tmps, assign, body, hy, hRo⟩ := hY2
        have hy' : (Instr.yield l #[.agg #[.int .u8 5, .slice A2 (Pk.numB m).length c2]]).run Try.prog w2 = .ok (.round l fn tmps assign body) w2 := hy
        have HR := Lib.hid hRo
        have HF2 := Lib.hid hFM2
        clear hy hRo hFM2 hx2 hnotin hcall
        gi_wp2_with fail
        refine ⟨(fun h => by cases h), HR.out.mono ?_⟩
        clear hy' HR
        rintro e W3 ⟨rfl, U', hj, hg, hu, hf⟩
        have HF3 := Lib.hid (HF2.out.after hj hg hu hf)
        clear hj hg hu hf HF2
        gi_wp2_with fail
        go_roundw
        case rel => exact ⟨5, cnt + 1, U', by go_num, by omega, HCN.out.symm, HF3.out⟩
        case measure => simp [intOf]
    · have hcn : cnt = (Pk.numF 0 [n1, n2, n3, n4, n5]).length := hcnt
      have HF := Lib.hid hFM
      have hBx : Blk wr mb 64 (mc k n1 n2 n3 n4 n5 id Ad data.length cd Ai ids.length ci Al 0 cl) := HB.out.fr HF.out.2.2 (fun h => by rcases h with h | h; exact hTm h; omega)
      obtain ⟨-, x38, x39, x40⟩ := mc_cells hBx hid
      have HBx := Lib.hid hBx
      clear hBx
      have HCN := Lib.hid hcn
      have HIX := Lib.hid (show 32 = (ida id).size by rw [ida_size, hid])
      have hz32 : z32.length = 32 := rfl
      have HZ32 := Lib.hid hz32
      have HID := Lib.hid hid
      clear hFM hcn hcnt b1 b2 b3 b4 b5 b38 b39 b40 hz32
      by_cases hidz : id = List.replicate 32 0
      · have HNE := Lib.hid (show (!(id == z32)) = false by rw [hidz]; rfl)
        have HIDZ := Lib.hid hidz
        clear hidz
        gi_wp2_with (first
          | (refine x_value_in (exec_load (T := 60) (X := ida id) (g := mb) (off := 6) rfl rfl underID rfl hii (hi1.trans HIX.out) (mc_at6 HBx.out)) (fun _ h => by cases h) (fun _ h => by cases h) (by simp [go_sem, Region.wanted, yielded]) ?_)
          | (refine x_value_in (x_build0 (T := 60) rfl hii hi0 underID (s := 1) (fun w => by kernel_rfl)) (fun _ h => by cases h) (fun _ h => by cases h) (by simp [go_sem, Region.wanted, yielded]) ?_)
          | (refine x_value_in (jneq rfl rfl rfl HID.out HZ32.out HNE.out) (fun _ h => by cases h) (fun _ h => by cases h) (by simp [go_sem, Region.wanted, yielded]) ?_))
        refine ⟨(fun _ h => by cases h), ?_⟩
        clear x38 x39 x40 HBx
        have hBx : Blk wr mb 64 (mc k n1 n2 n3 n4 n5 id Ad data.length cd Ai ids.length ci Al 0 cl) := HB.out.fr HF.out.2.2 (fun h => by rcases h with h | h; exact hTm h; omega)
        obtain ⟨-, x38, x39, x40⟩ := mc_cells hBx hid
        have HBx := Lib.hid hBx
        clear hBx
        by_cases hdz : data = []
        · have hd0 : data.length = 0 := by rw [hdz]; rfl
          have hdi : ((0 : Int) < (data.length : Int)) = False := by simp [hd0]
          have HDZ := Lib.hid hdz
          clear hdz
          gi_wp2_with fail
          gi_wp2_with fail
          have hUw := HF.out.2.1
          have hWw := HF.out.2.2.size
          obtain ⟨s0, hs0⟩ : ∃ s0, wr.heap.size = s0 := ⟨_, rfl⟩
          rw [hs0] at hUw hWw
          gi_loopw [5, 67] (fun sv iv V => ∃ (t : Nat) (A : Option Addr) (c : Nat) (fl : List UInt8), sv = .slice A fl.length c ∧ iv = .int .i64 t ∧ t ≤ ids.length ∧ fl = (ids.take t).flatten ∧ Row V 5 A c (fl.map bv) ∧ (∀ k, ab A = some k → s0 ≤ k) ∧ s0 ≤ V.heap.size ∧ FM W T J (cnt) U V) (fun _ iv _ => ids.length - (intOf iv).toNat)
          case atStart => exact ⟨0, none, 0, [], rfl, rfl, Nat.zero_le _, rfl, Row.nil _ _, fun k hk => by simp [ab] at hk, Nat.le_of_eq hs0.symm, HF.out⟩
          case round =>
            clear x38 x39 x40 HBx
            obtain ⟨t, A, c, fl, rfl, rfl, ht, hfle, hrow, hA, hwz, hFMr⟩ := hrel
            by_cases htl : t < ids.length
            · have hlx : (ids[t]).length = 32 := hie _ (List.getElem_mem htl)
              obtain ⟨b, off, hAi, hbl, hat⟩ := (HI.out.fr hFMr.2.2 (fun h0 k hk h => by rcases h with h | h; exact hTi h0 k hk h; have := idsl_lt HI.out h0 k hk; omega)) (by omega)
              have HAT := Lib.hid (hat t htl)
              have hfl : fl ++ ids[t] = ((ids.take (t + 1)).flatten) := by rw [hfle, List.take_succ_eq_append_getElem htl, List.flatten_append]; simp
              have hflen : fl.length ≤ 2048 := hfle ▸ flat_le ids t hie hil
              generalize ids[t] = x at *
              have hBn := Blk.new wr 60 (ida x)
              have hrowa := hrow.fr (Fr.alloc (fun _ => False) wr (.cells (ida x) 60)) (fun _ _ h => h)
              have hrdx : Rd (wr.alloc (.cells (ida x) 60)) (some ⟨wr.heap.size, 0, none⟩) (x.map bv) := rd_of_at (by rw [World.size_alloc]; omega) hBn.at'
              obtain ⟨i8, hi8, hy0, hy1, hy2⟩ := info_parts infoByte
              obtain ⟨A2, c2, w2, hrun, hrow2, hf2, hA2⟩ := run_append_rd (P := Try.prog) (wr.alloc (.cells (ida x) 60)) 22 22 5 i8 (.int .u8 0) 1 Try.underlying22 hi8 hy0 hy1 hy2 rfl A c _ hrowa (some ⟨wr.heap.size, 0, none⟩) 32 (x.map bv) hrdx (by simp [bv_one]) (by simp [maxLen]; omega) (by simp; omega)
              simp only [List.length_map, hlx] at hrun
              have hFM2 := (hFMr.new hJ (Fr.alloc _ wr (.cells (ida x) 60))).own hJ hf2 (fun k hk => ⟨Nat.le_trans hWw (hA k hk.symm), fun hu => by have := (hUw k hu).2; have := hA k hk.symm; omega⟩)
              have hA2' : ∀ k, ab A2 = some k → s0 ≤ k := fun k hk => by
                rcases hA2 k hk with h | h
                · exact hA k h
                · rw [World.size_alloc] at h; omega
              rw [← List.map_append] at hrow2
              have hl2 : fl.length + 32 = (fl ++ x).length := by rw [List.length_append, hlx]
              have HL2 := Lib.hid hl2
              have HFL := Lib.hid hfl
              have HF2 := Lib.hid hFM2
              have HR2 := Lib.hid hrow2
              have HXS := Lib.hid (show 32 = (ida x).size by rw [ida_size, hlx])
              have HX2 := Lib.hid (show x.length = 32 from hlx)
              have hz32' : z32.length = 32 := rfl
              have HZS := Lib.hid (show (ida z32).size = (ida x).size by rw [ida_size, ida_size, hlx, hz32'])
              have hwz2 : s0 ≤ w2.heap.size := by have := hf2.size; rw [World.size_alloc] at this; omega
              have hti : (t : Int) < ids.length := by omega
              clear hFMr hat hfl hfle hflen hBn hrowa hrdx hi8 hy0 hy1 hy2 hrow2 hf2 hA2 hFM2 hl2 hrow hlx hz32'
              gi_wp2_with (first
                | (gi_at_builtin; refine wpListIn_append_run hrun rfl rfl _ _ rfl rfl rfl ?_)
                | (refine x_value_in (exec_load (T := 60) (X := ida x) (g := b) (off := off + t * 32) rfl rfl underID rfl hii (hi1.trans HXS.out) HAT.out) (fun _ h => by cases h) (fun _ h => by cases h) (by simp [go_sem, Region.wanted, yielded]) ?_)
                | (refine x_value_in (x_alloc (T := 60) rfl hii hi0) (fun _ h => by cases h) (fun _ h => by cases h) (by simp [go_sem, Region.wanted, yielded]) ?_)
                | (refine x_skip_in (exec_store_new (T := 60) (X := ida x) rfl rfl rfl rfl hii (hi1.trans HXS.out) (ida_one _) HZS.out) (fun _ h => by cases h) (fun _ h => by cases h) rfl ?_))
              rw [hAi]
              go_roundw
              case measure => simp [intOf]; omega
              exact ⟨t + 1, A2, c2, fl ++ x, by rw [← HL2.out], by go_num, by omega, HFL.out, HR2.out, hA2', hwz2, HF2.out⟩
            · obtain rfl : t = ids.length := by omega
              by_cases hiz : ids = []
              · have HIZ := Lib.hid hiz
                clear hiz
                have hn0 : ids = [] := HIZ.out
                have hfz : fl.length = 0 := by rw [hfle, hn0]; rfl
                clear hn0 hfle
                have HFMr := Lib.hid hFMr
                clear hFMr
                have hBx : Blk wr mb 64 (mc k n1 n2 n3 n4 n5 id Ad data.length cd Ai ids.length ci Al 0 cl) := HB.out.fr HFMr.out.2.2 (fun h => by rcases h with h | h; exact hTm h; omega)
                obtain ⟨-, x38, x39, x40⟩ := mc_cells hBx hid
                have HBx := Lib.hid hBx
                clear hBx
                gi_wp2_with fail
                refine ⟨(fun _ h => by cases h), ?_⟩
                gi_wp2_with fail
                gi_loopw [6, 88] (fun lv iv V => lv = .slice none 0 0 ∧ iv = .int .i64 0 ∧ FM W T J (cnt) U V) (fun _ _ _ => 0)
                case atStart => exact ⟨rfl, rfl, HFMr.out⟩
                case round =>
                  obtain ⟨rfl, rfl, hFMe⟩ := hrel
                  have HFMe := Lib.hid hFMe
                  have hlen : (Pk.fields ⟨k, [n1, n2, n3, n4, n5], id, data, ids⟩).length = cnt := by
                    rw [HFE.out, HCN.out, if_pos HIDZ.out, if_pos HDZ.out, if_pos HIZ.out]
                    simp
                  have HLEN := Lib.hid hlen
                  clear hlen
                  clear hFMe
                  gi_wp2_with fail
                  go_end0
                  exact ⟨⟨_, rfl⟩, ⟨U, by rw [HLEN.out]; exact HFMe.out.1⟩, trivial⟩
              · have HIZ := Lib.hid hiz
                clear hiz
                have hff : fl = ids.flatten := by rw [hfle, List.take_length]
                have hfz : 0 < fl.length := by
                  have := flat_len ids hie
                  have := List.length_pos_iff.2 HIZ.out
                  rw [hff]
                  omega
                have hfi : decide ((0 : Int) < (fl.length : Int)) = true := decide_eq_true (by omega)
                have HFF := Lib.hid hff
                have HROW := Lib.hid hrow
                have HFMR := Lib.hid hFMr
                have hY2 := HY.out (cnt) (8, fl) #[.agg #[bv 8, .slice A fl.length c]] U wr (by rw [HFE.out]; rw [HFF.out, HCN.out, if_pos HIDZ.out, if_pos HDZ.out, if_neg HIZ.out]; first | (simp; done) | (rw [Nat.add_assoc, List.getElem?_append_right (by omega), Nat.add_sub_cancel_left]; simp)) (fun V hV => ⟨A, c, rfl, (hrow.fr hV (fun k hk h => h.elim (fun h => by have := (hT k h).1; have := hA k hk; omega) (fun h => by have := (hUw k h).2; have := hA k hk; omega))).rd⟩) HFMR.out.1 HFMR.out.2.2.size HFMR.out.2.1
                obtain ⟨fn, tmps, assign, body, hy, hRo⟩ := hY2
                have hy' : (Instr.yield l #[.agg #[.int .u8 8, .slice A fl.length c]]).run Try.prog wr = .ok (.round l fn tmps assign body) wr := hy
                have HR := Lib.hid hRo
                clear hRo hy
                clear hff hfle hrow hFMr
                gi_wp2_with fail
                refine ⟨(fun h => by cases h), HR.out.mono ?_⟩
                clear hy' HR
                rintro e W8 ⟨rfl, UW8, hj, hg, hu, hf⟩
                have HFW8 := Lib.hid (HFMR.out.after hj hg hu hf)
                clear hj hg hu hf
                have hBx : Blk W8 mb 64 (mc k n1 n2 n3 n4 n5 id Ad data.length cd Ai ids.length ci Al 0 cl) := HB.out.fr HFW8.out.2.2 (fun h => by rcases h with h | h; exact hTm h; omega)
                obtain ⟨-, x38, x39, x40⟩ := mc_cells hBx hid
                have HBx := Lib.hid hBx
                clear hBx
                gi_wp2_with fail
                gi_loopw [6, 88] (fun lv iv V => lv = .slice none 0 0 ∧ iv = .int .i64 0 ∧ FM W T J (cnt + 1) UW8 V) (fun _ _ _ => 0)
                case atStart => exact ⟨rfl, rfl, HFW8.out⟩
                case round =>
                  obtain ⟨rfl, rfl, hFMe⟩ := hrel
                  have HFMe := Lib.hid hFMe
                  have hlen : (Pk.fields ⟨k, [n1, n2, n3, n4, n5], id, data, ids⟩).length = cnt + 1 := by
                    rw [HFE.out, HCN.out, if_pos HIDZ.out, if_pos HDZ.out, if_neg HIZ.out]
                    simp
                  have HLEN := Lib.hid hlen
                  clear hlen
                  clear hFMe
                  gi_wp2_with fail
                  go_end0
                  exact ⟨⟨_, rfl⟩, ⟨UW8, by rw [HLEN.out]; exact HFMe.out.1⟩, trivial⟩
        · have hd0 : 0 < data.length := List.length_pos_iff.2 hdz
          have hdi : decide ((0 : Int) < (data.length : Int)) = true := decide_eq_true (by omega)
          have HDZ := Lib.hid hdz
          clear hdz
          have hY2 := HY.out (cnt) (7, data) #[.agg #[bv 7, .slice Ad data.length cd]] U wr (by rw [HFE.out]; rw [HCN.out, if_pos HIDZ.out, if_neg HDZ.out]; simp) (fun V hV => ⟨Ad, cd, rfl, (HD.out.fr (HF.out.2.2.trans hV (fun k hk => by rcases hk with h | h; exact .inl (.inl h); exact .inl (.inr (HF.out.2.1 k h).1))) (fun k hk h => h.elim (fun h => hTd hd0 k hk h) (fun h => by have := HD.out.lt (by simpa using hd0) k hk; omega)))⟩) HF.out.1 HF.out.2.2.size HF.out.2.1
          obtain ⟨fn, tmps, assign, body, hy, hRo⟩ := hY2
          have hy' : (Instr.yield l #[.agg #[.int .u8 7, .slice Ad data.length cd]]).run Try.prog wr = .ok (.round l fn tmps assign body) wr := hy
          have HR := Lib.hid hRo
          clear hRo hy
          gi_wp2_with fail
          refine ⟨(fun h => by cases h), HR.out.mono ?_⟩
          clear hy' HR
          rintro e W7a ⟨rfl, UW7a, hj, hg, hu, hf⟩
          have HFW7a := Lib.hid (HF.out.after hj hg hu hf)
          clear hj hg hu hf
          have hBx : Blk W7a mb 64 (mc k n1 n2 n3 n4 n5 id Ad data.length cd Ai ids.length ci Al 0 cl) := HB.out.fr HFW7a.out.2.2 (fun h => by rcases h with h | h; exact hTm h; omega)
          obtain ⟨-, x38, x39, x40⟩ := mc_cells hBx hid
          have HBx := Lib.hid hBx
          clear hBx
          gi_wp2_with fail
          have hUw := HFW7a.out.2.1
          have hWw := HFW7a.out.2.2.size
          obtain ⟨s0, hs0⟩ : ∃ s0, W7a.heap.size = s0 := ⟨_, rfl⟩
          rw [hs0] at hUw hWw
          gi_loopw [5, 67] (fun sv iv V => ∃ (t : Nat) (A : Option Addr) (c : Nat) (fl : List UInt8), sv = .slice A fl.length c ∧ iv = .int .i64 t ∧ t ≤ ids.length ∧ fl = (ids.take t).flatten ∧ Row V 5 A c (fl.map bv) ∧ (∀ k, ab A = some k → s0 ≤ k) ∧ s0 ≤ V.heap.size ∧ FM W T J (cnt + 1) UW7a V) (fun _ iv _ => ids.length - (intOf iv).toNat)
          case atStart => exact ⟨0, none, 0, [], rfl, rfl, Nat.zero_le _, rfl, Row.nil _ _, fun k hk => by simp [ab] at hk, Nat.le_of_eq hs0.symm, HFW7a.out⟩
          case round =>
            clear x38 x39 x40 HBx
            obtain ⟨t, A, c, fl, rfl, rfl, ht, hfle, hrow, hA, hwz, hFMr⟩ := hrel
            by_cases htl : t < ids.length
            · have hlx : (ids[t]).length = 32 := hie _ (List.getElem_mem htl)
              obtain ⟨b, off, hAi, hbl, hat⟩ := (HI.out.fr hFMr.2.2 (fun h0 k hk h => by rcases h with h | h; exact hTi h0 k hk h; have := idsl_lt HI.out h0 k hk; omega)) (by omega)
              have HAT := Lib.hid (hat t htl)
              have hfl : fl ++ ids[t] = ((ids.take (t + 1)).flatten) := by rw [hfle, List.take_succ_eq_append_getElem htl, List.flatten_append]; simp
              have hflen : fl.length ≤ 2048 := hfle ▸ flat_le ids t hie hil
              generalize ids[t] = x at *
              have hBn := Blk.new wr 60 (ida x)
              have hrowa := hrow.fr (Fr.alloc (fun _ => False) wr (.cells (ida x) 60)) (fun _ _ h => h)
              have hrdx : Rd (wr.alloc (.cells (ida x) 60)) (some ⟨wr.heap.size, 0, none⟩) (x.map bv) := rd_of_at (by rw [World.size_alloc]; omega) hBn.at'
              obtain ⟨i8, hi8, hy0, hy1, hy2⟩ := info_parts infoByte
              obtain ⟨A2, c2, w2, hrun, hrow2, hf2, hA2⟩ := run_append_rd (P := Try.prog) (wr.alloc (.cells (ida x) 60)) 22 22 5 i8 (.int .u8 0) 1 Try.underlying22 hi8 hy0 hy1 hy2 rfl A c _ hrowa (some ⟨wr.heap.size, 0, none⟩) 32 (x.map bv) hrdx (by simp [bv_one]) (by simp [maxLen]; omega) (by simp; omega)
              simp only [List.length_map, hlx] at hrun
              have hFM2 := (hFMr.new hJ (Fr.alloc _ wr (.cells (ida x) 60))).own hJ hf2 (fun k hk => ⟨Nat.le_trans hWw (hA k hk.symm), fun hu => by have := (hUw k hu).2; have := hA k hk.symm; omega⟩)
              have hA2' : ∀ k, ab A2 = some k → s0 ≤ k := fun k hk => by
                rcases hA2 k hk with h | h
                · exact hA k h
                · rw [World.size_alloc] at h; omega
              rw [← List.map_append] at hrow2
              have hl2 : fl.length + 32 = (fl ++ x).length := by rw [List.length_append, hlx]
              have HL2 := Lib.hid hl2
              have HFL := Lib.hid hfl
              have HF2 := Lib.hid hFM2
              have HR2 := Lib.hid hrow2
              have HXS := Lib.hid (show 32 = (ida x).size by rw [ida_size, hlx])
              have HX2 := Lib.hid (show x.length = 32 from hlx)
              have hz32' : z32.length = 32 := rfl
              have HZS := Lib.hid (show (ida z32).size = (ida x).size by rw [ida_size, ida_size, hlx, hz32'])
              have hwz2 : s0 ≤ w2.heap.size := by have := hf2.size; rw [World.size_alloc] at this; omega
              have hti : (t : Int) < ids.length := by omega
              clear hFMr hat hfl hfle hflen hBn hrowa hrdx hi8 hy0 hy1 hy2 hrow2 hf2 hA2 hFM2 hl2 hrow hlx hz32'
              gi_wp2_with (first
                | (gi_at_builtin; refine wpListIn_append_run hrun rfl rfl _ _ rfl rfl rfl ?_)
                | (refine x_value_in (exec_load (T := 60) (X := ida x) (g := b) (off := off + t * 32) rfl rfl underID rfl hii (hi1.trans HXS.out) HAT.out) (fun _ h => by cases h) (fun _ h => by cases h) (by simp [go_sem, Region.wanted, yielded]) ?_)
                | (refine x_value_in (x_alloc (T := 60) rfl hii hi0) (fun _ h => by cases h) (fun _ h => by cases h) (by simp [go_sem, Region.wanted, yielded]) ?_)
                | (refine x_skip_in (exec_store_new (T := 60) (X := ida x) rfl rfl rfl rfl hii (hi1.trans HXS.out) (ida_one _) HZS.out) (fun _ h => by cases h) (fun _ h => by cases h) rfl ?_))
              rw [hAi]
              go_roundw
              case measure => simp [intOf]; omega
              exact ⟨t + 1, A2, c2, fl ++ x, by rw [← HL2.out], by go_num, by omega, HFL.out, HR2.out, hA2', hwz2, HF2.out⟩
            · obtain rfl : t = ids.length := by omega
              by_cases hiz : ids = []
              · have HIZ := Lib.hid hiz
                clear hiz
                have hn0 : ids = [] := HIZ.out
                have hfz : fl.length = 0 := by rw [hfle, hn0]; rfl
                clear hn0 hfle
                have HFMr := Lib.hid hFMr
                clear hFMr
                have hBx : Blk wr mb 64 (mc k n1 n2 n3 n4 n5 id Ad data.length cd Ai ids.length ci Al 0 cl) := HB.out.fr HFMr.out.2.2 (fun h => by rcases h with h | h; exact hTm h; omega)
                obtain ⟨-, x38, x39, x40⟩ := mc_cells hBx hid
                have HBx := Lib.hid hBx
                clear hBx
                gi_wp2_with fail
                refine ⟨(fun _ h => by cases h), ?_⟩
                gi_wp2_with fail
                gi_loopw [6, 88] (fun lv iv V => lv = .slice none 0 0 ∧ iv = .int .i64 0 ∧ FM W T J (cnt + 1) UW7a V) (fun _ _ _ => 0)
                case atStart => exact ⟨rfl, rfl, HFMr.out⟩
                case round =>
                  obtain ⟨rfl, rfl, hFMe⟩ := hrel
                  have HFMe := Lib.hid hFMe
                  have hlen : (Pk.fields ⟨k, [n1, n2, n3, n4, n5], id, data, ids⟩).length = cnt + 1 := by
                    rw [HFE.out, HCN.out, if_pos HIDZ.out, if_neg HDZ.out, if_pos HIZ.out]
                    simp
                  have HLEN := Lib.hid hlen
                  clear hlen
                  clear hFMe
                  gi_wp2_with fail
                  go_end0
                  exact ⟨⟨_, rfl⟩, ⟨UW7a, by rw [HLEN.out]; exact HFMe.out.1⟩, trivial⟩
              · have HIZ := Lib.hid hiz
                clear hiz
                have hff : fl = ids.flatten := by rw [hfle, List.take_length]
                have hfz : 0 < fl.length := by
                  have := flat_len ids hie
                  have := List.length_pos_iff.2 HIZ.out
                  rw [hff]
                  omega
                have hfi : decide ((0 : Int) < (fl.length : Int)) = true := decide_eq_true (by omega)
                have HFF := Lib.hid hff
                have HROW := Lib.hid hrow
                have HFMR := Lib.hid hFMr
                have hY2 := HY.out (cnt + 1) (8, fl) #[.agg #[bv 8, .slice A fl.length c]] UW7a wr (by rw [HFE.out]; rw [HFF.out, HCN.out, if_pos HIDZ.out, if_neg HDZ.out, if_neg HIZ.out]; first | (simp; done) | (rw [Nat.add_assoc, List.getElem?_append_right (by omega), Nat.add_sub_cancel_left]; simp)) (fun V hV => ⟨A, c, rfl, (hrow.fr hV (fun k hk h => h.elim (fun h => by have := (hT k h).1; have := hA k hk; omega) (fun h => by have := (hUw k h).2; have := hA k hk; omega))).rd⟩) HFMR.out.1 HFMR.out.2.2.size HFMR.out.2.1
                obtain ⟨fn, tmps, assign, body, hy, hRo⟩ := hY2
                have hy' : (Instr.yield l #[.agg #[.int .u8 8, .slice A fl.length c]]).run Try.prog wr = .ok (.round l fn tmps assign body) wr := hy
                have HR := Lib.hid hRo
                clear hRo hy
                clear hff hfle hrow hFMr
                gi_wp2_with fail
                refine ⟨(fun h => by cases h), HR.out.mono ?_⟩
                clear hy' HR
                rintro e W8 ⟨rfl, UW8, hj, hg, hu, hf⟩
                have HFW8 := Lib.hid (HFMR.out.after hj hg hu hf)
                clear hj hg hu hf
                have hBx : Blk W8 mb 64 (mc k n1 n2 n3 n4 n5 id Ad data.length cd Ai ids.length ci Al 0 cl) := HB.out.fr HFW8.out.2.2 (fun h => by rcases h with h | h; exact hTm h; omega)
                obtain ⟨-, x38, x39, x40⟩ := mc_cells hBx hid
                have HBx := Lib.hid hBx
                clear hBx
                gi_wp2_with fail
                gi_loopw [6, 88] (fun lv iv V => lv = .slice none 0 0 ∧ iv = .int .i64 0 ∧ FM W T J (cnt + 1 + 1) UW8 V) (fun _ _ _ => 0)
                case atStart => exact ⟨rfl, rfl, HFW8.out⟩
                case round =>
                  obtain ⟨rfl, rfl, hFMe⟩ := hrel
                  have HFMe := Lib.hid hFMe
                  have hlen : (Pk.fields ⟨k, [n1, n2, n3, n4, n5], id, data, ids⟩).length = cnt + 1 + 1 := by
                    rw [HFE.out, HCN.out, if_pos HIDZ.out, if_neg HDZ.out, if_neg HIZ.out]
                    simp
                  have HLEN := Lib.hid hlen
                  clear hlen
                  clear hFMe
                  gi_wp2_with fail
                  go_end0
                  exact ⟨⟨_, rfl⟩, ⟨UW8, by rw [HLEN.out]; exact HFMe.out.1⟩, trivial⟩
      · have HNE := Lib.hid (show (!(id == z32)) = true by rw [beq_false_of_ne (show id ≠ z32 from hidz)]; rfl)
        have HIDZ := Lib.hid hidz
        clear hidz
        have hY2 := HY.out (cnt) (6, id) #[.agg #[bv 6, .slice (some ⟨mb, 6, none⟩) id.length 32]] U wr (by rw [HFE.out]; rw [HCN.out, if_neg HIDZ.out]; simp) (fun V hV => ⟨(some ⟨mb, 6, none⟩), 32, rfl, rd_of_at (Nat.lt_of_lt_of_le HBx.out.lt hV.size) (mc_at6 (HBx.out.fr hV (fun h => by rcases h with h | h; exact hTm h; have := (HF.out.2.1 _ h).1; omega)))⟩) HF.out.1 HF.out.2.2.size HF.out.2.1
        obtain ⟨fn, tmps, assign, body, hy, hRo⟩ := hY2
        rw [HID.out] at hy
        have hy' : (Instr.yield l #[.agg #[.int .u8 6, .slice (some ⟨mb, 6, none⟩) 32 32]]).run Try.prog wr = .ok (.round l fn tmps assign body) wr := hy
        have HR := Lib.hid hRo
        clear hRo hy
        gi_wp2_with (first
          | (refine x_value_in (exec_load (T := 60) (X := ida id) (g := mb) (off := 6) rfl rfl underID rfl hii (hi1.trans HIX.out) (mc_at6 HBx.out)) (fun _ h => by cases h) (fun _ h => by cases h) (by simp [go_sem, Region.wanted, yielded]) ?_)
          | (refine x_value_in (x_build0 (T := 60) rfl hii hi0 underID (s := 1) (fun w => by kernel_rfl)) (fun _ h => by cases h) (fun _ h => by cases h) (by simp [go_sem, Region.wanted, yielded]) ?_)
          | (refine x_value_in (jneq rfl rfl rfl HID.out HZ32.out HNE.out) (fun _ h => by cases h) (fun _ h => by cases h) (by simp [go_sem, Region.wanted, yielded]) ?_))
        clear x38 x39 x40 HBx
        refine ⟨(fun h => by cases h), HR.out.mono ?_⟩
        clear hy' HR
        rintro e W6 ⟨rfl, UW6, hj, hg, hu, hf⟩
        have HFW6 := Lib.hid (HF.out.after hj hg hu hf)
        clear hj hg hu hf
        have hBx : Blk W6 mb 64 (mc k n1 n2 n3 n4 n5 id Ad data.length cd Ai ids.length ci Al 0 cl) := HB.out.fr HFW6.out.2.2 (fun h => by rcases h with h | h; exact hTm h; omega)
        obtain ⟨-, x38, x39, x40⟩ := mc_cells hBx hid
        have HBx := Lib.hid hBx
        clear hBx
        by_cases hdz : data = []
        · have hd0 : data.length = 0 := by rw [hdz]; rfl
          have hdi : ((0 : Int) < (data.length : Int)) = False := by simp [hd0]
          have HDZ := Lib.hid hdz
          clear hdz
          gi_wp2_with fail
          refine ⟨(fun _ h => by cases h), ?_⟩
          gi_wp2_with fail
          have hUw := HFW6.out.2.1
          have hWw := HFW6.out.2.2.size
          obtain ⟨s0, hs0⟩ : ∃ s0, W6.heap.size = s0 := ⟨_, rfl⟩
          rw [hs0] at hUw hWw
          gi_loopw [5, 67] (fun sv iv V => ∃ (t : Nat) (A : Option Addr) (c : Nat) (fl : List UInt8), sv = .slice A fl.length c ∧ iv = .int .i64 t ∧ t ≤ ids.length ∧ fl = (ids.take t).flatten ∧ Row V 5 A c (fl.map bv) ∧ (∀ k, ab A = some k → s0 ≤ k) ∧ s0 ≤ V.heap.size ∧ FM W T J (cnt + 1) UW6 V) (fun _ iv _ => ids.length - (intOf iv).toNat)
          case atStart => exact ⟨0, none, 0, [], rfl, rfl, Nat.zero_le _, rfl, Row.nil _ _, fun k hk => by simp [ab] at hk, Nat.le_of_eq hs0.symm, HFW6.out⟩
          case round =>
            clear x38 x39 x40 HBx
            obtain ⟨t, A, c, fl, rfl, rfl, ht, hfle, hrow, hA, hwz, hFMr⟩ := hrel
            by_cases htl : t < ids.length
            · have hlx : (ids[t]).length = 32 := hie _ (List.getElem_mem htl)
              obtain ⟨b, off, hAi, hbl, hat⟩ := (HI.out.fr hFMr.2.2 (fun h0 k hk h => by rcases h with h | h; exact hTi h0 k hk h; have := idsl_lt HI.out h0 k hk; omega)) (by omega)
              have HAT := Lib.hid (hat t htl)
              have hfl : fl ++ ids[t] = ((ids.take (t + 1)).flatten) := by rw [hfle, List.take_succ_eq_append_getElem htl, List.flatten_append]; simp
              have hflen : fl.length ≤ 2048 := hfle ▸ flat_le ids t hie hil
              generalize ids[t] = x at *
              have hBn := Blk.new wr 60 (ida x)
              have hrowa := hrow.fr (Fr.alloc (fun _ => False) wr (.cells (ida x) 60)) (fun _ _ h => h)
              have hrdx : Rd (wr.alloc (.cells (ida x) 60)) (some ⟨wr.heap.size, 0, none⟩) (x.map bv) := rd_of_at (by rw [World.size_alloc]; omega) hBn.at'
              obtain ⟨i8, hi8, hy0, hy1, hy2⟩ := info_parts infoByte
              obtain ⟨A2, c2, w2, hrun, hrow2, hf2, hA2⟩ := run_append_rd (P := Try.prog) (wr.alloc (.cells (ida x) 60)) 22 22 5 i8 (.int .u8 0) 1 Try.underlying22 hi8 hy0 hy1 hy2 rfl A c _ hrowa (some ⟨wr.heap.size, 0, none⟩) 32 (x.map bv) hrdx (by simp [bv_one]) (by simp [maxLen]; omega) (by simp; omega)
              simp only [List.length_map, hlx] at hrun
              have hFM2 := (hFMr.new hJ (Fr.alloc _ wr (.cells (ida x) 60))).own hJ hf2 (fun k hk => ⟨Nat.le_trans hWw (hA k hk.symm), fun hu => by have := (hUw k hu).2; have := hA k hk.symm; omega⟩)
              have hA2' : ∀ k, ab A2 = some k → s0 ≤ k := fun k hk => by
                rcases hA2 k hk with h | h
                · exact hA k h
                · rw [World.size_alloc] at h; omega
              rw [← List.map_append] at hrow2
              have hl2 : fl.length + 32 = (fl ++ x).length := by rw [List.length_append, hlx]
              have HL2 := Lib.hid hl2
              have HFL := Lib.hid hfl
              have HF2 := Lib.hid hFM2
              have HR2 := Lib.hid hrow2
              have HXS := Lib.hid (show 32 = (ida x).size by rw [ida_size, hlx])
              have HX2 := Lib.hid (show x.length = 32 from hlx)
              have hz32' : z32.length = 32 := rfl
              have HZS := Lib.hid (show (ida z32).size = (ida x).size by rw [ida_size, ida_size, hlx, hz32'])
              have hwz2 : s0 ≤ w2.heap.size := by have := hf2.size; rw [World.size_alloc] at this; omega
              have hti : (t : Int) < ids.length := by omega
              clear hFMr hat hfl hfle hflen hBn hrowa hrdx hi8 hy0 hy1 hy2 hrow2 hf2 hA2 hFM2 hl2 hrow hlx hz32'
              gi_wp2_with (first
                | (gi_at_builtin; refine wpListIn_append_run hrun rfl rfl _ _ rfl rfl rfl ?_)
                | (refine x_value_in (exec_load (T := 60) (X := ida x) (g := b) (off := off + t * 32) rfl rfl underID rfl hii (hi1.trans HXS.out) HAT.out) (fun _ h => by cases h) (fun _ h => by cases h) (by simp [go_sem, Region.wanted, yielded]) ?_)
                | (refine x_value_in (x_alloc (T := 60) rfl hii hi0) (fun _ h => by cases h) (fun _ h => by cases h) (by simp [go_sem, Region.wanted, yielded]) ?_)
                | (refine x_skip_in (exec_store_new (T := 60) (X := ida x) rfl rfl rfl rfl hii (hi1.trans HXS.out) (ida_one _) HZS.out) (fun _ h => by cases h) (fun _ h => by cases h) rfl ?_))
              rw [hAi]
              go_roundw
              case measure => simp [intOf]; omega
              exact ⟨t + 1, A2, c2, fl ++ x, by rw [← HL2.out], by go_num, by omega, HFL.out, HR2.out, hA2', hwz2, HF2.out⟩
            · obtain rfl : t = ids.length := by omega
              by_cases hiz : ids = []
              · have HIZ := Lib.hid hiz
                clear hiz
                have hn0 : ids = [] := HIZ.out
                have hfz : fl.length = 0 := by rw [hfle, hn0]; rfl
                clear hn0 hfle
                have HFMr := Lib.hid hFMr
                clear hFMr
                have hBx : Blk wr mb 64 (mc k n1 n2 n3 n4 n5 id Ad data.length cd Ai ids.length ci Al 0 cl) := HB.out.fr HFMr.out.2.2 (fun h => by rcases h with h | h; exact hTm h; omega)
                obtain ⟨-, x38, x39, x40⟩ := mc_cells hBx hid
                have HBx := Lib.hid hBx
                clear hBx
                gi_wp2_with fail
                refine ⟨(fun _ h => by cases h), ?_⟩
                gi_wp2_with fail
                gi_loopw [6, 88] (fun lv iv V => lv = .slice none 0 0 ∧ iv = .int .i64 0 ∧ FM W T J (cnt + 1) UW6 V) (fun _ _ _ => 0)
                case atStart => exact ⟨rfl, rfl, HFMr.out⟩
                case round =>
                  obtain ⟨rfl, rfl, hFMe⟩ := hrel
                  have HFMe := Lib.hid hFMe
                  have hlen : (Pk.fields ⟨k, [n1, n2, n3, n4, n5], id, data, ids⟩).length = cnt + 1 := by
                    rw [HFE.out, HCN.out, if_neg HIDZ.out, if_pos HDZ.out, if_pos HIZ.out]
                    simp
                  have HLEN := Lib.hid hlen
                  clear hlen
                  clear hFMe
                  gi_wp2_with fail
                  go_end0
                  exact ⟨⟨_, rfl⟩, ⟨UW6, by rw [HLEN.out]; exact HFMe.out.1⟩, trivial⟩
              · have HIZ := Lib.hid hiz
                clear hiz
                have hff : fl = ids.flatten := by rw [hfle, List.take_length]
                have hfz : 0 < fl.length := by
                  have := flat_len ids hie
                  have := List.length_pos_iff.2 HIZ.out
                  rw [hff]
                  omega
                have hfi : decide ((0 : Int) < (fl.length : Int)) = true := decide_eq_true (by omega)
                have HFF := Lib.hid hff
                have HROW := Lib.hid hrow
                have HFMR := Lib.hid hFMr
                have hY2 := HY.out (cnt + 1) (8, fl) #[.agg #[bv 8, .slice A fl.length c]] UW6 wr (by rw [HFE.out]; rw [HFF.out, HCN.out, if_neg HIDZ.out, if_pos HDZ.out, if_neg HIZ.out]; first | (simp; done) | (rw [Nat.add_assoc, List.getElem?_append_right (by omega), Nat.add_sub_cancel_left]; simp)) (fun V hV => ⟨A, c, rfl, (hrow.fr hV (fun k hk h => h.elim (fun h => by have := (hT k h).1; have := hA k hk; omega) (fun h => by have := (hUw k h).2; have := hA k hk; omega))).rd⟩) HFMR.out.1 HFMR.out.2.2.size HFMR.out.2.1
                obtain ⟨fn, tmps, assign, body, hy, hRo⟩ := hY2
                have hy' : (Instr.yield l #[.agg #[.int .u8 8, .slice A fl.length c]]).run Try.prog wr = .ok (.round l fn tmps assign body) wr := hy
                have HR := Lib.hid hRo
                clear hRo hy
                clear hff hfle hrow hFMr
                gi_wp2_with fail
                refine ⟨(fun h => by cases h), HR.out.mono ?_⟩
                clear hy' HR
                rintro e W8 ⟨rfl, UW8, hj, hg, hu, hf⟩
                have HFW8 := Lib.hid (HFMR.out.after hj hg hu hf)
                clear hj hg hu hf
                have hBx : Blk W8 mb 64 (mc k n1 n2 n3 n4 n5 id Ad data.length cd Ai ids.length ci Al 0 cl) := HB.out.fr HFW8.out.2.2 (fun h => by rcases h with h | h; exact hTm h; omega)
                obtain ⟨-, x38, x39, x40⟩ := mc_cells hBx hid
                have HBx := Lib.hid hBx
                clear hBx
                gi_wp2_with fail
                gi_loopw [6, 88] (fun lv iv V => lv = .slice none 0 0 ∧ iv = .int .i64 0 ∧ FM W T J (cnt + 1 + 1) UW8 V) (fun _ _ _ => 0)
                case atStart => exact ⟨rfl, rfl, HFW8.out⟩
                case round =>
                  obtain ⟨rfl, rfl, hFMe⟩ := hrel
                  have HFMe := Lib.hid hFMe
                  have hlen : (Pk.fields ⟨k, [n1, n2, n3, n4, n5], id, data, ids⟩).length = cnt + 1 + 1 := by
                    rw [HFE.out, HCN.out, if_neg HIDZ.out, if_pos HDZ.out, if_neg HIZ.out]
                    simp
                  have HLEN := Lib.hid hlen
                  clear hlen
                  clear hFMe
                  gi_wp2_with fail
                  go_end0
                  exact ⟨⟨_, rfl⟩, ⟨UW8, by rw [HLEN.out]; exact HFMe.out.1⟩, trivial⟩
        · have hd0 : 0 < data.length := List.length_pos_iff.2 hdz
          have hdi : decide ((0 : Int) < (data.length : Int)) = true := decide_eq_true (by omega)
          have HDZ := Lib.hid hdz
          clear hdz
          have hY2 := HY.out (cnt + 1) (7, data) #[.agg #[bv 7, .slice Ad data.length cd]] UW6 W6 (by rw [HFE.out]; rw [HCN.out, if_neg HIDZ.out, if_neg HDZ.out]; simp) (fun V hV => ⟨Ad, cd, rfl, (HD.out.fr (HFW6.out.2.2.trans hV (fun k hk => by rcases hk with h | h; exact .inl (.inl h); exact .inl (.inr (HFW6.out.2.1 k h).1))) (fun k hk h => h.elim (fun h => hTd hd0 k hk h) (fun h => by have := HD.out.lt (by simpa using hd0) k hk; omega)))⟩) HFW6.out.1 HFW6.out.2.2.size HFW6.out.2.1
          obtain ⟨fn, tmps, assign, body, hy, hRo⟩ := hY2
          have hy' : (Instr.yield l #[.agg #[.int .u8 7, .slice Ad data.length cd]]).run Try.prog W6 = .ok (.round l fn tmps assign body) W6 := hy
          have HR := Lib.hid hRo
          clear hRo hy
          gi_wp2_with fail
          refine ⟨(fun h => by cases h), HR.out.mono ?_⟩
          clear hy' HR
          rintro e W7b ⟨rfl, UW7b, hj, hg, hu, hf⟩
          have HFW7b := Lib.hid (HFW6.out.after hj hg hu hf)
          clear hj hg hu hf
          have hBx : Blk W7b mb 64 (mc k n1 n2 n3 n4 n5 id Ad data.length cd Ai ids.length ci Al 0 cl) := HB.out.fr HFW7b.out.2.2 (fun h => by rcases h with h | h; exact hTm h; omega)
          obtain ⟨-, x38, x39, x40⟩ := mc_cells hBx hid
          have HBx := Lib.hid hBx
          clear hBx
          gi_wp2_with fail
          have hUw := HFW7b.out.2.1
          have hWw := HFW7b.out.2.2.size
          obtain ⟨s0, hs0⟩ : ∃ s0, W7b.heap.size = s0 := ⟨_, rfl⟩
          rw [hs0] at hUw hWw
          gi_loopw [5, 67] (fun sv iv V => ∃ (t : Nat) (A : Option Addr) (c : Nat) (fl : List UInt8), sv = .slice A fl.length c ∧ iv = .int .i64 t ∧ t ≤ ids.length ∧ fl = (ids.take t).flatten ∧ Row V 5 A c (fl.map bv) ∧ (∀ k, ab A = some k → s0 ≤ k) ∧ s0 ≤ V.heap.size ∧ FM W T J (cnt + 1 + 1) UW7b V) (fun _ iv _ => ids.length - (intOf iv).toNat)
          case atStart => exact ⟨0, none, 0, [], rfl, rfl, Nat.zero_le _, rfl, Row.nil _ _, fun k hk => by simp [ab] at hk, Nat.le_of_eq hs0.symm, HFW7b.out⟩
          case round =>
            clear x38 x39 x40 HBx
            obtain ⟨t, A, c, fl, rfl, rfl, ht, hfle, hrow, hA, hwz, hFMr⟩ := hrel
            by_cases htl : t < ids.length
            · have hlx : (ids[t]).length = 32 := hie _ (List.getElem_mem htl)
              obtain ⟨b, off, hAi, hbl, hat⟩ := (HI.out.fr hFMr.2.2 (fun h0 k hk h => by rcases h with h | h; exact hTi h0 k hk h; have := idsl_lt HI.out h0 k hk; omega)) (by omega)
              have HAT := Lib.hid (hat t htl)
              have hfl : fl ++ ids[t] = ((ids.take (t + 1)).flatten) := by rw [hfle, List.take_succ_eq_append_getElem htl, List.flatten_append]; simp
              have hflen : fl.length ≤ 2048 := hfle ▸ flat_le ids t hie hil
              generalize ids[t] = x at *
              have hBn := Blk.new wr 60 (ida x)
              have hrowa := hrow.fr (Fr.alloc (fun _ => False) wr (.cells (ida x) 60)) (fun _ _ h => h)
              have hrdx : Rd (wr.alloc (.cells (ida x) 60)) (some ⟨wr.heap.size, 0, none⟩) (x.map bv) := rd_of_at (by rw [World.size_alloc]; omega) hBn.at'
              obtain ⟨i8, hi8, hy0, hy1, hy2⟩ := info_parts infoByte
              obtain ⟨A2, c2, w2, hrun, hrow2, hf2, hA2⟩ := run_append_rd (P := Try.prog) (wr.alloc (.cells (ida x) 60)) 22 22 5 i8 (.int .u8 0) 1 Try.underlying22 hi8 hy0 hy1 hy2 rfl A c _ hrowa (some ⟨wr.heap.size, 0, none⟩) 32 (x.map bv) hrdx (by simp [bv_one]) (by simp [maxLen]; omega) (by simp; omega)
              simp only [List.length_map, hlx] at hrun
              have hFM2 := (hFMr.new hJ (Fr.alloc _ wr (.cells (ida x) 60))).own hJ hf2 (fun k hk => ⟨Nat.le_trans hWw (hA k hk.symm), fun hu => by have := (hUw k hu).2; have := hA k hk.symm; omega⟩)
              have hA2' : ∀ k, ab A2 = some k → s0 ≤ k := fun k hk => by
                rcases hA2 k hk with h | h
                · exact hA k h
                · rw [World.size_alloc] at h; omega
              rw [← List.map_append] at hrow2
              have hl2 : fl.length + 32 = (fl ++ x).length := by rw [List.length_append, hlx]
              have HL2 := Lib.hid hl2
              have HFL := Lib.hid hfl
              have HF2 := Lib.hid hFM2
              have HR2 := Lib.hid hrow2
              have HXS := Lib.hid (show 32 = (ida x).size by rw [ida_size, hlx])
              have HX2 := Lib.hid (show x.length = 32 from hlx)
              have hz32' : z32.length = 32 := rfl
              have HZS := Lib.hid (show (ida z32).size = (ida x).size by rw [ida_size, ida_size, hlx, hz32'])
              have hwz2 : s0 ≤ w2.heap.size := by have := hf2.size; rw [World.size_alloc] at this; omega
              have hti : (t : Int) < ids.length := by omega
              clear hFMr hat hfl hfle hflen hBn hrowa hrdx hi8 hy0 hy1 hy2 hrow2 hf2 hA2 hFM2 hl2 hrow hlx hz32'
              gi_wp2_with (first
                | (gi_at_builtin; refine wpListIn_append_run hrun rfl rfl _ _ rfl rfl rfl ?_)
                | (refine x_value_in (exec_load (T := 60) (X := ida x) (g := b) (off := off + t * 32) rfl rfl underID rfl hii (hi1.trans HXS.out) HAT.out) (fun _ h => by cases h) (fun _ h => by cases h) (by simp [go_sem, Region.wanted, yielded]) ?_)
                | (refine x_value_in (x_alloc (T := 60) rfl hii hi0) (fun _ h => by cases h) (fun _ h => by cases h) (by simp [go_sem, Region.wanted, yielded]) ?_)
                | (refine x_skip_in (exec_store_new (T := 60) (X := ida x) rfl rfl rfl rfl hii (hi1.trans HXS.out) (ida_one _) HZS.out) (fun _ h => by cases h) (fun _ h => by cases h) rfl ?_))
              rw [hAi]
              go_roundw
              case measure => simp [intOf]; omega
              exact ⟨t + 1, A2, c2, fl ++ x, by rw [← HL2.out], by go_num, by omega, HFL.out, HR2.out, hA2', hwz2, HF2.out⟩
            · obtain rfl : t = ids.length := by omega
              by_cases hiz : ids = []
              · have HIZ := Lib.hid hiz
                clear hiz
                have hn0 : ids = [] := HIZ.out
                have hfz : fl.length = 0 := by rw [hfle, hn0]; rfl
                clear hn0 hfle
                have HFMr := Lib.hid hFMr
                clear hFMr
                have hBx : Blk wr mb 64 (mc k n1 n2 n3 n4 n5 id Ad data.length cd Ai ids.length ci Al 0 cl) := HB.out.fr HFMr.out.2.2 (fun h => by rcases h with h | h; exact hTm h; omega)
                obtain ⟨-, x38, x39, x40⟩ := mc_cells hBx hid
                have HBx := Lib.hid hBx
                clear hBx
                gi_wp2_with fail
                refine ⟨(fun _ h => by cases h), ?_⟩
                gi_wp2_with fail
                gi_loopw [6, 88] (fun lv iv V => lv = .slice none 0 0 ∧ iv = .int .i64 0 ∧ FM W T J (cnt + 1 + 1) UW7b V) (fun _ _ _ => 0)
                case atStart => exact ⟨rfl, rfl, HFMr.out⟩
                case round =>
                  obtain ⟨rfl, rfl, hFMe⟩ := hrel
                  have HFMe := Lib.hid hFMe
                  have hlen : (Pk.fields ⟨k, [n1, n2, n3, n4, n5], id, data, ids⟩).length = cnt + 1 + 1 := by
                    rw [HFE.out, HCN.out, if_neg HIDZ.out, if_neg HDZ.out, if_pos HIZ.out]
                    simp
                  have HLEN := Lib.hid hlen
                  clear hlen
                  clear hFMe
                  gi_wp2_with fail
                  go_end0
                  exact ⟨⟨_, rfl⟩, ⟨UW7b, by rw [HLEN.out]; exact HFMe.out.1⟩, trivial⟩
              · have HIZ := Lib.hid hiz
                clear hiz
                have hff : fl = ids.flatten := by rw [hfle, List.take_length]
                have hfz : 0 < fl.length := by
                  have := flat_len ids hie
                  have := List.length_pos_iff.2 HIZ.out
                  rw [hff]
                  omega
                have hfi : decide ((0 : Int) < (fl.length : Int)) = true := decide_eq_true (by omega)
                have HFF := Lib.hid hff
                have HROW := Lib.hid hrow
                have HFMR := Lib.hid hFMr
                have hY2 := HY.out (cnt + 1 + 1) (8, fl) #[.agg #[bv 8, .slice A fl.length c]] UW7b wr (by rw [HFE.out]; rw [HFF.out, HCN.out, if_neg HIDZ.out, if_neg HDZ.out, if_neg HIZ.out]; first | (simp; done) | (rw [Nat.add_assoc, List.getElem?_append_right (by omega), Nat.add_sub_cancel_left]; simp)) (fun V hV => ⟨A, c, rfl, (hrow.fr hV (fun k hk h => h.elim (fun h => by have := (hT k h).1; have := hA k hk; omega) (fun h => by have := (hUw k h).2; have := hA k hk; omega))).rd⟩) HFMR.out.1 HFMR.out.2.2.size HFMR.out.2.1
                obtain ⟨fn, tmps, assign, body, hy, hRo⟩ := hY2
                have hy' : (Instr.yield l #[.agg #[.int .u8 8, .slice A fl.length c]]).run Try.prog wr = .ok (.round l fn tmps assign body) wr := hy
                have HR := Lib.hid hRo
                clear hRo hy
                clear hff hfle hrow hFMr
                gi_wp2_with fail
                refine ⟨(fun h => by cases h), HR.out.mono ?_⟩
                clear hy' HR
                rintro e W8 ⟨rfl, UW8, hj, hg, hu, hf⟩
                have HFW8 := Lib.hid (HFMR.out.after hj hg hu hf)
                clear hj hg hu hf
                have hBx : Blk W8 mb 64 (mc k n1 n2 n3 n4 n5 id Ad data.length cd Ai ids.length ci Al 0 cl) := HB.out.fr HFW8.out.2.2 (fun h => by rcases h with h | h; exact hTm h; omega)
                obtain ⟨-, x38, x39, x40⟩ := mc_cells hBx hid
                have HBx := Lib.hid hBx
                clear hBx
                gi_wp2_with fail
                gi_loopw [6, 88] (fun lv iv V => lv = .slice none 0 0 ∧ iv = .int .i64 0 ∧ FM W T J (cnt + 1 + 1 + 1) UW8 V) (fun _ _ _ => 0)
                case atStart => exact ⟨rfl, rfl, HFW8.out⟩
                case round =>
                  obtain ⟨rfl, rfl, hFMe⟩ := hrel
                  have HFMe := Lib.hid hFMe
                  have hlen : (Pk.fields ⟨k, [n1, n2, n3, n4, n5], id, data, ids⟩).length = cnt + 1 + 1 + 1 := by
                    rw [HFE.out, HCN.out, if_neg HIDZ.out, if_neg HDZ.out, if_neg HIZ.out]
                    simp
                  have HLEN := Lib.hid hlen
                  clear hlen
                  clear hFMe
                  gi_wp2_with fail
                  go_end0
                  exact ⟨⟨_, rfl⟩, ⟨UW8, by rw [HLEN.out]; exact HFMe.out.1⟩, trivial⟩
end Go.Proofs.Ytefalfalapnllaa
