/- cast: who voted in a round, one after the other. -/
import Derived.Test.YtepmlmfacpbhkaaRCntC
import Derived.Sort.CutIn
namespace Go.Proofs.YtepmlmfacpbhkaaR
open Go.RowKit Go.Shelf
set_option linter.unusedVariables false

theorem casts_succ (f : Nat → Option Cnt.Vid) (i : Nat) : Cnt.casts (i + 1) f = Cnt.casts i f ++ ((f i).map fun x => (i, x)).toList := by
  unfold Cnt.casts
  rw [List.range_succ, List.filterMap_append]
  congr 1
theorem casts_get {n i : Nat} (f : Nat → Option Cnt.Vid) (hi : i < n) {x : Cnt.Vid} (hx : f i = some x) : (Cnt.casts n f)[(Cnt.casts i f).length]? = some (i, x) := by
  induction n with
  | zero => omega
  | succ n ih =>
    rw [casts_succ]
    by_cases h : i = n
    · subst h
      rw [List.getElem?_append_right (Nat.le_refl _)]
      simp [hx]
    · have := ih (by omega)
      rw [List.getElem?_append_left (List.getElem?_eq_some_iff.1 this).1]
      exact this
theorem cast_any (w : World) (g : Nat) (r k : Int) :
    Calls Try.prog 43 #[.pointer (some ⟨g, 0, none⟩), .int .i64 r, .int .i64 k] w fun e w' =>
      e = .returned (.func (.func 55) #[] #[.pointer (some ⟨w.heap.size, 0, none⟩), .pointer (some ⟨w.heap.size + 1, 0, none⟩), .pointer (some ⟨w.heap.size + 2, 0, none⟩)]) ∧
      w' = ((w.alloc (.cells #[.pointer (some ⟨g, 0, none⟩)] 26)).alloc (.cells #[.int .i64 r] 3)).alloc (.cells #[.int .i64 k] 3) := by
  go_enter Try.func43, Try.ntmps43
  go_wp2
  go_ret
  exact ⟨rfl, rfl⟩
/-- what the iterator reads -/
structure SeesAt (w : World) (T : Nat → Prop) (s g : Nat) (B : Nat → Nat → Nat) (n : Nat) (V : Cnt.Tab) (r k : Int) : Prop where
  c0 : w.cell? ⟨s, 0, none⟩ = some (.pointer (some ⟨g, 0, none⟩))
  c1 : w.cell? ⟨s + 1, 0, none⟩ = some (.int .i64 r)
  c2 : w.cell? ⟨s + 2, 0, none⟩ = some (.int .i64 k)
  at' : CntAt w g B n V
  t0 : ¬ T s
  t1 : ¬ T (s + 1)
  t2 : ¬ T (s + 2)
  tg : ¬ T g
  tb : ∀ r k, r < 12 → k < 2 → ¬ T (B r k)
theorem SeesAt.fr {w w' : World} {T : Nat → Prop} {s g : Nat} {B : Nat → Nat → Nat} {n : Nat} {V : Cnt.Tab} {r k : Int} (h : SeesAt w T s g B n V r k) (f : Fr (fun j => T j ∨ w.heap.size ≤ j) w w') : SeesAt w' T s g B n V r k := by
  have l0 := World.block_lt_of_cell? _ _ h.c0
  have l1 := World.block_lt_of_cell? _ _ h.c1
  have l2 := World.block_lt_of_cell? _ _ h.c2
  have lg := h.at'.glt
  have nn : ∀ {j : Nat}, j < w.heap.size → ¬ T j → ¬ (T j ∨ w.heap.size ≤ j) := fun hj ht h => h.elim ht (fun h => by omega)
  exact ⟨(f.cell (p := ⟨s, 0, none⟩) l0 (nn l0 h.t0)).trans h.c0, (f.cell (p := ⟨s + 1, 0, none⟩) l1 (nn l1 h.t1)).trans h.c1, (f.cell (p := ⟨s + 2, 0, none⟩) l2 (nn l2 h.t2)).trans h.c2,
    h.at'.fr f (nn lg h.tg) (fun r k hr hk => nn (h.at'.blt hr hk) (h.tb r k hr hk)), h.t0, h.t1, h.t2, h.tg, h.tb⟩
section
variable {P : Program} {ops : Array Oper} {rest : List Oper} {o : Oper} {a : Act} {w w' : World} {Q : Exit → Act → World → Prop} {F : Fence} {n : Nat}
theorem wpListIn_value_w {v : Value} (hr : (execOp a.eval o).run P w = .ok (.value v) w') (hc : ∀ c, o.op ≠ .call c) (hd : ∀ c, o.op ≠ .defer c) (hgd : Region.wanted o (yielded ops a.tmps) = true) (h : wpListIn F n P ops Q rest (a.put o.dst v) w') :
    wpListIn F n P ops Q (o :: rest) a w := wpListIn_of_value_g hgd hc hd hr h
theorem wpListIn_skip_w (hr : (execOp a.eval o).run P w = .ok .skip w') (hc : ∀ c, o.op ≠ .call c) (hd : ∀ c, o.op ≠ .defer c) (hgd : o.guard = none) (h : wpListIn F n P ops Q rest (a.put o.dst undef) w') :
    wpListIn F n P ops Q (o :: rest) a w := wpListIn_of_skip hgd hc hd hr h
theorem exec_alloc_agg {T : TypeId} {ev : Operand → Value} {i : TypeInfo} {Z : Array Value} (ho : o.op = .alloc T) (hi : P.info? T = some i) (hz : i.zero = some (.agg Z)) :
    (execOp ev o).run P w = .ok (.value (.pointer (some ⟨w.heap.size, 0, none⟩))) (w.alloc (.cells Z T)) := exec_alloc ho hi hz
end
theorem vc_one (o : Option Cnt.Vid) : ∀ v ∈ ((vcells o).toArray).toList, v.oneCell' = true := by
  intro v hv
  cases o with
  | none =>
    rcases List.mem_cons.1 hv with rfl | hv
    · rfl
    · exact ida_one Cnt.z v (by simpa [ida] using hv)
  | some x =>
    rcases List.mem_cons.1 hv with rfl | hv
    · rfl
    · exact ida_one x v (by simpa [ida] using hv)
def encP (p : Nat × Cnt.Vid) : Array Value := #[.int .i64 p.1, .agg (ida p.2)]

set_option maxHeartbeats 1000000 in
set_option maxRecDepth 20000 in
theorem casts_any (n0 : Nat) (hn0 : 1 ≤ n0) (s g : Nat) (B : Nat → Nat → Nat) (n : Nat) (V : Cnt.Tab) (r k : Int) :
    SeqCut Fence.wide n0 Try.prog 55 #[.pointer (some ⟨s, 0, none⟩), .pointer (some ⟨s + 1, 0, none⟩), .pointer (some ⟨s + 2, 0, none⟩)] encP (Cnt.castsAt n V r k)
      (fun T W => SeesAt W T s g B n V r k) := by
  rintro l T J Jx W hS hT hJ hJx hY h0
  refine callsIn_of_wp Try.func55 rfl trivial ?_ rfl
  simp only [Try.ntmps55, List.size_toArray, List.length_cons, List.length_nil, Nat.reduceAdd, Nat.reduceSub, Array.replicate_succ, Array.replicate_zero, List.push_toArray, List.append_toArray, List.nil_append, List.cons_append]
  obtain ⟨iv, hiv, hv0, hv1, hv2⟩ := info_parts infoV
  obtain ⟨ii, hii, hz0, hz1, hz2⟩ := info_parts infoI
  have c0 := hS.c0
  have c1 := hS.c1
  have c2 := hS.c2
  have cv := hS.at'.voters
  cases hr : Cnt.right n r k 0 with
  | false =>
    have hq : (!Cnt.right n r k 0) = true := by rw [hr]; rfl
    have he : Cnt.castsAt n V r k = [] := by unfold Cnt.castsAt; rw [hr]; rfl
    rw [he]
    gi_wp2_with (refine ⟨trivial, ?_⟩; gi_at_call 42; refine (callsIn_wide.2 (right_any _ g n _ _ _ cv)).mono ?_; rintro e w' ⟨rfl, rfl⟩)
    refine bodyPost_ret (results_none rfl _ _ _) rfl ?_
    exact ⟨⟨_, rfl⟩, .inl h0⟩
  | true =>
    have hq : (!Cnt.right n r k 0) = false := by rw [hr]; rfl
    have he : Cnt.castsAt n V r k = Cnt.casts n (V r.toNat k.toNat) := by unfold Cnt.castsAt; rw [hr]; rfl
    have hb : 0 ≤ r ∧ r < 12 ∧ (k = 0 ∨ k = 1) ∧ (0 : Int) < n := by have := hr; simp [Cnt.right] at this; simpa using this
    obtain ⟨r, rfl⟩ : ∃ r' : Nat, r = r' := ⟨r.toNat, by omega⟩
    obtain ⟨k, rfl⟩ : ∃ k' : Nat, k = k' := ⟨k.toNat, by omega⟩
    have hr12 : r < 12 := by omega
    have hk2 : k < 2 := by omega
    have hr12' : (r : Int) < 12 := by omega
    have hk2' : (k : Int) < 2 := by omega
    rw [he] at hY ⊢
    simp only [Int.toNat_natCast] at hY ⊢
    clear he hb
    have hsl := hS.at'.slot r k hr12 hk2
    gi_wp2_with (refine ⟨trivial, ?_⟩; gi_at_call 42; refine (callsIn_wide.2 (right_any _ g n _ _ _ cv)).mono ?_; rintro e w' ⟨rfl, rfl⟩)
    gi_region
    have hJ0 : J (Cnt.casts 0 (V r k)).length W.drew := hJ 0 _ _ h0 (Fr.drew _ _)
    have hF0 : Fr (fun q => T q ∨ W.heap.size ≤ q) W W.drew := Fr.drew _ _
    generalize W.drew = W0 at *
    have hnn := hS.at'.nn
    have hnb : n ≤ 7 := by omega
    gi_wp2_with fail
    gi_loopw [21] (fun i V' => ∃ j : Nat, i = .int .i64 j ∧ j ≤ n ∧ J (Cnt.casts j (V r k)).length V' ∧ Fr (fun q => T q ∨ W.heap.size ≤ q) W V') (fun i _ => n - (intOf i).toNat)
    case atStart => exact ⟨0, rfl, by omega, hJ0, hF0⟩
    case round =>
      obtain ⟨j, rfl, hj, hJj, hFj⟩ := hrel
      have hSj := hS.fr hFj
      clear c0 c1 c2 cv hsl hJ0 hF0
      by_cases hlt : j < n
      · have hlt' : (j : Int) < (n : Int) := by omega
        have hat := hSj.at'.at hr12 hk2 hlt
        cases hv : V r k j with
        | none =>
          rw [hv] at hat
          have hJ1 : J (Cnt.casts j (V r k)).length (wr.alloc (.cells (vcells none).toArray 90)) := hJ _ _ _ hJj (Fr.alloc _ _ _)
          have hF1 := hFj.then_alloc (.cells (vcells none).toArray 90)
          have hc1 : (wr.alloc (.cells (vcells none).toArray 90)).cell? ⟨wr.heap.size, 0, none⟩ = some (.bool false) := by rw [(Blk.new wr 90 (vcells none).toArray).cell]; rfl
          have hcs : Cnt.casts (j + 1) (V r k) = Cnt.casts j (V r k) := by rw [casts_succ, hv]; simp
          rw [← hcs] at hJ1
          gi_wp2_with (first
            | (refine wpListIn_value_w (exec_load (T := 90) rfl rfl Try.underlying90 rfl hiv (hv1.trans rfl) hat) (fun _ h => by cases h) (fun _ h => by cases h) (by simp [go_sem, Region.wanted, yielded]) ?_)
            | (refine wpListIn_value_w (exec_alloc_agg (T := 90) rfl hiv hv0) (fun _ h => by cases h) (fun _ h => by cases h) (by simp [go_sem, Region.wanted, yielded]) ?_)
            | (refine wpListIn_skip_w (exec_store_new (T := 90) rfl rfl rfl rfl hiv (hv1.trans rfl) (vc_one _) rfl) (fun _ h => by cases h) (fun _ h => by cases h) rfl ?_))
          refine ⟨fun _ h => (by cases h), ?_⟩
          gi_wp2_with fail
          go_roundw
          case rel => exact ⟨j + 1, by go_num, by omega, hJ1, hF1⟩
          case measure => simp [intOf]; omega
        | some x =>
          rw [hv] at hat
          have hx := (hSj.at'.len r k j x hv).1
          have hJ1 : J (Cnt.casts j (V r k)).length (wr.alloc (.cells (vcells (some x)).toArray 90)) := hJ _ _ _ hJj (Fr.alloc _ _ _)
          have hF1 := hFj.then_alloc (.cells (vcells (some x)).toArray 90)
          have hc1 : (wr.alloc (.cells (vcells (some x)).toArray 90)).cell? ⟨wr.heap.size, 0, none⟩ = some (.bool true) := by rw [(Blk.new wr 90 (vcells (some x)).toArray).cell]; rfl
          have hAt : At (wr.alloc (.cells (vcells (some x)).toArray 90)) wr.heap.size 1 (ida x) := fun q hq => by
            rw [(Blk.new wr 90 (vcells (some x)).toArray).cell]
            have hq' : q < x.length := by simpa [ida] using hq
            simp [vcells, ida, Nat.add_comm 1 q, List.getElem?_eq_getElem hq']
          have hcs : (Cnt.casts (j + 1) (V r k)).length = (Cnt.casts j (V r k)).length + 1 := by rw [casts_succ, hv]; simp
          obtain ⟨fn, tmps, assign, body, hy, hR⟩ := hY _ (j, x) _ (casts_get (V r k) hlt hv) hJ1 (by have := hF1.size; simpa using this)
          change (Instr.yield l #[.int .i64 j, .agg (ida x)]).run _ _ = _ at hy
          gi_wp2_with (first
            | (refine wpListIn_value_w (exec_load (T := 90) rfl rfl Try.underlying90 rfl hiv (hv1.trans (by simp [vcells, hx])) hat) (fun _ h => by cases h) (fun _ h => by cases h) (by simp [go_sem, Region.wanted, yielded]) ?_)
            | (refine wpListIn_value_w (exec_alloc_agg (T := 90) rfl hiv hv0) (fun _ h => by cases h) (fun _ h => by cases h) (by simp [go_sem, Region.wanted, yielded]) ?_)
            | (refine wpListIn_skip_w (exec_store_new (T := 90) rfl rfl rfl rfl hiv (hv1.trans (by simp [vcells, hx])) (vc_one _) (by simp [vcells, hx, Cnt.z_length])) (fun _ h => by cases h) (fun _ h => by cases h) rfl ?_)
            | (refine wpListIn_value_w (exec_load (T := 32) rfl rfl underI rfl hii (hz1.trans (by rw [ida_size]; exact hx.symm)) hAt) (fun _ h => by cases h) (fun _ h => by cases h) (by simp [go_sem, Region.wanted, yielded]) ?_))
          refine hR.mono ?_
          clear hy
          rintro e W3 (⟨rfl, hJ3, hf3⟩ | ⟨rfl, hJx3⟩)
          · gi_wp2
            go_roundw
            case rel => exact ⟨j + 1, by go_num, by omega, by rw [hcs]; exact hJ3, hF1.trans hf3 (fun _ h => .inl (.inl h))⟩
            case measure => simp [intOf]; omega
          · gi_wp2
            refine bodyPost_ret (results_none rfl _ _ _) rfl ?_
            exact ⟨⟨_, rfl⟩, .inr ⟨_, (List.getElem?_eq_some_iff.1 (casts_get (V r k) hlt hv)).1, hJx3⟩⟩
      · have hjn : j = n := by omega
        subst hjn
        have d0 : decide ((j : Int) < (j : Int)) = false := by simp
        gi_wp2_with fail
        go_end0
        exact ⟨⟨_, rfl⟩, .inl hJj⟩
end Go.Proofs.YtepmlmfacpbhkaaR
