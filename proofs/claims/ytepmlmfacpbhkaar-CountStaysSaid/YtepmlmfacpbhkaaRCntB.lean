/- Put: a vote more. -/
import Derived.Test.YtepmlmfacpbhkaaRCntA
namespace Go.Proofs.YtepmlmfacpbhkaaR
open Go.RowKit Go.Shelf
set_option linter.unusedVariables false

theorem infoI : (Try.prog.info? 32).map (fun i => (i.zero, i.size, i.bytes)) = some (some (.agg (ida Cnt.z)), 32, 32) := by kernel_rfl
theorem underI : Try.prog.underlying 32 = some (.array 32 5) := by kernel_rfl

theorem At.new (w : World) (X : Array Value) (t : TypeId) : At (w.alloc (.cells X t)) w.heap.size 0 X := fun j hj => by rw [Nat.zero_add, (Blk.new w t X).cell, Array.getElem?_eq_getElem hj]
theorem wpList_value_w {P : Program} {ops : Array Oper} {rest : List Oper} {o : Oper} {a : Act} {w w' : World} {Q : Exit → Act → World → Prop} {v : Value} (hr : (execOp a.eval o).run P w = .ok (.value v) w')
    (hgd : Region.wanted o (yielded ops a.tmps) = true) (h : wpList P ops Q rest (a.put o.dst v) w') : wpList P ops Q (o :: rest) a w :=
  wpList_step fun _ hK => by rw [if_pos hgd]; unfold Oper.wp; rw [hr]; exact hK _ _ h
set_option maxHeartbeats 1000000 in
theorem still_value {P : Program} {ops : Array Oper} {rest : List Oper} {o : Oper} {a : Act} {w : World} {Q : Act → Prop} {v : Value} (hgd : o.guard = none) (hr : (execOp a.eval o).run P w = .ok (.value v) w)
    (h : wpStill P ops w Q rest (a.put o.dst v)) : wpStill P ops w Q (o :: rest) a :=
  wpStill_step fun _ hK => by simp only [Region.wanted, hgd, if_true]; unfold Oper.still; rw [hr, Oper.stillUpon_value]; exact hK _ h
theorem infoV : (Try.prog.info? 90).map (fun i => (i.zero, i.size, i.bytes)) = some (some (.agg (vcells none).toArray), 33, 33) := by kernel_rfl
theorem underV : ∃ fs, Try.prog.underlying 90 = some (.struct fs) := ⟨_, Try.underlying90⟩
theorem vone (x : List UInt8) : ∀ v ∈ ((Value.bool true :: (ida x).toList).toArray).toList, v.oneCell' = true := by
  intro v hv
  have hv' : v ∈ Value.bool true :: (ida x).toList := by simpa using hv
  rcases List.mem_cons.1 hv' with rfl | hv
  · rfl
  · exact ida_one x v hv
theorem row_store {n : Nat} {f : Nat → Option Cnt.Vid} (h : ∀ w x, f w = some x → x.length = 32) {i : Nat} (hi : i < n) (x : Cnt.Vid) (hx : x.length = 32) :
    ((vrow n f).toArray.toList.take (i * 33) ++ ((Value.bool true :: (ida x).toList).toArray).toList ++ (vrow n f).toArray.toList.drop (i * 33 + ((Value.bool true :: (ida x).toList).toArray).size)).toArray = (vrow n (fun w => if w = i then some x else f w)).toArray := by
  have hs : ((Value.bool true :: (ida x).toList).toArray).size = 33 := by simp [ida_size, hx]
  have e : (ida x).toList = x.map bv := by simp [ida]
  rw [hs, Nat.mul_comm, e]
  congr 1
  have := vrow_set (n := n) (f := f) (f' := fun w => if w = i then some x else f w) h (fun w y hy => by
    split at hy
    · cases hy; exact hx
    · exact h w y hy) hi (fun w hw => by simp [hw])
  simp only [if_true] at this
  exact this
theorem CntAt.store {W : World} {g : Nat} {B : Nat → Nat → Nat} {n : Nat} {V : Cnt.Tab} (h : CntAt W g B n V) {r k i : Nat} (hr : r < 12) (hk : k < 2) (hi : i < n) {x : Cnt.Vid} (hx : x.length = 32) (hxz : x ≠ Cnt.z) :
    CntAt (W.setRow (B r k) (vrow n (fun w => if w = i then some x else V r k w)).toArray) g B n (V.put r k i x) := by
  have f : Fr (fun j => j = B r k) W (W.setRow (B r k) (vrow n (fun w => if w = i then some x else V r k w)).toArray) := (Fr.refl (fun j => j = B r k) W).setRow (g := B r k) rfl _
  have hg : ¬ g = B r k := fun e => h.ne r k hr hk e.symm
  refine ⟨(f.cell (p := ⟨g, 0, none⟩) h.glt hg).trans h.voters, fun r' k' hr' hk' => (f.cell (p := ⟨g, _, none⟩) h.glt hg).trans (h.slot r' k' hr' hk'), fun r' k' hr' hk' => ?_, h.inj, h.ne, fun r' k' w' y hy => ?_, h.nn⟩
  · by_cases he : r' = r ∧ k' = k
    · obtain ⟨rfl, rfl⟩ := he
      have e : V.put r' k' i x r' k' = fun w => if w = i then some x else V r' k' w := by funext w; simp [Cnt.Tab.put]
      rw [e]
      exact (h.row r' k' hr hk).setRow _
    · have e : V.put r k i x r' k' = V r' k' := by
        funext w
        have : ¬ (r' = r ∧ k' = k ∧ w = i) := fun h => he ⟨h.1, h.2.1⟩
        simp [Cnt.Tab.put, this]
      rw [e]
      exact (h.row r' k' hr' hk').fr f (fun e => he (h.inj r' k' r k hr' hk' hr hk e))
  · unfold Cnt.Tab.put at hy
    split at hy
    · cases hy; exact ⟨hx, hxz⟩
    · exact h.len r' k' w' y hy
set_option maxRecDepth 20000 in
theorem put_any (w : World) (g : Nat) (B : Nat → Nat → Nat) (n : Nat) (V : Cnt.Tab) (r k i : Int) (x : Cnt.Vid) (hx : x.length = 32) (h : CntAt w g B n V) :
    Calls Try.prog 17 #[.pointer (some ⟨g, 0, none⟩), .int .i64 r, .int .i64 k, .int .i64 i, .agg (ida x)] w fun e w' =>
      e = .returned (.int .i64 (Cnt.put n V r k i x).2) ∧ CntAt w' g B n (Cnt.put n V r k i x).1 ∧ Fr (RowsOf B) w w' := by
  have hN := Fr.alloc (fun _ => False) w (.cells (ida x) 32)
  have h0 := h.fr hN id (fun _ _ _ _ => id)
  have h0v := h0.voters
  obtain ⟨ii, hi, hz0, hz1, hz2⟩ := info_parts infoI
  obtain ⟨iv, hv, hv0, hv1, hv2⟩ := info_parts infoV
  have hl0 : At (w.alloc (.cells (ida x) 32)) w.heap.size 0 (ida x) := At.new _ _ _
  have FR : ∀ V', CntAt (w.alloc (.cells (ida x) 32)) g B n V' → CntAt (w.alloc (.cells (ida x) 32)) g B n V' ∧ Fr (RowsOf B) w (w.alloc (.cells (ida x) 32)) := fun V' h' => ⟨h', hN.mono fun _ h => h.elim⟩
  by_cases hr : Cnt.right n r k i = true
  · by_cases hxz : x = Cnt.z
    · have e : Cnt.put n V r k i x = (V, 1) := by unfold Cnt.put; rw [if_pos (.inr hxz)]
      rw [e]; clear e
      have hq : (!Cnt.right n r k i) = false := by rw [hr]; rfl
      have hq2 : (x == Cnt.z) = true := by rw [hxz]; exact beq_self_eq_true _
      clear hxz
      go_enter Try.func17, Try.ntmps17
      go_wp2_with (first
        | (go_at_call 42; refine (right_any _ g n _ _ _ h0v).mono ?_; rintro e w' ⟨rfl, rfl⟩)
        | (refine wpList_value_w (exec_load (T := 32) rfl rfl underI rfl hi (hz1.trans (by rw [ida_size]; exact hx.symm)) hl0) (by simp [go_sem, Region.wanted, yielded]) ?_)
        | (refine wpList_value_w (exec_build0 (T := 32) rfl hi hz0 underI (s := 1) (fun w => by kernel_rfl)) (by simp [go_sem, Region.wanted, yielded]) ?_)
        | (refine wpList_value_w (exec_eql (T := 32) rfl rfl rfl underI (by kernel_rfl) (fun w => by kernel_rfl) hx Cnt.z_length (by kernel_rfl)) (by simp [go_sem, Region.wanted, yielded]) ?_))
      go_ret
      exact ⟨rfl, FR _ h0⟩
    · have hb : 0 ≤ r ∧ r < 12 ∧ (k = 0 ∨ k = 1) ∧ 0 ≤ i ∧ i < n := by simpa [Cnt.right] using hr
      obtain ⟨r, rfl⟩ : ∃ r' : Nat, r = r' := ⟨r.toNat, by omega⟩
      obtain ⟨k, rfl⟩ : ∃ k' : Nat, k = k' := ⟨k.toNat, by omega⟩
      obtain ⟨i, rfl⟩ : ∃ i' : Nat, i = i' := ⟨i.toNat, by omega⟩
      have hr12 : r < 12 := by omega
      have hk2 : k < 2 := by omega
      have hin : i < n := by omega
      have hq : (!Cnt.right n r k i) = false := by rw [hr]; rfl
      have hq2 : (x == Cnt.z) = false := by rw [beq_eq_false_iff_ne]; exact hxz
      have hsl := h0.slot r k hr12 hk2
      have hca := h0.cast hr12 hk2 hin
      clear hb
      by_cases hso : (V r k i).isSome = true
      · have e : Cnt.put n V r k i x = (V, 5) := by unfold Cnt.put; rw [if_neg (by rw [hr]; simp [hxz]), if_pos (by simpa using hso)]
        rw [e]; clear e
        rw [hso] at hca
        clear hxz
        go_enter Try.func17, Try.ntmps17
        go_wp2_with (first
          | (go_at_call 42; refine (right_any _ g n _ _ _ h0v).mono ?_; rintro e w' ⟨rfl, rfl⟩)
          | (refine wpList_value_w (exec_load (T := 32) rfl rfl underI rfl hi (hz1.trans (by rw [ida_size]; exact hx.symm)) hl0) (by simp [go_sem, Region.wanted, yielded]) ?_)
          | (refine wpList_value_w (exec_build0 (T := 32) rfl hi hz0 underI (s := 1) (fun w => by kernel_rfl)) (by simp [go_sem, Region.wanted, yielded]) ?_)
          | (refine wpList_value_w (exec_eql (T := 32) rfl rfl rfl underI (by kernel_rfl) (fun w => by kernel_rfl) hx Cnt.z_length (by kernel_rfl)) (by simp [go_sem, Region.wanted, yielded]) ?_))
        go_ret
        exact ⟨rfl, FR _ h0⟩
      · have hso' : (V r k i).isSome = false := by simpa using hso
        have e : Cnt.put n V r k i x = (V.put r k i x, 0) := by unfold Cnt.put; rw [if_neg (by rw [hr]; simp [hxz]), if_neg (by simpa using hso)]; rfl
        rw [e]; clear e
        rw [hso'] at hca
        clear hso
        go_enter Try.func17, Try.ntmps17
        go_wp2_with (first
          | (go_at_call 42; refine (right_any _ g n _ _ _ h0v).mono ?_; rintro e w' ⟨rfl, rfl⟩)
          | (refine wpList_value_w (exec_load (T := 32) rfl rfl underI rfl hi (hz1.trans (by rw [ida_size]; exact hx.symm)) hl0) (by simp [go_sem, Region.wanted, yielded]) ?_)
          | (refine wpList_value_w (exec_build0 (T := 32) rfl hi hz0 underI (s := 1) (fun w => by kernel_rfl)) (by simp [go_sem, Region.wanted, yielded]) ?_)
          | (refine wpList_value_w (exec_eql (T := 32) rfl rfl rfl underI (by kernel_rfl) (fun w => by kernel_rfl) hx Cnt.z_length (by kernel_rfl)) (by simp [go_sem, Region.wanted, yielded]) ?_))
        have hr12' : (r : Int) < 12 := by omega
        have hk2' : (k : Int) < 2 := by omega
        have hin' : (i : Int) < (n : Int) := by omega
        refine wp_region_still_tail 12 (by kernel_rfl) (by kernel_rfl) ?_
        simp only [List.take_succ_cons, List.take_zero, List.drop_succ_cons, List.drop_zero]
        change wpStill _ _ (World.drew _) _ _ _
        iterate 9 still_step
        refine still_value rfl (exec_load (T := 32) rfl rfl underI rfl hi (hz1.trans (by rw [ida_size]; exact hx.symm)) hl0) ?_
        refine still_value rfl (exec_build_vote (X := ida x) rfl rfl rfl (by rw [ida_size]; exact hx)) ?_
        still_step
        refine wpStill_nil ?_
        change wpList _ _ _ _ _ (World.drew _)
        refine wpList_of_skip rfl (exec_store (g := B r k) (off := i * 33) (X := (.bool true :: (ida x).toList).toArray) rfl rfl rfl hv (by rw [hv1]; simp [ida_size, hx]) (vone x) (h0.row r k hr12 hk2) (by simp [ida_size, hx, vrow_length (h0.rl r k)]; omega)) ?_
        rw [row_store (h0.rl r k) hin x hx]
        have h1 : CntAt (w.alloc (.cells (ida x) 32)).drew g B n V := h0.fr (Fr.drew (fun _ => False) _) id (fun _ _ _ _ => id)
        have hA := h1.store hr12 hk2 hin hx hxz
        have hB := ((hN.then_drew).mono (T := RowsOf B) fun _ h => h.elim).setRow (g := B r k) ⟨r, k, hr12, hk2, rfl⟩ (vrow n (fun w => if w = i then some x else V r k w)).toArray
        generalize World.setRow _ _ _ = W3 at *
        go_wp2
        go_ret
        exact ⟨rfl, hA, hB⟩
  · have hr' : Cnt.right n r k i = false := by simpa using hr
    have e : Cnt.put n V r k i x = (V, 1) := by unfold Cnt.put; rw [if_pos (.inl hr')]
    rw [e]; clear e
    have hq : (!Cnt.right n r k i) = true := by rw [hr']; rfl
    go_enter Try.func17, Try.ntmps17
    go_wp2_with (first | (go_at_call 42; refine (right_any _ g n _ _ _ h0v).mono ?_; rintro e w' ⟨rfl, rfl⟩))
    go_ret
    exact ⟨rfl, FR _ h0⟩
end Go.Proofs.YtepmlmfacpbhkaaR
