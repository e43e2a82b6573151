/- among, For, All, Sure: what is counted of a round. -/
import Derived.Test.YtepmlmfacpbhkaaRCntD
import Derived.Lib.Hide
import Derived.Deep.RegionWith
namespace Go.Proofs.YtepmlmfacpbhkaaR
open Go.RowKit Go.Shelf
set_option linter.unusedVariables false
attribute [local go_sem] Oper.semAt_some

theorem forN_take (L : List (Nat × Cnt.Vid)) (x : Cnt.Vid) (i : Nat) (p : Nat × Cnt.Vid) (h : L[i]? = some p) : Cnt.forN (L.take (i + 1)) x = Cnt.forN (L.take i) x + (if x == p.2 then 1 else 0) := by
  obtain ⟨hi, he⟩ := List.getElem?_eq_some_iff.1 h
  unfold Cnt.forN
  rw [List.take_succ_eq_append_getElem hi, List.filter_append, List.length_append, he]
  congr 1
  by_cases hc : (x == p.2) = true <;> simp [List.filter_cons, hc]
theorem forN_le (L : List (Nat × Cnt.Vid)) (x : Cnt.Vid) : Cnt.forN L x ≤ L.length := List.length_filter_le _ _
theorem casts_le (n : Nat) (f : Nat → Option Cnt.Vid) : (Cnt.casts n f).length ≤ n := by
  unfold Cnt.casts
  exact Nat.le_trans (List.length_filterMap_le _ _) (by simp)
theorem castsAt_le (n : Nat) (V : Cnt.Tab) (r k : Int) : (Cnt.castsAt n V r k).length ≤ n := by
  unfold Cnt.castsAt
  split
  · exact casts_le _ _
  · simp
theorem castsAt_len {w : World} {g : Nat} {B : Nat → Nat → Nat} {n : Nat} {V : Cnt.Tab} (h : CntAt w g B n V) {r k : Int} {i : Nat} {p : Nat × Cnt.Vid} (hp : (Cnt.castsAt n V r k)[i]? = some p) : p.2.length = 32 ∧ p.2 ≠ Cnt.z := by
  have hm := List.mem_of_getElem? hp
  unfold Cnt.castsAt at hm
  split at hm
  · unfold Cnt.casts at hm
    obtain ⟨j, _, hj⟩ := List.mem_filterMap.1 hm
    cases hv : V r.toNat k.toNat j with
    | none => rw [hv] at hj; cases hj
    | some y => rw [hv] at hj; cases hj; exact h.len _ _ _ _ hv
  · cases hm

theorem SeesAt.turn {w : World} {T T' : Nat → Prop} {s g : Nat} {B : Nat → Nat → Nat} {n : Nat} {V : Cnt.Tab} {r k : Int} (h : SeesAt w T s g B n V r k) (hT : ∀ j, j < w.heap.size → T' j → T j) : SeesAt w T' s g B n V r k := by
  have l0 := World.block_lt_of_cell? _ _ h.c0
  have l1 := World.block_lt_of_cell? _ _ h.c1
  have l2 := World.block_lt_of_cell? _ _ h.c2
  have lg := h.at'.glt
  exact ⟨h.c0, h.c1, h.c2, h.at', fun t => h.t0 (hT _ l0 t), fun t => h.t1 (hT _ l1 t), fun t => h.t2 (hT _ l2 t), fun t => h.tg (hT _ lg t), fun r k hr hk t => h.tb r k hr hk (hT _ (h.at'.blt hr hk) t)⟩
/-- what was counted so far -/
structure Tally (W2 : World) (nb xb : Nat) (x : Cnt.Vid) (c : Nat) (W : World) : Prop where
  n : Blk W nb 3 #[.int .i64 c]
  x : Blk W xb 32 (ida x)
  fr : Fr (fun j => j = nb) W2 W
theorem Tally.abides {W2 : World} {nb xb : Nat} {x : Cnt.Vid} (hn : nb < W2.heap.size) (hx : xb < W2.heap.size) (f : Nat → Nat) : AbidesAll W2.heap.size (fun i W => Tally W2 nb xb x (f i) W) := fun i X Y h fr =>
  ⟨h.n.fr fr (by omega), h.x.fr fr (by omega), h.fr.trans fr (fun j hj => .inr hj)⟩
set_option maxHeartbeats 2000000 in
set_option maxRecDepth 20000 in
theorem among_any (w : World) (s g : Nat) (B : Nat → Nat → Nat) (n : Nat) (V : Cnt.Tab) (r k : Int) (x : Cnt.Vid) (hx : x.length = 32) (hS : SeesAt w (fun _ => False) s g B n V r k) :
    Calls Try.prog 45 #[.func (.func 55) #[] #[.pointer (some ⟨s, 0, none⟩), .pointer (some ⟨s + 1, 0, none⟩), .pointer (some ⟨s + 2, 0, none⟩)], .agg (ida x)] w fun e w' =>
      e = .returned (.int .i64 (Cnt.forN (Cnt.castsAt n V r k) x : Nat)) ∧ New w w' := by
  refine (callsIn_wide (n := 5)).1 ?_
  refine callsIn_of_wp_marks Try.func45 rfl trivial ?_ rfl
  simp only [Try.ntmps45, List.size_toArray, List.length_cons, List.length_nil, Nat.reduceAdd, Nat.reduceSub, Array.replicate_succ, Array.replicate_zero, List.push_toArray, List.append_toArray, List.nil_append, List.cons_append]
  obtain ⟨ii, hii, hz0, hz1, hz2⟩ := info_parts infoI
  gi_wp2_with fail
  have hN2 : New w ((w.alloc (.cells (ida x) 32)).alloc (.cells #[.int .i64 0] 3)) := (Fr.alloc _ w _).then_alloc _
  have hX2 : Blk ((w.alloc (.cells (ida x) 32)).alloc (.cells #[.int .i64 0] 3)) w.heap.size 32 (ida x) := (Blk.new w _ _).alloc _
  have hB2 : Blk ((w.alloc (.cells (ida x) 32)).alloc (.cells #[.int .i64 0] 3)) (w.heap.size + 1) 3 #[.int .i64 0] := by
    have := Blk.new (w.alloc (.cells (ida x) 32)) 3 #[.int .i64 0]
    rwa [World.size_alloc] at this
  generalize (w.alloc (.cells (ida x) 32)).alloc (.cells #[.int .i64 0] 3) = W2 at *
  generalize hnb : w.heap.size + 1 = nb at *
  generalize hxb : w.heap.size = xb at *
  have hT0 : Tally W2 nb xb x (Cnt.forN ((Cnt.castsAt n V r k).take 0) x) W2 := ⟨hB2, hX2, Fr.refl _ _⟩
  refine wpIn_rangeFunc_cut (xs := Cnt.castsAt n V r k) (encs := encP) rfl (by decide) (gf := 55) (lb := #[.pointer (some ⟨s, 0, none⟩), .pointer (some ⟨s + 1, 0, none⟩), .pointer (some ⟨s + 2, 0, none⟩)]) rfl trivial (enters_of Try.func55 (by kernel_rfl) rfl)
    (casts_any _ (by decide) s g B n V r k) (fun j => j = nb) (fun j hj => by have := hB2.lt; omega)
    (fun W hW => (hS.turn ?turn).fr ((hN2.trans hW fun _ h => h.elim).mono fun _ h => h.elim)) (fun _ => rfl)
    (fun i W => Tally W2 nb xb x (Cnt.forN ((Cnt.castsAt n V r k).take i) x) W) (fun _ _ _ => False) (Tally.abides hB2.lt hX2.lt _) (fun _ _ _ _ h _ => h) hT0 ?round ?done (fun _ _ _ _ _ _ h _ => h.elim)
  case turn =>
    rintro j hj (rfl | rfl)
    · omega
    · have := hB2.lt
      omega
  case round =>
    rintro l i p W K hp hI hsz hK
    have hpl := (castsAt_len hS.at' hp).1
    have hsx : 32 = (ida p.2).size := by rw [ida_size]; exact hpl.symm
    have hsz' : (ida Cnt.z).size = (ida p.2).size := by rw [ida_size, ida_size, hpl]; rfl
    have HS := Lib.hid hsx
    have HZ := Lib.hid hsz'
    clear hsx hsz'
    conv => arg 6; simp [encP]
    gi_wp2_with (first
      | (refine wpListIn_value_w (exec_alloc_agg (T := 32) rfl hii hz0) (fun _ h => by cases h) (fun _ h => by cases h) (by simp [go_sem, Region.wanted, yielded]) ?_)
      | (refine wpListIn_skip_w (exec_store_new (T := 32) (X := ida p.2) rfl rfl rfl rfl hii (hz1.trans HS.out) (ida_one _) HZ.out) (fun _ h => by cases h) (fun _ h => by cases h) rfl ?_))
    refine hK _ _ (Fr.alloc _ _ _) (fun W3 hf3 => ?_)
    clear hK
    conv => arg 6; simp [Act.put, go_sem]
    have hA : Tally W2 nb xb x (Cnt.forN ((Cnt.castsAt n V r k).take i) x) (W.alloc (.cells (ida p.2) 32)) := Tally.abides hB2.lt hX2.lt (fun i => Cnt.forN ((Cnt.castsAt n V r k).take i) x) i W _ hI (Fr.alloc _ _ _)
    have hI3 : Tally W2 nb xb x (Cnt.forN ((Cnt.castsAt n V r k).take i) x) W3 := Tally.abides hB2.lt hX2.lt (fun i => Cnt.forN ((Cnt.castsAt n V r k).take i) x) i _ W3 hA (hf3.mono fun _ h => .inl h.1)
    have hy3 : Blk W3 W.heap.size 32 (ida p.2) := (Blk.new W _ _).fr hf3 (fun h => by omega)
    have hyA : At W3 W.heap.size 0 (ida p.2) := fun j hj => by rw [Nat.zero_add, hy3.cell, Array.getElem?_eq_getElem hj]
    have hxA : At W3 xb 0 (ida x) := fun j hj => by rw [Nat.zero_add, hI3.x.cell, Array.getElem?_eq_getElem hj]
    have hnc := hI3.n.cell 0
    have hnf := hI3.n.frozen 0
    simp at hnc
    have hle : (Cnt.forN ((Cnt.castsAt n V r k).take i) x) ≤ 7 := by
      have h1 := forN_le ((Cnt.castsAt n V r k).take i) x
      have h2 := castsAt_le n V r k
      have h3 := hS.at'.nn
      simp at h1
      omega
    have hst := forN_take _ x i p hp
    have hset := hI3.n.set 0 (.int .i64 ((Cnt.forN ((Cnt.castsAt n V r k).take i) x : Nat) + 1 : Int))
    generalize hc0 : Cnt.forN ((Cnt.castsAt n V r k).take i) x = c0 at *
    have HH := Lib.hid hI3
    have HS2 := Lib.hid hst
    have HP := Lib.hid hset
    clear hI hA hI3 hy3 hf3 hst hset hc0
    gi_wp2_with (first
      | (refine wpListIn_value_w (exec_load (T := 32) rfl rfl underI rfl hii (hz1.trans (by rw [ida_size]; exact hx.symm)) hxA) (fun _ h => by cases h) (fun _ h => by cases h) (by simp [go_sem, Region.wanted, yielded]) ?_)
      | (refine wpListIn_value_w (exec_load (T := 32) rfl rfl underI rfl hii (hz1.trans HS.out) hyA) (fun _ h => by cases h) (fun _ h => by cases h) (by simp [go_sem, Region.wanted, yielded]) ?_)
      | (refine wpListIn_value_w (exec_eql (T := 32) rfl rfl rfl underI (by kernel_rfl) (fun w => by kernel_rfl) hx hpl (by kernel_rfl)) (fun _ h => by cases h) (fun _ h => by cases h) (by simp [go_sem, Region.wanted, yielded]) ?_))
    · have hq : (x == p.2) = true := by assumption
      have hst := HS2.out
      rw [hq] at hst
      refine ⟨Fr.setCell (S := fun j => j = nb) W3 (p := ⟨nb, 0, none⟩) rfl _, ?_⟩
      rw [hst]
      exact ⟨HP.out, HH.out.x.far (by simp; omega) _, HH.out.fr.then_set (p := ⟨nb, 0, none⟩) rfl _⟩
    · have hq : (x == p.2) = false := by assumption
      have hst := HS2.out
      rw [hq] at hst
      refine ⟨Fr.refl _ _, ?_⟩
      rw [hst]
      simpa using HH.out
  case done =>
    rintro D W hD hI hd
    rw [List.take_length] at hI
    have hc := hI.n.cell 0
    simp at hc
    gi_wp2_with fail
    refine ⟨by simp, .inl ⟨_, _, rfl, run_takeDeferred hd, ?_⟩⟩
    exact ⟨_, results_tmp rfl _ _ _, ⟨rfl, ((hN2.trans hI.fr (fun j hj => .inr (by omega))).trans (Fr.putObj (S := fun j => j = D) W rfl _) (fun j hj => .inr (by have := hB2.lt; omega))).mono (fun _ h => h.elim)⟩⟩
theorem At.load {P : Program} {w : World} {g off : Nat} {X : Array Value} (h : At w g off X) (n : Nat) (hn : n = X.size) : (loadCellsFrom ⟨g, off, none⟩ 0 n #[]).run P w = .ok X w := by
  subst hn
  have hl := run_loadCells_list (P := P) w ⟨g, off, none⟩ X.toList (fun j v hv => by
      obtain ⟨hj, hjv⟩ := List.getElem?_eq_some_iff.1 hv
      rw [add_none, h j (by simpa using hj)]
      simpa using hjv)
  simpa [loadCells] using hl
/-- 32 cells that are loaded, under a name that no rule opens -/
def ld32 (a : Addr) : Sem (Array Value) := loadCellsFrom a 0 32 #[]
theorem ld32_eq (a : Addr) : loadCellsFrom a 0 32 #[] = ld32 a := rfl
theorem At.ld32 {P : Program} {w : World} {g off : Nat} {X : Array Value} (h : At w g off X) (hn : 32 = X.size) : (ld32 ⟨g, off, none⟩).run P w = .ok X w := h.load 32 hn
attribute [local go_sem high] ld32_eq
theorem Blk.at0 {w : World} {g : Nat} {t : TypeId} {X : Array Value} (h : Blk w g t X) : At w g 0 X := fun j hj => by rw [Nat.zero_add, h.cell, Array.getElem?_eq_getElem hj]
theorem SeesAt.made {w : World} {g : Nat} {B : Nat → Nat → Nat} {n : Nat} {V : Cnt.Tab} (h : CntAt w g B n V) (r k : Int) :
    SeesAt (((w.alloc (.cells #[.pointer (some ⟨g, 0, none⟩)] 26)).alloc (.cells #[.int .i64 r] 3)).alloc (.cells #[.int .i64 k] 3)) (fun _ => False) w.heap.size g B n V r k := by
  have f : New w (((w.alloc (.cells #[.pointer (some ⟨g, 0, none⟩)] 26)).alloc (.cells #[.int .i64 r] 3)).alloc (.cells #[.int .i64 k] 3)) := ((Fr.alloc _ w _).then_alloc _).then_alloc _
  have b0 := ((Blk.new w 26 #[.pointer (some ⟨g, 0, none⟩)]).alloc (.cells #[.int .i64 r] 3)).alloc (.cells #[.int .i64 k] 3)
  have b1 := (Blk.new (w.alloc (.cells #[.pointer (some ⟨g, 0, none⟩)] 26)) 3 #[.int .i64 r]).alloc (.cells #[.int .i64 k] 3)
  have b2 := Blk.new ((w.alloc (.cells #[.pointer (some ⟨g, 0, none⟩)] 26)).alloc (.cells #[.int .i64 r] 3)) 3 #[.int .i64 k]
  simp only [World.size_alloc] at b1 b2
  exact ⟨by rw [b0.cell]; rfl, by rw [b1.cell]; rfl, by rw [b2.cell]; rfl, h.fr f id (fun _ _ _ _ => id), id, id, id, id, fun _ _ _ _ => id⟩

set_option maxHeartbeats 2000000 in
set_option maxRecDepth 20000 in
theorem for_any (w : World) (g : Nat) (B : Nat → Nat → Nat) (n : Nat) (V : Cnt.Tab) (r k : Int) (x : Cnt.Vid) (hx : x.length = 32) (h : CntAt w g B n V) :
    Calls Try.prog 25 #[.pointer (some ⟨g, 0, none⟩), .int .i64 r, .int .i64 k, .agg (ida x)] w fun e w' =>
      e = .returned (.int .i64 (Cnt.forN (Cnt.castsAt n V r k) x : Nat)) ∧ New w w' := by
  have hN := Fr.alloc (fun _ => False) w (.cells (ida x) 32)
  go_enter Try.func25, Try.ntmps25
  go_wp2
  have h1 := h.fr hN id (fun _ _ _ _ => id)
  have hB1 := Blk.new w 32 (ida x)
  generalize w.alloc (.cells (ida x) 32) = W1 at *
  generalize hxb : w.heap.size = xb at *
  have h2 : CntAt W1.drew g B n V := h1.fr (Fr.drew (fun _ => False) _) id (fun _ _ _ _ => id)
  have hs0 := SeesAt.made h2 r k
  have hB2 := (((show Blk W1.drew xb 32 (ida x) from hB1).alloc (.cells #[.pointer (some ⟨g, 0, none⟩)] 26)).alloc (.cells #[.int .i64 r] 3)).alloc (.cells #[.int .i64 k] 3)
  have hA1 := (Blk.at0 (show Blk W1.drew xb 32 (ida x) from hB1))
  have hA2 := Blk.at0 hB2
  obtain ⟨ii, hii, hz0, hz1, hz2⟩ := info_parts infoI
  have hN2 : New W1 (((W1.drew.alloc (.cells #[.pointer (some ⟨g, 0, none⟩)] 26)).alloc (.cells #[.int .i64 r] 3)).alloc (.cells #[.int .i64 k] 3)) := ((((Fr.refl _ W1).then_drew).then_alloc _).then_alloc _).then_alloc _
  clear hB1 hB2 h1 h2 h
  have HS := Lib.hid hs0
  clear hs0
  refine wp_region_any (by kernel_rfl) ?_
  change wpAny _ _ _ _ _ _ _ (World.drew _)
  refine wpAny_take (i := 0) (v := ?_) rfl (by kernel_rfl) (by kernel_rfl) (by kernel_rfl) (fun _ _ _ h => h) (Or.inl ⟨by rfl, ?_⟩) ?_
  rotate_left
  (intro w; go_simp; try with_reducible rfl)
  refine wpAny_take (i := 1) (v := ?_) rfl (by kernel_rfl) (by kernel_rfl) (by kernel_rfl) (fun _ _ _ h => h) (Or.inl ⟨by rfl, ?_⟩) ?_
  rotate_left
  (intro w; go_simp; try with_reducible rfl)
  refine wpAny_take (i := 2) (v := ?_) rfl (by kernel_rfl) (by kernel_rfl) (by kernel_rfl) (fun _ _ _ h => h) (Or.inl ⟨by rfl, ?_⟩) ?_
  rotate_left
  (intro w; go_simp; try with_reducible rfl)
  refine wpAny_ready (rs := [3, 4]) (by kernel_rfl) (by simp) ?_
  refine AllReady.cons rfl (fun K hK => ?_) (AllReady.cons rfl (fun K hK => ?_) AllReady.nil)
  · go_simp
    refine (cast_any _ _ _ _).mono ?_
    rintro e w' ⟨rfl, rfl⟩
    refine hK _ _ ?_
    clear hK K
    generalize World.alloc (World.alloc (World.alloc W1.drew _) _) _ = W3 at *
    refine wpAny_ready (rs := [4]) (by kernel_rfl) (by simp) ?_
    refine AllReady.cons rfl (fun K hK => ?_) AllReady.nil
    refine step_value (exec_load (T := 32) rfl rfl underI rfl hii (hz1.trans (by rw [ida_size]; exact hx.symm)) hA2) rfl ?_
    refine hK _ _ ?_
    clear hK K
    refine wpAny_ready (rs := [5]) (by kernel_rfl) (by simp) ?_
    refine AllReady.cons rfl (fun K hK => ?_) AllReady.nil
    go_simp
    refine (among_any _ _ g B n V r k x hx HS.out).mono ?_
    rintro e w' ⟨rfl, hNw⟩
    refine hK _ _ ?_
    clear hK K
    refine wpAny_ready (rs := [6]) (by kernel_rfl) (by simp) ?_
    refine AllReady.cons rfl (fun K hK => ?_) AllReady.nil
    go_simp
    refine hK _ _ ?_
    clear hK K
    refine wpAny_done (by kernel_rfl) ?_ _
    go_wp2
    go_ret
    exact ⟨rfl, (hN.trans (hN2.trans hNw (fun _ h => h.elim)) (fun _ h => h.elim)).mono (fun _ h => h.elim)⟩
  · refine step_value (exec_load (T := 32) rfl rfl underI rfl hii (hz1.trans (by rw [ida_size]; exact hx.symm)) hA1) rfl ?_
    refine hK _ _ ?_
    clear hK K
    refine wpAny_ready (rs := [3]) (by kernel_rfl) (by simp) ?_
    refine AllReady.cons rfl (fun K hK => ?_) AllReady.nil
    go_simp
    refine (cast_any _ _ _ _).mono ?_
    rintro e w' ⟨rfl, rfl⟩
    refine hK _ _ ?_
    clear hK K
    generalize World.alloc (World.alloc (World.alloc W1.drew _) _) _ = W3 at *
    refine wpAny_ready (rs := [5]) (by kernel_rfl) (by simp) ?_
    refine AllReady.cons rfl (fun K hK => ?_) AllReady.nil
    go_simp
    refine (among_any _ _ g B n V r k x hx HS.out).mono ?_
    rintro e w' ⟨rfl, hNw⟩
    refine hK _ _ ?_
    clear hK K
    refine wpAny_ready (rs := [6]) (by kernel_rfl) (by simp) ?_
    refine AllReady.cons rfl (fun K hK => ?_) AllReady.nil
    go_simp
    refine hK _ _ ?_
    clear hK K
    refine wpAny_done (by kernel_rfl) ?_ _
    go_wp2
    go_ret
    exact ⟨rfl, (hN.trans (hN2.trans hNw (fun _ h => h.elim)) (fun _ h => h.elim)).mono (fun _ h => h.elim)⟩
end Go.Proofs.YtepmlmfacpbhkaaR
