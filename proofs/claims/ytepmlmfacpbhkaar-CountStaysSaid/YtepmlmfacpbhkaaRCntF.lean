/- All, Sure: how many voted, and for what so many that it is sure. -/
import Derived.Test.YtepmlmfacpbhkaaRCntE
import Derived.Test.YtepmlmfacpbhkaaRHeld
namespace Go.Proofs.YtepmlmfacpbhkaaR
open Go.RowKit Go.Shelf
set_option linter.unusedVariables false
attribute [local go_sem] Oper.semAt_some

theorem SeesAt.turn' {w : World} {T T' : Nat → Prop} {s g : Nat} {B : Nat → Nat → Nat} {n : Nat} {V : Cnt.Tab} {r k : Int} (h : SeesAt w T s g B n V r k)
    (hT : ¬ T' s ∧ ¬ T' (s + 1) ∧ ¬ T' (s + 2) ∧ ¬ T' g ∧ ∀ r k, r < 12 → k < 2 → ¬ T' (B r k)) : SeesAt w T' s g B n V r k :=
  ⟨h.c0, h.c1, h.c2, h.at', hT.1, hT.2.1, hT.2.2.1, hT.2.2.2.1, hT.2.2.2.2⟩
structure Tally0 (W2 : World) (nb : Nat) (c : Nat) (W : World) : Prop where
  n : Blk W nb 3 #[.int .i64 c]
  fr : Fr (fun j => j = nb) W2 W
theorem Tally0.abides {W2 : World} {nb : Nat} (hn : nb < W2.heap.size) : AbidesAll W2.heap.size (fun i W => Tally0 W2 nb i W) := fun i X Y h fr =>
  ⟨h.n.fr fr (by omega), h.fr.trans fr (fun j hj => .inr hj)⟩
set_option maxHeartbeats 2000000 in
set_option maxRecDepth 20000 in
theorem all_any (w : World) (g : Nat) (B : Nat → Nat → Nat) (n : Nat) (V : Cnt.Tab) (r k : Int) (h : CntAt w g B n V) :
    Calls Try.prog 21 #[.pointer (some ⟨g, 0, none⟩), .int .i64 r, .int .i64 k] w fun e w' =>
      e = .returned (.int .i64 ((Cnt.castsAt n V r k).length : Nat)) ∧ New w w' := by
  refine (callsIn_wide (n := 5)).1 ?_
  refine callsIn_of_wp_marks Try.func21 rfl trivial ?_ rfl
  simp only [Try.ntmps21, List.size_toArray, List.length_cons, List.length_nil, Nat.reduceAdd, Nat.reduceSub, Array.replicate_succ, Array.replicate_zero, List.push_toArray, List.append_toArray, List.nil_append, List.cons_append]
  have hN1 : New w (w.alloc (.cells #[.int .i64 0] 3)) := Fr.alloc _ w _
  have hB1 := Blk.new w 3 #[.int .i64 0]
  have h1 := h.fr hN1 id (fun _ _ _ _ => id)
  gi_wp2_with (refine ⟨trivial, ?_⟩; gi_at_call 43; refine (callsIn_wide.2 (cast_any _ g _ _)).mono ?_; rintro e w' ⟨rfl, rfl⟩)
  have hS := SeesAt.made h1 r k
  have hB2 := ((hB1.alloc (.cells #[.pointer (some ⟨g, 0, none⟩)] 26)).alloc (.cells #[.int .i64 r] 3)).alloc (.cells #[.int .i64 k] 3)
  have hN2 := ((hN1.then_alloc (.cells #[.pointer (some ⟨g, 0, none⟩)] 26)).then_alloc (.cells #[.int .i64 r] 3)).then_alloc (.cells #[.int .i64 k] 3)
  simp only [World.size_alloc] at hS
  generalize World.alloc (World.alloc (World.alloc _ _) _) _ = W2 at *
  clear hN1 hB1 h1
  generalize hs : w.heap.size + 1 = s at *
  generalize hnb : w.heap.size = nb at *
  refine wpIn_rangeFunc_cut (xs := Cnt.castsAt n V r k) (encs := encP) rfl (by decide) (gf := 55) (lb := #[.pointer (some ⟨s, 0, none⟩), .pointer (some ⟨s + 1, 0, none⟩), .pointer (some ⟨s + 2, 0, none⟩)]) rfl trivial (enters_of Try.func55 (by kernel_rfl) rfl)
    (casts_any _ (by decide) s g B n V r k) (fun j => j = nb) (fun j hj => by have := hB2.lt; omega)
    (fun W hW => (hS.turn' ?turn).fr (hW.mono fun _ h => h.elim)) (fun _ => rfl)
    (fun i W => Tally0 W2 nb i W) (fun _ _ _ => False) (Tally0.abides hB2.lt) (fun _ _ _ _ h _ => h) ⟨hB2, Fr.refl _ _⟩ ?round ?done (fun _ _ _ _ _ _ h _ => h.elim)
  case turn =>
    have := hB2.lt
    have hgl := h.glt
    have l0 := World.block_lt_of_cell? _ _ hS.c0
    have l1 := World.block_lt_of_cell? _ _ hS.c1
    have l2 := World.block_lt_of_cell? _ _ hS.c2
    dsimp only at l0 l1 l2
    exact ⟨by omega, by omega, by omega, by omega, fun r k hr hk => by have := h.blt hr hk; omega⟩
  case round =>
    rintro l i p W K hp hI hsz hK
    conv => arg 6; simp [encP]
    have hle : i < 7 := by
      have h1 := (List.getElem?_eq_some_iff.1 hp).1
      have h2 := castsAt_le n V r k
      have h3 := h.nn
      omega
    gi_wp2_with fail
    refine hK _ _ (Fr.refl _ _) (fun W3 hf3 => ?_)
    clear hK
    have hI3 : Tally0 W2 nb i W3 := Tally0.abides hB2.lt i W W3 hI (hf3.mono fun _ h => .inl h.1)
    have hnc := hI3.n.cell 0
    have hnf := hI3.n.frozen 0
    simp at hnc
    have HH := Lib.hid hI3
    have HP := Lib.hid (hI3.n.set 0 (.int .i64 ((i : Int) + 1)))
    clear hI hI3 hf3
    gi_wp2_with fail
    exact ⟨Fr.setCell (S := fun j => j = nb) W3 (p := ⟨nb, 0, none⟩) rfl _, HP.out, HH.out.fr.then_set (p := ⟨nb, 0, none⟩) rfl _⟩
  case done =>
    rintro D W hD hI hd
    have hc := hI.n.cell 0
    simp at hc
    gi_wp2_with fail
    refine ⟨by simp, .inl ⟨_, _, rfl, run_takeDeferred hd, ?_⟩⟩
    exact ⟨_, results_tmp rfl _ _ _, ⟨rfl, ((hN2.trans hI.fr (fun j hj => .inr (by omega))).trans (Fr.putObj (S := fun j => j = D) W rfl _) (fun j hj => .inr (by have := hB2.lt; omega))).mono (fun _ h => h.elim)⟩⟩
/-- what Sure hands back -/
def sureV : Option Cnt.Vid → Value
  | some x => .tuple #[.agg (ida x), .bool true]
  | none => .tuple #[.agg (ida Cnt.z), .bool false]
theorem run_loadVar_agg {P : Program} {w : World} {T : TypeId} {i : TypeInfo} {d : TypeDesc} {X : Array Value} {g off : Nat}
    (hu : P.underlying T = some d) (hd : (match d with | .struct _ | .array _ _ => true | _ => false) = true) (hi : P.info? T = some i) (hs : i.size = X.size) (hX : At w g off X) :
    (loadVar T ⟨g, off, none⟩).run P w = .ok (.agg X) w := by
  have hagg : (isAgg T).run P w = .ok true w := by
    unfold isAgg
    rw [Sem.run_bind, run_underlying hu w]
    cases d <;> simp_all
  have hl := hX.load (P := P) X.size rfl
  simp only [loadVar, Sem.run_bind, hagg, sizeOf, typeInfo, hi, hs, loadCells]
  simp [hl, hi, hs]
theorem sure_results {w : World} {tmps : Array Value} {b6 b7 : Nat} {x : Cnt.Vid} {b : Bool} (hx : x.length = 32) (t6 : tmps.getD 6 undef = .pointer (some ⟨b6, 0, none⟩)) (t7 : tmps.getD 7 undef = .pointer (some ⟨b7, 0, none⟩))
    (h6 : Blk w b6 32 (ida x)) (h7 : Blk w b7 4 #[.bool b]) : (results Try.f18 tmps).run Try.prog w = .ok (.tuple #[.agg (ida x), .bool b]) w := by
  obtain ⟨ii, hii, hz0, hz1, hz2⟩ := info_parts infoI
  have l6 := run_loadVar_agg (P := Try.prog) (T := 32) underI rfl hii (hz1.trans (by rw [ida_size]; exact hx.symm)) h6.at0
  have c7 : w.cell? ⟨b7, 0, none⟩ = some (.bool b) := h7.cell 0
  have hagg : (isAgg 4).run Try.prog w = .ok false w := by kernel_rfl
  have l7 : (loadVar 4 ⟨b7, 0, none⟩).run Try.prog w = .ok (.bool b) w := by
    simp [loadVar, Sem.run_bind, hagg, go_sem, c7]
  have hr : Try.f18.results = #[.cell 6 32, .cell 7 4] := rfl
  rw [Array.getD_eq_getD_getElem?] at t6 t7
  simp only [results, hr]
  simp [t6, t7, asAddr, l6, l7]
/-- what stands while Sure looks -/
structure Looks (w : World) (g : Nat) (B : Nat → Nat → Nat) (n : Nat) (V : Cnt.Tab) (r k : Int) (W : World) : Prop where
  b3 : Blk W w.heap.size 26 #[.pointer (some ⟨g, 0, none⟩)]
  b4 : Blk W (w.heap.size + 1) 3 #[.int .i64 r]
  b5 : Blk W (w.heap.size + 2) 3 #[.int .i64 k]
  b6 : Blk W (w.heap.size + 3) 32 (ida Cnt.z)
  b7 : Blk W (w.heap.size + 4) 4 #[.bool false]
  at' : CntAt W g B n V
  fr : New w W
theorem Looks.go {w : World} {g : Nat} {B : Nat → Nat → Nat} {n : Nat} {V : Cnt.Tab} {r k : Int} {W W' : World} {S : Nat → Prop} (h : Looks w g B n V r k W) (f : Fr S W W') (hS : ∀ j, S j → w.heap.size + 5 ≤ j) (hg : g < w.heap.size) (hB : ∀ r k, r < 12 → k < 2 → B r k < w.heap.size) : Looks w g B n V r k W' :=
  ⟨h.b3.fr f (fun s => by have := hS _ s; omega), h.b4.fr f (fun s => by have := hS _ s; omega), h.b5.fr f (fun s => by have := hS _ s; omega), h.b6.fr f (fun s => by have := hS _ s; omega), h.b7.fr f (fun s => by have := hS _ s; omega),
    h.at'.fr f (fun s => by have := hS _ s; omega) (fun r k hr hk s => by have := hS _ s; have := hB r k hr hk; omega), h.fr.trans f (fun j hj => .inr (by have := hS _ hj; omega))⟩
set_option maxHeartbeats 2000000 in
set_option maxRecDepth 20000 in
theorem sure_any (w : World) (g : Nat) (B : Nat → Nat → Nat) (n : Nat) (V : Cnt.Tab) (r k : Int) (h : CntAt w g B n V) :
    Calls Try.prog 18 #[.pointer (some ⟨g, 0, none⟩), .int .i64 r, .int .i64 k] w fun e w' =>
      e = .returned (sureV (Cnt.sure n V r k)) ∧ New w w' := by
  refine (callsIn_wide (n := 5)).1 ?_
  refine callsIn_of_wp_marks Try.func18 rfl trivial ?_ rfl
  simp only [Try.ntmps18, List.size_toArray, List.length_cons, List.length_nil, Nat.reduceAdd, Nat.reduceSub, Array.replicate_succ, Array.replicate_zero, List.push_toArray, List.append_toArray, List.nil_append, List.cons_append]
  obtain ⟨ii, hii, hz0, hz1, hz2⟩ := info_parts infoI
  gi_wp2_with (first
    | (refine ⟨trivial, ?_⟩; gi_at_call 43; refine (callsIn_wide.2 (cast_any _ g _ _)).mono ?_; rintro e w' ⟨rfl, rfl⟩)
    | (refine wpListIn_value_w (exec_alloc_agg (T := 32) rfl hii hz0) (fun _ h => by cases h) (fun _ h => by cases h) (by simp [go_sem, Region.wanted, yielded]) ?_))
  simp only [Nat.add_assoc, Nat.reduceAdd]
  have hN5 : New w (((((w.alloc (.cells #[.pointer (some ⟨g, 0, none⟩)] 26)).alloc (.cells #[.int .i64 r] 3)).alloc (.cells #[.int .i64 k] 3)).alloc (.cells (ida Cnt.z) 32)).alloc (.cells #[.bool false] 4)) := ((((Fr.alloc _ w _).then_alloc _).then_alloc _).then_alloc _).then_alloc _
  have L5 : Looks w g B n V r k (((((w.alloc (.cells #[.pointer (some ⟨g, 0, none⟩)] 26)).alloc (.cells #[.int .i64 r] 3)).alloc (.cells #[.int .i64 k] 3)).alloc (.cells (ida Cnt.z) 32)).alloc (.cells #[.bool false] 4)) := by
    have q3 := ((((Blk.new w 26 #[.pointer (some ⟨g, 0, none⟩)]).alloc (.cells #[.int .i64 r] 3)).alloc (.cells #[.int .i64 k] 3)).alloc (.cells (ida Cnt.z) 32)).alloc (.cells #[.bool false] 4)
    have q4 := (((Blk.new (w.alloc (.cells #[.pointer (some ⟨g, 0, none⟩)] 26)) 3 #[.int .i64 r]).alloc (.cells #[.int .i64 k] 3)).alloc (.cells (ida Cnt.z) 32)).alloc (.cells #[.bool false] 4)
    have q5 := ((Blk.new ((w.alloc (.cells #[.pointer (some ⟨g, 0, none⟩)] 26)).alloc (.cells #[.int .i64 r] 3)) 3 #[.int .i64 k]).alloc (.cells (ida Cnt.z) 32)).alloc (.cells #[.bool false] 4)
    have q6 := (Blk.new (((w.alloc (.cells #[.pointer (some ⟨g, 0, none⟩)] 26)).alloc (.cells #[.int .i64 r] 3)).alloc (.cells #[.int .i64 k] 3)) 32 (ida Cnt.z)).alloc (.cells #[.bool false] 4)
    have q7 := Blk.new ((((w.alloc (.cells #[.pointer (some ⟨g, 0, none⟩)] 26)).alloc (.cells #[.int .i64 r] 3)).alloc (.cells #[.int .i64 k] 3)).alloc (.cells (ida Cnt.z) 32)) 4 #[.bool false]
    simp only [World.size_alloc, Nat.add_assoc, Nat.reduceAdd] at q4 q5 q6 q7
    exact ⟨q3, q4, q5, q6, q7, h.fr hN5 id (fun _ _ _ _ => id), hN5⟩
  have hz5 : (((((w.alloc (.cells #[.pointer (some ⟨g, 0, none⟩)] 26)).alloc (.cells #[.int .i64 r] 3)).alloc (.cells #[.int .i64 k] 3)).alloc (.cells (ida Cnt.z) 32)).alloc (.cells #[.bool false] 4)).heap.size = w.heap.size + 5 := by simp
  generalize World.alloc (World.alloc (World.alloc (World.alloc (World.alloc w _) _) _) _) _ = W5 at *
  have hS := SeesAt.made L5.at' r k
  rw [hz5] at hS
  have hN8 : New W5 (((W5.alloc (.cells #[.pointer (some ⟨g, 0, none⟩)] 26)).alloc (.cells #[.int .i64 r] 3)).alloc (.cells #[.int .i64 k] 3)) := ((Fr.alloc _ W5 _).then_alloc _).then_alloc _
  have hz8 : (((W5.alloc (.cells #[.pointer (some ⟨g, 0, none⟩)] 26)).alloc (.cells #[.int .i64 r] 3)).alloc (.cells #[.int .i64 k] 3)).heap.size = w.heap.size + 8 := by simp [hz5]
  have hgl := h.glt
  have hbl := fun r k hr hk => h.blt (r := r) (k := k) hr hk
  have L8 := L5.go hN8 (fun _ h => h.elim) hgl hbl
  generalize World.alloc (World.alloc (World.alloc W5 _) _) _ = W8 at *
  clear hN5 hN8 L5 hz5
  refine wpIn_rangeFunc_cut (xs := Cnt.castsAt n V r k) (encs := encP) rfl (by decide) (gf := 55) (lb := #[.pointer (some ⟨w.heap.size + 5, 0, none⟩), .pointer (some ⟨w.heap.size + 5 + 1, 0, none⟩), .pointer (some ⟨w.heap.size + 5 + 2, 0, none⟩)]) rfl trivial (enters_of Try.func55 (by kernel_rfl) rfl)
    (casts_any _ (by decide) (w.heap.size + 5) g B n V r k) (fun j => j = w.heap.size + 3 ∨ j = w.heap.size + 4) (fun j hj => by omega)
    (fun W hW => (hS.turn' ?turn).fr (hW.mono fun _ h => h.elim)) (fun _ => rfl)
    (fun i W => Looks w g B n V r k W ∧ ∀ (j : Nat) (p : Nat × Cnt.Vid), j < i → (Cnt.castsAt n V r k)[j]? = some p → ¬ Cnt.need n ≤ (Cnt.forN (Cnt.castsAt n V r k) p.2 : Int))
    (fun c i W => c = .ret ∧ ∃ x, Cnt.sure n V r k = some x ∧ Blk W (w.heap.size + 3) 32 (ida x) ∧ Blk W (w.heap.size + 4) 4 #[.bool true] ∧ New w W)
    ?hI ?hIx ⟨L8, fun j p hj => by omega⟩ ?round ?done ?stop
  case turn =>
    have l0 := hS.at'.glt
    exact ⟨by omega, by omega, by omega, by omega, fun r k hr hk => by have := hbl r k hr hk; omega⟩
  case hI =>
    rintro i X Y ⟨hl, hn⟩ hf
    exact ⟨hl.go hf (fun j hj => by omega) hgl hbl, hn⟩
  case hIx =>
    rintro c i X Y ⟨hc, x, hx, h3, h4, hf2⟩ hf
    exact ⟨hc, x, hx, h3.fr hf (by omega), h4.fr hf (by omega), hf2.trans hf (fun j hj => .inr (by omega))⟩
  case round =>
    rintro l i p W K hp ⟨hI, hnot⟩ hsz hK
    have hpl := (castsAt_len h hp).1
    have HS := Lib.hid (show 32 = (ida p.2).size by rw [ida_size]; exact hpl.symm)
    have HZ := Lib.hid (show (ida Cnt.z).size = (ida p.2).size by rw [ida_size, ida_size, hpl]; rfl)
    conv => arg 6; simp [encP]
    gi_wp2_with (first
      | (refine wpListIn_value_w (exec_alloc_agg (T := 32) rfl hii hz0) (fun _ h => by cases h) (fun _ h => by cases h) (by simp [go_sem, Region.wanted, yielded]) ?_)
      | (refine wpListIn_skip_w (exec_store_new (T := 32) (X := ida p.2) rfl rfl rfl rfl hii (hz1.trans HS.out) (ida_one _) HZ.out) (fun _ h => by cases h) (fun _ h => by cases h) rfl ?_))
    refine hK _ _ (Fr.alloc _ _ _) (fun W3 hf3 => ?_)
    clear hK
    conv => arg 6; simp [Act.put, go_sem]
    have hI3 := (hI.go (Fr.alloc (fun _ => False) W (.cells (ida p.2) 32)) (fun _ h => h.elim) hgl hbl).go hf3 (fun j hj => by omega) hgl hbl
    have hy3 : Blk W3 W.heap.size 32 (ida p.2) := (Blk.new W _ _).fr hf3 (fun h => by omega)
    have hyz : w.heap.size + 8 ≤ W.heap.size := by omega
    clear hf3 hI
    gi_wp2_with fail
    refine wpIn_region_all (fun _ => trivial) rfl (by kernel_rfl) (by kernel_rfl)
      [.pointer (some ⟨g, 0, none⟩), .int .i64 r, .int .i64 k, .agg (ida p.2), .int .i64 (Cnt.forN (Cnt.castsAt n V r k) p.2 : Nat), .pointer (some ⟨g, 0, none⟩), .pointer (some ⟨g, 0, none⟩), .pointer (some ⟨g, 0, none⟩), .int .i64 n, .int .i64 (Cnt.need n), .bool (decide (Cnt.need n ≤ (Cnt.forN (Cnt.castsAt n V r k) p.2 : Int)))]
      (by kernel_rfl) (fun _ W' => Looks w g B n V r k W' ∧ Blk W' W.heap.size 32 (ida p.2) ∧ New W3 W') _ (by simp [putAll, Act.put]; rfl) ⟨hI3.go (Fr.drew (fun _ => False) W3) (fun _ h => h.elim) hgl hbl, hy3, Fr.drew _ W3⟩ ?hops ?after
    case hops =>
      refine ⟨?_, ?_, ?_, ?_, ?_, ?_, ?_, ?_, ?_, ?_, ?_, trivial⟩
      all_goals
        rintro L W' hs hd hn ⟨hl, hy, hf⟩
        refine held_plain rfl ?_
        have HSS := Lib.hid (show Looks w g B n V r k W' ∧ Blk W' W.heap.size 32 (ida p.2) ∧ New W3 W' from ⟨hl, hy, hf⟩)
        have c3 := hl.b3.cell 0
        have c4 := hl.b4.cell 0
        have c5 := hl.b5.cell 0
        have cg := hl.at'.voters
        simp only [List.getElem?_toArray, List.getElem?_cons_zero] at c3 c4 c5
        have hA := hy.at0
        have hcnt := hl.at'
        clear hl hy hf hd hn
        first
          | exact held_value (exec_load (T := 32) rfl rfl underI rfl hii (hz1.trans HS.out) hA) HSS.out
          | (unfold opHeld; go_simp; exact HSS.out)
          | (unfold opHeld; go_simp; exact ⟨rfl, HSS.out⟩)
          | (unfold opHeld; go_simp; exact (show CallsIn Fence.wide 2 _ _ _ _ _ from (callsIn_wide.2 (for_any _ g B n V r k p.2 hpl hcnt)).mono fun e w'' ⟨he, hn⟩ => ⟨he, HSS.out.1.go hn (fun _ h => h.elim) hgl hbl, HSS.out.2.1.fr hn id, HSS.out.2.2.trans hn (fun _ h => h.elim)⟩))
          | (unfold opHeld; go_simp; exact (show CallsIn Fence.wide 2 _ _ _ _ _ from (callsIn_wide.2 (need_any _ _)).mono fun e w'' ⟨he, hw⟩ => ⟨he, hw ▸ HSS.out⟩))
    case after =>
      rintro L W' hs hal ⟨hl, hy, hf⟩
      have hA := hy.at0
      have h6 := hl.b6
      have h7 : Blk (W'.setRow (w.heap.size + 3) (ida p.2)) (w.heap.size + 4) 4 #[.bool false] := hl.b7.fr ((Fr.refl (fun j => j = w.heap.size + 3) W').setRow (g := w.heap.size + 3) rfl _) (by omega)
      have c7 := h7.cell 0
      have f7 := h7.frozen 0
      simp only [List.getElem?_toArray, List.getElem?_cons_zero] at c7
      have HSS := Lib.hid (show Looks w g B n V r k W' ∧ New W3 W' from ⟨hl, hf⟩)
      clear hl hy hf
      gi_wp2_with (first
        | (refine wpListIn_value_w (exec_load (T := 32) rfl rfl underI rfl hii (hz1.trans HS.out) hA) (fun _ h => by cases h) (fun _ h => by cases h) (by simp [go_sem, Region.wanted, yielded]) ?_)
        | (refine wpListIn_skip_w (exec_store_all (T := 32) (X := ida p.2) (cs := ida Cnt.z) rfl rfl rfl hii (hz1.trans HS.out) (ida_one _) h6 HZ.out) (fun _ h => by cases h) (fun _ h => by cases h) rfl ?_))
      · have hq : Cnt.need n ≤ (Cnt.forN (Cnt.castsAt n V r k) p.2 : Int) := by assumption
        have hF1 : Fr (fun j => j = w.heap.size + 3 ∨ j = w.heap.size + 4) W' ((W'.setRow (w.heap.size + 3) (ida p.2)).setCell ⟨w.heap.size + 4, 0, none⟩ (.bool true)) :=
          ((Fr.refl (fun j => j = w.heap.size + 3 ∨ j = w.heap.size + 4) W').setRow (g := w.heap.size + 3) (.inl rfl) _).then_set (p := ⟨w.heap.size + 4, 0, none⟩) (.inr rfl) _
        refine ⟨(HSS.out.2.mono (T := fun j => j = w.heap.size + 3 ∨ j = w.heap.size + 4) fun _ h => h.elim).trans hF1 (fun _ h => .inl h), rfl, p.2, ?_, ?_, ?_, ?_⟩
        · unfold Cnt.sure
          have : (Cnt.castsAt n V r k).find? (fun p => decide (Cnt.need n ≤ (Cnt.forN (Cnt.castsAt n V r k) p.2 : Int))) = some p := by
            rw [List.find?_eq_some_iff_getElem]
            obtain ⟨hi, he⟩ := List.getElem?_eq_some_iff.1 hp
            exact ⟨by simpa using hq, i, hi, he, fun j hj => by
              have := hnot j _ hj (List.getElem?_eq_getElem (by omega))
              simpa using this⟩
          rw [this]
          rfl
        · exact (h6.setRow _).far (by simp) _
        · exact h7.set 0 (.bool true)
        · exact (HSS.out.1.fr.trans hF1 (fun j hj => .inr (by omega)))
      · have hq : Cnt.forN (Cnt.castsAt n V r k) p.2 < Cnt.need n := by assumption
        refine ⟨HSS.out.2.mono fun _ h => h.elim, HSS.out.1, fun j q hj hjq => ?_⟩
        by_cases hji : j = i
        · subst hji
          rw [hp] at hjq
          cases hjq
          omega
        · have := hnot j q (by omega) hjq
          omega
  case done =>
    rintro D W hD ⟨hI, hnot⟩ hd
    have hsn : Cnt.sure n V r k = none := by
      unfold Cnt.sure
      rw [Option.map_eq_none_iff, List.find?_eq_none]
      intro p hp
      obtain ⟨j, hj⟩ := List.mem_iff_getElem?.1 hp
      simpa using hnot j p (List.getElem?_eq_some_iff.1 hj).1 hj
    have h6 := hI.b6
    have h7 : Blk (W.setRow (w.heap.size + 3) (ida Cnt.z)) (w.heap.size + 4) 4 #[.bool false] := hI.b7.fr ((Fr.refl (fun j => j = w.heap.size + 3) W).setRow (g := w.heap.size + 3) rfl _) (by omega)
    have c7 := h7.cell 0
    have f7 := h7.frozen 0
    simp at c7
    gi_wp2_with (first
      | (refine wpListIn_value_w (exec_build0 (T := 32) rfl hii hz0 underI (s := 1) (fun w => by kernel_rfl)) (fun _ h => by cases h) (fun _ h => by cases h) (by simp [go_sem, Region.wanted, yielded]) ?_)
      | (refine wpListIn_skip_w (exec_store_all (T := 32) (X := ida Cnt.z) (cs := ida Cnt.z) rfl rfl rfl hii hz1 (ida_one _) h6 rfl) (fun _ h => by cases h) (fun _ h => by cases h) rfl ?_))
    have hF1 : Fr (fun j => w.heap.size ≤ j) W ((W.setRow (w.heap.size + 3) (ida Cnt.z)).setCell ⟨w.heap.size + 4, 0, none⟩ (.bool false)) :=
      ((Fr.refl (fun j => w.heap.size ≤ j) W).setRow (g := w.heap.size + 3) (by omega) _).then_set (p := ⟨w.heap.size + 4, 0, none⟩) (by simp) _
    have hF2 : Fr (fun j => j = w.heap.size + 3 ∨ j = w.heap.size + 4) W ((W.setRow (w.heap.size + 3) (ida Cnt.z)).setCell ⟨w.heap.size + 4, 0, none⟩ (.bool false)) :=
      ((Fr.refl (fun j => j = w.heap.size + 3 ∨ j = w.heap.size + 4) W).setRow (g := w.heap.size + 3) (.inl rfl) _).then_set (p := ⟨w.heap.size + 4, 0, none⟩) (.inr rfl) _
    have hd1 := (hF2.block D (Array.getElem?_eq_some_iff.1 hd).1 (by omega)).trans hd
    refine ⟨by simp, .inl ⟨_, _, rfl, run_takeDeferred hd1, ?_⟩⟩
    have hP := Fr.putObj (S := fun j => w.heap.size ≤ j) ((W.setRow (w.heap.size + 3) (ida Cnt.z)).setCell ⟨w.heap.size + 4, 0, none⟩ (.bool false)) (l := D) (by omega) (.deferred none)
    refine ⟨_, sure_results (x := Cnt.z) Cnt.z_length rfl rfl (((h6.setRow _).far (p := ⟨w.heap.size + 4, 0, none⟩) (by simp) _).fr (Fr.putObj (S := fun j => j = D) _ rfl _) (by omega)) ((h7.set 0 (.bool false)).fr (Fr.putObj (S := fun j => j = D) _ rfl _) (by omega)), rfl, ?_⟩
    exact ((hI.fr.trans hF1 (fun j hj => .inr hj)).trans hP (fun j hj => .inr hj))
  case stop =>
    rintro D c i W hD hi ⟨rfl, x, hx, h3, h4, hf2⟩ hd
    have hxl : x.length = 32 := by
      unfold Cnt.sure at hx
      obtain ⟨p, hp, rfl⟩ := Option.map_eq_some_iff.1 hx
      obtain ⟨j, hj⟩ := List.mem_iff_getElem?.1 (List.mem_of_find?_eq_some hp)
      exact (castsAt_len h hj).1
    gi_wp2_with fail
    refine ⟨by simp, .inl ⟨_, _, rfl, run_takeDeferred hd, ?_⟩⟩
    have hP := Fr.putObj (S := fun j => w.heap.size ≤ j) W (l := D) (by omega) (.deferred none)
    refine ⟨_, sure_results hxl rfl rfl (h3.fr (Fr.putObj (S := fun j => j = D) _ rfl _) (by omega)) (h4.fr (Fr.putObj (S := fun j => j = D) _ rfl _) (by omega)), by rw [hx]; rfl, ?_⟩
    exact hf2.trans hP (fun j hj => .inr hj)
end Go.Proofs.YtepmlmfacpbhkaaR
