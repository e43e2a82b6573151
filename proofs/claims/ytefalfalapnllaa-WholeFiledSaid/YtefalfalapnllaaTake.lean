/- The contract of sum's take: a block is taken into a state. -/
import Derived.Test.YtefalfalapnllaaRot
import Derived.Test.YtefalfalapnllaaAgg
import Derived.StillTailTactics
import Derived.Outline
import Derived.IntWalk
import Derived.Deep.CutBlock
import Derived.Deep.DeepCutAuto
namespace Go.Proofs.Ytefalfalapnllaa
open Go.RowKit
set_option linter.unusedVariables false

/-- the cells of a state -/
def sc (s : Sha.St) : Array Value := #[.int .u32 s.a.toNat, .int .u32 s.b.toNat, .int .u32 s.c.toNat, .int .u32 s.d.toNat, .int .u32 s.e.toNat, .int .u32 s.f.toNat, .int .u32 s.g.toNat, .int .u32 s.h.toNat]
/-- words as cells -/
def wa (l : List Sha.W) : Array Value := (l.map fun x => Value.int .u32 x.toNat).toArray
def z64 : Array Value := (List.replicate 64 (Value.int .u32 0)).toArray

def z8 : Array Value := (List.replicate 8 (Value.int .u32 0)).toArray
theorem infoS : (Try.prog.info? 125).map (fun i => (i.zero, i.size, i.bytes)) = some (some (.agg z8), 8, 32) := by kernel_rfl
theorem underS : Try.prog.underlying 125 = some (.array 8 123) := by kernel_rfl
theorem infoW : (Try.prog.info? 139).map (fun i => (i.zero, i.size, i.bytes)) = some (some (.agg z64), 64, 256) := by kernel_rfl


theorem ida_cell {w : World} {g : Nat} {t : TypeId} {l : List UInt8} (h : Blk w g t (ida l)) {j : Nat} (hj : j < l.length) : w.cell? ⟨g, j, none⟩ = some (.int .u8 ((l.getD j 0).toNat : Int)) := by
  rw [h.cell]
  simp [ida, hj, bv]
theorem wa_cell {w : World} {g : Nat} {t : TypeId} {l : List Sha.W} (h : Blk w g t (wa l)) {j : Nat} (hj : j < l.length) : w.cell? ⟨g, j, none⟩ = some (.int .u32 ((l.getD j 0).toNat : Int)) := by
  rw [h.cell]
  simp [wa, hj]
theorem wa_set {w : World} {g : Nat} {t : TypeId} {l : List Sha.W} (h : Blk w g t (wa l)) (j : Nat) (x : Sha.W) : Blk (w.setCell ⟨g, j, none⟩ (.int .u32 (x.toNat : Int))) g t (wa (l.set j x)) := by
  have := h.set j (.int .u32 (x.toNat : Int))
  have e : (wa l).setIfInBounds j (.int .u32 (x.toNat : Int)) = wa (l.set j x) := by simp [wa, List.map_set]
  rwa [e] at this
def lst (s : Sha.St) : List Sha.W := [s.a, s.b, s.c, s.d, s.e, s.f, s.g, s.h]
theorem sc_lst (s : Sha.St) : sc s = wa (lst s) := rfl
/-- a state to whose first words another one's are added -/
def mix (s v : Sha.St) (k : Nat) : List Sha.W := (lst (s.plus v)).take k ++ (lst s).drop k
theorem mix_length (s v : Sha.St) {k : Nat} (h : k ≤ 8) : (mix s v k).length = 8 := by
  match k, h with
  | 0, _ | 1, _ | 2, _ | 3, _ | 4, _ | 5, _ | 6, _ | 7, _ | 8, _ => rfl
theorem mix_set (s v : Sha.St) {k : Nat} (h : k < 8) : (mix s v k).set k (Sha.add ((mix s v k).getD k 0) ((lst v).getD k 0)) = mix s v (k + 1) := by
  match k, h with
  | 0, _ | 1, _ | 2, _ | 3, _ | 4, _ | 5, _ | 6, _ | 7, _ => rfl
/-- the words of a block, as far as they are made -/
def made (blk : List UInt8) (k : Nat) : List Sha.W := Sha.sched blk k ++ List.replicate (64 - k) 0
theorem made_length (blk : List UInt8) {k : Nat} (h : k ≤ 64) : (made blk k).length = 64 := by simp [made, Sha.sched_length]; omega
theorem made_get (blk : List UInt8) {k j : Nat} (h : j < k) : (made blk k).getD j 0 = (Sha.sched blk k).getD j 0 := by
  unfold made
  rw [List.getD_eq_getElem?_getD, List.getElem?_append_left (by rw [Sha.sched_length]; exact h), List.getD_eq_getElem?_getD]
theorem made_succ (blk : List UInt8) {k : Nat} (h : k < 64) : made blk (k + 1) = (made blk k).set k (if k < 16 then Sha.wordAt blk k else Sha.next ((Sha.sched blk k).getD (k - 16) 0) ((Sha.sched blk k).getD (k - 15) 0) ((Sha.sched blk k).getD (k - 7) 0) ((Sha.sched blk k).getD (k - 2) 0)) := by
  unfold made
  rw [List.set_append_right _ _ (by rw [Sha.sched_length]; omega), Sha.sched_length, Nat.sub_self]
  obtain ⟨m, hm⟩ : ∃ m, 64 - k = m + 1 := ⟨63 - k, by omega⟩
  have h2 : 64 - (k + 1) = m := by omega
  rw [hm, h2, List.replicate_succ, List.set_cons_zero]
  simp [Sha.sched]
theorem made_done (blk : List UInt8) : made blk 64 = Sha.sched blk 64 := by simp [made]
theorem made_none (blk : List UInt8) : wa (made blk 0) = z64 := rfl

attribute [local go_sem] w_xor w_and w_or w_add w_wrap_add w_mod w_wrap w_shr3 w_shr10 w_shl24 w_shl16 w_shl8 w_wrap_shl24 w_wrap_shl16 w_wrap_shl8
theorem quiet_rot {f : FuncId} {args : Array Value} {w : World} {n : Nat} {v : Value} (h : Calls Try.prog f args (w.drewN n) fun e w' => e = .returned v ∧ w.drewN n = w') :
    Calls Try.prog f args (w.drewN n) fun e w'' => e = .returned v ∧ ∃ m, w'' = w.drewN m := h.mono fun _ _ ⟨a, b⟩ => ⟨a, n, b.symm⟩
theorem quiet_rot2 {f : FuncId} {args : Array Value} {w : World} {q n : Nat} {v : Value} (h : Calls Try.prog f args (w.drewN (q + n)) fun e w' => e = .returned v ∧ w.drewN (q + n) = w') :
    Calls Try.prog f args (w.drewN (q + n)) fun e w'' => e = .returned v ∧ ∃ m, w'' = w.drewN (q + m) := h.mono fun _ _ ⟨a, b⟩ => ⟨a, n, b.symm⟩
set_option maxHeartbeats 4000000 in
set_option maxRecDepth 100000 in
theorem take_any (w : World) (sb bb : Nat) (s : Sha.St) (blk : List UInt8) (hs : Blk w sb 125 (sc s)) (hb : Blk w bb 129 (ida blk)) (hl : blk.length = 64) :
    Calls Try.prog 65 #[.pointer (some ⟨sb, 0, none⟩), .pointer (some ⟨bb, 0, none⟩)] w fun e w' => e = .returned (.tuple #[]) ∧ Blk w' sb 125 (sc (Sha.take s blk)) ∧ Fr (fun k => k = sb) w w' := by
  go_enter Try.func65, Try.ntmps65
  obtain ⟨i, hi, hz0, hz1, hz2⟩ := info_parts infoW
  refine wp_seq_k fun K hK => wp_region_lit ?_
  refine wpList_of_value rfl (v := .agg (wa Sha.kTab)) (w' := w) (by kernel_rfl) ?_
  refine wpList_of_value rfl (exec_alloc rfl hi hz0) ?_
  refine wpList_of_skip rfl (exec_store_new (X := wa Sha.kTab) (Z := z64) rfl rfl rfl rfl hi hz1 (by decide +kernel) (by decide +kernel)) ?_
  refine wpList_nil (hK _ _ ?_)
  clear hK
  refine wp_seq_k fun K hK => wp_region_lit ?_
  refine wpList_of_value rfl (exec_alloc rfl hi hz0) ?_
  refine wpList_nil (hK _ _ ?_)
  clear hK
  change Code.wp _ _ _ _ ((w.alloc (.cells (wa Sha.kTab) 139)).alloc (.cells z64 139))
  obtain ⟨wk, ek⟩ : ∃ wk, wk = w.alloc (.cells (wa Sha.kTab) 139) := ⟨_, rfl⟩
  have hNk : New w wk := ek ▸ Fr.alloc _ _ _
  have hBk : Blk wk w.heap.size 139 (wa Sha.kTab) := ek ▸ Blk.new _ _ _
  rw [← ek]
  have hN2 : New w (wk.alloc (.cells z64 139)) := hNk.then_alloc _
  have hBk2 := hBk.alloc (.cells z64 139)
  have hBw : Blk (wk.alloc (.cells z64 139)) wk.heap.size 139 z64 := Blk.new _ _ _
  have hkw : w.heap.size < wk.heap.size := hBk.lt
  have hbl : bb < w.heap.size := hb.lt
  have hsl : sb < w.heap.size := hs.lt
  generalize wk.alloc (.cells z64 139) = w2 at *
  generalize hgk : w.heap.size = gk at *
  generalize hgw : wk.heap.size = gw at *
  clear ek hNk hBk hgw
  conv => arg 4; simp [Act.put, go_sem]
  rw [← made_none blk] at hBw
  go_wp2_with fail
  go_loopw [19] (fun i W => ∃ k : Nat, i = .int .i64 k ∧ k ≤ 64 ∧ Blk W gw 139 (wa (made blk k)) ∧ Fr (fun j => j = gw) w2 W) (fun i _ => 64 - (intOf i).toNat)
  case atStart => exact ⟨0, rfl, by omega, hBw, Fr.refl _ _⟩
  case round =>
    obtain ⟨k, rfl, hk, hw, hf⟩ := hrel
    clear hBw
    by_cases h16 : k < 16
    · have hgb : gw ≠ bb := by omega
      have hb2 : Blk wr bb 129 (ida blk) := (hb.fr hN2 id).fr hf (Ne.symm hgb)
      have PP : ∀ j, j < 4 → ∃ p : Nat, ∃ y : Sha.W, p = 4 * k + j ∧ (p : Int) < 64 ∧ y = Sha.bw (blk.getD (4 * k + j) 0) ∧ wr.cell? ⟨bb, p, none⟩ = some (.int .u8 (y.toNat : Int)) := fun j hj => ⟨_, _, rfl, by omega, rfl, by rw [Sha.bw_toNat]; exact ida_cell hb2 (by omega)⟩
      obtain ⟨p0, y0, e0, b0, z0, q0⟩ := PP 0 (by omega)
      obtain ⟨p1, y1, e1, b1, z1, q1⟩ := PP 1 (by omega)
      obtain ⟨p2, y2, e2, b2, z2, q2⟩ := PP 2 (by omega)
      obtain ⟨p3, y3, e3, b3, z3, q3⟩ := PP 3 (by omega)
      have hst := wa_set hw k (Sha.or (Sha.or (Sha.or (Sha.shl 24 y0) (Sha.shl 16 y1)) (Sha.shl 8 y2)) y3)
      have hft := hf.then_set (p := ⟨gw, k, none⟩) rfl (.int .u32 ((Sha.or (Sha.or (Sha.or (Sha.shl 24 y0) (Sha.shl 16 y1)) (Sha.shl 8 y2)) y3).toNat : Int))
      have hms : (made blk k).set k (Sha.or (Sha.or (Sha.or (Sha.shl 24 y0) (Sha.shl 16 y1)) (Sha.shl 8 y2)) y3) = made blk (k + 1) := by
        rw [made_succ blk (by omega), if_pos h16, z0, z1, z2, z3]
        rfl
      rw [hms] at hst
      have m0 : IntKind.i64.wrap (4 * (k : Int)) = (p0 : Int) := by rw [IntWalk.i64_in _ (by omega)]; omega
      have m1 : IntKind.i64.wrap ((p0 : Int) + 1) = (p1 : Int) := by rw [IntWalk.i64_in _ (by omega)]; omega
      have m2 : IntKind.i64.wrap ((p0 : Int) + 2) = (p2 : Int) := by rw [IntWalk.i64_in _ (by omega)]; omega
      have m3 : IntKind.i64.wrap ((p0 : Int) + 3) = (p3 : Int) := by rw [IntWalk.i64_in _ (by omega)]; omega
      clear PP e0 e1 e2 e3 z0 z1 z2 z3 hms
      have hcw := wa_cell hw (j := k) (by rw [made_length blk hk]; omega)
      have fcw := hw.frozen k
      clear hb hs hb2 hw hf hl hN2 hi hz0 hz1 hz2
      go_upto_region 6 with fail
      set_option maxRecDepth 20000 in go_still_tail 39, (by kernel_rfl)
      change wpList _ _ _ _ _ wr.drew
      go_wp2_with fail
      go_roundw
      case rel => exact ⟨k + 1, by go_num, by omega, hst, hft.then_drew⟩
      case measure => simp [intOf]; omega
    · by_cases hlt : k < 64
      · have PP : ∀ j, 1 ≤ j → j ≤ 16 → ∃ p : Nat, ∃ y : Sha.W, p + j = k ∧ (p : Int) < 64 ∧ y = (Sha.sched blk k).getD (k - j) 0 ∧ wr.cell? ⟨gw, p, none⟩ = some (.int .u32 (y.toNat : Int)) := fun j hj hj' => ⟨k - j, _, by omega, by omega, rfl, by rw [← made_get blk (by omega)]; exact wa_cell hw (by rw [made_length blk hk]; omega)⟩
        obtain ⟨p16, y16, e16, b16, z16, q16⟩ := PP 16 (by omega) (by omega)
        obtain ⟨p15, y15, e15, b15, z15, q15⟩ := PP 15 (by omega) (by omega)
        obtain ⟨p7, y7, e7, b7, z7, q7⟩ := PP 7 (by omega) (by omega)
        obtain ⟨p2, y2, e2, b2, z2, q2⟩ := PP 2 (by omega) (by omega)
        have hst := wa_set hw k (Sha.add (Sha.add (Sha.add y16 (Sha.xor (Sha.xor (Sha.rotr 7 y15) (Sha.rotr 18 y15)) (Sha.shr 3 y15))) y7) (Sha.xor (Sha.xor (Sha.rotr 17 y2) (Sha.rotr 19 y2)) (Sha.shr 10 y2)))
        have hft := hf.then_set (p := ⟨gw, k, none⟩) rfl (.int .u32 ((Sha.add (Sha.add (Sha.add y16 (Sha.xor (Sha.xor (Sha.rotr 7 y15) (Sha.rotr 18 y15)) (Sha.shr 3 y15))) y7) (Sha.xor (Sha.xor (Sha.rotr 17 y2) (Sha.rotr 19 y2)) (Sha.shr 10 y2))).toNat : Int))
        have hms : (made blk k).set k (Sha.add (Sha.add (Sha.add y16 (Sha.xor (Sha.xor (Sha.rotr 7 y15) (Sha.rotr 18 y15)) (Sha.shr 3 y15))) y7) (Sha.xor (Sha.xor (Sha.rotr 17 y2) (Sha.rotr 19 y2)) (Sha.shr 10 y2))) = made blk (k + 1) := by
          rw [made_succ blk (by omega), if_neg h16, z16, z15, z7, z2]
          rfl
        rw [hms] at hst
        have m16 : IntKind.i64.wrap ((k : Int) - 16) = (p16 : Int) := by rw [IntWalk.i64_in _ (by omega)]; omega
        have m15 : IntKind.i64.wrap ((k : Int) - 15) = (p15 : Int) := by rw [IntWalk.i64_in _ (by omega)]; omega
        have m7 : IntKind.i64.wrap ((k : Int) - 7) = (p7 : Int) := by rw [IntWalk.i64_in _ (by omega)]; omega
        have m2 : IntKind.i64.wrap ((k : Int) - 2) = (p2 : Int) := by rw [IntWalk.i64_in _ (by omega)]; omega
        clear PP e16 e15 e7 e2 z16 z15 z7 z2 hms
        have hcw := wa_cell hw (j := k) (by rw [made_length blk hk]; omega)
        have fcw := hw.frozen k
        clear hb hs hw hf hl hN2 hi hz0 hz1 hz2 hbl hsl
        go_upto_region 7 with fail
        go_quiet (fail)
        clear q15 q2
        go_upto_region 10 with fail
        refine (rot_7 _ _).mono ?_
        rintro e w1 ⟨rfl, rfl⟩
        go_upto_region 10 with fail
        refine (rot_18 _ _).mono ?_
        rintro e w1 ⟨rfl, rfl⟩
        go_upto_region 10 with fail
        refine (rot_17 _ _).mono ?_
        rintro e w1 ⟨rfl, rfl⟩
        go_upto_region 10 with fail
        refine (rot_19 _ _).mono ?_
        rintro e w1 ⟨rfl, rfl⟩
        go_upto_region 10 with fail
        have r16 : (wr.drewN nq).cell? ⟨gw, p16, none⟩ = some (.int .u32 (y16.toNat : Int)) := q16
        have r7 : (wr.drewN nq).cell? ⟨gw, p7, none⟩ = some (.int .u32 (y7.toNat : Int)) := q7
        have rcw : (wr.drewN nq).cell? ⟨gw, k, none⟩ = some (.int .u32 (((made blk k).getD k 0).toNat : Int)) := hcw
        have rfw : (wr.drewN nq).frozen? ⟨gw, k, none⟩ = false := fcw
        have hst2 : Blk ((wr.drewN nq).setCell ⟨gw, k, none⟩ (.int .u32 ((Sha.add (Sha.add (Sha.add y16 (Sha.xor (Sha.xor (Sha.rotr 7 y15) (Sha.rotr 18 y15)) (Sha.shr 3 y15))) y7) (Sha.xor (Sha.xor (Sha.rotr 17 y2) (Sha.rotr 19 y2)) (Sha.shr 10 y2))).toNat : Int))) gw 139 (wa (made blk (k + 1))) := hst
        have hft2 : Fr (fun j => j = gw) w2 ((wr.drewN nq).setCell ⟨gw, k, none⟩ (.int .u32 ((Sha.add (Sha.add (Sha.add y16 (Sha.xor (Sha.xor (Sha.rotr 7 y15) (Sha.rotr 18 y15)) (Sha.shr 3 y15))) y7) (Sha.xor (Sha.xor (Sha.rotr 17 y2) (Sha.rotr 19 y2)) (Sha.shr 10 y2))).toNat : Int))) := hft.then_drewN nq
        clear hst hft q16 q7 hcw fcw
        generalize wr.drewN nq = W at *
        set_option maxRecDepth 20000 in go_still_tail 15, (by kernel_rfl)
        change wpList _ _ _ _ _ W.drew
        go_wp2_with fail
        go_roundw
        case rel => exact ⟨k + 1, by go_num, by omega, hst2, hft2.then_drew⟩
        case measure => simp [intOf]; omega
      · have h64 : k = 64 := by omega
        subst h64
        rw [made_done] at hw
        have hN3 : New w wr := hN2.trans hf (fun x hx => .inr (by omega))
        have hBk3 : Blk wr gk 139 (wa Sha.kTab) := hBk2.fr hf (by omega)
        have hs3 : Blk wr sb 125 (sc s) := hs.fr hN3 id
        clear hf hN2 hBk2 hb hs
        go_upto_region 12 with fail
        refine wp_region_lit ?_
        obtain ⟨i8, hi8, h80, h81, h82⟩ := info_parts infoS
        go_step
        go_step
        go_step
        go_step
        go_step
        go_step
        refine wpList_of_value rfl (exec_load (X := sc s) (g := sb) (off := 0) rfl rfl underS rfl hi8 h81 (fun j hj => by rw [Nat.zero_add, hs3.cell, Array.getElem?_eq_getElem hj])) ?_
        refine wpList_of_value rfl (exec_alloc rfl hi8 h80) ?_
        refine wpList_of_skip rfl (exec_store_new (X := sc s) (Z := z8) rfl rfl rfl rfl hi8 h81 (by simp [sc, Value.oneCell']) rfl) ?_
        refine wpList_nil ?_
        have hN5 := hN3.then_alloc (.cells (sc s) 125)
        have hBk5 := hBk3.alloc (.cells (sc s) 125)
        have hw5 := hw.alloc (.cells (sc s) 125)
        have hs5 := hs3.alloc (.cells (sc s) 125)
        have hv5 : Blk (wr.alloc (.cells (sc s) 125)) wr.heap.size 125 (sc s) := Blk.new _ _ _
        have hgv : gk < wr.heap.size := hBk3.lt
        have hgv' : gw < wr.heap.size := hw.lt
        have hgv2 : sb < wr.heap.size := hs3.lt
        clear hN3 hBk3 hw hs3
        generalize wr.alloc (.cells (sc s) 125) = w5 at *
        generalize wr.heap.size = gv at *
        go_step
        go_step
        conv => arg 4; simp [Act.put, go_sem]
        go_wp2_with fail
        go_loopw [106] (fun i W => ∃ k : Nat, i = .int .i64 k ∧ k ≤ 64 ∧ Blk W gv 125 (sc (Sha.rounds blk s k)) ∧ Fr (fun j => j = gv) w5 W) (fun i _ => 64 - (intOf i).toNat)
        case atStart => exact ⟨0, rfl, by omega, hv5, Fr.refl _ _⟩
        case round =>
          obtain ⟨k, rfl, hk, hv, hf⟩ := hrel
          clear hv5
          by_cases hlt : k < 64
          · have hkc := wa_cell (hBk5.fr hf (by omega)) (j := k) hlt
            have hwc := wa_cell (hw5.fr hf (by omega)) (j := k) (by rw [Sha.sched_length]; exact hlt)
            have hsu : Sha.rounds blk s (k + 1) = Sha.round (Sha.rounds blk s k) (Sha.kTab.getD k 0) ((Sha.sched blk 64).getD k 0) := rfl
            generalize Sha.kTab.getD k 0 = kk at *
            generalize (Sha.sched blk 64).getD k 0 = ww at *
            generalize Sha.rounds blk s k = v at *
            have hst := hv
            have c0 : wr.cell? ⟨gv, 0, none⟩ = some (.int .u32 v.a.toNat) := hv.cell 0
            have c1 : wr.cell? ⟨gv, 1, none⟩ = some (.int .u32 v.b.toNat) := hv.cell 1
            have c2 : wr.cell? ⟨gv, 2, none⟩ = some (.int .u32 v.c.toNat) := hv.cell 2
            have c3 : wr.cell? ⟨gv, 3, none⟩ = some (.int .u32 v.d.toNat) := hv.cell 3
            have c4 : wr.cell? ⟨gv, 4, none⟩ = some (.int .u32 v.e.toNat) := hv.cell 4
            have c5 : wr.cell? ⟨gv, 5, none⟩ = some (.int .u32 v.f.toNat) := hv.cell 5
            have c6 : wr.cell? ⟨gv, 6, none⟩ = some (.int .u32 v.g.toNat) := hv.cell 6
            have c7 : wr.cell? ⟨gv, 7, none⟩ = some (.int .u32 v.h.toNat) := hv.cell 7
            clear hst
            have hlt' : (k : Int) < 64 := by omega
            go_upto_region 16 with fail
            go_quiet (fail)
            revert nq
            intro n1
            go_upto_region 17 with fail
            (refine wp_region_quiet_lit (by kernel_rfl) (by kernel_rfl) ?_; repeat (quiet_step (fail)))
            (quiet_step (exact quiet_rot2 (rot_6 _ _)); repeat (quiet_step (fail)))
            (quiet_step (exact quiet_rot2 (rot_11 _ _)); repeat (quiet_step (fail)))
            (quiet_step (exact quiet_rot2 (rot_25 _ _)); repeat (quiet_step (fail)))
            refine wpQuiet_nil ?_
            intro _ hw1
            obtain ⟨nq, hw2⟩ := hw1
            subst hw2
            revert nq
            intro n2
            go_upto_region 18 with fail
            (refine wp_region_quiet_lit (by kernel_rfl) (by kernel_rfl) ?_; repeat (quiet_step (fail)))
            (quiet_step (exact quiet_rot2 (rot_2 _ _)); repeat (quiet_step (fail)))
            (quiet_step (exact quiet_rot2 (rot_13 _ _)); repeat (quiet_step (fail)))
            (quiet_step (exact quiet_rot2 (rot_22 _ _)); repeat (quiet_step (fail)))
            refine wpQuiet_nil ?_
            intro _ hw1
            obtain ⟨nq, hw2⟩ := hw1
            subst hw2
            revert nq
            intro n3
            go_upto_region 19 with fail
            have hvW : Blk (((wr.drewN n1).drewN n2).drewN n3) gv 125 (sc v) := hv
            have hfW : Fr (fun j => j = gv) w5 (((wr.drewN n1).drewN n2).drewN n3) := ((hf.then_drewN _).then_drewN _).then_drewN _
            have d0 := hvW.cell 0
            have d1 := hvW.cell 1
            have d2 := hvW.cell 2
            have d4 := hvW.cell 4
            have d3 := hvW.cell 3
            have d5 := hvW.cell 5
            have d6 := hvW.cell 6
            simp only [sc, List.getElem?_toArray, List.getElem?_cons_zero, List.getElem?_cons_succ] at d0 d1 d2 d3 d4 d5 d6
            clear hv hf c0 c1 c2 c3 c4 c5 c6 c7 hkc hwc
            generalize ((wr.drewN n1).drewN n2).drewN n3 = W at *
            go_wp2_with (refine wpList_of_skip rfl (exec_store_all (T := 125) (X := sc (Sha.round v kk ww)) (g := gv) (t := 125) (cs := sc v) rfl rfl rfl hi8 h81 (by simp [sc, Value.oneCell']) hvW (by simp [sc])) ?_)
            go_roundw
            case rel => exact ⟨k + 1, by go_num, by omega, hsu ▸ hvW.setRow _, hfW.setRow rfl _⟩
            case measure => simp [intOf]; omega
          · have h64 : k = 64 := by omega
            subst h64
            have hs6 : Blk wr sb 125 (sc s) := hs5.fr hf (by omega)
            have hN6 : New w wr := hN5.trans hf (fun x hx => .inr (by omega))
            clear hs5 hf hN5
            have hfin : wa (mix s (Sha.rounds blk s 64) 8) = sc (Sha.take s blk) := rfl
            generalize Sha.rounds blk s 64 = v at *
            go_upto_region 20 with fail
            have hs7 : Blk wr sb 125 (wa (mix s v 0)) := hs6
            have hv7 : Blk wr gv 125 (wa (lst v)) := hv
            clear hs6 hv
            go_loopw [183] (fun i W => ∃ k : Nat, i = .int .i64 k ∧ k ≤ 8 ∧ Blk W sb 125 (wa (mix s v k)) ∧ Fr (fun j => j = sb) wr W) (fun i _ => 8 - (intOf i).toNat)
            case atStart => exact ⟨0, rfl, by omega, hs7, Fr.refl _ _⟩
            case round =>
              obtain ⟨k, rfl, hk, hx, hf⟩ := hrel
              clear hs7
              by_cases hlt : k < 8
              · have c0 := wa_cell hx (j := k) (by rw [mix_length s v hk]; exact hlt)
                have c1 := wa_cell (hv7.fr hf (by omega)) (j := k) hlt
                have fcw := hx.frozen k
                have hst := wa_set hx k (Sha.add ((mix s v k).getD k 0) ((lst v).getD k 0))
                rw [mix_set s v hlt] at hst
                have hft := hf.then_set (p := ⟨sb, k, none⟩) rfl (.int .u32 ((Sha.add ((mix s v k).getD k 0) ((lst v).getD k 0)).toNat : Int))
                generalize (mix s v k).getD k 0 = x at *
                generalize (lst v).getD k 0 = y at *
                have hlt' : (k : Int) < 8 := by omega
                clear hx hf hv7
                go_upto_region 24 with fail
                set_option maxRecDepth 20000 in go_still_tail 11, (by kernel_rfl)
                change wpList _ _ _ _ _ wr.drew
                go_wp2_with fail
                refine ⟨⟨_, _, _, _, _, _, _, _, _, _, _, _, _, _, _, _, ⟨k + 1, ?_, by omega, hst, hft.then_drew⟩, rfl⟩, ?_⟩
                · go_num
                · change 8 - (intOf (.int .i64 ((k : Int) + 1))).toNat < 8 - (intOf (.int .i64 k)).toNat
                  simp [intOf]
                  omega
              · have h8 : k = 8 := by omega
                subst h8
                go_wp2_with fail
                go_end0
                exact ⟨rfl, hfin ▸ hx, (hN6.mono (fun _ e => e.elim)).trans hf (fun _ e => .inl e)⟩
end Go.Proofs.Ytefalfalapnllaa
