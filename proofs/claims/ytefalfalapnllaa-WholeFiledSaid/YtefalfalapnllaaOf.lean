/- The contract of sum's Of: the sum of all parts, one behind the other. -/
import Derived.Test.YtefalfalapnllaaBlk
namespace Go.Proofs.Ytefalfalapnllaa
open Go.RowKit Go.Shelf
set_option linter.unusedVariables false

theorem x_loadVar {P : Program} {w : World} {T : TypeId} {i : TypeInfo} {d : TypeDesc} {X : Array Value} {g off : Nat}
    (hu : P.underlying T = some d) (hd : (match d with | .struct _ | .array _ _ => true | _ => false) = true) (hi : P.info? T = some i) (hs : i.size = X.size) (hX : At w g off X) :
    (loadVar T ⟨g, off, none⟩).run P w = .ok (.agg X) w := by
  have hagg : (isAgg T).run P w = .ok true w := by
    unfold isAgg
    rw [Sem.run_bind, run_underlying hu w]
    cases d <;> simp_all
  have hl : (loadCells ⟨g, off, none⟩ X.toList.length).run P w = .ok X.toList.toArray w :=
    run_loadCells_list (P := P) w ⟨g, off, none⟩ X.toList (fun j v hv => by
      obtain ⟨hj, hjv⟩ := List.getElem?_eq_some_iff.1 hv
      rw [add_none, hX j (by simpa using hj)]
      simpa using hjv)
  simp only [Array.length_toList, Array.toArray_toList] at hl
  simp [loadVar, Sem.run_bind, hagg, sizeOf, typeInfo, hi, hs, hl]
/-- a sum that is handed back out of memory -/
theorem x_results {fn : Func} {w : World} {tmps : Array Value} {t : Tmp} {b : Nat} {x : List UInt8} (hr : fn.results = #[.cell t 60]) (hx : x.length = 32) (ht : tmps.getD t undef = .pointer (some ⟨b, 0, none⟩)) (hb : Blk w b 60 (ida x)) :
    (results fn tmps).run Try.prog w = .ok (.agg (ida x)) w := by
  obtain ⟨ii, hii, hz0, hz1, hz2⟩ := info_parts infoID
  have l6 := x_loadVar (P := Try.prog) (T := 60) underID rfl hii (hz1.trans (by rw [ida_size]; exact hx.symm)) hb.at'
  rw [Array.getD_eq_getD_getElem?] at ht
  simp only [results, hr]
  simp [ht, asAddr, l6]
theorem blocksFn_any (w : World) (A : Option Addr) (n c : Nat) : Calls Try.prog 64 #[.slice A n c] w fun e w' => e = .returned (.func (.func 69) #[] #[.pointer (some ⟨w.heap.size, 0, none⟩)]) ∧ w' = w.alloc (.cells #[.slice A n c] 62) := by
  go_enter Try.func64, Try.ntmps64
  go_wp2
  go_ret
  exact ⟨rfl, rfl⟩
attribute [local go_sem] Oper.semAt_some
/-- what stands between two blocks: k blocks are taken -/
structure Taken (W0 : World) (sb : Nat) (L : List (List UInt8)) (k : Nat) (W : World) : Prop where
  s : Blk W sb 125 (sc ((L.take k).foldl Sha.take Sha.start))
  fr : Fr (fun j => j = sb) W0 W
theorem Taken.abides {W0 : World} {sb : Nat} (L : List (List UInt8)) (hs : sb < W0.heap.size) : AbidesAll W0.heap.size (fun i W => Taken W0 sb L i W) := fun i X Y h fr =>
  ⟨h.s.fr fr (by omega), h.fr.trans fr (fun j hj => .inr hj)⟩
theorem fold_take (L : List (List UInt8)) (i : Nat) (x : List UInt8) (h : L[i]? = some x) : (L.take (i + 1)).foldl Sha.take Sha.start = Sha.take ((L.take i).foldl Sha.take Sha.start) x := by
  obtain ⟨hi, he⟩ := List.getElem?_eq_some_iff.1 h
  rw [List.take_succ_eq_append_getElem hi, List.foldl_append, he]
  rfl
/-- a byte of a word, as the walk reckons it -/
def wbyte (x : Sha.W) (b : Nat) : UInt8 := UInt8.ofNat (x.toNat / 2 ^ (24 - 8 * b) % 256)
theorem bytes_get (s : Sha.St) (a b : Nat) (ha : a < 8) (hb : b < 4) : s.bytes[4 * a + b]? = some (wbyte ((lst s).getD a 0) b) := by
  have e : ∀ x : Sha.W, Sha.wordB x = [wbyte x 0, wbyte x 1, wbyte x 2, wbyte x 3] := fun x => by
    have hx := x.isLt
    unfold Sha.wordB wbyte
    rw [show x.toNat / 16777216 = x.toNat / 16777216 % 256 by omega]
    simp
  unfold Sha.St.bytes
  simp only [e]
  match a, b, ha, hb with
  | 0, 0, _, _ | 0, 1, _, _ | 0, 2, _, _ | 0, 3, _, _ => rfl
  | 1, 0, _, _ | 1, 1, _, _ | 1, 2, _, _ | 1, 3, _, _ => rfl
  | 2, 0, _, _ | 2, 1, _, _ | 2, 2, _, _ | 2, 3, _, _ => rfl
  | 3, 0, _, _ | 3, 1, _, _ | 3, 2, _, _ | 3, 3, _, _ => rfl
  | 4, 0, _, _ | 4, 1, _, _ | 4, 2, _, _ | 4, 3, _, _ => rfl
  | 5, 0, _, _ | 5, 1, _, _ | 5, 2, _, _ | 5, 3, _, _ => rfl
  | 6, 0, _, _ | 6, 1, _, _ | 6, 2, _, _ | 6, 3, _, _ => rfl
  | 7, 0, _, _ | 7, 1, _, _ | 7, 2, _, _ | 7, 3, _, _ => rfl
theorem wbyte_v (x : Sha.W) (b d : Nat) (hd : d = 2 ^ (24 - 8 * b)) : Value.int .u8 ((x.toNat : Int) / (d : Int) % 256) = bv (wbyte x b) := by
  subst hd
  unfold bv wbyte
  congr 1
  rw [UInt8.toNat_ofNat', Nat.mod_mod_of_dvd _ (by decide)]
  omega
theorem wb0 (x : Sha.W) : Value.int .u8 ((x.toNat : Int) / 16777216) = bv (wbyte x 0) := by
  have hx := x.isLt
  have := wbyte_v x 0 16777216 (by decide)
  rw [← this]
  congr 1
  omega
theorem wb1 (x : Sha.W) : Value.int .u8 ((x.toNat : Int) / 65536 % 256) = bv (wbyte x 1) := wbyte_v x 1 65536 (by decide)
theorem wb2 (x : Sha.W) : Value.int .u8 ((x.toNat : Int) / 256 % 256) = bv (wbyte x 2) := wbyte_v x 2 256 (by decide)
theorem wb3 (x : Sha.W) : Value.int .u8 ((x.toNat : Int) % 256) = bv (wbyte x 3) := by
  have := wbyte_v x 3 1 (by decide)
  rw [show ((1 : Nat) : Int) = 1 from rfl, Int.ediv_one] at this
  exact this
/-- a sum, as far as it is written -/
def idAt (B : List UInt8) (i : Nat) : List UInt8 := B.take i ++ List.replicate (32 - i) 0
theorem idAt_length (B : List UInt8) (i : Nat) (hB : B.length = 32) (hi : i ≤ 32) : (idAt B i).length = 32 := by
  unfold idAt
  simp
  omega
theorem idAt_set (B : List UInt8) (i : Nat) (x : UInt8) (hB : B.length = 32) (hx : B[i]? = some x) : (idAt B i).set i x = idAt B (i + 1) := by
  obtain ⟨hi, he⟩ := List.getElem?_eq_some_iff.1 hx
  unfold idAt
  obtain ⟨k, hk⟩ : ∃ k, 32 - i = k + 1 := ⟨31 - i, by omega⟩
  have h2 : 32 - (i + 1) = k := by omega
  have hl : (B.take i).length = i := by simp; omega
  rw [List.set_append_right _ _ (by omega), hl, Nat.sub_self, hk, h2, List.replicate_succ, List.set_cons_zero, List.take_succ_eq_append_getElem hi, he, List.append_assoc]
  rfl
set_option maxHeartbeats 2000000 in
set_option maxRecDepth 20000 in
theorem of_any (w : World) (A : Option Addr) (cap : Nat) (ps : List Part) (hP : PartsAt w A ps) (hlen : (allB ps).length < 1152921504606846976) (hps : ps.length < 9223372036854775807) :
    Calls Try.prog 58 #[.slice A ps.length cap] w fun e w' => e = .returned (.agg (ida (Sha.sum (allB ps)))) ∧ New w w' := by
  refine (callsIn_wide (n := 5)).1 ?_
  refine callsIn_of_wp_marks Try.func58 rfl trivial ?_ rfl
  simp only [Try.ntmps58, List.size_toArray, List.length_cons, List.length_nil, Nat.reduceAdd, Nat.reduceSub, Array.replicate_succ, Array.replicate_zero, List.push_toArray, List.append_toArray, List.nil_append, List.cons_append]
  obtain ⟨ii, hii, hz0, hz1, hz2⟩ := info_parts infoID
  have HLEN := Lib.hid hlen
  have HPS := Lib.hid hps
  have HP := Lib.hid hP
  clear hlen hps hP
  gi_wp2_with (first
    | (refine x_value_in (x_alloc (T := 60) rfl hii hz0) (fun _ h => by cases h) (fun _ h => by cases h) (by simp [go_sem, Region.wanted, yielded]) ?_))
  refine ⟨trivial, (callsIn_wide.2 (blocksFn_any _ A ps.length cap)).mono ?_⟩
  rintro e w2 ⟨rfl, rfl⟩
  have hR0 : Blk ((((w.alloc (.cells (ida z32) 60)).alloc (.cells (sc Sha.start) 125)).alloc (.cells #[.slice A ps.length cap] 62))) w.heap.size 60 (ida z32) := ((Blk.new w _ _).alloc _).alloc _
  have hS0 : Blk ((((w.alloc (.cells (ida z32) 60)).alloc (.cells (sc Sha.start) 125)).alloc (.cells #[.slice A ps.length cap] 62))) (w.heap.size + 1) 125 (sc Sha.start) := by
    have := (Blk.new (w.alloc (.cells (ida z32) 60)) 125 (sc Sha.start)).alloc (.cells #[.slice A ps.length cap] 62)
    rwa [World.size_alloc] at this
  have hB0 : Blk ((((w.alloc (.cells (ida z32) 60)).alloc (.cells (sc Sha.start) 125)).alloc (.cells #[.slice A ps.length cap] 62))) (w.heap.size + 2) 62 #[.slice A ps.length cap] := by
    have := Blk.new ((w.alloc (.cells (ida z32) 60)).alloc (.cells (sc Sha.start) 125)) 62 #[.slice A ps.length cap]
    rwa [World.size_alloc, World.size_alloc] at this
  have hN0 : New w ((((w.alloc (.cells (ida z32) 60)).alloc (.cells (sc Sha.start) 125)).alloc (.cells #[.slice A ps.length cap] 62))) := ((Fr.alloc _ w _).then_alloc _).then_alloc _
  have HSZ := Lib.hid (show (((w.alloc (.cells (ida z32) 60)).alloc (.cells (sc Sha.start) 125)).alloc (.cells #[.slice A ps.length cap] 62)).heap.size = w.heap.size + 3 by simp)
  gi_wp2_with fail
  change Code.wpIn _ _ _ _ _ _ (((w.alloc (.cells (ida z32) 60)).alloc (.cells (sc Sha.start) 125)).alloc (.cells #[.slice A ps.length cap] 62))
  generalize ((w.alloc (.cells (ida z32) 60)).alloc (.cells (sc Sha.start) 125)).alloc (.cells #[.slice A ps.length cap] 62) = W2 at *
  obtain ⟨ib, hib, hb0, hb1, hb2⟩ := info_parts infoB
  refine wpIn_rangeFunc_any (xs := Sha.blocks (allB ps)) (encs := fun b => #[.agg (ida b)]) rfl (by decide) (gf := 69) (lb := #[.pointer (some ⟨w.heap.size + 2, 0, none⟩)]) rfl trivial (enters_of Try.func69 (by kernel_rfl) rfl)
    (blocks_any Fence.wide _ trivial (fun _ => trivial) rfl rfl (by decide) (w.heap.size + 2) cap A ps HLEN.out HPS.out) (fun j => j = w.heap.size + 1) (fun j hj => by have := HSZ.out; omega)
    (fun W hW => ?pz) (fun _ => rfl)
    (fun i W => Taken W2 (w.heap.size + 1) (Sha.blocks (allB ps)) i W) (Taken.abides _ (by have := HSZ.out; omega)) ⟨hS0, Fr.refl _ _⟩ ?round ?done
  case pz =>
    have hz := HSZ.out
    have hNW : New w W := (hN0.trans hW fun _ h => h.elim).mono fun _ h => h.elim
    refine ⟨?_, HP.out.fr (hNW.mono fun _ h => h.elim) ⟨fun _ _ _ => id, fun _ _ _ _ _ => id⟩, ?_, ?_⟩
    · rw [(hB0.fr hW id).cell]
      rfl
    · have ha := HP.out.apart
      exact ⟨fun h0 k hk hT => ha.row h0 k hk (by rcases hT with h | h <;> omega), fun p hp h0 k hk hT => ha.each p hp h0 k hk (by rcases hT with h | h <;> omega)⟩
    · rintro (h | h) <;> omega
  case round =>
    rintro l i x W K hx hI hsz hK
    have hxl := Sha.blocks_64 _ x (List.mem_of_getElem? hx)
    have hxs : (ida x).size = 64 := by rw [ida_size]; exact hxl
    have HXL := Lib.hid hxl
    have HXS := Lib.hid hxs
    have HX := Lib.hid hx
    clear hxl hxs hx
    conv => arg 6; simp
    gi_wp2_with (first
      | (refine x_value_in (x_alloc (T := 129) rfl hib hb0) (fun _ h => by cases h) (fun _ h => by cases h) (by simp [go_sem, Region.wanted, yielded]) ?_)
      | (refine x_skip_in (exec_store_new (T := 129) (X := ida x) rfl rfl rfl rfl hib (hb1.trans HXS.out.symm) (ida_one _) (by rw [HXS.out]; rfl)) (fun _ h => by cases h) (fun _ h => by cases h) rfl ?_))
    refine hK _ _ (Fr.alloc _ _ _) (fun W3 hf3 => ?_)
    clear hK
    conv => arg 6; simp [Act.put, go_sem]
    have hA := Taken.abides (sb := w.heap.size + 1) (W0 := W2) (Sha.blocks (allB ps)) (by have := HSZ.out; omega) i W _ hI (Fr.alloc _ _ (.cells (ida x) 129))
    have hI3 := Taken.abides (sb := w.heap.size + 1) (W0 := W2) (Sha.blocks (allB ps)) (by have := HSZ.out; omega) i _ W3 hA (hf3.mono fun _ h => .inl h.1)
    have hy3 : Blk W3 W.heap.size 129 (ida x) := (Blk.new W _ _).fr hf3 (fun h => by omega)
    clear hA hI
    have HI := Lib.hid hI3
    clear hI3
    gi_wp2_with fail
    refine ⟨trivial, CallsIn.mono (show CallsIn Fence.wide 2 _ _ _ _ _ from callsIn_wide.2 (take_any W3 (w.heap.size + 1) W.heap.size _ x HI.out.s hy3 HXL.out)) ?_⟩
    rintro e w4 ⟨rfl, hs4, hf4⟩
    gi_wp2_with fail
    refine ⟨hf4, ?_, HI.out.fr.trans hf4 (fun _ h => .inl h)⟩
    rw [fold_take _ _ _ HX.out]
    exact hs4
  case done =>
    rintro D W hD hI hd
    have hs := hI.s
    have hf := hI.fr
    rw [List.take_of_length_le (Nat.le_refl _)] at hs
    have hsum : Sha.sum (allB ps) = Sha.St.bytes ((Sha.blocks (allB ps)).foldl Sha.take Sha.start) := rfl
    have HSUM := Lib.hid hsum
    clear hsum hI hB0
    generalize (Sha.blocks (allB ps)).foldl Sha.take Sha.start = st at *
    have hr := hR0.fr hf (by omega)
    have hN := (hN0.trans hf (fun j hj => .inr (by omega)))
    clear hR0 hS0 hf hN0
    have hz := HSZ.out
    have hr1 := hr.alloc (.cells (ida z32) 60)
    have hs1 : Blk (W.alloc (.cells (ida z32) 60)) (w.heap.size + 1) 125 (wa (lst st)) := hs.alloc (.cells (ida z32) 60)
    have hi1 : Blk (W.alloc (.cells (ida z32) 60)) W.heap.size 60 (ida (idAt st.bytes 0)) := Blk.new _ _ _
    have hN1 := hN.then_alloc (.cells (ida z32) 60)
    have hd1 : (W.alloc (.cells (ida z32) 60)).heap[D]? = some (.deferred (some [])) := (Below.heap_alloc W _ D (Array.getElem?_eq_some_iff.1 hd).1).trans hd
    have hDW := (Array.getElem?_eq_some_iff.1 hd).1
    have hrW := hr.lt
    have hsW := hs.lt
    clear hr hs hd hz
    gi_wp2_with (first
      | (refine x_value_in (x_alloc (T := 60) rfl hii hz0) (fun _ h => by cases h) (fun _ h => by cases h) (by simp [go_sem, Region.wanted, yielded]) ?_))
    generalize W.alloc (.cells (ida z32) 60) = W1 at *
    generalize W.heap.size = ib at *
    have hBl : st.bytes.length = 32 := rfl
    have HBL := Lib.hid hBl
    have HG := Lib.hid (bytes_get st)
    clear hBl
    gi_loopw [12] (fun i V => ∃ k : Nat, i = .int .i64 k ∧ k ≤ 32 ∧ Blk V ib 60 (ida (idAt st.bytes k)) ∧ Fr (fun j => j = ib) W1 V) (fun i _ => 32 - (intOf i).toNat)
    case atStart => exact ⟨0, rfl, by omega, hi1, Fr.refl _ _⟩
    case round =>
      obtain ⟨k, rfl, hk, hL, hF⟩ := hrel
      clear hi1
      by_cases h32 : k < 32
      · obtain ⟨a, b, hka, ha, hb⟩ : ∃ a b : Nat, k = 4 * a + b ∧ a < 8 ∧ b < 4 := ⟨k / 4, k % 4, by omega, by omega, by omega⟩
        have hq : ((k : Int) / 4) = (a : Int) := by omega
        have hm : ((k : Int) % 4) = (b : Int) := by omega
        have hsg := wa_cell (hs1.fr hF (by omega)) (j := a) (by simp [lst]; omega)
        have hget := HG.out a b ha hb
        rw [← hka] at hget
        generalize (lst st).getD a 0 = x at *
        have hst := ida_set hL k (wbyte x b)
        rw [idAt_set _ _ _ HBL.out hget] at hst
        have hft := hF.then_set (p := ⟨ib, k, none⟩) rfl (bv (wbyte x b))
        have hc := ida_cell hL (j := k) (by rw [idAt_length _ _ HBL.out hk]; exact h32)
        have hfz := hL.frozen k
        have HN := Lib.hid (show Blk (wr.setCell ⟨ib, k, none⟩ (bv (wbyte x b))) ib 60 (ida (idAt st.bytes (k + 1))) ∧ Fr (fun j => j = ib) W1 (wr.setCell ⟨ib, k, none⟩ (bv (wbyte x b))) from ⟨hst, hft⟩)
        clear hst hft hL hF hs1 hget hka
        obtain rfl | rfl | rfl | rfl : b = 0 ∨ b = 1 ∨ b = 2 ∨ b = 3 := by omega
        all_goals
          clear hb
          gi_wp2_with fail
          refine ⟨⟨k + 1, by rfl, by omega, ?_⟩, ?_⟩
          · first | rw [wb0] | rw [wb1] | rw [wb2] | rw [wb3]
            exact HN.out
          · change 32 - (intOf (.int .i64 ((k : Int) + 1))).toNat < 32 - (intOf (.int .i64 k)).toNat
            simp [intOf]
            omega
      · obtain rfl : k = 32 := by omega
        clear h32 hk
        have hid : idAt st.bytes 32 = st.bytes := by unfold idAt; simp [Sha.St.bytes, Sha.wordB]
        rw [hid] at hL
        have hrF := hr1.fr hF (by omega)
        gi_wp2_with (first
          | (refine x_value_in (exec_load (T := 60) (X := ida st.bytes) (g := ib) (off := 0) rfl rfl underID rfl hii (hz1.trans rfl) hL.at') (fun _ h => by cases h) (fun _ h => by cases h) (by simp [go_sem, Region.wanted]) ?_)
          | (refine x_skip_in (exec_store_all (T := 60) (X := ida st.bytes) (g := w.heap.size) (cs := ida z32) rfl rfl rfl hii (hz1.trans rfl) (ida_one _) hrF rfl) (fun _ h => by cases h) (fun _ h => by cases h) rfl ?_))
        have hd3 : (wr.setRow w.heap.size (ida st.bytes)).heap[D]? = some (.deferred (some [])) :=
          (((Fr.refl (fun k => k = w.heap.size) wr).setRow (g := w.heap.size) rfl (ida st.bytes)).block D (Nat.lt_of_lt_of_le (Array.getElem?_eq_some_iff.1 hd1).1 hF.size) (by have := HSZ.out; omega)).trans
            ((hF.block D (Array.getElem?_eq_some_iff.1 hd1).1 (by omega)).trans hd1)
        have hr3 := hrF.setRow (ida st.bytes)
        have hN3 : New w (wr.setRow w.heap.size (ida st.bytes)) := ((hN1.trans hF (fun j hj => .inr (by omega))).trans ((Fr.refl (fun k => k = w.heap.size) wr).setRow (g := w.heap.size) rfl (ida st.bytes)) (fun j hj => .inr (by omega)))
        refine ⟨by simp, .inl ⟨_, _, rfl, run_takeDeferred hd3, ?_⟩⟩
        refine ⟨_, x_results rfl rfl rfl (hr3.fr (Fr.putObj (S := fun j => j = D) _ rfl _) (by have := HSZ.out; omega)), ⟨?_, (hN3.trans (Fr.putObj (S := fun j => j = D) _ rfl _) (fun j hj => .inr (by have := HSZ.out; omega)))⟩⟩
        rw [HSUM.out]
end Go.Proofs.Ytefalfalapnllaa
