/- The contract of the document's Public. -/
import Derived.Test.YtepmlmfacpbhkaaRR3A
import Derived.Test.YtepmlmfacpbhkaaROnceD
namespace Go.Proofs.YtepmlmfacpbhkaaR
open Go.RowKit Go.Shelf
set_option linter.unusedVariables false
attribute [local go_sem] ba_append
/-- the seed lies, all else is new -/
def SeedS (w0 : World) (kb : Nat) (seed : List UInt8) (L : Array Bool) (W : World) : Prop := Blk W kb 32 (ida seed) ∧ New w0 W
theorem SeedS.new {w0 : World} {kb : Nat} {seed : List UInt8} {L L' : Array Bool} {W W' : World} (h : SeedS w0 kb seed L W) (f : New W W') : SeedS w0 kb seed L' W' := ⟨h.1.fr f id, h.2.trans f fun _ h => h.elim⟩
theorem flat2_succ (h : Nat → Nat → List UInt8) (n : Nat) : Once.flat2 h (n + 1) = Once.flat2 h n ++ (h n 0 ++ h n 1) := by
  unfold Once.flat2
  rw [List.range_succ, List.flatMap_append]
  simp
attribute [local irreducible] opGhost
set_option maxHeartbeats 4000000 in
set_option maxRecDepth 20000 in
theorem r3public_any (w : World) (seed : List UInt8) (num : Int) (hx : seed.length = 32) :
    Calls Try.prog 33 #[.agg (ida seed), .int .i64 num] w fun e w' => e = .returned (.agg (ida (Once.pub seed num))) ∧ New w w' := by
  obtain ⟨ii, hii, hz0, hz1, hz2⟩ := info_parts infoID
  have hb1 := (Blk.new w 32 (ida seed)).alloc (.cells (ida z32) 32)
  have hr1 := Blk.new (w.alloc (.cells (ida seed) 32)) 32 (ida z32)
  have hN1 : New w ((w.alloc (.cells (ida seed) 32)).alloc (.cells (ida z32) 32)) := (Fr.alloc _ w _).then_alloc _
  rw [World.size_alloc] at hr1
  have HX := Lib.hid hx
  have HXI := Lib.hid (show 32 = (ida seed).size by rw [ida_size, hx])
  obtain ⟨h, hh⟩ : ∃ h : Nat → Nat → List UInt8, h = fun i s => Once.hide (Once.secret seed num i s) := ⟨_, rfl⟩
  have HPP := Lib.hid (show Once.pub seed num = Once.sumFor Once.pPublic [Once.flat2 h 64] by rw [hh]; rfl)
  have HFL := Lib.hid (show ∀ n, (Once.flat2 h n).length = 64 * n from fun n => Once.flat2_length (fun i s => by rw [hh]; rfl) n)
  have HSU := Lib.hid (show ∀ k, Once.flat2 h (k + 1) = Once.flat2 h k ++ (Once.hide (Once.secret seed num k 0) ++ Once.hide (Once.secret seed num k 1)) from fun k => by rw [flat2_succ, hh])
  have h0 : Once.flat2 h 0 = [] := rfl
  have HF0 := Lib.hid h0
  clear hx hh h0
  go_enter Try.func33, Try.ntmps33
  have HB1 := Lib.hid hb1
  have HR1 := Lib.hid hr1
  have HN1 := Lib.hid hN1
  clear hb1 hr1 hN1
  go_wp2_with (first
    | (refine x_value (exec_box (T := 32) rfl rfl) (by simp [go_sem, Region.wanted, yielded]) ?_)
    | (refine x_value (x_alloc (T := 32) rfl hii hz0) (by simp [go_sem, Region.wanted, yielded]) ?_))
  have hb1 := HB1.out
  have hr1 := HR1.out
  have hN1 := HN1.out
  clear HB1 HR1 HN1
  generalize (w.alloc (.cells (ida seed) 32)).alloc (.cells (ida z32) 32) = W2 at *
  go_loopw [5, 6] (fun s n W => ∃ k : Nat, s = .string ⟨(Once.flat2 h k).toArray⟩ ∧ n = .int .i64 k ∧ k ≤ 64 ∧ New W2 W) (fun _ n _ => 64 - (intOf n).toNat)
  case atStart => exact ⟨0, by rw [HF0.out], rfl, by omega, Fr.refl _ _⟩
  case round =>
    obtain ⟨k, rfl, rfl, hk, hN⟩ := hrel
    by_cases hlt : k < 64
    · have hlt' : (k : Int) < 64 := by omega
      obtain ⟨T0, hT0⟩ : ∃ T0, T0 = Once.flat2 h k := ⟨_, rfl⟩
      have hTl : T0.length = 64 * k := by rw [hT0]; exact HFL.out k
      have hsu : T0 ++ (Once.hide (Once.secret seed num k 0) ++ Once.hide (Once.secret seed num k 1)) = Once.flat2 h (k + 1) := by rw [hT0]; exact (HSU.out k).symm
      have HS2 := Lib.hid hsu
      rw [← hT0]
      have hl0 : (Once.hide (Once.secret seed num k 0)).length = 32 := rfl
      have hl1 : (Once.hide (Once.secret seed num k 1)).length = 32 := rfl
      have hn1 : ¬ 9223372036854775807 < (Once.hide (Once.secret seed num k 0)).length + (Once.hide (Once.secret seed num k 1)).length := by rw [hl0, hl1]; decide
      have hn2 : ¬ 9223372036854775807 < T0.length + ((Once.hide (Once.secret seed num k 0)).length + (Once.hide (Once.secret seed num k 1)).length) := by rw [hl0, hl1, hTl]; omega
      clear hT0 hTl hsu hl0 hl1
      go_upto_region 5 with fail
      have h0S : SeedS W2 w.heap.size seed (Array.replicate 16 false) wr.drew := ⟨hb1.fr (hN.then_drew) id, hN.then_drew⟩
      refine wp_region_lastK (by kernel_rfl) 15 (by kernel_rfl) [.string ⟨T0.toArray⟩, .agg (ida seed), .int .i64 num, .int .i64 (k : Int), .agg (ida (Once.secret seed num k 0)), .agg (ida (Once.hide (Once.secret seed num k 0))), .string ⟨(Once.hide (Once.secret seed num k 0)).toArray⟩, .agg (ida seed), .int .i64 num, .int .i64 (k : Int), .agg (ida (Once.secret seed num k 1)), .agg (ida (Once.hide (Once.secret seed num k 1))), .string ⟨(Once.hide (Once.secret seed num k 1)).toArray⟩, .string ⟨(Once.hide (Once.secret seed num k 0) ++ Once.hide (Once.secret seed num k 1)).toArray⟩, .string ⟨(T0 ++ (Once.hide (Once.secret seed num k 0) ++ Once.hide (Once.secret seed num k 1))).toArray⟩]
        rfl (by kernel_rfl) (SeedS W2 w.heap.size seed) _ (by simp [putAll, Act.put]; rfl) h0S ?hops ?last
      case hops =>
        refine ⟨?_, ?_, ?_, ?_, ?_, ?_, ?_, ?_, ?_, ?_, ?_, ?_, ?_, ?_, ?_, trivial⟩
        all_goals
          rintro L W' hs hd hn HS
          refine held_plain rfl ?_
          have H2 : ∀ L', SeedS W2 w.heap.size seed L' W' := fun L' => HS
          clear hs hd hn
        · unfold opHeld
          go_simp
        · exact held_value (exec_load (T := 32) (X := ida seed) (g := w.heap.size) (off := 0) rfl rfl underID rfl hii (hz1.trans HXI.out) HS.1.at') HS
        · unfold opHeld
          go_simp
        · unfold opHeld
          go_simp
        · unfold opHeld
          go_simp
          exact (show CallsIn Fence.wide 0 _ _ _ _ _ from (callsIn_wide.2 (r3secret_any W' seed num k 0 HX.out (by omega) (by decide))).mono fun e w'' ⟨he, hw⟩ => ⟨he, HS.new hw⟩)
        · unfold opHeld
          go_simp
          exact (show CallsIn Fence.wide 0 _ _ _ _ _ from (callsIn_wide.2 (r3hide_any W' _ rfl)).mono fun e w'' ⟨he, hw⟩ => ⟨he, HS.new hw⟩)
        · unfold opHeld
          go_simp
          exact (show CallsIn Fence.wide 0 _ _ _ _ _ from (callsIn_wide.2 (text_any W' _ rfl)).mono fun e w'' ⟨he, hw⟩ => ⟨he, HS.new hw⟩)
        · exact held_value (exec_load (T := 32) (X := ida seed) (g := w.heap.size) (off := 0) rfl rfl underID rfl hii (hz1.trans HXI.out) HS.1.at') HS
        · unfold opHeld
          go_simp
        · unfold opHeld
          go_simp
        · unfold opHeld
          go_simp
          exact (show CallsIn Fence.wide 0 _ _ _ _ _ from (callsIn_wide.2 (r3secret_any W' seed num k 1 HX.out (by omega) (by decide))).mono fun e w'' ⟨he, hw⟩ => ⟨he, HS.new hw⟩)
        · unfold opHeld
          go_simp
          exact (show CallsIn Fence.wide 0 _ _ _ _ _ from (callsIn_wide.2 (r3hide_any W' _ rfl)).mono fun e w'' ⟨he, hw⟩ => ⟨he, HS.new hw⟩)
        · unfold opHeld
          go_simp
          exact (show CallsIn Fence.wide 0 _ _ _ _ _ from (callsIn_wide.2 (text_any W' _ rfl)).mono fun e w'' ⟨he, hw⟩ => ⟨he, HS.new hw⟩)
        · unfold opHeld
          go_simp
        · unfold opHeld
          go_simp
      case last =>
        rintro o ho L W' hs hal HS
        have HN := Lib.hid HS.2
        clear HS hal hs h0S hN
        simp at ho
        subst ho
        unfold opGhost
        go_simp
        go_wp2_with fail
        refine ⟨⟨k + 1, by rw [HS2.out], by go_num, by omega, HN.out⟩, ?_⟩
        simp only [intOf]
        omega
    · obtain rfl : k = 64 := by omega
      have hfor := r1for_any (wr.alloc (.cells #[.string ⟨(Once.flat2 h 64).toArray⟩] 9)) Once.pPublic (some ⟨wr.heap.size, 0, none⟩) 1 [Once.flat2 h 64] (lit_rd wr (tv [Once.flat2 h 64]) 9) (by simp [Once.forB, Once.len4, Once.pPublic, HFL.out])
      rw [← HPP.out] at hfor
      have HF := Lib.hid hfor
      have HR := Lib.hid ((hr1.fr hN id).alloc (.cells #[.string ⟨(Once.flat2 h 64).toArray⟩] 9))
      have HN := Lib.hid ((hN1.trans hN fun _ h => h.elim).then_alloc (.cells #[.string ⟨(Once.flat2 h 64).toArray⟩] 9))
      have HS := Lib.hid (show (Once.pub seed num).length = 32 from rfl)
      have HIS := Lib.hid (show 32 = (ida (Once.pub seed num)).size by rw [ida_size]; exact HS.out.symm)
      have HZS := Lib.hid (show (ida z32).size = (ida (Once.pub seed num)).size by rw [ida_size, ida_size]; exact HS.out.symm)
      clear hfor hN hN1 hr1 hb1 hlt hk
      generalize hS : Once.pub seed num = S at *
      have HE := Lib.hid hS
      clear hS
      generalize Once.flat2 h 64 = T at *
      go_wp2_with fail
      refine Calls.mono (show Calls Try.prog 51 #[.string ⟨Once.pPublic.toArray⟩, .slice (some ⟨wr.heap.size, 0, none⟩) 1 1] (wr.alloc (.cells #[.string ⟨T.toArray⟩] 9)) _ from HF.out) ?_
      rintro e w4 ⟨rfl, hN4⟩
      have hr4 := HR.out.fr hN4 id
      clear HF
      go_wp2_with (refine x_skip (exec_store_all (T := 32) (X := ida S) (g := w.heap.size + 1) (cs := ida z32) rfl rfl rfl hii (hz1.trans HIS.out) (ida_one _) hr4 HZS.out) rfl ?_)
      refine bodyPost_ret (x_results rfl HS.out rfl (hr4.setRow _)) rfl ⟨by rw [HE.out], ?_⟩
      exact ((HN.out.trans hN4 fun _ h => h.elim).trans ((Fr.refl (fun k => k = w.heap.size + 1) w4).setRow (g := w.heap.size + 1) rfl _) (fun j hj => .inr (by omega)))
end Go.Proofs.YtepmlmfacpbhkaaR
