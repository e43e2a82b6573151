/- OnceKeys, walked. -/
import Derived.Test.YtepmlmfacpbhkaaRR3P
import Derived.Test.YtepmlmfacpbhkaaROnceTellsP
namespace Go.Proofs.YtepmlmfacpbhkaaR
open Go.RowKit Go.Shelf
set_option linter.unusedVariables false
attribute [local irreducible] opGhost
set_option maxHeartbeats 4000000 in
set_option maxRecDepth 20000 in
theorem onceKeys_walk (seed : List UInt8) (num : Int) (w : World) (hx : seed.length = 32) :
    Calls Try.prog 8 #[.agg (ida seed), .int .i64 num] w fun e w' => e = .returned (.bool true) ∧ Below w.heap.size w w' := by
  obtain ⟨ii, hii, hz0, hz1, hz2⟩ := info_parts infoID
  have HX := Lib.hid hx
  have HXI := Lib.hid (show 32 = (ida seed).size by rw [ida_size, hx])
  clear hx
  go_enter Try.func8, Try.ntmps8
  go_wp2_with (first
    | (refine x_value (exec_box (T := 32) rfl rfl) (by simp [go_sem, Region.wanted]) ?_))
  have hS1 := Blk.new w 32 (ida seed)
  have hN1 : New w (w.alloc (.cells (ida seed) 32)) := Fr.alloc _ w _
  generalize w.alloc (.cells (ida seed) 32) = W1 at *
  refine (signs_any W1).mono ?_
  rintro e w2 ⟨rfl, hN2⟩
  have hS2 := hS1.fr hN2 id
  have HN3 := Lib.hid (hN1.trans hN2 fun _ h => h.elim)
  clear hS1 hN1 hN2
  obtain ⟨p, hp⟩ : ∃ p, p = Once.pub seed num := ⟨_, rfl⟩
  have HPL := Lib.hid (show p.length = 32 by rw [hp]; rfl)
  have HP := Lib.hid hp.symm
  clear hp
  go_upto_region 3 with fail
  have h0S : SeedS w2 w.heap.size seed (Array.replicate 9 false) w2.drew := ⟨hS2.fr (Fr.drew (fun _ => False) w2) id, Fr.drew _ w2⟩
  refine wp_region_all (by kernel_rfl) (by kernel_rfl) [.agg (ida seed), .int .i64 num, .agg (keyC seed num), .agg (ida p), .agg (ida seed), .int .i64 num, .agg (ida p), .bool true, .bool true]
    (by kernel_rfl) (SeedS w2 w.heap.size seed) _ (by simp [putAll, Act.put]; rfl) h0S ?hops ?after
  case hops =>
    refine ⟨?_, ?_, ?_, ?_, ?_, ?_, ?_, ?_, ?_, trivial⟩
    all_goals
      rintro L W' hs hd hn HS
      refine held_plain rfl ?_
      have H2 : ∀ L', SeedS w2 w.heap.size seed L' W' := fun L' => HS
      clear hs hd hn
    · exact held_value (exec_load (T := 32) (X := ida seed) (g := w.heap.size) (off := 0) rfl rfl underID rfl hii (hz1.trans HXI.out) HS.1.at') HS
    · unfold opHeld
      go_simp
    · exact held_value (exec_build_key (seed := seed) (num := num) rfl rfl rfl HX.out) HS
    · have hc := public_any W' seed num HX.out
      rw [HP.out] at hc
      unfold opHeld
      go_simp
      exact (show CallsIn Fence.wide 0 _ _ _ _ _ from (callsIn_wide.2 hc).mono fun e w'' ⟨he, hw⟩ => ⟨he, HS.new hw⟩)
    · exact held_value (exec_load (T := 32) (X := ida seed) (g := w.heap.size) (off := 0) rfl rfl underID rfl hii (hz1.trans HXI.out) HS.1.at') HS
    · unfold opHeld
      go_simp
    · have hc := r3public_any W' seed num HX.out
      rw [HP.out] at hc
      unfold opHeld
      go_simp
      exact (show CallsIn Fence.wide 0 _ _ _ _ _ from (callsIn_wide.2 hc).mono fun e w'' ⟨he, hw⟩ => ⟨he, HS.new hw⟩)
    · exact held_value (exec_eql_same rfl rfl rfl HPL.out) HS
    · unfold opHeld
      go_simp
  case after =>
    rintro L W' hs hal HS
    have HN := Lib.hid (HN3.out.trans HS.2 fun _ h => h.elim)
    clear HS hal hs h0S
    go_wp2_with fail
    go_ret
    exact ⟨rfl, once_below HN.out⟩
end Go.Proofs.YtepmlmfacpbhkaaR
