/- OnceTells, walked. -/
import Derived.Test.YtepmlmfacpbhkaaROnceTellsP
namespace Go.Proofs.YtepmlmfacpbhkaaR
open Go.RowKit Go.Shelf
set_option linter.unusedVariables false

attribute [local irreducible] opGhost
set_option maxHeartbeats 8000000 in
set_option maxRecDepth 20000 in
theorem onceTells_walk (seed : List UInt8) (A1 : Option Addr) (c1 : Nat) (a : List UInt8) (A2 : Option Addr) (c2 : Nat) (b : List UInt8) (w : World) (hx : seed.length = 32) (hR1 : Rd w A1 (a.map bv)) (hl1 : a.length ≤ 140737488351232) (hR2 : Rd w A2 (b.map bv)) (hl2 : b.length ≤ 140737488351232) :
    Calls Try.prog 13 #[.agg (ida seed), .slice A1 a.length c1, .slice A2 b.length c2] w fun e w' => e = .returned (.bool true) ∧ Below w.heap.size w w' := by
  obtain ⟨ii, hii, hz0, hz1, hz2⟩ := info_parts infoID
  obtain ⟨ik, hik, hk0, hk1, hk2⟩ := info_parts infoK
  obtain ⟨ig, hig, hg0, hg1, hg2⟩ := info_parts infoSig
  obtain ⟨fs, hfs⟩ := underK
  obtain ⟨gs, hgs⟩ := underSig
  have HX := Lib.hid hx
  have HXI := Lib.hid (show 32 = (ida seed).size by rw [ida_size, hx])
  have HR1 := Lib.hid hR1
  have HR2 := Lib.hid hR2
  have HL1 := Lib.hid (show a.length < 1000000000000000000 by omega)
  have HL2 := Lib.hid (show b.length < 1000000000000000000 by omega)
  have HKS := Lib.hid (keyC_size seed 1 hx)
  have HKZ := Lib.hid (show (keyC z32 0).size = (keyC seed 1).size by rw [keyC_size _ _ hx]; rfl)
  clear hx hR1 hR2 hl1 hl2
  go_enter Try.func13, Try.ntmps13
  go_wp2_with (first
    | (refine x_value (exec_box (T := 32) rfl rfl) (by simp [go_sem, Region.wanted]) ?_))
  have hS1 := Blk.new w 32 (ida seed)
  have hN1 : New w (w.alloc (.cells (ida seed) 32)) := Fr.alloc _ w _
  generalize w.alloc (.cells (ida seed) 32) = W1 at *
  refine (signs_any W1).mono ?_
  rintro e w2 ⟨rfl, hN2⟩
  have hS2 := (hS1.fr hN2 id).at'
  have hN3 := hN1.trans hN2 fun _ h => h.elim
  have HK3 := Lib.hid (Blk.new w2 62 (keyC seed 1))
  have HN3 := Lib.hid (hN3.then_alloc (.cells (keyC seed 1) 62))
  clear hS1 hN1 hN2 hN3
  go_wp2_with (first
    | (refine x_value (exec_load (T := 32) (X := ida seed) (g := w.heap.size) (off := 0) rfl rfl underID rfl hii (hz1.trans HXI.out) hS2) (by simp [go_sem, Region.wanted]) ?_)
    | (refine x_value (exec_build_key (seed := seed) (num := 1) rfl rfl rfl HX.out) (by simp [go_sem, Region.wanted]) ?_)
    | (refine x_value (x_alloc (T := 62) rfl hik hk0) (by simp [go_sem, Region.wanted]) ?_)
    | (refine x_skip (exec_store_new (T := 62) (X := keyC seed 1) (Z := keyC z32 0) rfl rfl rfl rfl hik (hk1.trans HKS.out.symm) (key_one _ _) HKZ.out) rfl ?_))
  have hK3 := HK3.out
  have hN3 := HN3.out
  clear HK3 HN3 hS2
  generalize hkb : w2.heap.size = kb at *
  have hkl : kb < (w2.alloc (.cells (keyC seed 1) 62)).heap.size := by rw [World.size_alloc]; omega
  clear hkb
  generalize w2.alloc (.cells (keyC seed 1) 62) = W3 at *
  obtain ⟨S1, hS1⟩ : ∃ S, S = sigL (Once.shown seed 1 a) (Once.other seed 1 a) := ⟨_, rfl⟩
  obtain ⟨S2, hS2⟩ : ∃ S, S = sigL (Once.shown seed 1 b) (Once.other seed 1 b) := ⟨_, rfl⟩
  have HSL1 := Lib.hid (show S1.length = 4096 by rw [hS1]; exact sigL_length (fun _ => rfl) (fun _ => rfl))
  have HSL2 := Lib.hid (show S2.length = 4096 by rw [hS2]; exact sigL_length (fun _ => rfl) (fun _ => rfl))
  have HS1 := Lib.hid hS1.symm
  have HS2 := Lib.hid hS2.symm
  clear hS1 hS2
  conv => arg 3; simp [Act.put, go_sem]
  have h0S : tellS W3 kb (keyC seed 1) S1 S2 (Array.replicate 10 false) ⟨0, 0⟩ W3.drew := ⟨⟨hK3, Fr.drew _ W3, hkl⟩, ⟨fun h => by simp at h, fun h => by simp at h⟩, fun h => by simp at h, fun h => by simp at h, fun h => by simp at h⟩
  have HN3 := Lib.hid hN3
  have HI1 := Lib.hid (show 4096 = (ida S1).size by rw [ida_size]; exact HSL1.out.symm)
  have HI2 := Lib.hid (show 4096 = (ida S2).size by rw [ida_size]; exact HSL2.out.symm)
  have HZ := Lib.hid (show (ida z4k).size = 4096 by rw [ida_size]; exact List.length_replicate ..)
  clear hK3 hN3 hkl
  refine wp_region_ghost (by kernel_rfl) (by kernel_rfl) (tellV (keyC seed 1) A1 A2 a.length b.length c1 c2 S1 S2) (fun _ => rfl) (by kernel_rfl) (tellS W3 kb (keyC seed 1) S1 S2) ⟨0, 0⟩ h0S _ (by funext g; simp [tellV, putAll, Act.put]; rfl) ?hops ?after
  case hops =>
    refine ⟨?_, ?_, ?_, ?_, ?_, ?_, ?_, ?_, ?_, ?_, trivial⟩
    all_goals
      intro g L W' hz hd hn HS
      refine held_plain rfl ?_
    · exact ghost_value (exec_load (T := 62) (X := keyC seed 1) (g := kb) (off := 0) rfl rfl hfs rfl hik (hk1.trans HKS.out.symm) HS.1.1.at') (ghost_keep (vs := tellV (keyC seed 1) A1 A2 a.length b.length c1 c2 S1 S2) (S := tellS W3 kb (keyC seed 1) S1 S2) (g := g) (i := 0) rfl (HS.list 0 (by decide) (by decide) (by decide) (by decide)))
    · have H2 := ghost_keep (vs := tellV (keyC seed 1) A1 A2 a.length b.length c1 c2 S1 S2) (S := tellS W3 kb (keyC seed 1) S1 S2) (g := g) (i := 1) rfl (HS.list 1 (by decide) (by decide) (by decide) (by decide))
      clear hd hn hz HS
      unfold opGhost
      go_simp
    · have hc := sign_any W' seed 1 HX.out A1 c1 a (HR1.out.fr (HN3.out.trans HS.1.2.1 fun _ h => h.elim) (fun _ _ => id)) HL1.out
      rw [HS1.out] at hc
      clear hd hn hz
      unfold opGhost
      go_simp
      exact (show CallsIn Fence.wide 0 _ _ _ _ _ from (callsIn_wide.2 hc).mono fun e w'' ⟨he, hw⟩ => ⟨_, he, ghost_keep (vs := tellV (keyC seed 1) A1 A2 a.length b.length c1 c2 S1 S2) (S := tellS W3 kb (keyC seed 1) S1 S2) (g := g) (i := 2) rfl ((HS.new hw).list 2 (by decide) (by decide) (by decide) (by decide))⟩)
    · exact ghost_value (exec_load (T := 62) (X := keyC seed 1) (g := kb) (off := 0) rfl rfl hfs rfl hik (hk1.trans HKS.out.symm) HS.1.1.at') (ghost_keep (vs := tellV (keyC seed 1) A1 A2 a.length b.length c1 c2 S1 S2) (S := tellS W3 kb (keyC seed 1) S1 S2) (g := g) (i := 3) rfl (HS.list 3 (by decide) (by decide) (by decide) (by decide)))
    · have H2 := ghost_keep (vs := tellV (keyC seed 1) A1 A2 a.length b.length c1 c2 S1 S2) (S := tellS W3 kb (keyC seed 1) S1 S2) (g := g) (i := 4) rfl (HS.list 4 (by decide) (by decide) (by decide) (by decide))
      clear hd hn hz HS
      unfold opGhost
      go_simp
    · have hc := sign_any W' seed 1 HX.out A2 c2 b (HR2.out.fr (HN3.out.trans HS.1.2.1 fun _ h => h.elim) (fun _ _ => id)) HL2.out
      rw [HS2.out] at hc
      clear hd hn hz
      unfold opGhost
      go_simp
      exact (show CallsIn Fence.wide 0 _ _ _ _ _ from (callsIn_wide.2 hc).mono fun e w'' ⟨he, hw⟩ => ⟨_, he, ghost_keep (vs := tellV (keyC seed 1) A1 A2 a.length b.length c1 c2 S1 S2) (S := tellS W3 kb (keyC seed 1) S1 S2) (g := g) (i := 5) rfl ((HS.new hw).list 5 (by decide) (by decide) (by decide) (by decide))⟩)
    · exact ghost_value (x_alloc (T := 69) rfl hig hg0) ⟨⟨W'.heap.size, g.b⟩, rfl, HS.a hz (getD_no (by rw [hz]; decide) hn)⟩
    · exact ghost_value (x_alloc (T := 69) rfl hig hg0) ⟨⟨g.a, W'.heap.size⟩, rfl, HS.b hz (getD_no (by rw [hz]; decide) hn)⟩
    · have h6 : L.getD 6 false = true := hd ⟨6, .data⟩ (by simp) rfl
      have h8 : L.getD 8 false = false := getD_no (by rw [hz]; decide) hn
      have hB := (HS.2.2.1 h6).2
      rw [h8, if_neg (by decide)] at hB
      exact ghost_skip (exec_store_all (T := 69) (X := ida S1) (g := g.a) (cs := ida z4k) rfl rfl rfl hig (hg1.trans HI1.out) (ida_one _) hB (HZ.out.trans HI1.out)) (ghost_keep (vs := tellV (keyC seed 1) A1 A2 a.length b.length c1 c2 S1 S2) (S := tellS W3 kb (keyC seed 1) S1 S2) (g := g) (i := 8) rfl (HS.c hz h6))
    · have h7 : L.getD 7 false = true := hd ⟨7, .data⟩ (by simp) rfl
      have h9 : L.getD 9 false = false := getD_no (by rw [hz]; decide) hn
      have hB := (HS.2.2.2.1 h7).2
      rw [h9, if_neg (by decide)] at hB
      exact ghost_skip (exec_store_all (T := 69) (X := ida S2) (g := g.b) (cs := ida z4k) rfl rfl rfl hig (hg1.trans HI2.out) (ida_one _) hB (HZ.out.trans HI2.out)) (ghost_keep (vs := tellV (keyC seed 1) A1 A2 a.length b.length c1 c2 S1 S2) (S := tellS W3 kb (keyC seed 1) S1 S2) (g := g) (i := 9) rfl (HS.d hz h7))
  case after =>
    intro g L W4 hz hal HS
    have hall : ∀ i, i < 10 → L.getD i false = true := fun i hi => by
      have := hal i
      rw [Array.getD_eq_getD_getElem?] at this ⊢
      rw [Array.getElem?_eq_getElem (by rw [hz]; exact hi)] at this ⊢
      exact this
    have hB1 := (HS.2.2.1 (hall 6 (by decide))).2
    have hB2 := (HS.2.2.2.1 (hall 7 (by decide))).2
    rw [hall 8 (by decide), if_pos rfl] at hB1
    rw [hall 9 (by decide), if_pos rfl] at hB2
    have hN4 := HN3.out.trans HS.1.2.1 fun _ h => h.elim
    clear HS hal hall hz
    obtain ⟨ga, gb⟩ := g
    change Blk W4 ga _ _ at hB1
    change Blk W4 gb _ _ at hB2
    have HB1 := Lib.hid hB1
    have HB2 := Lib.hid hB2
    have HN4 := Lib.hid hN4
    clear hB1 hB2 hN4
    go_wp2_with fail
    have hc := forged_any W4 A1 A2 c1 c2 a b (HR1.out.fr HN4.out (fun _ _ => id)) (HR2.out.fr HN4.out (fun _ _ => id)) HL1.out HL2.out
    refine hc.mono ?_
    clear hc
    rintro e W5 ⟨rfl, hN5⟩
    have HN5 := Lib.hid (HN4.out.trans hN5 fun _ h => h.elim)
    have hT : TwoS W5 ga gb S1 S2 #[] W5 := ⟨HB1.out.fr hN5 id, HB2.out.fr hN5 id, Fr.refl _ _⟩
    clear hN5 HB1 HB2 HN4
    cases hfb : firstBit (Once.side a) (Once.side b) with
    | none =>
      have hs := sig_same seed 1 a b (firstBit_none hfb)
      rw [HS1.out, HS2.out] at hs
      subst hs
      clear hfb
      have HT := Lib.hid hT
      clear hT
      have hL1 := HT.out.1.at'
      have hL2 := HT.out.2.1.at'
      simp only [forgedV]
      go_wp2_with (first
        | (refine x_value (exec_load (T := 69) (X := ida S1) (g := ga) (off := 0) rfl rfl hgs rfl hig (hg1.trans HI1.out) hL1) (by simp [go_sem, Region.wanted]) ?_)
        | (refine x_value (exec_load (T := 69) (X := ida S1) (g := gb) (off := 0) rfl rfl hgs rfl hig (hg1.trans HI1.out) hL2) (by simp [go_sem, Region.wanted]) ?_)
        | (refine x_value (exec_eql_sig rfl rfl rfl HSL1.out) (by simp [go_sem, Region.wanted]) ?_))
      go_ret
      exact ⟨rfl, once_below HN5.out⟩
    | some k =>
      obtain ⟨hk, hsame, hdif⟩ := firstBit_some hfb
      clear hfb
      simp only [forgedV]
      have HT := Lib.hid hT
      clear hT
      have hk0' : (0 : Int) ≤ (k : Int) := by omega
      have hk1' : (k : Int) < 64 := by omega
      have HP1 := Lib.hid (show Once.shows (Once.shown seed 1 a) (Once.other seed 1 a) a = Once.pub seed 1 from Once.shows_own _ _ _)
      have HP2 := Lib.hid (show Once.shows (Once.shown seed 1 b) (Once.other seed 1 b) b = Once.pub seed 1 from Once.shows_own _ _ _)
      have HG1 := Lib.hid (show ∀ i, i < 64 → (S1.drop (i * 32)).take 32 = Once.shown seed 1 a i from fun i hi => by rw [← HS1.out]; exact sigL_get1 (fun _ => rfl) i hi)
      have HG2 := Lib.hid (show ∀ i, i < 64 → (S1.drop (2048 + i * 32)).take 32 = Once.other seed 1 a i from fun i hi => by rw [← HS1.out]; exact sigL_get2 (fun _ => rfl) (fun _ => rfl) i hi)
      have HG3 := Lib.hid (show ∀ i, i < 64 → (S2.drop (i * 32)).take 32 = Once.shown seed 1 b i from fun i hi => by rw [← HS2.out]; exact sigL_get1 (fun _ => rfl) i hi)
      have HG4 := Lib.hid (show ∀ i, i < 64 → (S2.drop (2048 + i * 32)).take 32 = Once.other seed 1 b i from fun i hi => by rw [← HS2.out]; exact sigL_get2 (fun _ => rfl) (fun _ => rfl) i hi)
      have HSH := Lib.hid (show ∀ i, i < k → Once.shown seed 1 b i = Once.shown seed 1 a i from fun i hi => (shown_side seed 1 a b i (hsame i hi)).symm)
      have HOT := Lib.hid (show ∀ i, i < k → Once.other seed 1 b i = Once.other seed 1 a i from fun i hi => (other_side seed 1 a b i (hsame i hi)).symm)
      have HD1 := Lib.hid (hide_shown seed 1 a b k hdif)
      have HD2 := Lib.hid (hide_shown seed 1 b a k (Ne.symm hdif))
      have HSA := Lib.hid (show ∀ i, (Once.shown seed 1 a i).length = 32 from fun _ => rfl)
      have HOA := Lib.hid (show ∀ i, (Once.other seed 1 a i).length = 32 from fun _ => rfl)
      have HSB := Lib.hid (show ∀ i, (Once.shown seed 1 b i).length = 32 from fun _ => rfl)
      have HOB := Lib.hid (show ∀ i, (Once.other seed 1 b i).length = 32 from fun _ => rfl)
      have HPL := Lib.hid (show (Once.pub seed 1).length = 32 from rfl)
      clear hsame hdif
      generalize Once.pub seed 1 = p at *
      go_wp2_with fail
      go_loopw [12] (fun i V => ∃ n : Nat, i = .int .i64 n ∧ n ≤ k ∧ TwoS W5 ga gb S1 S2 #[] V) (fun i _ => k - (intOf i).toNat)
      case atStart => exact ⟨0, rfl, by omega, HT.out⟩
      case round =>
        obtain ⟨n, rfl, hn', hT⟩ := hrel
        clear HT
        by_cases hlt : n < k
        · have hltI : (n : Int) < (k : Int) := by omega
          have hn64 : (n : Int) < 64 := by omega
          have hg1 := HG1.out n (by omega)
          have hg2 := HG2.out n (by omega)
          have hg3 := HG3.out n (by omega)
          have hg4 := HG4.out n (by omega)
          rw [HSH.out n hlt] at hg3
          rw [HOT.out n hlt] at hg4
          have hxl := HSA.out n
          have hyl := HOA.out n
          have h0T : TwoS W5 ga gb S1 S2 (Array.replicate 20 false) wr.drew := hT.new (Fr.drew _ wr)
          clear hT
          generalize Once.shown seed 1 a n = x at *
          generalize Once.other seed 1 a n = y at *
          have HGA := Lib.hid hg1
          have HGB := Lib.hid hg2
          have HGC := Lib.hid hg3
          have HGD := Lib.hid hg4
          have HXL := Lib.hid hxl
          have HYL := Lib.hid hyl
          clear hg1 hg2 hg3 hg4 hxl hyl
          go_wp2_with fail
          refine wp_region_all (by kernel_rfl) (by kernel_rfl) [.int .i64 n, .pointer (some ⟨ga, 0, none⟩), .pointer (some ⟨ga, n * 32, none⟩), .agg (ida x), .int .i64 n, .pointer (some ⟨gb, 0, none⟩), .pointer (some ⟨gb, n * 32, none⟩), .agg (ida x), .bool false, .bool false, .int .i64 n, .pointer (some ⟨ga, 2048, none⟩), .pointer (some ⟨ga, 2048 + n * 32, none⟩), .agg (ida y), .int .i64 n, .pointer (some ⟨gb, 2048, none⟩), .pointer (some ⟨gb, 2048 + n * 32, none⟩), .agg (ida y), .bool false, .bool false]
            (by kernel_rfl) (TwoS W5 ga gb S1 S2) _ (by simp [putAll, Act.put]; rfl) h0T ?hops ?after
          case hops =>
            refine ⟨?_, ?_, ?_, ?_, ?_, ?_, ?_, ?_, ?_, ?_, ?_, ?_, ?_, ?_, ?_, ?_, ?_, ?_, ?_, ?_, trivial⟩
            all_goals
              rintro L W' hz hd hn HS
              refine ghost_want rfl ?_
            · have H2 := HS.list (L.setIfInBounds 0 true)
              clear HS hd hn hz h0T
              unfold opHeld
              go_simp <;> exact H2
            · have H2 := HS.list (L.setIfInBounds 1 true)
              clear HS hd hn hz h0T
              unfold opHeld
              go_simp <;> exact H2
            · have H2 := HS.list (L.setIfInBounds 2 true)
              clear HS hd hn hz h0T
              unfold opHeld
              go_simp <;> exact H2
            · exact held_value (exec_load (T := 32) (X := ida x) (g := ga) (off := n * 32) rfl rfl underID rfl hii (hz1.trans (by rw [ida_size]; exact HXL.out.symm)) (by have := at_off HS.1 (n * 32) 32 (by rw [HSL1.out]; omega); rwa [HGA.out] at this)) HS
            · have H2 := HS.list (L.setIfInBounds 4 true)
              clear HS hd hn hz h0T
              unfold opHeld
              go_simp <;> exact H2
            · have H2 := HS.list (L.setIfInBounds 5 true)
              clear HS hd hn hz h0T
              unfold opHeld
              go_simp <;> exact H2
            · have H2 := HS.list (L.setIfInBounds 6 true)
              clear HS hd hn hz h0T
              unfold opHeld
              go_simp <;> exact H2
            · exact held_value (exec_load (T := 32) (X := ida x) (g := gb) (off := n * 32) rfl rfl underID rfl hii (hz1.trans (by rw [ida_size]; exact HXL.out.symm)) (by have := at_off HS.2.1 (n * 32) 32 (by rw [HSL2.out]; omega); rwa [HGC.out] at this)) HS
            · exact held_value (exec_neq_same rfl rfl rfl HXL.out) HS
            · have H2 := HS.list (L.setIfInBounds 9 true)
              clear HS hd hn hz h0T
              unfold opHeld
              go_simp <;> exact H2
            · have H2 := HS.list (L.setIfInBounds 10 true)
              clear HS hd hn hz h0T
              unfold opHeld
              go_simp <;> exact H2
            · have H2 := HS.list (L.setIfInBounds 11 true)
              clear HS hd hn hz h0T
              unfold opHeld
              go_simp <;> exact H2
            · have H2 := HS.list (L.setIfInBounds 12 true)
              clear HS hd hn hz h0T
              unfold opHeld
              go_simp <;> exact H2
            · exact held_value (exec_load (T := 32) (X := ida y) (g := ga) (off := 2048 + n * 32) rfl rfl underID rfl hii (hz1.trans (by rw [ida_size]; exact HYL.out.symm)) (by have := at_off HS.1 (2048 + n * 32) 32 (by rw [HSL1.out]; omega); rwa [HGB.out] at this)) HS
            · have H2 := HS.list (L.setIfInBounds 14 true)
              clear HS hd hn hz h0T
              unfold opHeld
              go_simp <;> exact H2
            · have H2 := HS.list (L.setIfInBounds 15 true)
              clear HS hd hn hz h0T
              unfold opHeld
              go_simp <;> exact H2
            · have H2 := HS.list (L.setIfInBounds 16 true)
              clear HS hd hn hz h0T
              unfold opHeld
              go_simp <;> exact H2
            · exact held_value (exec_load (T := 32) (X := ida y) (g := gb) (off := 2048 + n * 32) rfl rfl underID rfl hii (hz1.trans (by rw [ida_size]; exact HYL.out.symm)) (by have := at_off HS.2.1 (2048 + n * 32) 32 (by rw [HSL2.out]; omega); rwa [HGD.out] at this)) HS
            · exact held_value (exec_neq_same rfl rfl rfl HYL.out) HS
            · have H2 := HS.list (L.setIfInBounds 19 true)
              clear HS hd hn hz h0T
              unfold opHeld
              go_simp <;> exact H2
          case after =>
            rintro L W' hz hal HS
            have HT := Lib.hid (HS.list #[])
            clear HS hz hal h0T
            go_wp2_with fail
            go_roundw
            case rel => exact ⟨n + 1, by go_num, by omega, HT.out⟩
            case measure => simp [intOf]; omega
        · obtain rfl : n = k := by omega
          have hg1 := HG1.out n (by omega)
          have hg2 := HG2.out n (by omega)
          have hg3 := HG3.out n (by omega)
          have hg4 := HG4.out n (by omega)
          have hd1 := HD1.out
          have hd2 := HD2.out
          have h0T : TwoS W5 ga gb S1 S2 (Array.replicate 32 false) wr.drew := hT.new (Fr.drew _ wr)
          clear hT
          have hxa := HSA.out n
          have hxb := HSB.out n
          have hya := HOA.out n
          have hyb := HOB.out n
          generalize Once.shown seed 1 a n = xa at *
          generalize Once.other seed 1 a n = ya at *
          generalize Once.shown seed 1 b n = xb at *
          generalize Once.other seed 1 b n = yb at *
          have HGA := Lib.hid hg1
          have HGB := Lib.hid hg2
          have HGC := Lib.hid hg3
          have HGD := Lib.hid hg4
          have HXA := Lib.hid hxa
          have HXB := Lib.hid hxb
          have HYA := Lib.hid hya
          have HYB := Lib.hid hyb
          have HE1 := Lib.hid hd1
          have HE2 := Lib.hid hd2
          clear hg1 hg2 hg3 hg4 hxa hxb hya hyb hd1 hd2
          go_wp2_with fail
          refine wp_region_all (by kernel_rfl) (by kernel_rfl) [.int .i64 n, .pointer (some ⟨gb, 0, none⟩), .pointer (some ⟨gb, n * 32, none⟩), .agg (ida xb), .agg (ida ya), .int .i64 n, .pointer (some ⟨ga, 2048, none⟩), .pointer (some ⟨ga, 2048 + n * 32, none⟩), .agg (ida ya), .bool true, .bool true, .int .i64 n, .pointer (some ⟨ga, 0, none⟩), .pointer (some ⟨ga, n * 32, none⟩), .agg (ida xa), .agg (ida yb), .int .i64 n, .pointer (some ⟨gb, 2048, none⟩), .pointer (some ⟨gb, 2048 + n * 32, none⟩), .agg (ida yb), .bool true, .bool true, .bool true, .agg (ida S2), .slice A2 b.length c2, .agg (ida p), .agg (ida S1), .slice A1 a.length c1, .agg (ida p), .bool true, .bool true, .bool true]
            (by kernel_rfl) (TwoS W5 ga gb S1 S2) _ (by simp [putAll, Act.put]; rfl) h0T ?hops ?after
          case hops =>
            refine ⟨?_, ?_, ?_, ?_, ?_, ?_, ?_, ?_, ?_, ?_, ?_, ?_, ?_, ?_, ?_, ?_, ?_, ?_, ?_, ?_, ?_, ?_, ?_, ?_, ?_, ?_, ?_, ?_, ?_, ?_, ?_, ?_, trivial⟩
            all_goals
              rintro L W' hz hd hn HS
              refine ghost_want rfl ?_
            · have H2 := HS.list (L.setIfInBounds 0 true)
              clear HS hd hn hz h0T
              unfold opHeld
              go_simp <;> exact H2
            · have H2 := HS.list (L.setIfInBounds 1 true)
              clear HS hd hn hz h0T
              unfold opHeld
              go_simp <;> exact H2
            · have H2 := HS.list (L.setIfInBounds 2 true)
              clear HS hd hn hz h0T
              unfold opHeld
              go_simp <;> exact H2
            · exact held_value (exec_load (T := 32) (X := ida xb) (g := gb) (off := n * 32) rfl rfl underID rfl hii (hz1.trans (by rw [ida_size]; exact HXB.out.symm)) (by have := at_off HS.2.1 (n * 32) 32 (by rw [HSL2.out]; omega); rwa [HGC.out] at this)) HS
            · have hc := hide_any W' xb HXB.out
              rw [HE1.out] at hc
              clear hd hn hz
              unfold opHeld
              go_simp
              exact (show CallsIn Fence.wide 0 _ _ _ _ _ from (callsIn_wide.2 hc).mono fun e w'' ⟨he, hw⟩ => ⟨he, HS.new hw⟩)
            · have H2 := HS.list (L.setIfInBounds 5 true)
              clear HS hd hn hz h0T
              unfold opHeld
              go_simp <;> exact H2
            · have H2 := HS.list (L.setIfInBounds 6 true)
              clear HS hd hn hz h0T
              unfold opHeld
              go_simp <;> exact H2
            · have H2 := HS.list (L.setIfInBounds 7 true)
              clear HS hd hn hz h0T
              unfold opHeld
              go_simp <;> exact H2
            · exact held_value (exec_load (T := 32) (X := ida ya) (g := ga) (off := 2048 + n * 32) rfl rfl underID rfl hii (hz1.trans (by rw [ida_size]; exact HYA.out.symm)) (by have := at_off HS.1 (2048 + n * 32) 32 (by rw [HSL1.out]; omega); rwa [HGB.out] at this)) HS
            · exact held_value (exec_eql_same rfl rfl rfl HYA.out) HS
            · have H2 := HS.list (L.setIfInBounds 10 true)
              clear HS hd hn hz h0T
              unfold opHeld
              go_simp <;> exact H2
            · have H2 := HS.list (L.setIfInBounds 11 true)
              clear HS hd hn hz h0T
              unfold opHeld
              go_simp <;> exact H2
            · have H2 := HS.list (L.setIfInBounds 12 true)
              clear HS hd hn hz h0T
              unfold opHeld
              go_simp <;> exact H2
            · have H2 := HS.list (L.setIfInBounds 13 true)
              clear HS hd hn hz h0T
              unfold opHeld
              go_simp <;> exact H2
            · exact held_value (exec_load (T := 32) (X := ida xa) (g := ga) (off := n * 32) rfl rfl underID rfl hii (hz1.trans (by rw [ida_size]; exact HXA.out.symm)) (by have := at_off HS.1 (n * 32) 32 (by rw [HSL1.out]; omega); rwa [HGA.out] at this)) HS
            · have hc := hide_any W' xa HXA.out
              rw [HE2.out] at hc
              clear hd hn hz
              unfold opHeld
              go_simp
              exact (show CallsIn Fence.wide 0 _ _ _ _ _ from (callsIn_wide.2 hc).mono fun e w'' ⟨he, hw⟩ => ⟨he, HS.new hw⟩)
            · have H2 := HS.list (L.setIfInBounds 16 true)
              clear HS hd hn hz h0T
              unfold opHeld
              go_simp <;> exact H2
            · have H2 := HS.list (L.setIfInBounds 17 true)
              clear HS hd hn hz h0T
              unfold opHeld
              go_simp <;> exact H2
            · have H2 := HS.list (L.setIfInBounds 18 true)
              clear HS hd hn hz h0T
              unfold opHeld
              go_simp <;> exact H2
            · exact held_value (exec_load (T := 32) (X := ida yb) (g := gb) (off := 2048 + n * 32) rfl rfl underID rfl hii (hz1.trans (by rw [ida_size]; exact HYB.out.symm)) (by have := at_off HS.2.1 (2048 + n * 32) 32 (by rw [HSL2.out]; omega); rwa [HGD.out] at this)) HS
            · exact held_value (exec_eql_same rfl rfl rfl HYB.out) HS
            · have H2 := HS.list (L.setIfInBounds 21 true)
              clear HS hd hn hz h0T
              unfold opHeld
              go_simp <;> exact H2
            · have H2 := HS.list (L.setIfInBounds 22 true)
              clear HS hd hn hz h0T
              unfold opHeld
              go_simp <;> exact H2
            · exact held_value (exec_load (T := 69) (X := ida S2) (g := gb) (off := 0) rfl rfl hgs rfl hig (hg1.trans HI2.out) HS.2.1.at') HS
            · have H2 := HS.list (L.setIfInBounds 24 true)
              clear HS hd hn hz h0T
              unfold opHeld
              go_simp <;> exact H2
            · have hc := shows_any W' (Once.shown seed 1 b) (Once.other seed 1 b) (fun _ => rfl) (fun _ => rfl) A2 c2 b (HR2.out.fr (HN5.out.trans HS.2.2 fun _ h => h.elim) (fun _ _ => id)) HL2.out
              rw [HS2.out, HP2.out] at hc
              clear hd hn hz
              unfold opHeld
              go_simp
              exact (show CallsIn Fence.wide 0 _ _ _ _ _ from (callsIn_wide.2 hc).mono fun e w'' ⟨he, hw⟩ => ⟨he, HS.new hw⟩)
            · exact held_value (exec_load (T := 69) (X := ida S1) (g := ga) (off := 0) rfl rfl hgs rfl hig (hg1.trans HI1.out) HS.1.at') HS
            · have H2 := HS.list (L.setIfInBounds 27 true)
              clear HS hd hn hz h0T
              unfold opHeld
              go_simp <;> exact H2
            · have hc := shows_any W' (Once.shown seed 1 a) (Once.other seed 1 a) (fun _ => rfl) (fun _ => rfl) A1 c1 a (HR1.out.fr (HN5.out.trans HS.2.2 fun _ h => h.elim) (fun _ _ => id)) HL1.out
              rw [HS1.out, HP1.out] at hc
              clear hd hn hz
              unfold opHeld
              go_simp
              exact (show CallsIn Fence.wide 0 _ _ _ _ _ from (callsIn_wide.2 hc).mono fun e w'' ⟨he, hw⟩ => ⟨he, HS.new hw⟩)
            · exact held_value (exec_eql_same rfl rfl rfl HPL.out) HS
            · have H2 := HS.list (L.setIfInBounds 30 true)
              clear HS hd hn hz h0T
              unfold opHeld
              go_simp <;> exact H2
            · have H2 := HS.list (L.setIfInBounds 31 true)
              clear HS hd hn hz h0T
              unfold opHeld
              go_simp <;> exact H2
          case after =>
            rintro L W' hz hal HS
            have hN := HS.2.2
            clear HS hz hal h0T
            go_wp2_with fail
            go_ret
            exact ⟨rfl, once_below (HN5.out.trans hN (fun _ h => h.elim))⟩
end Go.Proofs.YtepmlmfacpbhkaaR
