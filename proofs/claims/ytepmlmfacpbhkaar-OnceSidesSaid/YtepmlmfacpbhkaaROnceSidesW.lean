/- OnceSides, walked. -/
import Derived.Test.YtepmlmfacpbhkaaROnceSidesP
import Derived.Test.YtepmlmfacpbhkaaROpenCap
import Derived.Test.YtepmlmfacpbhkaaRR3A
import Derived.BigRegion
namespace Go.Proofs.YtepmlmfacpbhkaaR
open Go.RowKit Go.Shelf
set_option linter.unusedVariables false
attribute [local irreducible] opGhost
set_option maxHeartbeats 8000000 in
set_option maxRecDepth 20000 in
theorem onceSides_walk (seed : List UInt8) (A1 : Option Addr) (c1 : Nat) (a : List UInt8) (A2 : Option Addr) (c2 : Nat) (b : List UInt8) (w : World) (hx : seed.length = 32) (hR1 : Rd w A1 (a.map bv)) (hl1 : a.length ≤ 140737488351232) (hR2 : Rd w A2 (b.map bv)) (hl2 : b.length ≤ 140737488351232) (hc1 : a.length ≤ c1) (hc2 : b.length ≤ c2) :
    Calls Try.prog 10 #[.agg (ida seed), .slice A1 a.length c1, .slice A2 b.length c2] w fun e w' => e = .returned (.bool true) ∧ Below w.heap.size w w' := by
  obtain ⟨ii, hii, hz0, hz1, hz2⟩ := info_parts infoID
  obtain ⟨ik, hik, hk0, hk1, hk2⟩ := info_parts infoK
  obtain ⟨ig, hig, hg0, hg1, hg2⟩ := info_parts infoSig
  obtain ⟨fs, hfs⟩ := underK
  obtain ⟨gs, hgs⟩ := underSig
  have HX := Lib.hid hx
  have HXI := Lib.hid (show 32 = (ida seed).size by rw [ida_size, hx])
  have HR1 := Lib.hid hR1
  have HR2 := Lib.hid hR2
  have HKS := Lib.hid (keyC_size seed 4 hx)
  have HKZ := Lib.hid (show (keyC z32 0).size = (keyC seed 4).size by rw [keyC_size _ _ hx]; rfl)
  have hl1' : (a.length : Int) ≤ 140737488351232 := by omega
  have hl2' : (b.length : Int) ≤ 140737488351232 := by omega
  clear hx hR1 hR2
  go_enter Try.func10, Try.ntmps10
  go_wp2_with (first
    | (refine x_value (exec_box (T := 32) rfl rfl) (by simp [go_sem, Region.wanted]) ?_))
  have hS1 := Blk.new w 32 (ida seed)
  have hN1 : New w (w.alloc (.cells (ida seed) 32)) := Fr.alloc _ w _
  generalize w.alloc (.cells (ida seed) 32) = W1 at *
  refine (signs_any W1).mono ?_
  rintro e w2 ⟨rfl, hN2⟩
  have hS2 := (hS1.fr hN2 id).at'
  have hN3 := hN1.trans hN2 fun _ h => h.elim
  clear hS1 hN1 hN2
  have hs1 := run_slice_pre A1 a.length c1 (a.take 200).length (by rw [List.length_take]; omega)
  have hs2 := run_slice_pre A2 b.length c2 (b.take 200).length (by rw [List.length_take]; omega)
  have hm1 : (if (200 : Int) < (a.length : Int) then (200 : Int) else (a.length : Int)) = (((a.take 200).length : Nat) : Int) := by
    rw [List.length_take]
    split <;> omega
  have hm2 : (if (200 : Int) < (b.length : Int) then (200 : Int) else (b.length : Int)) = (((b.take 200).length : Nat) : Int) := by
    rw [List.length_take]
    split <;> omega
  have HRT1 := Lib.hid (rd_take HR1.out 200)
  have HRT2 := Lib.hid (rd_take HR2.out 200)
  have HL1 := Lib.hid (show (a.take 200).length ≤ 200 by rw [List.length_take]; omega)
  have HL2 := Lib.hid (show (b.take 200).length ≤ 200 by rw [List.length_take]; omega)
  clear HR1 HR2 hl1 hl2 hl1' hl2' hc1 hc2
  generalize a.take 200 = a2 at *
  generalize b.take 200 = b2 at *
  generalize a.length = n1 at *
  generalize b.length = n2 at *
  go_upto_region 3 with fail
  go_region
  have hS2' : At w2.drew w.heap.size 0 (ida seed) := hS2
  have hN3' : New w w2.drew := hN3.then_drew
  clear hs1 hs2 hm1 hm2 hS2 hN3
  generalize w2.drew = w2 at *
  have hS2 := hS2'
  have hN3 := hN3'
  have HK3 := Lib.hid (Blk.new w2 62 (keyC seed 4))
  have HN3 := Lib.hid (hN3.then_alloc (.cells (keyC seed 4) 62))
  clear hN3 hN3' hS2'
  go_wp2_with (first
    | (refine x_value (exec_load (T := 32) (X := ida seed) (g := w.heap.size) (off := 0) rfl rfl underID rfl hii (hz1.trans HXI.out) hS2) (by simp [go_sem, Region.wanted]) ?_)
    | (refine x_value (exec_build_key (seed := seed) (num := 4) rfl rfl rfl HX.out) (by simp [go_sem, Region.wanted]) ?_)
    | (refine x_value (x_alloc (T := 62) rfl hik hk0) (by simp [go_sem, Region.wanted]) ?_)
    | (refine x_skip (exec_store_new (T := 62) (X := keyC seed 4) (Z := keyC z32 0) rfl rfl rfl rfl hik (hk1.trans HKS.out.symm) (key_one _ _) HKZ.out) rfl ?_))
  have hK3 := HK3.out
  have hN3 := HN3.out
  clear HK3 HN3 hS2
  generalize hkb : w2.heap.size = kb at *
  have hkl : kb < (w2.alloc (.cells (keyC seed 4) 62)).heap.size := by rw [World.size_alloc]; omega
  clear hkb
  generalize w2.alloc (.cells (keyC seed 4) 62) = W3 at *
  obtain ⟨S1, hS1⟩ : ∃ S, S = sigL (Once.shown seed 4 a2) (Once.other seed 4 a2) := ⟨_, rfl⟩
  obtain ⟨S2, hS2⟩ : ∃ S, S = sigL (Once.shown seed 4 b2) (Once.other seed 4 b2) := ⟨_, rfl⟩
  have HSL1 := Lib.hid (show S1.length = 4096 by rw [hS1]; exact sigL_length (fun _ => rfl) (fun _ => rfl))
  have HSL2 := Lib.hid (show S2.length = 4096 by rw [hS2]; exact sigL_length (fun _ => rfl) (fun _ => rfl))
  have HS1 := Lib.hid hS1.symm
  have HS2 := Lib.hid hS2.symm
  clear hS1 hS2
  conv => arg 3; simp [Act.put, go_sem]
  have h0S : tellS W3 kb (keyC seed 4) S1 S2 (Array.replicate 10 false) ⟨0, 0⟩ W3.drew := ⟨⟨hK3, Fr.drew _ W3, hkl⟩, ⟨fun h => by simp at h, fun h => by simp at h⟩, fun h => by simp at h, fun h => by simp at h, fun h => by simp at h⟩
  have HN3 := Lib.hid hN3
  have HI1 := Lib.hid (show 4096 = (ida S1).size by rw [ida_size]; exact HSL1.out.symm)
  have HI2 := Lib.hid (show 4096 = (ida S2).size by rw [ida_size]; exact HSL2.out.symm)
  have HZ := Lib.hid (show (ida z4k).size = 4096 by rw [ida_size]; exact List.length_replicate ..)
  clear hK3 hN3 hkl
  refine wp_region_ghost (by kernel_rfl) (by kernel_rfl) (tellV (keyC seed 4) A1 A2 a2.length b2.length c1 c2 S1 S2) (fun _ => rfl) (by kernel_rfl) (tellS W3 kb (keyC seed 4) S1 S2) ⟨0, 0⟩ h0S _ (by funext g; simp [tellV, putAll, Act.put]; rfl) ?hops ?after
  case hops =>
    refine ⟨?_, ?_, ?_, ?_, ?_, ?_, ?_, ?_, ?_, ?_, trivial⟩
    all_goals
      intro g L W' hz hd hn HS
      refine held_plain rfl ?_
    · exact ghost_value (exec_load (T := 62) (X := keyC seed 4) (g := kb) (off := 0) rfl rfl hfs rfl hik (hk1.trans HKS.out.symm) HS.1.1.at') (ghost_keep (vs := tellV (keyC seed 4) A1 A2 a2.length b2.length c1 c2 S1 S2) (S := tellS W3 kb (keyC seed 4) S1 S2) (g := g) (i := 0) rfl (HS.list 0 (by decide) (by decide) (by decide) (by decide)))
    · have H2 := ghost_keep (vs := tellV (keyC seed 4) A1 A2 a2.length b2.length c1 c2 S1 S2) (S := tellS W3 kb (keyC seed 4) S1 S2) (g := g) (i := 1) rfl (HS.list 1 (by decide) (by decide) (by decide) (by decide))
      clear hd hn hz HS
      unfold opGhost
      go_simp
    · have hc := sign_any W' seed 4 HX.out A1 c1 a2 (HRT1.out.fr (HN3.out.trans HS.1.2.1 fun _ h => h.elim) (fun _ _ => id)) (by have := HL1.out; omega)
      rw [HS1.out] at hc
      clear hd hn hz
      unfold opGhost
      go_simp
      exact (show CallsIn Fence.wide 0 _ _ _ _ _ from (callsIn_wide.2 hc).mono fun e w'' ⟨he, hw⟩ => ⟨_, he, ghost_keep (vs := tellV (keyC seed 4) A1 A2 a2.length b2.length c1 c2 S1 S2) (S := tellS W3 kb (keyC seed 4) S1 S2) (g := g) (i := 2) rfl ((HS.new hw).list 2 (by decide) (by decide) (by decide) (by decide))⟩)
    · exact ghost_value (exec_load (T := 62) (X := keyC seed 4) (g := kb) (off := 0) rfl rfl hfs rfl hik (hk1.trans HKS.out.symm) HS.1.1.at') (ghost_keep (vs := tellV (keyC seed 4) A1 A2 a2.length b2.length c1 c2 S1 S2) (S := tellS W3 kb (keyC seed 4) S1 S2) (g := g) (i := 3) rfl (HS.list 3 (by decide) (by decide) (by decide) (by decide)))
    · have H2 := ghost_keep (vs := tellV (keyC seed 4) A1 A2 a2.length b2.length c1 c2 S1 S2) (S := tellS W3 kb (keyC seed 4) S1 S2) (g := g) (i := 4) rfl (HS.list 4 (by decide) (by decide) (by decide) (by decide))
      clear hd hn hz HS
      unfold opGhost
      go_simp
    · have hc := sign_any W' seed 4 HX.out A2 c2 b2 (HRT2.out.fr (HN3.out.trans HS.1.2.1 fun _ h => h.elim) (fun _ _ => id)) (by have := HL2.out; omega)
      rw [HS2.out] at hc
      clear hd hn hz
      unfold opGhost
      go_simp
      exact (show CallsIn Fence.wide 0 _ _ _ _ _ from (callsIn_wide.2 hc).mono fun e w'' ⟨he, hw⟩ => ⟨_, he, ghost_keep (vs := tellV (keyC seed 4) A1 A2 a2.length b2.length c1 c2 S1 S2) (S := tellS W3 kb (keyC seed 4) S1 S2) (g := g) (i := 5) rfl ((HS.new hw).list 5 (by decide) (by decide) (by decide) (by decide))⟩)
    · exact ghost_value (x_alloc (T := 69) rfl hig hg0) ⟨⟨W'.heap.size, g.b⟩, rfl, HS.a hz (getD_no (by rw [hz]; decide) hn)⟩
    · exact ghost_value (x_alloc (T := 69) rfl hig hg0) ⟨⟨g.a, W'.heap.size⟩, rfl, HS.b hz (getD_no (by rw [hz]; decide) hn)⟩
    · have h6 : L.getD 6 false = true := hd ⟨6, .data⟩ (by simp) rfl
      have h8 : L.getD 8 false = false := getD_no (by rw [hz]; decide) hn
      have hB := (HS.2.2.1 h6).2
      rw [h8, if_neg (by decide)] at hB
      exact ghost_skip (exec_store_all (T := 69) (X := ida S1) (g := g.a) (cs := ida z4k) rfl rfl rfl hig (hg1.trans HI1.out) (ida_one _) hB (HZ.out.trans HI1.out)) (ghost_keep (vs := tellV (keyC seed 4) A1 A2 a2.length b2.length c1 c2 S1 S2) (S := tellS W3 kb (keyC seed 4) S1 S2) (g := g) (i := 8) rfl (HS.c hz h6))
    · have h7 : L.getD 7 false = true := hd ⟨7, .data⟩ (by simp) rfl
      have h9 : L.getD 9 false = false := getD_no (by rw [hz]; decide) hn
      have hB := (HS.2.2.2.1 h7).2
      rw [h9, if_neg (by decide)] at hB
      exact ghost_skip (exec_store_all (T := 69) (X := ida S2) (g := g.b) (cs := ida z4k) rfl rfl rfl hig (hg1.trans HI2.out) (ida_one _) hB (HZ.out.trans HI2.out)) (ghost_keep (vs := tellV (keyC seed 4) A1 A2 a2.length b2.length c1 c2 S1 S2) (S := tellS W3 kb (keyC seed 4) S1 S2) (g := g) (i := 9) rfl (HS.d hz h7))
  case after =>
    intro g L W4 hz hal HS
    have hall : ∀ i, i < 10 → L.getD i false = true := fun i hi => by
      have := hal i
      rw [Array.getD_eq_getD_getElem?] at this ⊢
      rw [Array.getElem?_eq_getElem (by rw [hz]; exact hi)] at this ⊢
      exact this
    have hB1 := (HS.2.2.1 (hall 6 (by decide))).2
    have hB2 := (HS.2.2.2.1 (hall 7 (by decide))).2
    rw [hall 8 (by decide), if_pos rfl] at hB1
    rw [hall 9 (by decide), if_pos rfl] at hB2
    have hN4 := HN3.out.trans HS.1.2.1 fun _ h => h.elim
    clear HS hal hall hz
    obtain ⟨ga, gb⟩ := g
    change Blk W4 ga _ _ at hB1
    change Blk W4 gb _ _ at hB2
    have HB1 := Lib.hid hB1
    have HB2 := Lib.hid hB2
    have HN4 := Lib.hid hN4
    clear hB1 hB2 hN4
    go_wp2_with fail
    have hT : TwoS W4 ga gb S1 S2 #[] W4 := ⟨HB1.out, HB2.out, Fr.refl _ _⟩
    have HGL := Lib.hid (show ga < W4.heap.size ∧ gb < W4.heap.size from ⟨HB1.out.lt, HB2.out.lt⟩)
    have HG1 := Lib.hid (show ∀ i, i < 64 → (S1.drop (i * 32)).take 32 = Once.shown seed 4 a2 i from fun i hi => by rw [← HS1.out]; exact sigL_get1 (fun _ => rfl) i hi)
    have HG2 := Lib.hid (show ∀ i, i < 64 → (S1.drop (2048 + i * 32)).take 32 = Once.other seed 4 a2 i from fun i hi => by rw [← HS1.out]; exact sigL_get2 (fun _ => rfl) (fun _ => rfl) i hi)
    have HG3 := Lib.hid (show ∀ i, i < 64 → (S2.drop (i * 32)).take 32 = Once.shown seed 4 b2 i from fun i hi => by rw [← HS2.out]; exact sigL_get1 (fun _ => rfl) i hi)
    have HG4 := Lib.hid (show ∀ i, i < 64 → (S2.drop (2048 + i * 32)).take 32 = Once.other seed 4 b2 i from fun i hi => by rw [← HS2.out]; exact sigL_get2 (fun _ => rfl) (fun _ => rfl) i hi)
    have HSM := Lib.hid (show ∀ i, Once.side a2 i = Once.side b2 i → Once.shown seed 4 a2 i = Once.shown seed 4 b2 i ∧ Once.other seed 4 a2 i = Once.other seed 4 b2 i from fun i h => ⟨shown_side seed 4 a2 b2 i h, other_side seed 4 a2 b2 i h⟩)
    have HDF := Lib.hid (show ∀ i, Once.side a2 i ≠ Once.side b2 i → Once.hide (Once.shown seed 4 b2 i) = Once.other seed 4 a2 i ∧ Once.hide (Once.shown seed 4 a2 i) = Once.other seed 4 b2 i from fun i h => ⟨hide_shown seed 4 a2 b2 i h, hide_shown seed 4 b2 a2 i (Ne.symm h)⟩)
    have HSA := Lib.hid (show ∀ i, (Once.shown seed 4 a2 i).length = 32 from fun _ => rfl)
    have HOA := Lib.hid (show ∀ i, (Once.other seed 4 a2 i).length = 32 from fun _ => rfl)
    have HSB := Lib.hid (show ∀ i, (Once.shown seed 4 b2 i).length = 32 from fun _ => rfl)
    have HOB := Lib.hid (show ∀ i, (Once.other seed 4 b2 i).length = 32 from fun _ => rfl)
    have HHL := Lib.hid (show ∀ x, (Once.hide x).length = 32 from fun _ => rfl)
    clear HB1 HB2
    obtain ⟨ip, hip, hp0, hp1, hp2⟩ := info_parts infoP
    go_loopw [33] (fun n V => ∃ i : Nat, n = .int .i64 i ∧ i ≤ 64 ∧ TwoS W4 ga gb S1 S2 #[] V) (fun n _ => 64 - (intOf n).toNat)
    case atStart => exact ⟨0, rfl, by omega, hT⟩
    case round =>
      obtain ⟨i, rfl, hi, hT⟩ := hrel
      by_cases hlt : i < 64
      · have hlt' : (i : Int) < 64 := by omega
        have hgA := HG1.out i hlt
        have hgB := HG2.out i hlt
        have hgC := HG3.out i hlt
        have hgD := HG4.out i hlt
        have hsm := HSM.out i
        have hdf := HDF.out i
        have hxa := HSA.out i
        have hya := HOA.out i
        have hxb := HSB.out i
        have hyb := HOB.out i
        generalize Once.shown seed 4 a2 i = xa at *
        generalize Once.other seed 4 a2 i = ya at *
        generalize Once.shown seed 4 b2 i = xb at *
        generalize Once.other seed 4 b2 i = yb at *
        have hhal := HHL.out xa
        have hhbl := HHL.out xb
        have hha : Once.hide xa = Once.hide xa := rfl
        generalize hha' : Once.hide xa = ha at *
        generalize hhb' : Once.hide xb = hb at *
        have HHA := Lib.hid hha'
        have HHB := Lib.hid hhb'
        have HGA := Lib.hid hgA
        have HGB := Lib.hid hgB
        have HGC := Lib.hid hgC
        have HGD := Lib.hid hgD
        have HXA := Lib.hid hxa
        have HYA := Lib.hid hya
        have HXB := Lib.hid hxb
        have HYB := Lib.hid hyb
        have HHAL := Lib.hid hhal
        have HHBL := Lib.hid hhbl
        have HSI := Lib.hid hsm
        have HDI := Lib.hid hdf
        have HIX := Lib.hid (show 64 = (ida (ha ++ ya)).size by rw [ida_size, List.length_append, hhal, hya])
        have HIY := Lib.hid (show 64 = (ida (hb ++ yb)).size by rw [ida_size, List.length_append, hhbl, hyb])
        have h0S : sideS W4 ga gb S1 S2 (ha ++ ya) (hb ++ yb) (Array.replicate 24 false) ⟨0, 0⟩ wr.drew := ⟨⟨hT.new (Fr.drew _ wr), HGL.out⟩, ⟨fun h => by simp at h, fun h => by simp at h⟩, fun h => by simp at h, fun h => by simp at h, fun h => by simp at h⟩
        clear hgA hgB hgC hgD hxa hya hxb hyb hhal hhbl hsm hdf hha hha' hhb' hT
        go_upto_region 9 with fail
        refine wp_region_ghost (by kernel_rfl) (by kernel_rfl) (sideV i ga gb xa ya xb yb ha hb) (fun _ => rfl) (by kernel_rfl) (sideS W4 ga gb S1 S2 (ha ++ ya) (hb ++ yb)) ⟨0, 0⟩ h0S _ (by funext g; simp [sideV, putAll, Act.put]; rfl) ?hops ?after
        case hops =>
          refine ⟨?_, ?_, ?_, ?_, ?_, ?_, ?_, ?_, ?_, ?_, ?_, ?_, ?_, ?_, ?_, ?_, ?_, ?_, ?_, ?_, ?_, ?_, ?_, ?_, trivial⟩
          all_goals
            intro g L W' hz hd hn HS
            refine held_plain rfl ?_
          · have H2 := ghost_keep (vs := sideV i ga gb xa ya xb yb ha hb) (S := sideS W4 ga gb S1 S2 (ha ++ ya) (hb ++ yb)) (g := g) (i := 0) rfl (HS.list 0 (by decide) (by decide) (by decide) (by decide))
            clear hd hn hz HS
            unfold opGhost
            go_simp
          · have H2 := ghost_keep (vs := sideV i ga gb xa ya xb yb ha hb) (S := sideS W4 ga gb S1 S2 (ha ++ ya) (hb ++ yb)) (g := g) (i := 1) rfl (HS.list 1 (by decide) (by decide) (by decide) (by decide))
            clear hd hn hz HS
            unfold opGhost
            go_simp
          · have H2 := ghost_keep (vs := sideV i ga gb xa ya xb yb ha hb) (S := sideS W4 ga gb S1 S2 (ha ++ ya) (hb ++ yb)) (g := g) (i := 2) rfl (HS.list 2 (by decide) (by decide) (by decide) (by decide))
            clear hd hn hz HS
            unfold opGhost
            go_simp
          · exact ghost_value (exec_load (T := 32) (X := ida xa) (g := ga) (off := i * 32) rfl rfl underID rfl hii (hz1.trans (by rw [ida_size]; exact HXA.out.symm)) (by have := at_off HS.1.1.1 (i * 32) 32 (by rw [HSL1.out]; omega); rwa [HGA.out] at this)) (ghost_keep (vs := sideV i ga gb xa ya xb yb ha hb) (S := sideS W4 ga gb S1 S2 (ha ++ ya) (hb ++ yb)) (g := g) (i := 3) rfl (HS.list 3 (by decide) (by decide) (by decide) (by decide)))
          · have hc := hide_any W' xa HXA.out
            rw [HHA.out] at hc
            clear hd hn hz
            unfold opGhost
            go_simp
            exact (show CallsIn Fence.wide 0 _ _ _ _ _ from (callsIn_wide.2 hc).mono fun e w'' ⟨he, hw⟩ => ⟨_, he, ghost_keep (vs := sideV i ga gb xa ya xb yb ha hb) (S := sideS W4 ga gb S1 S2 (ha ++ ya) (hb ++ yb)) (g := g) (i := 4) rfl ((HS.new hw).list 4 (by decide) (by decide) (by decide) (by decide))⟩)
          · have H2 := ghost_keep (vs := sideV i ga gb xa ya xb yb ha hb) (S := sideS W4 ga gb S1 S2 (ha ++ ya) (hb ++ yb)) (g := g) (i := 5) rfl (HS.list 5 (by decide) (by decide) (by decide) (by decide))
            clear hd hn hz HS
            unfold opGhost
            go_simp
          · have H2 := ghost_keep (vs := sideV i ga gb xa ya xb yb ha hb) (S := sideS W4 ga gb S1 S2 (ha ++ ya) (hb ++ yb)) (g := g) (i := 6) rfl (HS.list 6 (by decide) (by decide) (by decide) (by decide))
            clear hd hn hz HS
            unfold opGhost
            go_simp
          · have H2 := ghost_keep (vs := sideV i ga gb xa ya xb yb ha hb) (S := sideS W4 ga gb S1 S2 (ha ++ ya) (hb ++ yb)) (g := g) (i := 7) rfl (HS.list 7 (by decide) (by decide) (by decide) (by decide))
            clear hd hn hz HS
            unfold opGhost
            go_simp
          · exact ghost_value (exec_load (T := 32) (X := ida ya) (g := ga) (off := 2048 + i * 32) rfl rfl underID rfl hii (hz1.trans (by rw [ida_size]; exact HYA.out.symm)) (by have := at_off HS.1.1.1 (2048 + i * 32) 32 (by rw [HSL1.out]; omega); rwa [HGB.out] at this)) (ghost_keep (vs := sideV i ga gb xa ya xb yb ha hb) (S := sideS W4 ga gb S1 S2 (ha ++ ya) (hb ++ yb)) (g := g) (i := 8) rfl (HS.list 8 (by decide) (by decide) (by decide) (by decide)))
          · exact ghost_value (exec_build_pair rfl rfl rfl HHAL.out HYA.out) (ghost_keep (vs := sideV i ga gb xa ya xb yb ha hb) (S := sideS W4 ga gb S1 S2 (ha ++ ya) (hb ++ yb)) (g := g) (i := 9) rfl (HS.list 9 (by decide) (by decide) (by decide) (by decide)))
          · have H2 := ghost_keep (vs := sideV i ga gb xa ya xb yb ha hb) (S := sideS W4 ga gb S1 S2 (ha ++ ya) (hb ++ yb)) (g := g) (i := 10) rfl (HS.list 10 (by decide) (by decide) (by decide) (by decide))
            clear hd hn hz HS
            unfold opGhost
            go_simp
          · have H2 := ghost_keep (vs := sideV i ga gb xa ya xb yb ha hb) (S := sideS W4 ga gb S1 S2 (ha ++ ya) (hb ++ yb)) (g := g) (i := 11) rfl (HS.list 11 (by decide) (by decide) (by decide) (by decide))
            clear hd hn hz HS
            unfold opGhost
            go_simp
          · have H2 := ghost_keep (vs := sideV i ga gb xa ya xb yb ha hb) (S := sideS W4 ga gb S1 S2 (ha ++ ya) (hb ++ yb)) (g := g) (i := 12) rfl (HS.list 12 (by decide) (by decide) (by decide) (by decide))
            clear hd hn hz HS
            unfold opGhost
            go_simp
          · exact ghost_value (exec_load (T := 32) (X := ida xb) (g := gb) (off := i * 32) rfl rfl underID rfl hii (hz1.trans (by rw [ida_size]; exact HXB.out.symm)) (by have := at_off HS.1.1.2.1 (i * 32) 32 (by rw [HSL2.out]; omega); rwa [HGC.out] at this)) (ghost_keep (vs := sideV i ga gb xa ya xb yb ha hb) (S := sideS W4 ga gb S1 S2 (ha ++ ya) (hb ++ yb)) (g := g) (i := 13) rfl (HS.list 13 (by decide) (by decide) (by decide) (by decide)))
          · have hc := hide_any W' xb HXB.out
            rw [HHB.out] at hc
            clear hd hn hz
            unfold opGhost
            go_simp
            exact (show CallsIn Fence.wide 0 _ _ _ _ _ from (callsIn_wide.2 hc).mono fun e w'' ⟨he, hw⟩ => ⟨_, he, ghost_keep (vs := sideV i ga gb xa ya xb yb ha hb) (S := sideS W4 ga gb S1 S2 (ha ++ ya) (hb ++ yb)) (g := g) (i := 14) rfl ((HS.new hw).list 14 (by decide) (by decide) (by decide) (by decide))⟩)
          · have H2 := ghost_keep (vs := sideV i ga gb xa ya xb yb ha hb) (S := sideS W4 ga gb S1 S2 (ha ++ ya) (hb ++ yb)) (g := g) (i := 15) rfl (HS.list 15 (by decide) (by decide) (by decide) (by decide))
            clear hd hn hz HS
            unfold opGhost
            go_simp
          · have H2 := ghost_keep (vs := sideV i ga gb xa ya xb yb ha hb) (S := sideS W4 ga gb S1 S2 (ha ++ ya) (hb ++ yb)) (g := g) (i := 16) rfl (HS.list 16 (by decide) (by decide) (by decide) (by decide))
            clear hd hn hz HS
            unfold opGhost
            go_simp
          · have H2 := ghost_keep (vs := sideV i ga gb xa ya xb yb ha hb) (S := sideS W4 ga gb S1 S2 (ha ++ ya) (hb ++ yb)) (g := g) (i := 17) rfl (HS.list 17 (by decide) (by decide) (by decide) (by decide))
            clear hd hn hz HS
            unfold opGhost
            go_simp
          · exact ghost_value (exec_load (T := 32) (X := ida yb) (g := gb) (off := 2048 + i * 32) rfl rfl underID rfl hii (hz1.trans (by rw [ida_size]; exact HYB.out.symm)) (by have := at_off HS.1.1.2.1 (2048 + i * 32) 32 (by rw [HSL2.out]; omega); rwa [HGD.out] at this)) (ghost_keep (vs := sideV i ga gb xa ya xb yb ha hb) (S := sideS W4 ga gb S1 S2 (ha ++ ya) (hb ++ yb)) (g := g) (i := 18) rfl (HS.list 18 (by decide) (by decide) (by decide) (by decide)))
          · exact ghost_value (exec_build_pair rfl rfl rfl HHBL.out HYB.out) (ghost_keep (vs := sideV i ga gb xa ya xb yb ha hb) (S := sideS W4 ga gb S1 S2 (ha ++ ya) (hb ++ yb)) (g := g) (i := 19) rfl (HS.list 19 (by decide) (by decide) (by decide) (by decide)))
          · exact ghost_value (x_alloc (T := 74) rfl hip hp0) ⟨⟨W'.heap.size, g.b⟩, rfl, HS.a hz (getD_no (by rw [hz]; decide) hn)⟩
          · exact ghost_value (x_alloc (T := 74) rfl hip hp0) ⟨⟨g.a, W'.heap.size⟩, rfl, HS.b hz (getD_no (by rw [hz]; decide) hn)⟩
          · have h6 : L.getD 20 false = true := hd ⟨20, .data⟩ (by simp) rfl
            have h8 : L.getD 22 false = false := getD_no (by rw [hz]; decide) hn
            have hB := (HS.2.2.1 h6).2
            rw [h8, if_neg (by decide)] at hB
            exact ghost_skip (exec_store_all (T := 74) (X := ida (ha ++ ya)) (g := g.a) (cs := ida z64b) rfl rfl rfl hip (hp1.trans HIX.out) (ida_one _) hB HIX.out) (ghost_keep (vs := sideV i ga gb xa ya xb yb ha hb) (S := sideS W4 ga gb S1 S2 (ha ++ ya) (hb ++ yb)) (g := g) (i := 22) rfl (HS.c hz h6))
          · have h6 : L.getD 21 false = true := hd ⟨21, .data⟩ (by simp) rfl
            have h8 : L.getD 23 false = false := getD_no (by rw [hz]; decide) hn
            have hB := (HS.2.2.2.1 h6).2
            rw [h8, if_neg (by decide)] at hB
            exact ghost_skip (exec_store_all (T := 74) (X := ida (hb ++ yb)) (g := g.b) (cs := ida z64b) rfl rfl rfl hip (hp1.trans HIY.out) (ida_one _) hB HIY.out) (ghost_keep (vs := sideV i ga gb xa ya xb yb ha hb) (S := sideS W4 ga gb S1 S2 (ha ++ ya) (hb ++ yb)) (g := g) (i := 23) rfl (HS.d hz h6))
        case after =>
          intro g L W5 hz hal HS
          have hall : ∀ i, i < 24 → L.getD i false = true := fun i hi => by
            have := hal i
            rw [Array.getD_eq_getD_getElem?] at this ⊢
            rw [Array.getElem?_eq_getElem (by rw [hz]; exact hi)] at this ⊢
            exact this
          have hX := (HS.2.2.1 (hall 20 (by decide))).2
          have hY := (HS.2.2.2.1 (hall 21 (by decide))).2
          rw [hall 22 (by decide), if_pos rfl] at hX
          rw [hall 23 (by decide), if_pos rfl] at hY
          have hne := HS.2.2.2.2 (hall 20 (by decide)) (hall 21 (by decide))
          have hge := (HS.2.2.2.1 (hall 21 (by decide))).1
          have hTT := HS.1.1
          clear HS hal hall hz h0S
          obtain ⟨gx, gy⟩ := g
          change Blk W5 gx _ _ at hX
          change Blk W5 gy _ _ at hY
          change gx ≠ gy at hne
          change _ ≤ gy at hge
          have hP : SwapS W4 ga gb gx gy S1 S2 (ha ++ ya) (hb ++ yb) (Array.replicate 9 false) W5.drew := (show SwapS W4 ga gb gx gy S1 S2 (ha ++ ya) (hb ++ yb) #[] W5 from ⟨hTT, hX, hY⟩).new (Fr.drew _ W5)
          have HP := Lib.hid hP
          clear hX hY hTT hP
          go_upto_region 10 with fail
          by_cases heq : Once.side a2 i = Once.side b2 i
          · obtain ⟨e1, e2⟩ := HSI.out heq
            have hq : (((Once.side a2 i : Nat) : Int) != ((Once.side b2 i : Nat) : Int)) = false := by rw [heq]; simp
            have hXY : hb ++ yb = ha ++ ya := by rw [← HHA.out, ← HHB.out, e1, e2]
            have HXY := Lib.hid hXY
            clear heq e1 e2 hXY
            refine wp_region_all (by kernel_rfl) (by kernel_rfl) [.slice A1 a2.length c1, .string ⟨a2.toArray⟩, .int .i64 (i : Int), .int .i64 ((Once.side a2 i : Nat) : Int), .slice A2 b2.length c2, .string ⟨b2.toArray⟩, .int .i64 (i : Int), .int .i64 ((Once.side b2 i : Nat) : Int), .bool false]
              (by kernel_rfl) (SwapS W4 ga gb gx gy S1 S2 (ha ++ ya) (hb ++ yb)) _ (by simp [putAll, Act.put]; rfl) HP.out ?hops ?after
            case hops =>
              refine ⟨?_, ?_, ?_, ?_, ?_, ?_, ?_, ?_, ?_, trivial⟩
              all_goals
                rintro L W' hz hd hn HS
                refine held_plain rfl ?_
                have hH2 : ∀ L', SwapS W4 ga gb gx gy S1 S2 (ha ++ ya) (hb ++ yb) L' W' := fun L' => HS
                clear hd hn hz
              · have H2 := hH2 (L.setIfInBounds 0 true)
                clear hH2 HS
                unfold opHeld
                go_simp <;> exact H2
              · have hstr := run_str_rd (P := Try.prog) W' 66 5 Try.underlying66 Try.underlying5 A1 c1 a2 (HRT1.out.fr (HN4.out.trans HS.1.2.2 fun _ h => h.elim) (fun _ _ => id)) 9 Try.underlying9
                exact held_value (exec_conv rfl rfl hstr) HS
              · have H2 := hH2 (L.setIfInBounds 2 true)
                clear hH2 HS
                unfold opHeld
                go_simp <;> exact H2
              · have hc := r3side_any W' a2 i hlt (by have := HL1.out; omega)
                clear hH2
                unfold opHeld
                go_simp
                exact (show CallsIn Fence.wide 0 _ _ _ _ _ from (callsIn_wide.2 hc).mono fun e w'' ⟨he, hw⟩ => ⟨he, HS.new hw⟩)
              · have H2 := hH2 (L.setIfInBounds 4 true)
                clear hH2 HS
                unfold opHeld
                go_simp <;> exact H2
              · have hstr := run_str_rd (P := Try.prog) W' 66 5 Try.underlying66 Try.underlying5 A2 c2 b2 (HRT2.out.fr (HN4.out.trans HS.1.2.2 fun _ h => h.elim) (fun _ _ => id)) 9 Try.underlying9
                exact held_value (exec_conv rfl rfl hstr) HS
              · have H2 := hH2 (L.setIfInBounds 6 true)
                clear hH2 HS
                unfold opHeld
                go_simp <;> exact H2
              · have hc := r3side_any W' b2 i hlt (by have := HL2.out; omega)
                clear hH2
                unfold opHeld
                go_simp
                exact (show CallsIn Fence.wide 0 _ _ _ _ _ from (callsIn_wide.2 hc).mono fun e w'' ⟨he, hw⟩ => ⟨he, HS.new hw⟩)
              · have H2 := hH2 (L.setIfInBounds 8 true)
                clear hH2 HS
                unfold opHeld
                go_simp <;> exact H2
            case after =>
              rintro L W6 hz hal HS
              have hP := HS
              clear HS hz hal HP
              unfold SwapS at hP
              rw [HXY.out] at hP
              have HX := Lib.hid hP.2.1
              have HY := Lib.hid hP.2.2
              have HT := Lib.hid hP.1
              have HXL := Lib.hid (show (ha ++ ya).length = 64 by rw [List.length_append, HHAL.out, HYA.out])
              clear hP hq
              go_wp2_with (first
                | (refine x_value (exec_load (T := 74) (X := ida (ha ++ ya)) (g := gx) (off := 0) rfl rfl underP rfl hip (hp1.trans HIX.out) HX.out.at') (by simp [go_sem, Region.wanted]) ?_)
                | (refine x_value (exec_load (T := 74) (X := ida (ha ++ ya)) (g := gy) (off := 0) rfl rfl underP rfl hip (hp1.trans HIX.out) HY.out.at') (by simp [go_sem, Region.wanted]) ?_)
                | (refine x_value (exec_neq_pair rfl rfl rfl HXL.out) (by simp [go_sem, Region.wanted]) ?_))
              refine ⟨⟨i + 1, by go_num, by omega, HT.out⟩, ?_⟩
              simp only [intOf]
              omega
          · obtain ⟨e1, e2⟩ := HDI.out heq
            have hq : (((Once.side a2 i : Nat) : Int) != ((Once.side b2 i : Nat) : Int)) = true := by rw [bne_iff_ne]; omega
            have hXY : yb ++ hb = ha ++ ya := by rw [e1, e2]
            have HXY := Lib.hid hXY
            clear heq e1 e2 hXY
            refine wp_region_all (by kernel_rfl) (by kernel_rfl) [.slice A1 a2.length c1, .string ⟨a2.toArray⟩, .int .i64 (i : Int), .int .i64 ((Once.side a2 i : Nat) : Int), .slice A2 b2.length c2, .string ⟨b2.toArray⟩, .int .i64 (i : Int), .int .i64 ((Once.side b2 i : Nat) : Int), .bool true]
              (by kernel_rfl) (SwapS W4 ga gb gx gy S1 S2 (ha ++ ya) (hb ++ yb)) _ (by simp [putAll, Act.put]; rfl) HP.out ?hops ?after
            case hops =>
              refine ⟨?_, ?_, ?_, ?_, ?_, ?_, ?_, ?_, ?_, trivial⟩
              all_goals
                rintro L W' hz hd hn HS
                refine held_plain rfl ?_
                have hH2 : ∀ L', SwapS W4 ga gb gx gy S1 S2 (ha ++ ya) (hb ++ yb) L' W' := fun L' => HS
                clear hd hn hz
              · have H2 := hH2 (L.setIfInBounds 0 true)
                clear hH2 HS
                unfold opHeld
                go_simp <;> exact H2
              · have hstr := run_str_rd (P := Try.prog) W' 66 5 Try.underlying66 Try.underlying5 A1 c1 a2 (HRT1.out.fr (HN4.out.trans HS.1.2.2 fun _ h => h.elim) (fun _ _ => id)) 9 Try.underlying9
                exact held_value (exec_conv rfl rfl hstr) HS
              · have H2 := hH2 (L.setIfInBounds 2 true)
                clear hH2 HS
                unfold opHeld
                go_simp <;> exact H2
              · have hc := r3side_any W' a2 i hlt (by have := HL1.out; omega)
                clear hH2
                unfold opHeld
                go_simp
                exact (show CallsIn Fence.wide 0 _ _ _ _ _ from (callsIn_wide.2 hc).mono fun e w'' ⟨he, hw⟩ => ⟨he, HS.new hw⟩)
              · have H2 := hH2 (L.setIfInBounds 4 true)
                clear hH2 HS
                unfold opHeld
                go_simp <;> exact H2
              · have hstr := run_str_rd (P := Try.prog) W' 66 5 Try.underlying66 Try.underlying5 A2 c2 b2 (HRT2.out.fr (HN4.out.trans HS.1.2.2 fun _ h => h.elim) (fun _ _ => id)) 9 Try.underlying9
                exact held_value (exec_conv rfl rfl hstr) HS
              · have H2 := hH2 (L.setIfInBounds 6 true)
                clear hH2 HS
                unfold opHeld
                go_simp <;> exact H2
              · have hc := r3side_any W' b2 i hlt (by have := HL2.out; omega)
                clear hH2
                unfold opHeld
                go_simp
                exact (show CallsIn Fence.wide 0 _ _ _ _ _ from (callsIn_wide.2 hc).mono fun e w'' ⟨he, hw⟩ => ⟨he, HS.new hw⟩)
              · have H2 := hH2 (L.setIfInBounds 8 true)
                clear hH2 HS
                unfold opHeld
                go_simp <;> exact H2
            case after =>
              rintro L W6 hz hal HS
              have hP := HS
              clear HS hz hal HP hq
              have hY1 := hP.2.2
              have hY2 := hY1.setRow (ida (yb ++ yb))
              have hY3 := hY2.setRow (ida (yb ++ hb))
              have hf2 : Fr (fun j => j = gy) W6 ((W6.setRow gy (ida (yb ++ yb))).setRow gy (ida (yb ++ hb))) := ((Fr.refl (fun j => j = gy) W6).setRow (g := gy) rfl _).setRow (g := gy) rfl _
              have hX3 := hP.2.1.fr hf2 hne
              have hT3 : TwoS W4 ga gb S1 S2 #[] ((W6.setRow gy (ida (yb ++ yb))).setRow gy (ida (yb ++ hb))) := ⟨hP.1.1.fr hf2 (by have := HGL.out; omega), hP.1.2.1.fr hf2 (by have := HGL.out; omega), hP.1.2.2.trans hf2 (fun j hj => .inr (by omega))⟩
              rw [HXY.out] at hY3 hX3 hT3
              have l1 := at_off hY1 32 32 (by rw [List.length_append, HHBL.out, HYB.out]; omega)
              have l0 := at_off hY1 0 32 (by rw [List.length_append, HHBL.out, HYB.out]; omega)
              rw [List.drop_left' HHBL.out, List.take_of_length_le (by rw [HYB.out]; omega)] at l1
              rw [List.drop_zero, List.take_left' HHBL.out] at l0
              have HL1' := Lib.hid l1
              have HL0' := Lib.hid l0
              have HY1 := Lib.hid hY1
              have HY2 := Lib.hid hY2
              have HY3 := Lib.hid hY3
              have HX3 := Lib.hid hX3
              have HT3 := Lib.hid hT3
              have HXL := Lib.hid (show (ha ++ ya).length = 64 by rw [List.length_append, HHAL.out, HYA.out])
              have HSB2 := Lib.hid (show (ida hb).size = 32 by rw [ida_size]; exact HHBL.out)
              have HSY2 := Lib.hid (show (ida yb).size = 32 by rw [ida_size]; exact HYB.out)
              have HS64a := Lib.hid (show (ida (hb ++ yb)).size = 64 by rw [ida_size, List.length_append, HHBL.out, HYB.out])
              have HS64b := Lib.hid (show (ida (yb ++ yb)).size = 64 by rw [ida_size, List.length_append, HYB.out])
              have HP0 := Lib.hid (put_lo hb yb HHBL.out HYB.out)
              have HP1 := Lib.hid (put_hi hb yb HHBL.out HYB.out)
              rw [HXY.out] at HP1
              clear hP hY1 hY2 hY3 hf2 hX3 hT3 l1 l0
              go_wp2_with (first
                | (refine x_value (exec_load (T := 32) (X := ida yb) (g := gy) (off := 32) rfl rfl underID rfl hii (hz1.trans HSY2.out.symm) HL1'.out) (by simp [go_sem, Region.wanted]) ?_)
                | (refine x_value (exec_load (T := 32) (X := ida hb) (g := gy) (off := 0) rfl rfl underID rfl hii (hz1.trans HSB2.out.symm) HL0'.out) (by simp [go_sem, Region.wanted]) ?_)
                | (refine x_skip (exec_store (T := 32) (X := ida yb) (g := gy) (off := 0) rfl rfl rfl hii (hz1.trans HSY2.out.symm) (ida_one _) HY1.out (by rw [HS64a.out, HSY2.out]; omega)) rfl ?_; rw [HP0.out])
                | (refine x_skip (exec_store (T := 32) (X := ida hb) (g := gy) (off := 32) rfl rfl rfl hii (hz1.trans HSB2.out.symm) (ida_one _) HY2.out (by rw [HS64b.out, HSB2.out]; omega)) rfl ?_; rw [HP1.out])
                | (refine x_value (exec_load (T := 74) (X := ida (ha ++ ya)) (g := gx) (off := 0) rfl rfl underP rfl hip (hp1.trans HIX.out) HX3.out.at') (by simp [go_sem, Region.wanted]) ?_)
                | (refine x_value (exec_load (T := 74) (X := ida (ha ++ ya)) (g := gy) (off := 0) rfl rfl underP rfl hip (hp1.trans HIX.out) HY3.out.at') (by simp [go_sem, Region.wanted]) ?_)
                | (refine x_value (exec_neq_pair rfl rfl rfl HXL.out) (by simp [go_sem, Region.wanted]) ?_))
              refine ⟨⟨i + 1, by go_num, by omega, HT3.out⟩, ?_⟩
              simp only [intOf]
              omega
      · obtain rfl : i = 64 := by omega
        have HN5 := Lib.hid (HN4.out.trans hT.2.2 fun _ h => h.elim)
        clear hT hlt hi
        go_wp2_with fail
        go_ret
        exact ⟨rfl, once_below HN5.out⟩
end Go.Proofs.YtepmlmfacpbhkaaR
