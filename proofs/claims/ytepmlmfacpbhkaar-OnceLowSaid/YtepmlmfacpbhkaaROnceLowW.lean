/- OnceLow, walked. -/
import Derived.Test.YtepmlmfacpbhkaaROnceShowsW
import Derived.Test.YtepmlmfacpbhkaaROnceI
namespace Go.Proofs.YtepmlmfacpbhkaaR
open Go.RowKit Go.Shelf
set_option linter.unusedVariables false

def lowV (K1 K2 : Array Value) (S p : List UInt8) (g : G4) : List Value :=
  [.agg K1, .agg (ida p), .agg K2, .agg (ida p), .bool true, .bool true, .agg K1, g.a, g.b, .agg (ida S), .agg K2, g.c, g.d, .agg (ida S), .bool true, .bool true, .bool true]
def lowS (w0 : World) (k1 k2 : Nat) (K1 K2 : Array Value) (L : Array Bool) (g : G4) (W : World) : Prop :=
  (Blk W k1 62 K1 ∧ Blk W k2 62 K2 ∧ New w0 W) ∧
  (L.getD 7 false = true → OneB w0.heap.size W g.a 120) ∧ (L.getD 8 false = true → OneB w0.heap.size W g.b 120) ∧ (L.getD 11 false = true → OneB w0.heap.size W g.c 120) ∧ (L.getD 12 false = true → OneB w0.heap.size W g.d 120)
section
variable {w0 : World} {k1 k2 : Nat} {K1 K2 : Array Value} {L : Array Bool} {g : G4} {W : World}
theorem lowS.list (h : lowS w0 k1 k2 K1 K2 L g W) (i : Nat) (h1 : i ≠ 7) (h2 : i ≠ 8) (h8 : i ≠ 11) (h9 : i ≠ 12) : lowS w0 k1 k2 K1 K2 (L.setIfInBounds i true) g W := by
  unfold lowS at h ⊢
  rw [getD_set_ne false h1, getD_set_ne false h2, getD_set_ne false h8, getD_set_ne false h9]
  exact h
theorem lowS.new {W' : World} (h : lowS w0 k1 k2 K1 K2 L g W) (f : New W W') : lowS w0 k1 k2 K1 K2 L g W' := by
  obtain ⟨⟨a, b, c⟩, d, e, h8, h9⟩ := h
  exact ⟨⟨a.fr f id, b.fr f id, c.trans f (fun _ h => h.elim)⟩, fun x => (d x).new f, fun x => (e x).new f, fun x => (h8 x).new f, fun x => (h9 x).new f⟩
theorem lowS.freeze (h : lowS w0 k1 k2 K1 K2 L g W) {k : Nat} {x : Value} {fz : Nat × Nat} (hk : W.heap[k]? = some (.cells #[x] 5 fz)) (hB : w0.heap.size ≤ k) (n : Nat) : lowS w0 k1 k2 K1 K2 L g (W.freeze ⟨k, n, none⟩ 1) := by
  obtain ⟨⟨a, b, c⟩, d, e, h8, h9⟩ := h
  exact ⟨⟨a.freeze hk (by decide) n, b.freeze hk (by decide) n, c.trans (freeze_fr W k n) (fun j hj => .inr (by omega))⟩, fun x => (d x).freeze k n, fun x => (e x).freeze k n, fun x => (h8 x).freeze k n, fun x => (h9 x).freeze k n⟩
theorem lowS.a (h : lowS w0 k1 k2 K1 K2 L g W) (v : Value) (hv : OneB w0.heap.size W v 120) : lowS w0 k1 k2 K1 K2 (L.setIfInBounds 7 true) { g with a := v } W := by
  unfold lowS at h ⊢
  rw [getD_set_ne false (show 7 ≠ 8 by decide), getD_set_ne false (show 7 ≠ 11 by decide), getD_set_ne false (show 7 ≠ 12 by decide)]
  exact ⟨h.1, fun _ => hv, h.2.2⟩
theorem lowS.b (h : lowS w0 k1 k2 K1 K2 L g W) (v : Value) (hv : OneB w0.heap.size W v 120) : lowS w0 k1 k2 K1 K2 (L.setIfInBounds 8 true) { g with b := v } W := by
  unfold lowS at h ⊢
  rw [getD_set_ne false (show 8 ≠ 7 by decide), getD_set_ne false (show 8 ≠ 11 by decide), getD_set_ne false (show 8 ≠ 12 by decide)]
  exact ⟨h.1, h.2.1, fun _ => hv, h.2.2.2⟩
theorem lowS.c (h : lowS w0 k1 k2 K1 K2 L g W) (v : Value) (hv : OneB w0.heap.size W v 120) : lowS w0 k1 k2 K1 K2 (L.setIfInBounds 11 true) { g with c := v } W := by
  unfold lowS at h ⊢
  rw [getD_set_ne false (show 11 ≠ 7 by decide), getD_set_ne false (show 11 ≠ 8 by decide), getD_set_ne false (show 11 ≠ 12 by decide)]
  exact ⟨h.1, h.2.1, h.2.2.1, fun _ => hv, h.2.2.2.2⟩
theorem lowS.d (h : lowS w0 k1 k2 K1 K2 L g W) (v : Value) (hv : OneB w0.heap.size W v 120) : lowS w0 k1 k2 K1 K2 (L.setIfInBounds 12 true) { g with d := v } W := by
  unfold lowS at h ⊢
  rw [getD_set_ne false (show 12 ≠ 7 by decide), getD_set_ne false (show 12 ≠ 8 by decide), getD_set_ne false (show 12 ≠ 11 by decide)]
  exact ⟨h.1, h.2.1, h.2.2.1, h.2.2.2.1, fun _ => hv⟩
end
theorem wf_u16 {a : Int} (h : (Lit.int .u16 a).wf = true) : 0 ≤ a ∧ a < 65536 := by
  have h1 : IntKind.u16.min = 0 := rfl
  have h2 : IntKind.u16.max = 65535 := rfl
  simp only [Lit.wf, Bool.and_eq_true, decide_eq_true_eq] at h
  omega
theorem wf_u32 {a : Int} (h : (Lit.int .u32 a).wf = true) : 0 ≤ a ∧ a < 4294967296 := by
  have h1 : IntKind.u32.min = 0 := rfl
  have h2 : IntKind.u32.max = 4294967295 := rfl
  simp only [Lit.wf, Bool.and_eq_true, decide_eq_true_eq] at h
  omega
attribute [local irreducible] opGhost
set_option maxHeartbeats 8000000 in
set_option maxRecDepth 20000 in
theorem onceLow_walk (seed : List UInt8) (a b : Int) (w : World) (hx : seed.length = 32) (wa : (Lit.int .u16 a).wf = true) (wb : (Lit.int .u32 b).wf = true) :
    Calls Try.prog 11 #[.agg (ida seed), .int .u16 a, .int .u32 b] w fun e w' => e = .returned (.bool true) ∧ Below w.heap.size w w' := by
  obtain ⟨ii, hii, hz0, hz1, hz2⟩ := info_parts infoID
  obtain ⟨ik, hik, hk0, hk1, hk2⟩ := info_parts infoK
  obtain ⟨fs, hfs⟩ := underK
  obtain ⟨ha0, ha1⟩ := wf_u16 wa
  obtain ⟨hb0, hb1⟩ := wf_u32 wb
  have HX := Lib.hid hx
  have HXI := Lib.hid (show 32 = (ida seed).size by rw [ida_size, hx])
  have HKS := Lib.hid (fun num : Int => keyC_size seed num hx)
  have HKZ := Lib.hid (fun num : Int => show (keyC z32 0).size = (keyC seed num).size by rw [keyC_size _ _ hx]; rfl)
  clear hx wa wb
  go_enter Try.func11, Try.ntmps11
  go_wp2_with (first
    | (refine x_value (exec_box (T := 32) rfl rfl) (by simp [go_sem, Region.wanted]) ?_))
  have hS1 := Blk.new w 32 (ida seed)
  have hN1 : New w (w.alloc (.cells (ida seed) 32)) := Fr.alloc _ w _
  generalize w.alloc (.cells (ida seed) 32) = W1 at *
  refine (signs_any W1).mono ?_
  rintro e w2 ⟨rfl, hN2⟩
  have hS2 := hS1.fr hN2 id
  have hN3 := hN1.trans hN2 fun _ h => h.elim
  have hS3 := (hS2.alloc (.cells (keyC seed a) 62)).at'
  have hS2' := hS2.at'
  have hK1 := (Blk.new w2 62 (keyC seed a)).alloc (.cells (keyC seed (a + 65536 * b)) 62)
  have hK2 := Blk.new (w2.alloc (.cells (keyC seed a) 62)) 62 (keyC seed (a + 65536 * b))
  rw [World.size_alloc] at hK2
  have HH := Lib.hid (show Blk ((w2.alloc (.cells (keyC seed a) 62)).alloc (.cells (keyC seed (a + 65536 * b)) 62)) w2.heap.size 62 (keyC seed a) ∧
    Blk ((w2.alloc (.cells (keyC seed a) 62)).alloc (.cells (keyC seed (a + 65536 * b)) 62)) (w2.heap.size + 1) 62 (keyC seed (a + 65536 * b)) ∧
    New w ((w2.alloc (.cells (keyC seed a) 62)).alloc (.cells (keyC seed (a + 65536 * b)) 62)) from ⟨hK1, hK2, (hN3.then_alloc _).then_alloc _⟩)
  clear hS1 hN1 hN2 hN3 hK1 hK2 hS2
  go_wp2_with (first
    | (refine x_value (exec_load (T := 32) (X := ida seed) (g := w.heap.size) (off := 0) rfl rfl underID rfl hii (hz1.trans HXI.out) hS2') (by simp [go_sem, Region.wanted]) ?_)
    | (refine x_value (exec_load (T := 32) (X := ida seed) (g := w.heap.size) (off := 0) rfl rfl underID rfl hii (hz1.trans HXI.out) hS3) (by simp [go_sem, Region.wanted]) ?_)
    | (refine x_value (exec_build_key (seed := seed) (num := a) rfl rfl rfl HX.out) (by simp [go_sem, Region.wanted]) ?_)
    | (refine x_value (exec_build_key (seed := seed) (num := a + 65536 * b) rfl rfl rfl HX.out) (by simp [go_sem, Region.wanted]) ?_)
    | (refine x_value (x_alloc (T := 62) rfl hik hk0) (by simp [go_sem, Region.wanted]) ?_)
    | (refine x_skip (exec_store_new (T := 62) (X := keyC seed a) (Z := keyC z32 0) rfl rfl rfl rfl hik (hk1.trans (HKS.out a).symm) (key_one _ _) (HKZ.out a)) rfl ?_)
    | (refine x_skip (exec_store_new (T := 62) (X := keyC seed (a + 65536 * b)) (Z := keyC z32 0) rfl rfl rfl rfl hik (hk1.trans (HKS.out _).symm) (key_one _ _) (HKZ.out _)) rfl ?_))
  conv => arg 3; simp [Act.put, go_sem]
  simp only [World.size_alloc]
  obtain ⟨hK1, hK2, hN4⟩ := HH.out
  clear HH hS2' hS3
  generalize hkb : w2.heap.size = kb at *
  have HKB := Lib.hid hkb
  clear hkb
  generalize (w2.alloc (.cells (keyC seed a) 62)).alloc (.cells (keyC seed (a + 65536 * b)) 62) = W3 at *
  have hlow : (a + 65536 * b) % 65536 = a % 65536 := by omega
  obtain ⟨p, hp⟩ : ∃ p, p = Once.pub seed a := ⟨_, rfl⟩
  have HPL := Lib.hid (show p.length = 32 by rw [hp]; rfl)
  have HP2 := Lib.hid (show Once.pub seed (a + 65536 * b) = p by rw [hp]; exact Once.pub_low seed _ _ hlow)
  have HP := Lib.hid hp.symm
  obtain ⟨S, hS⟩ : ∃ S, S = sigL (Once.shown seed a [120]) (Once.other seed a [120]) := ⟨_, rfl⟩
  have HSL := Lib.hid (show S.length = 4096 by rw [hS]; exact sigL_length (fun _ => rfl) (fun _ => rfl))
  have HS2 := Lib.hid (show sigL (Once.shown seed (a + 65536 * b) [120]) (Once.other seed (a + 65536 * b) [120]) = S by
    rw [hS]
    unfold sigL
    rw [flat1_congr 64 fun i _ => Once.shown_low seed _ _ hlow [120] i, flat1_congr (h := Once.other seed (a + 65536 * b) [120]) 64 fun i _ => Once.other_low seed _ _ hlow [120] i])
  have HS1 := Lib.hid hS.symm
  clear hp hS hlow
  have h0S : lowS W3 kb (kb + 1) (keyC seed a) (keyC seed (a + 65536 * b)) (Array.replicate 17 false) ⟨undef, undef, undef, undef⟩ W3.drew := ⟨⟨hK1, hK2, Fr.drew _ W3⟩, fun h => by simp at h, fun h => by simp at h, fun h => by simp at h, fun h => by simp at h⟩
  have HN4 := Lib.hid hN4
  clear hK1 hK2 hN4
  refine wp_region_ghost (by kernel_rfl) (by kernel_rfl) (lowV (keyC seed a) (keyC seed (a + 65536 * b)) S p) (fun _ => rfl) (by kernel_rfl) (lowS W3 kb (kb + 1) (keyC seed a) (keyC seed (a + 65536 * b))) ⟨undef, undef, undef, undef⟩ h0S _ (by funext g; simp [lowV, putAll, Act.put]; rfl) ?hops ?after
  case hops =>
    refine ⟨?_, ?_, ?_, ?_, ?_, ?_, ?_, ?_, ?_, ?_, ?_, ?_, ?_, ?_, ?_, ?_, ?_, trivial⟩
    all_goals
      intro g L W' hz hd hn HS
    · refine held_plain rfl ?_
      exact ghost_value (exec_load (T := 62) (X := keyC seed a) (g := kb) (off := 0) rfl rfl hfs rfl hik (hk1.trans (HKS.out _).symm) HS.1.1.at') (ghost_keep (vs := lowV (keyC seed a) (keyC seed (a + 65536 * b)) S p) (S := lowS W3 kb (kb + 1) (keyC seed a) (keyC seed (a + 65536 * b))) (g := g) (i := 0) rfl (HS.list 0 (by decide) (by decide) (by decide) (by decide)))
    · refine held_plain rfl ?_
      have hc := public_any W' seed a HX.out
      rw [HP.out] at hc
      clear hd hn hz
      unfold opGhost
      go_simp
      exact (show CallsIn Fence.wide 0 _ _ _ _ _ from (callsIn_wide.2 hc).mono fun e w'' ⟨he, hw⟩ => ⟨_, he, ghost_keep (vs := lowV (keyC seed a) (keyC seed (a + 65536 * b)) S p) (S := lowS W3 kb (kb + 1) (keyC seed a) (keyC seed (a + 65536 * b))) (g := g) (i := 1) rfl ((HS.new hw).list 1 (by decide) (by decide) (by decide) (by decide))⟩)
    · refine held_plain rfl ?_
      exact ghost_value (exec_load (T := 62) (X := keyC seed (a + 65536 * b)) (g := kb + 1) (off := 0) rfl rfl hfs rfl hik (hk1.trans (HKS.out _).symm) HS.1.2.1.at') (ghost_keep (vs := lowV (keyC seed a) (keyC seed (a + 65536 * b)) S p) (S := lowS W3 kb (kb + 1) (keyC seed a) (keyC seed (a + 65536 * b))) (g := g) (i := 2) rfl (HS.list 2 (by decide) (by decide) (by decide) (by decide)))
    · refine held_plain rfl ?_
      have hc := public_any W' seed (a + 65536 * b) HX.out
      rw [HP2.out] at hc
      clear hd hn hz
      unfold opGhost
      go_simp
      exact (show CallsIn Fence.wide 0 _ _ _ _ _ from (callsIn_wide.2 hc).mono fun e w'' ⟨he, hw⟩ => ⟨_, he, ghost_keep (vs := lowV (keyC seed a) (keyC seed (a + 65536 * b)) S p) (S := lowS W3 kb (kb + 1) (keyC seed a) (keyC seed (a + 65536 * b))) (g := g) (i := 3) rfl ((HS.new hw).list 3 (by decide) (by decide) (by decide) (by decide))⟩)
    · refine held_plain rfl ?_
      exact ghost_value (exec_eql_same rfl rfl rfl HPL.out) (ghost_keep (vs := lowV (keyC seed a) (keyC seed (a + 65536 * b)) S p) (S := lowS W3 kb (kb + 1) (keyC seed a) (keyC seed (a + 65536 * b))) (g := g) (i := 4) rfl (HS.list 4 (by decide) (by decide) (by decide) (by decide)))
    · refine held_plain rfl ?_
      clear hd hn hz
      unfold opGhost
      go_simp
      exact ghost_keep (vs := lowV (keyC seed a) (keyC seed (a + 65536 * b)) S p) (S := lowS W3 kb (kb + 1) (keyC seed a) (keyC seed (a + 65536 * b))) (g := g) (i := 5) rfl (HS.list 5 (by decide) (by decide) (by decide) (by decide))
    · refine ghost_want rfl ?_
      exact ghost_value (exec_load (T := 62) (X := keyC seed a) (g := kb) (off := 0) rfl rfl hfs rfl hik (hk1.trans (HKS.out _).symm) HS.1.1.at') (ghost_keep (vs := lowV (keyC seed a) (keyC seed (a + 65536 * b)) S p) (S := lowS W3 kb (kb + 1) (keyC seed a) (keyC seed (a + 65536 * b))) (g := g) (i := 6) rfl (HS.list 6 (by decide) (by decide) (by decide) (by decide)))
    · refine ghost_want rfl ?_
      have hO : OneB W3.heap.size (W'.alloc (.cells #[.int .u8 120] 5)) (.slice (some ⟨W'.heap.size, 0, none⟩) 1 1) 120 := ⟨_, (0, 0), rfl, HS.1.2.2.size, heap_alloc_new W' _⟩
      have H2 := (HS.new (Fr.alloc _ W' (.cells #[.int .u8 120] 5))).a _ hO
      clear hd hn hz hO
      unfold opGhost
      go_simp
      exact ⟨_, rfl, H2⟩
    · refine ghost_want rfl ?_
      obtain ⟨k, fz, hk, hB, hh⟩ := HS.2.1 (hd ⟨7, .data⟩ (by simp) rfl)
      have hcv := conv_mark W' k (bv 120) fz hh
      have H2 := (HS.freeze hh hB 1).b (.slice (some ⟨k, 0, none⟩) 1 1) ((show OneB W3.heap.size W' (.slice (some ⟨k, 0, none⟩) 1 1) 120 from ⟨k, fz, rfl, hB, hh⟩).freeze k 1)
      clear hd hn hz hh
      unfold opGhost
      go_simp
      exact ⟨_, rfl, H2⟩
    · refine ghost_want rfl ?_
      obtain ⟨k, hk, hR⟩ := (HS.2.2.1 (hd ⟨8, .data⟩ (by simp) rfl)).rd
      have hc := sign_any W' seed a HX.out (some ⟨k, 0, none⟩) 1 [120] hR (by decide)
      rw [HS1.out] at hc
      clear hR
      clear hd hn hz
      unfold opGhost
      go_simp
      exact (show CallsIn Fence.wide 0 _ _ _ _ _ from (callsIn_wide.2 hc).mono fun e w'' ⟨he, hw⟩ => ⟨_, he, ghost_keep (vs := lowV (keyC seed a) (keyC seed (a + 65536 * b)) S p) (S := lowS W3 kb (kb + 1) (keyC seed a) (keyC seed (a + 65536 * b))) (g := g) (i := 9) rfl ((HS.new hw).list 9 (by decide) (by decide) (by decide) (by decide))⟩)
    · refine ghost_want rfl ?_
      exact ghost_value (exec_load (T := 62) (X := keyC seed (a + 65536 * b)) (g := kb + 1) (off := 0) rfl rfl hfs rfl hik (hk1.trans (HKS.out _).symm) HS.1.2.1.at') (ghost_keep (vs := lowV (keyC seed a) (keyC seed (a + 65536 * b)) S p) (S := lowS W3 kb (kb + 1) (keyC seed a) (keyC seed (a + 65536 * b))) (g := g) (i := 10) rfl (HS.list 10 (by decide) (by decide) (by decide) (by decide)))
    · refine ghost_want rfl ?_
      have hO : OneB W3.heap.size (W'.alloc (.cells #[.int .u8 120] 5)) (.slice (some ⟨W'.heap.size, 0, none⟩) 1 1) 120 := ⟨_, (0, 0), rfl, HS.1.2.2.size, heap_alloc_new W' _⟩
      have H2 := (HS.new (Fr.alloc _ W' (.cells #[.int .u8 120] 5))).c _ hO
      clear hd hn hz hO
      unfold opGhost
      go_simp
      exact ⟨_, rfl, H2⟩
    · refine ghost_want rfl ?_
      obtain ⟨k, fz, hk, hB, hh⟩ := HS.2.2.2.1 (hd ⟨11, .data⟩ (by simp) rfl)
      have hcv := conv_mark W' k (bv 120) fz hh
      have H2 := (HS.freeze hh hB 1).d (.slice (some ⟨k, 0, none⟩) 1 1) ((show OneB W3.heap.size W' (.slice (some ⟨k, 0, none⟩) 1 1) 120 from ⟨k, fz, rfl, hB, hh⟩).freeze k 1)
      clear hd hn hz hh
      unfold opGhost
      go_simp
      exact ⟨_, rfl, H2⟩
    · refine ghost_want rfl ?_
      obtain ⟨k, hk, hR⟩ := (HS.2.2.2.2 (hd ⟨12, .data⟩ (by simp) rfl)).rd
      have hc := sign_any W' seed (a + 65536 * b) HX.out (some ⟨k, 0, none⟩) 1 [120] hR (by decide)
      rw [HS2.out] at hc
      clear hR
      clear hd hn hz
      unfold opGhost
      go_simp
      exact (show CallsIn Fence.wide 0 _ _ _ _ _ from (callsIn_wide.2 hc).mono fun e w'' ⟨he, hw⟩ => ⟨_, he, ghost_keep (vs := lowV (keyC seed a) (keyC seed (a + 65536 * b)) S p) (S := lowS W3 kb (kb + 1) (keyC seed a) (keyC seed (a + 65536 * b))) (g := g) (i := 13) rfl ((HS.new hw).list 13 (by decide) (by decide) (by decide) (by decide))⟩)
    · refine ghost_want rfl ?_
      exact ghost_value (exec_eql_sig rfl rfl rfl HSL.out) (ghost_keep (vs := lowV (keyC seed a) (keyC seed (a + 65536 * b)) S p) (S := lowS W3 kb (kb + 1) (keyC seed a) (keyC seed (a + 65536 * b))) (g := g) (i := 14) rfl (HS.list 14 (by decide) (by decide) (by decide) (by decide)))
    · refine held_plain rfl ?_
      clear hd hn hz
      unfold opGhost
      go_simp
      exact ghost_keep (vs := lowV (keyC seed a) (keyC seed (a + 65536 * b)) S p) (S := lowS W3 kb (kb + 1) (keyC seed a) (keyC seed (a + 65536 * b))) (g := g) (i := 15) rfl (HS.list 15 (by decide) (by decide) (by decide) (by decide))
    · refine held_plain rfl ?_
      clear hd hn hz
      unfold opGhost
      go_simp
      exact ghost_keep (vs := lowV (keyC seed a) (keyC seed (a + 65536 * b)) S p) (S := lowS W3 kb (kb + 1) (keyC seed a) (keyC seed (a + 65536 * b))) (g := g) (i := 16) rfl (HS.list 16 (by decide) (by decide) (by decide) (by decide))
  case after =>
    intro g L W' hz hal HS
    have hN := HS.1.2.2
    clear HS hz hal
    go_wp2_with fail
    go_ret
    exact ⟨rfl, once_below (HN4.out.trans hN (fun _ h => h.elim))⟩
end Go.Proofs.YtepmlmfacpbhkaaR
