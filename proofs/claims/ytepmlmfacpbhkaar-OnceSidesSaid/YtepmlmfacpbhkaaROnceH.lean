/- The head of the statements, walked: it says true. -/
import Derived.Test.YtepmlmfacpbhkaaROnceG
namespace Go.Proofs.YtepmlmfacpbhkaaR
open Go.RowKit Go.Shelf
set_option linter.unusedVariables false

/-- a slice of one byte, in a block of its own -/
def OneB (B : Nat) (W : World) (v : Value) (x : UInt8) : Prop := ∃ k fz, v = .slice (some ⟨k, 0, none⟩) 1 1 ∧ B ≤ k ∧ W.heap[k]? = some (.cells #[bv x] 5 fz)
theorem freeze_other (w : World) (k j n : Nat) (h : k ≠ j) : (w.freeze ⟨k, n, none⟩ 1).heap[j]? = w.heap[j]? := by
  simp [World.freeze, Array.getElem?_modify, h]
theorem freeze_same (w : World) (k n : Nat) {cs : Array Value} {t : TypeId} {fz : Nat × Nat} (h : w.heap[k]? = some (.cells cs t fz)) : ∃ fz', (w.freeze ⟨k, n, none⟩ 1).heap[k]? = some (.cells cs t fz') := by
  obtain ⟨lo, hi⟩ := fz
  exact ⟨if lo == hi then (n, n + 1) else (min lo n, max hi (n + 1)), by simp [World.freeze, Array.getElem?_modify, h]⟩
theorem freeze_fr (w : World) (k n : Nat) : Fr (fun j => j = k) w (w.freeze ⟨k, n, none⟩ 1) :=
  ⟨rfl, rfl, rfl, by simp [World.freeze], fun j _ hs => freeze_other w k j n (fun e => hs e.symm)⟩
theorem conv_mark (w : World) (k : Nat) (x : Value) (fz : Nat × Nat) (h : w.heap[k]? = some (.cells #[x] 5 fz)) :
    (convert 66 66 (.slice (some ⟨k, 0, none⟩) 1 1)).run Try.prog w = .ok (.slice (some ⟨k, 0, none⟩) 1 1) (w.freeze ⟨k, 1, none⟩ 1) := by
  have hsh : w.shape? k = some (5, 1) := by simp [World.shape?, h]
  simp [convert, run_underlying Try.underlying66, run_underlying Try.underlying5, markStringish, hsh]
theorem OneB.new {B : Nat} {W W' : World} {v : Value} {x : UInt8} (h : OneB B W v x) (f : New W W') : OneB B W' v x := by
  obtain ⟨k, fz, h1, h2, h3⟩ := h
  exact ⟨k, fz, h1, h2, (f.block k (Array.getElem?_eq_some_iff.1 h3).1 id).trans h3⟩
theorem OneB.freeze {B : Nat} {W : World} {v : Value} {x : UInt8} (h : OneB B W v x) (k n : Nat) : OneB B (W.freeze ⟨k, n, none⟩ 1) v x := by
  obtain ⟨j, fz, h1, h2, h3⟩ := h
  by_cases hj : k = j
  · subst hj
    obtain ⟨fz', h4⟩ := freeze_same W k n h3
    exact ⟨k, fz', h1, h2, h4⟩
  · exact ⟨j, fz, h1, h2, (freeze_other W k j n hj).trans h3⟩
theorem OneB.rd {B : Nat} {W : World} {v : Value} {x : UInt8} (h : OneB B W v x) : ∃ k, v = .slice (some ⟨k, 0, none⟩) 1 1 ∧ Rd W (some ⟨k, 0, none⟩) (([x] : List UInt8).map bv) := by
  obtain ⟨k, fz, h1, h2, h3⟩ := h
  refine ⟨k, h1, fun h0 => ⟨k, 0, rfl, (Array.getElem?_eq_some_iff.1 h3).1, fun j hj => ?_⟩⟩
  rw [Nat.zero_add, cell_of_row W k j _ _ _ h3]
  simp at hj
  subst hj
  rfl
theorem one_lit (W : World) (x : UInt8) : OneB W.heap.size (W.alloc (.cells #[bv x] 5)) (.slice (some ⟨W.heap.size, 0, none⟩) 1 1) x := ⟨_, (0, 0), rfl, Nat.le_refl _, heap_alloc_new W _⟩
theorem Blk.freeze {W : World} {g : Nat} {t : TypeId} {cs : Array Value} (h : Blk W g t cs) {k : Nat} {x : Value} {fz : Nat × Nat} (hk : W.heap[k]? = some (.cells #[x] 5 fz)) (ht : t ≠ 5) (n : Nat) : Blk (W.freeze ⟨k, n, none⟩ 1) g t cs := by
  have hne : k ≠ g := by
    rintro rfl
    unfold Blk at h
    rw [h] at hk
    injection hk with hk
    injection hk with _ h2
    exact ht h2
  exact (freeze_other W k g n hne).trans h
/-- the values of the head's region that are known only when they are made -/
structure G4 where
  a : Value
  b : Value
  c : Value
  d : Value
def headV (S p q : List UInt8) (g : G4) : List Value :=
  [.agg (ida S), g.a, g.b, .agg (ida p), .agg (ida p), .bool true, .bool true, .agg (ida S), g.c, g.d, .agg (ida q), .agg (ida p), .bool true, .bool true, .bool true, .agg (ida p), .agg (ida z32), .bool true, .bool true, .bool true, .bool true, .bool true]
def headS (w0 : World) (gb pb : Nat) (S p : List UInt8) (L : Array Bool) (g : G4) (W : World) : Prop :=
  (Blk W gb 69 (ida S) ∧ Blk W pb 32 (ida p) ∧ New w0 W) ∧
  (L.getD 1 false = true → OneB w0.heap.size W g.a 97) ∧ (L.getD 2 false = true → OneB w0.heap.size W g.b 97) ∧ (L.getD 8 false = true → OneB w0.heap.size W g.c 98) ∧ (L.getD 9 false = true → OneB w0.heap.size W g.d 98)
theorem headS.list {w0 : World} {gb pb : Nat} {S p : List UInt8} {L : Array Bool} {g : G4} {W : World} (h : headS w0 gb pb S p L g W) (i : Nat) (h1 : i ≠ 1) (h2 : i ≠ 2) (h8 : i ≠ 8) (h9 : i ≠ 9) : headS w0 gb pb S p (L.setIfInBounds i true) g W := by
  unfold headS at h ⊢
  rw [getD_set_ne false h1, getD_set_ne false h2, getD_set_ne false h8, getD_set_ne false h9]
  exact h
theorem headS.new {w0 : World} {gb pb : Nat} {S p : List UInt8} {L : Array Bool} {g : G4} {W W' : World} (h : headS w0 gb pb S p L g W) (f : New W W') : headS w0 gb pb S p L g W' := by
  obtain ⟨⟨a, b, c⟩, d, e, h8, h9⟩ := h
  exact ⟨⟨a.fr f id, b.fr f id, c.trans f (fun _ h => h.elim)⟩, fun x => (d x).new f, fun x => (e x).new f, fun x => (h8 x).new f, fun x => (h9 x).new f⟩
theorem headS.freeze {w0 : World} {gb pb : Nat} {S p : List UInt8} {L : Array Bool} {g : G4} {W : World} (h : headS w0 gb pb S p L g W) {k : Nat} {x : Value} {fz : Nat × Nat} (hk : W.heap[k]? = some (.cells #[x] 5 fz)) (hB : w0.heap.size ≤ k) (n : Nat) : headS w0 gb pb S p L g (W.freeze ⟨k, n, none⟩ 1) := by
  obtain ⟨⟨a, b, c⟩, d, e, h8, h9⟩ := h
  exact ⟨⟨a.freeze hk (by decide) n, b.freeze hk (by decide) n, c.trans (freeze_fr W k n) (fun j hj => .inr (by omega))⟩, fun x => (d x).freeze k n, fun x => (e x).freeze k n, fun x => (h8 x).freeze k n, fun x => (h9 x).freeze k n⟩
theorem headS.a {w0 : World} {gb pb : Nat} {S p : List UInt8} {L : Array Bool} {g : G4} {W : World} (h : headS w0 gb pb S p L g W) (hL : 1 < L.size) (v : Value) (hv : OneB w0.heap.size W v 97) : headS w0 gb pb S p (L.setIfInBounds 1 true) { g with a := v } W := by
  unfold headS at h ⊢
  rw [getD_set_ne false (show 1 ≠ 2 by decide), getD_set_ne false (show 1 ≠ 8 by decide), getD_set_ne false (show 1 ≠ 9 by decide)]
  exact ⟨h.1, fun _ => hv, h.2.2⟩
theorem headS.b {w0 : World} {gb pb : Nat} {S p : List UInt8} {L : Array Bool} {g : G4} {W : World} (h : headS w0 gb pb S p L g W) (hL : 2 < L.size) (v : Value) (hv : OneB w0.heap.size W v 97) : headS w0 gb pb S p (L.setIfInBounds 2 true) { g with b := v } W := by
  unfold headS at h ⊢
  rw [getD_set_ne false (show 2 ≠ 1 by decide), getD_set_ne false (show 2 ≠ 8 by decide), getD_set_ne false (show 2 ≠ 9 by decide)]
  exact ⟨h.1, h.2.1, fun _ => hv, h.2.2.2⟩
theorem headS.c {w0 : World} {gb pb : Nat} {S p : List UInt8} {L : Array Bool} {g : G4} {W : World} (h : headS w0 gb pb S p L g W) (hL : 8 < L.size) (v : Value) (hv : OneB w0.heap.size W v 98) : headS w0 gb pb S p (L.setIfInBounds 8 true) { g with c := v } W := by
  unfold headS at h ⊢
  rw [getD_set_ne false (show 8 ≠ 1 by decide), getD_set_ne false (show 8 ≠ 2 by decide), getD_set_ne false (show 8 ≠ 9 by decide)]
  exact ⟨h.1, h.2.1, h.2.2.1, fun _ => hv, h.2.2.2.2⟩
theorem headS.d {w0 : World} {gb pb : Nat} {S p : List UInt8} {L : Array Bool} {g : G4} {W : World} (h : headS w0 gb pb S p L g W) (hL : 9 < L.size) (v : Value) (hv : OneB w0.heap.size W v 98) : headS w0 gb pb S p (L.setIfInBounds 9 true) { g with d := v } W := by
  unfold headS at h ⊢
  rw [getD_set_ne false (show 9 ≠ 1 by decide), getD_set_ne false (show 9 ≠ 2 by decide), getD_set_ne false (show 9 ≠ 8 by decide)]
  exact ⟨h.1, h.2.1, h.2.2.1, h.2.2.2.1, fun _ => hv⟩
theorem ghost_want {ops : Array Oper} {fin : Act} {o : Oper} {p E : Prop} (hw : Region.wanted o (yielded ops fin.tmps) = true) (h : p) : if Region.wanted o (yielded ops fin.tmps) = true then p else E := by
  rw [if_pos hw]
  exact h
attribute [local irreducible] opGhost
set_option maxHeartbeats 8000000 in
set_option maxRecDepth 20000 in
theorem signs_any (w : World) : Calls Try.prog 31 #[] w fun e w' => e = .returned (.bool true) ∧ New w w' := by
  obtain ⟨ii, hii, hz0, hz1, hz2⟩ := info_parts infoID
  obtain ⟨ik, hik, hk0, hk1, hk2⟩ := info_parts infoK
  obtain ⟨ig, hig, hg0, hg1, hg2⟩ := info_parts infoSig
  obtain ⟨fs, hfs⟩ := underK
  obtain ⟨gs, hgs⟩ := underSig
  obtain ⟨seed, hseed⟩ : ∃ seed, seed = Once.seed1 := ⟨_, rfl⟩
  have hsl : seed.length = 32 := by rw [hseed]; rfl
  have HSEED := Lib.hid hseed
  have HSL := Lib.hid hsl
  have HKS := Lib.hid (keyC_size seed 2 hsl)
  have HKZ := Lib.hid (show (keyC z32 0).size = (keyC seed 2).size by rw [keyC_size _ _ hsl]; rfl)
  have HK1 := Lib.hid (show ∀ v ∈ (keyC seed 2).toList, v.oneCell' = true from fun v hv => by
    have hv' : v ∈ seed.map bv ++ [Value.int .i64 2] := by simpa [keyC] using hv
    rcases List.mem_append.1 hv' with h | h
    · obtain ⟨b, _, rfl⟩ := List.mem_map.1 h
      rfl
    · simp at h
      subst h
      rfl)
  clear hseed hsl
  have hcv := conv_mark ((w.alloc (.cells (keyC seed 2) 62)).alloc (.cells #[.int .u8 97] 5)) (w.heap.size + 1) (bv 97) (0, 0) (by have := heap_alloc_new (w.alloc (.cells (keyC seed 2) 62)) (.cells #[.int .u8 97] 5); rwa [World.size_alloc] at this)
  go_enter Try.func31, Try.ntmps31
  go_wp2_with (first
    | (refine x_value (exec_build_one rfl rfl) (by simp [go_sem, Region.wanted]) ?_; rw [← HSEED.out])
    | (refine x_value (exec_build_key (seed := seed) (num := 2) rfl rfl rfl HSL.out) (by simp [go_sem, Region.wanted]) ?_)
    | (refine x_value (x_alloc (T := 62) rfl hik hk0) (by simp [go_sem, Region.wanted]) ?_)
    | (refine x_skip (exec_store_new (T := 62) (X := keyC seed 2) (Z := keyC z32 0) rfl rfl rfl rfl hik (hk1.trans HKS.out.symm) HK1.out HKZ.out) rfl ?_)
    | (refine x_value (exec_load (T := 62) (X := keyC seed 2) (g := w.heap.size) (off := 0) rfl rfl hfs rfl hik (hk1.trans HKS.out.symm) (Blk.new w _ _).at') (by simp [go_sem, Region.wanted]) ?_))
  have hb1 : ((w.alloc (.cells (keyC seed 2) 62)).alloc (.cells #[.int .u8 97] 5)).heap[w.heap.size + 1]? = some (.cells #[bv 97] 5 (0, 0)) := by
    have := heap_alloc_new (w.alloc (.cells (keyC seed 2) 62)) (.cells #[.int .u8 97] 5)
    rwa [World.size_alloc] at this
  have hK1 := ((Blk.new w 62 (keyC seed 2)).alloc (.cells #[.int .u8 97] 5)).freeze hb1 (by decide) 1
  have hN1 : New w (((w.alloc (.cells (keyC seed 2) 62)).alloc (.cells #[.int .u8 97] 5)).freeze ⟨w.heap.size + 1, 1, none⟩ 1) := ((Fr.alloc _ w _).then_alloc _).trans (freeze_fr _ _ _) (fun j hj => .inr (by omega))
  have hO1 : OneB 0 ((w.alloc (.cells (keyC seed 2) 62)).alloc (.cells #[.int .u8 97] 5)) (.slice (some ⟨w.heap.size + 1, 0, none⟩) 1 1) 97 := ⟨_, _, rfl, Nat.zero_le _, hb1⟩
  obtain ⟨k1, hk1', hT1⟩ := (hO1.freeze (w.heap.size + 1) 1).rd
  simp at hk1'
  subst hk1'
  clear hb1 hO1 hcv
  generalize ((w.alloc (.cells (keyC seed 2) 62)).alloc (.cells #[.int .u8 97] 5)).freeze ⟨w.heap.size + 1, 1, none⟩ 1 = W1 at *
  refine Calls.mono (show Calls Try.prog 34 #[.agg (keyC seed 2), .slice (some ⟨w.heap.size + 1, 0, none⟩) 1 1] W1 _ from sign_any W1 seed 2 HSL.out (some ⟨w.heap.size + 1, 0, none⟩) 1 [97] hT1 (by decide)) ?_
  rintro e w2 ⟨rfl, hN2⟩
  have hsh : ∀ i, (Once.shown seed 2 [97] i).length = 32 := fun _ => rfl
  have hot : ∀ i, (Once.other seed 2 [97] i).length = 32 := fun _ => rfl
  have hown : Once.shows (Once.shown seed 2 [97]) (Once.other seed 2 [97]) [97] = Once.pub seed 2 := Once.shows_own _ _ _
  have hdif : Once.shows (Once.shown seed 2 [97]) (Once.other seed 2 [97]) [98] ≠ Once.pub seed 2 := by rw [HSEED.out]; exact Once.head_differ
  have hsome : Once.pub seed 2 ≠ z32 := by rw [HSEED.out]; exact Once.head_some
  have HSH := Lib.hid hsh
  have HOT := Lib.hid hot
  have HOWN := Lib.hid hown
  have HDIF := Lib.hid hdif
  have HSOME := Lib.hid hsome
  clear hsh hot hown hdif hsome hT1
  have HGL := Lib.hid (sigL_length HSH.out HOT.out)
  obtain ⟨S, hS⟩ : ∃ S, S = sigL (Once.shown seed 2 [97]) (Once.other seed 2 [97]) := ⟨_, rfl⟩
  rw [← hS] at HGL
  rw [← hS]
  have HSS := Lib.hid hS
  clear hS
  have HGS := Lib.hid (show (ida S).size = 4096 by rw [ida_size]; exact HGL.out)
  have HGZ := Lib.hid (show (ida z4k).size = (ida S).size by rw [HGS.out]; rfl)
  have hK2 := hK1.fr hN2 id
  have hN3 := hN1.trans hN2 fun _ h => h.elim
  have hK3 := hK2.alloc (.cells (ida S) 69)
  have hS3 := Blk.new w2 69 (ida S)
  have hN4 := hN3.then_alloc (.cells (ida S) 69)
  have HK3 := Lib.hid hK3
  have HS3 := Lib.hid hS3
  have HN4 := Lib.hid hN4
  clear hK1 hN1 hN2 hK2 hN3 hK3 hS3 hN4
  go_wp2_with (first
    | (refine x_value (x_alloc (T := 69) rfl hig hg0) (by simp [go_sem, Region.wanted]) ?_)
    | (refine x_skip (exec_store_new (T := 69) (X := ida S) (Z := ida z4k) rfl rfl rfl rfl hig (hg1.trans HGS.out.symm) (ida_one _) HGZ.out) rfl ?_)
    | (refine x_value (exec_load (T := 62) (X := keyC seed 2) (g := w.heap.size) (off := 0) rfl rfl hfs rfl hik (hk1.trans HKS.out.symm) HK3.out.at') (by simp [go_sem, Region.wanted]) ?_))
  have hS3 := HS3.out
  have hN4 := HN4.out
  clear HK3 HS3 HN4
  generalize hgb : w2.heap.size = gb at *
  have HGB := Lib.hid hgb
  clear hgb
  generalize w2.alloc (.cells (ida S) 69) = W3 at *
  refine (public_any W3 seed 2 HSL.out).mono ?_
  rintro e w4 ⟨rfl, hN5⟩
  obtain ⟨p, hp⟩ : ∃ p, p = Once.pub seed 2 := ⟨_, rfl⟩
  have HPL := Lib.hid (show p.length = 32 by rw [hp]; rfl)
  rw [← hp] at HOWN HDIF HSOME
  rw [← hp]
  clear hp
  have HPS := Lib.hid (show (ida p).size = 32 by rw [ida_size]; exact HPL.out)
  have HPZ := Lib.hid (show (ida z32).size = (ida p).size by rw [HPS.out]; rfl)
  have hS5 := (hS3.fr hN5 id).alloc (.cells (ida p) 32)
  have hP5 := Blk.new w4 32 (ida p)
  have hN6 := (hN4.trans hN5 fun _ h => h.elim).then_alloc (.cells (ida p) 32)
  have HH := Lib.hid (show Blk (w4.alloc (.cells (ida p) 32)) gb 69 (ida S) ∧ Blk (w4.alloc (.cells (ida p) 32)) w4.heap.size 32 (ida p) ∧ New w (w4.alloc (.cells (ida p) 32)) from ⟨hS5, hP5, hN6⟩)
  clear hS3 hN4 hN5 hS5 hP5 hN6
  go_wp2_with (first
    | (refine x_value (x_alloc (T := 32) rfl hii hz0) (by simp [go_sem, Region.wanted]) ?_)
    | (refine x_skip (exec_store_new (T := 32) (X := ida p) (Z := ida z32) rfl rfl rfl rfl hii (hz1.trans HPS.out.symm) (ida_one _) HPZ.out) rfl ?_))
  obtain ⟨hS5, hP5, hN6⟩ := HH.out
  clear HH
  generalize w4.heap.size = pb at *
  generalize w4.alloc (.cells (ida p) 32) = W5 at *
  conv => arg 3; simp [Act.put, go_sem]
  obtain ⟨q, hq⟩ : ∃ q, q = Once.shows (Once.shown seed 2 [97]) (Once.other seed 2 [97]) [98] := ⟨_, rfl⟩
  have HQL := Lib.hid (show q.length = 32 by rw [hq]; rfl)
  have HQ := Lib.hid hq
  rw [← hq] at HDIF
  clear hq
  have h0S : headS W5 gb pb S p (Array.replicate 22 false) ⟨undef, undef, undef, undef⟩ W5.drew := ⟨⟨hS5, hP5, Fr.drew _ W5⟩, fun h => by simp at h, fun h => by simp at h, fun h => by simp at h, fun h => by simp at h⟩
  clear hS5 hP5
  refine wp_region_ghost (by kernel_rfl) (by kernel_rfl) (headV S p q) (fun _ => rfl) (by kernel_rfl) (headS W5 gb pb S p) ⟨undef, undef, undef, undef⟩ h0S _ (by funext g; simp [headV, putAll, Act.put]; rfl) ?hops ?after
  case hops =>
    refine ⟨?_, ?_, ?_, ?_, ?_, ?_, ?_, ?_, ?_, ?_, ?_, ?_, ?_, ?_, ?_, ?_, ?_, ?_, ?_, ?_, ?_, ?_, trivial⟩
    all_goals
      intro g L W' hz hd hn HS
    · refine held_plain rfl ?_
      exact ghost_value (exec_load (T := 69) (X := ida S) (g := gb) (off := 0) rfl rfl hgs rfl hig (hg1.trans HGS.out.symm) HS.1.1.at') (ghost_keep (vs := headV S p q) (S := headS W5 gb pb S p) (g := g) (i := 0) rfl (HS.list 0 (by decide) (by decide) (by decide) (by decide)))
    · refine held_plain rfl ?_
      have hO : OneB W5.heap.size (W'.alloc (.cells #[.int .u8 97] 5)) (.slice (some ⟨W'.heap.size, 0, none⟩) 1 1) 97 := ⟨_, (0, 0), rfl, HS.1.2.2.size, heap_alloc_new W' _⟩
      have H2 := (HS.new (Fr.alloc _ W' (.cells #[.int .u8 97] 5))).a (by rw [hz]; decide) _ hO
      clear hd hn hz hO
      unfold opGhost
      go_simp
      exact ⟨_, rfl, H2⟩
    · refine held_plain rfl ?_
      obtain ⟨k, fz, hk, hB, hh⟩ := HS.2.1 (hd ⟨1, .data⟩ (by simp) rfl)
      have hcv := conv_mark W' k (bv 97) fz hh
      have H2 := (HS.freeze hh hB 1).b (by rw [hz]; decide) (.slice (some ⟨k, 0, none⟩) 1 1) ((show OneB W5.heap.size W' (.slice (some ⟨k, 0, none⟩) 1 1) 97 from ⟨k, fz, rfl, hB, hh⟩).freeze k 1)
      clear hd hn hz hh
      unfold opGhost
      go_simp
      exact ⟨_, rfl, H2⟩
    · refine held_plain rfl ?_
      obtain ⟨k, hk, hR⟩ := (HS.2.2.1 (hd ⟨2, .data⟩ (by simp) rfl)).rd
      have hsw := shows_any W' _ _ HSH.out HOT.out (some ⟨k, 0, none⟩) 1 [97] hR (by decide)
      rw [← HSS.out, HOWN.out] at hsw
      clear hd hn hz hR
      unfold opGhost
      go_simp
      exact (show CallsIn Fence.wide 0 _ _ _ _ _ from (callsIn_wide.2 hsw).mono fun e w'' ⟨he, hw⟩ => ⟨_, he, ghost_keep (vs := headV S p q) (S := headS W5 gb pb S p) (g := g) (i := 3) rfl ((HS.new hw).list 3 (by decide) (by decide) (by decide) (by decide))⟩)
    · refine held_plain rfl ?_
      exact ghost_value (exec_load (T := 32) (X := ida p) (g := pb) (off := 0) rfl rfl underID rfl hii (hz1.trans HPS.out.symm) HS.1.2.1.at') (ghost_keep (vs := headV S p q) (S := headS W5 gb pb S p) (g := g) (i := 4) rfl (HS.list 4 (by decide) (by decide) (by decide) (by decide)))
    · refine held_plain rfl ?_
      refine ghost_value (exec_eql (T := 32) (a := p) (b := p) rfl rfl rfl underID (by kernel_rfl) sizeB HPL.out HPL.out guardID) ?_
      rw [beq_self_eq_true]
      exact ghost_keep (vs := headV S p q) (S := headS W5 gb pb S p) (g := g) (i := 5) rfl (HS.list 5 (by decide) (by decide) (by decide) (by decide))
    · refine held_plain rfl ?_
      clear hd hn hz
      unfold opGhost
      go_simp
      exact ghost_keep (vs := headV S p q) (S := headS W5 gb pb S p) (g := g) (i := 6) rfl (HS.list 6 (by decide) (by decide) (by decide) (by decide))
    · refine ghost_want rfl ?_
      exact ghost_value (exec_load (T := 69) (X := ida S) (g := gb) (off := 0) rfl rfl hgs rfl hig (hg1.trans HGS.out.symm) HS.1.1.at') (ghost_keep (vs := headV S p q) (S := headS W5 gb pb S p) (g := g) (i := 7) rfl (HS.list 7 (by decide) (by decide) (by decide) (by decide)))
    · refine ghost_want rfl ?_
      have hO : OneB W5.heap.size (W'.alloc (.cells #[.int .u8 98] 5)) (.slice (some ⟨W'.heap.size, 0, none⟩) 1 1) 98 := ⟨_, (0, 0), rfl, HS.1.2.2.size, heap_alloc_new W' _⟩
      have H2 := (HS.new (Fr.alloc _ W' (.cells #[.int .u8 98] 5))).c (by rw [hz]; decide) _ hO
      clear hd hn hz hO
      unfold opGhost
      go_simp
      exact ⟨_, rfl, H2⟩
    · refine ghost_want rfl ?_
      obtain ⟨k, fz, hk, hB, hh⟩ := HS.2.2.2.1 (hd ⟨8, .data⟩ (by simp) rfl)
      have hcv := conv_mark W' k (bv 98) fz hh
      have H2 := (HS.freeze hh hB 1).d (by rw [hz]; decide) (.slice (some ⟨k, 0, none⟩) 1 1) ((show OneB W5.heap.size W' (.slice (some ⟨k, 0, none⟩) 1 1) 98 from ⟨k, fz, rfl, hB, hh⟩).freeze k 1)
      clear hd hn hz hh
      unfold opGhost
      go_simp
      exact ⟨_, rfl, H2⟩
    · refine ghost_want rfl ?_
      obtain ⟨k, hk, hR⟩ := (HS.2.2.2.2 (hd ⟨9, .data⟩ (by simp) rfl)).rd
      have hsw := shows_any W' _ _ HSH.out HOT.out (some ⟨k, 0, none⟩) 1 [98] hR (by decide)
      rw [← HSS.out, ← HQ.out] at hsw
      clear hd hn hz hR
      unfold opGhost
      go_simp
      exact (show CallsIn Fence.wide 0 _ _ _ _ _ from (callsIn_wide.2 hsw).mono fun e w'' ⟨he, hw⟩ => ⟨_, he, ghost_keep (vs := headV S p q) (S := headS W5 gb pb S p) (g := g) (i := 10) rfl ((HS.new hw).list 10 (by decide) (by decide) (by decide) (by decide))⟩)
    · refine ghost_want rfl ?_
      exact ghost_value (exec_load (T := 32) (X := ida p) (g := pb) (off := 0) rfl rfl underID rfl hii (hz1.trans HPS.out.symm) HS.1.2.1.at') (ghost_keep (vs := headV S p q) (S := headS W5 gb pb S p) (g := g) (i := 11) rfl (HS.list 11 (by decide) (by decide) (by decide) (by decide)))
    · refine ghost_want rfl ?_
      refine ghost_value (exec_neq (T := 32) (a := q) (b := p) rfl rfl rfl underID (by kernel_rfl) sizeB HQL.out HPL.out guardID) ?_
      rw [show (!(q == p)) = true by rw [Bool.not_eq_true', beq_eq_false_iff_ne]; exact HDIF.out]
      exact ghost_keep (vs := headV S p q) (S := headS W5 gb pb S p) (g := g) (i := 12) rfl (HS.list 12 (by decide) (by decide) (by decide) (by decide))
    · refine held_plain rfl ?_
      clear hd hn hz
      unfold opGhost
      go_simp
      exact ghost_keep (vs := headV S p q) (S := headS W5 gb pb S p) (g := g) (i := 13) rfl (HS.list 13 (by decide) (by decide) (by decide) (by decide))
    · refine held_plain rfl ?_
      clear hd hn hz
      unfold opGhost
      go_simp
      exact ghost_keep (vs := headV S p q) (S := headS W5 gb pb S p) (g := g) (i := 14) rfl (HS.list 14 (by decide) (by decide) (by decide) (by decide))
    · refine ghost_want rfl ?_
      exact ghost_value (exec_load (T := 32) (X := ida p) (g := pb) (off := 0) rfl rfl underID rfl hii (hz1.trans HPS.out.symm) HS.1.2.1.at') (ghost_keep (vs := headV S p q) (S := headS W5 gb pb S p) (g := g) (i := 15) rfl (HS.list 15 (by decide) (by decide) (by decide) (by decide)))
    · refine ghost_want rfl ?_
      exact ghost_value (x_build0 (T := 32) rfl hii hz0 underID sizeB) (ghost_keep (vs := headV S p q) (S := headS W5 gb pb S p) (g := g) (i := 16) rfl (HS.list 16 (by decide) (by decide) (by decide) (by decide)))
    · refine ghost_want rfl ?_
      refine ghost_value (exec_neq (T := 32) (a := p) (b := z32) rfl rfl rfl underID (by kernel_rfl) sizeB HPL.out rfl guardID) ?_
      rw [show (!(p == z32)) = true by rw [Bool.not_eq_true', beq_eq_false_iff_ne]; exact HSOME.out]
      exact ghost_keep (vs := headV S p q) (S := headS W5 gb pb S p) (g := g) (i := 17) rfl (HS.list 17 (by decide) (by decide) (by decide) (by decide))
    · refine held_plain rfl ?_
      clear hd hn hz
      unfold opGhost
      go_simp
      exact ghost_keep (vs := headV S p q) (S := headS W5 gb pb S p) (g := g) (i := 18) rfl (HS.list 18 (by decide) (by decide) (by decide) (by decide))
    · refine held_plain rfl ?_
      clear hd hn hz
      unfold opGhost
      go_simp
      exact ghost_keep (vs := headV S p q) (S := headS W5 gb pb S p) (g := g) (i := 19) rfl (HS.list 19 (by decide) (by decide) (by decide) (by decide))
    · refine held_plain rfl ?_
      clear hd hn hz
      unfold opGhost
      go_simp
      exact ghost_keep (vs := headV S p q) (S := headS W5 gb pb S p) (g := g) (i := 20) rfl (HS.list 20 (by decide) (by decide) (by decide) (by decide))
    · refine held_plain rfl ?_
      clear hd hn hz
      unfold opGhost
      go_simp
      exact ghost_keep (vs := headV S p q) (S := headS W5 gb pb S p) (g := g) (i := 21) rfl (HS.list 21 (by decide) (by decide) (by decide) (by decide))
  case after =>
    intro g L W' hz hal HS
    have hN := HS.1.2.2
    clear HS hz hal
    go_wp2_with fail
    go_ret
    exact ⟨rfl, hN6.trans hN (fun _ h => h.elim)⟩
end Go.Proofs.YtepmlmfacpbhkaaR
