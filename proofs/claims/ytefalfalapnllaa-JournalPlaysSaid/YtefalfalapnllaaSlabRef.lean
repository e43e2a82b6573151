/- Contracts of the functions of scrivenerref09: each does to its value what the plain twin does. (Printed by gen_slabref.py.) -/
import Derived.Test.YtefalfalapnllaaSlabLaws
import Derived.Deep.RegionWith
import Derived.Deep.DeepCutAuto
namespace Go.Proofs.Ytefalfalapnllaa
open Go.RowKit
set_option linter.unusedVariables false
set_option linter.unusedSimpArgs false

/-- a slab of the reference, as a value -/
def refv (r u t : Int) (S : ByteArray) : Value := .agg #[.int .i64 r, .int .i64 u, .int .i64 t, .string S]
def refc (r u t : Int) (S : ByteArray) : Array Value := #[.int .i64 r, .int .i64 u, .int .i64 t, .string S]
theorem refblk {W : World} {g : Nat} {r u t : Int} {S : ByteArray} (h : Blk W g 41 (refc r u t S)) :
    (W.cell? ⟨g, 0, none⟩ = some (.int .i64 r) ∧ W.cell? ⟨g, 1, none⟩ = some (.int .i64 u) ∧ W.cell? ⟨g, 2, none⟩ = some (.int .i64 t) ∧ W.cell? ⟨g, 3, none⟩ = some (.string S)) ∧
    (W.frozen? ⟨g, 0, none⟩ = false ∧ W.frozen? ⟨g, 1, none⟩ = false ∧ W.frozen? ⟨g, 2, none⟩ = false ∧ W.frozen? ⟨g, 3, none⟩ = false) :=
  ⟨⟨h.cell 0, h.cell 1, h.cell 2, h.cell 3⟩, ⟨h.frozen 0, h.frozen 1, h.frozen 2, h.frozen 3⟩⟩

theorem ref_step_no (w : World) (r u t : Int) (S : ByteArray) (h : t = 0) :
    Calls Try.prog 44 #[refv r u t S] w fun e w' => e = .returned (.tuple #[refv r u t S, .bool false]) ∧ New w w' := by
  unfold refv
  subst h
  go_enter Try.func44, Try.ntmps44
  go_wp2
  exact bodyPost_ret (v := (.tuple #[refv r u 0 S, .bool false])) (by simp [results, Try.results44, go_sem, refv]) rfl ⟨rfl, ((Fr.refl _ _).then_alloc _).then_alloc _⟩

theorem ref_step_yes (w : World) (r u t : Int) (S : ByteArray) (h : t ≠ 0) (h1 : -1 ≤ t) (h2 : t ≤ 9223372036854775807) :
    Calls Try.prog 44 #[refv r u t S] w fun e w' => e = .returned (.tuple #[refv r u (max (t - 1) (-1)) S, .bool true]) ∧ New w w' := by
  unfold refv
  by_cases hp : 0 < t
  · have h0 : (t == 0) = false := by simpa using h
    have hm : max (t - 1) (-1) = t - 1 := by omega
    rw [hm]
    clear h hm
    go_enter Try.func44, Try.ntmps44
    go_wp2
    exact bodyPost_ret (v := (.tuple #[refv r u (t - 1) S, .bool true])) (by simp [results, Try.results44, go_sem, refv]) rfl ⟨rfl, ((Fr.refl _ _).then_alloc _).then_alloc _⟩
  · obtain rfl : t = -1 := by omega
    clear h h1 h2 hp
    go_enter Try.func44, Try.ntmps44
    go_wp2
    exact bodyPost_ret (v := (.tuple #[refv r u (-1) S, .bool true])) (by simp [results, Try.results44, go_sem, refv]) rfl ⟨rfl, ((Fr.refl _ _).then_alloc _).then_alloc _⟩

theorem ref_New (w : World) (n : Int) (h0 : 0 ≤ n) (h1 : n ≤ 4194304) :
    Calls Try.prog 24 #[.int .i64 n] w fun e w' => e = .returned (.tuple #[refv n 0 (-1) ⟨#[]⟩, .int .i64 0]) ∧ New w w' := by
  go_enter Try.func24, Try.ntmps24
  go_wp2
  exact bodyPost_ret (v := (.tuple #[refv n 0 (-1) ⟨#[]⟩, .int .i64 0])) (by simp [results, Try.results24, go_sem, refv]) rfl ⟨rfl, (Fr.refl _ _).then_alloc _⟩

theorem ref_New_bad (w : World) (n : Int) (h : n < 0 ∨ 4194304 < n) :
    Calls Try.prog 24 #[.int .i64 n] w fun e w' => e = .returned (.tuple #[refv 0 0 0 ⟨#[]⟩, .int .i64 1]) ∧ New w w' := by
  by_cases h0 : n < 0
  · clear h
    go_enter Try.func24, Try.ntmps24
    go_wp2
    exact bodyPost_ret (v := (.tuple #[refv 0 0 0 ⟨#[]⟩, .int .i64 1])) (by simp [results, Try.results24, go_sem, refv]) rfl ⟨rfl, (Fr.refl _ _).then_alloc _⟩
  · have h1 : 4194304 < n := by omega
    clear h
    go_enter Try.func24, Try.ntmps24
    go_wp2
    exact bodyPost_ret (v := (.tuple #[refv 0 0 0 ⟨#[]⟩, .int .i64 1])) (by simp [results, Try.results24, go_sem, refv]) rfl ⟨rfl, (Fr.refl _ _).then_alloc _⟩

theorem ref_Break (w : World) (r u t : Int) (S : ByteArray) (n : Int) :
    Calls Try.prog 28 #[refv r u t S, .int .i64 n] w fun e w' => e = .returned (refv r u (max n (-1)) S) ∧ New w w' := by
  unfold refv
  by_cases h0 : n < 0
  · have hm : max n (-1) = -1 := by omega
    rw [hm]
    clear hm
    go_enter Try.func28, Try.ntmps28
    go_wp2
    exact bodyPost_ret (v := refv r u (-1) S) (by simp [results, Try.results28, go_sem, refv]) rfl ⟨rfl, ((Fr.refl _ _).then_alloc _).then_alloc _⟩
  · have hm : max n (-1) = n := by omega
    rw [hm]
    clear hm
    go_enter Try.func28, Try.ntmps28
    go_wp2
    exact bodyPost_ret (v := refv r u n S) (by simp [results, Try.results28, go_sem, refv]) rfl ⟨rfl, ((Fr.refl _ _).then_alloc _).then_alloc _⟩

theorem ref_Append_full (w : World) (r u t : Int) (S T : ByteArray) (h0 : 0 ≤ r) (h1 : r ≤ 4194304) (h2 : S.size ≤ 4194304) (h : r - S.size < T.size) :
    Calls Try.prog 25 #[refv r u t S, .string T] w fun e w' => e = .returned (.tuple #[refv r u t S, .int .i64 3]) ∧ New w w' := by
  unfold refv
  go_enter Try.func25, Try.ntmps25
  go_wp2_with fail
  exact bodyPost_ret (v := (.tuple #[refv r u t S, .int .i64 3])) (by simp [results, Try.results25, go_sem, refv]) rfl ⟨rfl, ((Fr.refl _ _).then_alloc _).then_alloc _⟩

theorem ref_Append_no (w : World) (r u t : Int) (S : ByteArray) (T : ByteArray) (h0 : 0 ≤ r) (h1 : r ≤ 4194304) (h2 : S.size ≤ 4194304) (h : T.size ≤ r - S.size) (ht : t = 0) :
    Calls Try.prog 25 #[refv r u t S, .string T] w fun e w' => e = .returned (.tuple #[refv r u t S, .int .i64 90]) ∧ New w w' := by
  have hs := fun w => ref_step_no w r u t S ht
  clear ht
  unfold refv at *
  go_enter Try.func25, Try.ntmps25
  go_wp2_with fail
  refine (hs _).mono ?_
  rintro e w2 ⟨rfl, n2⟩
  clear hs
  have hz : w.heap.size + 1 < w2.heap.size := by have := n2.size; simp at this; omega
  have hz0 : w.heap.size < w2.heap.size := by omega
  have B0 : Blk w2 w.heap.size 41 (refc r u t S) := ((Blk.new w _ (refc r u t S)).alloc _).fr n2 id
  have B1 : Blk w2 (w.heap.size + 1) 41 (refc 0 0 0 ⟨#[]⟩) := Blk.fr (by have := Blk.new (w.alloc (.cells (refc r u t S) 41)) 41 (refc 0 0 0 ⟨#[]⟩); simpa [refc] using this) n2 id
  obtain ⟨⟨c0, c1, c2, c3⟩, -⟩ := refblk B0
  obtain ⟨⟨d0, d1, d2, d3⟩, ⟨g0, g1, g2, g3⟩⟩ := refblk B1
  have hfr : New w w2 := (((Fr.refl _ w).then_alloc _).then_alloc _).trans n2 (fun _ => .inl)
  clear B0 B1 n2
  go_wp2
  exact bodyPost_ret (v := (.tuple #[refv r u t S, .int .i64 90])) (by simp [results, Try.results25, go_sem, refv, d0, d1, d2, d3, g0, g1, g2, g3, hz, hz0]) rfl ⟨rfl, (by repeat (first | exact hfr | refine Fr.then_alloc ?_ _ | refine Fr.setCell_new ?_ (by simp) _))⟩

theorem ref_Append_yes (w : World) (r u t : Int) (S : ByteArray) (T : ByteArray) (h0 : 0 ≤ r) (h1 : r ≤ 4194304) (h2 : S.size ≤ 4194304) (h : T.size ≤ r - S.size) (ht : t ≠ 0) (ht1 : -1 ≤ t) (ht2 : t ≤ 9223372036854775807) :
    Calls Try.prog 25 #[refv r u t S, .string T] w fun e w' => e = .returned (.tuple #[refv r u (max (t - 1) (-1)) (S ++ T), .int .i64 0]) ∧ New w w' := by
  obtain ⟨t', ht'⟩ : ∃ t' : Int, t' = max (t - 1) (-1) := ⟨_, rfl⟩
  have hs := fun w => ref_step_yes w r u t S ht ht1 ht2
  rw [← ht'] at hs ⊢
  clear ht ht1 ht2 ht'
  unfold refv at *
  go_enter Try.func25, Try.ntmps25
  go_wp2_with fail
  refine (hs _).mono ?_
  rintro e w2 ⟨rfl, n2⟩
  clear hs
  have hz : w.heap.size + 1 < w2.heap.size := by have := n2.size; simp at this; omega
  have hz0 : w.heap.size < w2.heap.size := by omega
  have B0 : Blk w2 w.heap.size 41 (refc r u t S) := ((Blk.new w _ (refc r u t S)).alloc _).fr n2 id
  have B1 : Blk w2 (w.heap.size + 1) 41 (refc 0 0 0 ⟨#[]⟩) := Blk.fr (by have := Blk.new (w.alloc (.cells (refc r u t S) 41)) 41 (refc 0 0 0 ⟨#[]⟩); simpa [refc] using this) n2 id
  obtain ⟨⟨c0, c1, c2, c3⟩, -⟩ := refblk B0
  obtain ⟨⟨d0, d1, d2, d3⟩, ⟨g0, g1, g2, g3⟩⟩ := refblk B1
  have hfr : New w w2 := (((Fr.refl _ w).then_alloc _).then_alloc _).trans n2 (fun _ => .inl)
  clear B0 B1 n2
  go_wp2
  exact bodyPost_ret (v := (.tuple #[refv r u t' (S ++ T), .int .i64 0])) (by simp [results, Try.results25, go_sem, refv, d0, d1, d2, d3, g0, g1, g2, g3, hz, hz0]) rfl ⟨rfl, (by repeat (first | exact hfr | refine Fr.then_alloc ?_ _ | refine Fr.setCell_new ?_ (by simp) _))⟩

theorem ref_Sync_no (w : World) (r u t : Int) (S : ByteArray)  (h2 : S.size ≤ 4194304) (ht : t = 0) :
    Calls Try.prog 26 #[refv r u t S] w fun e w' => e = .returned (.tuple #[refv r u t S, .int .i64 90]) ∧ New w w' := by
  have hs := fun w => ref_step_no w r u t S ht
  clear ht
  unfold refv at *
  go_enter Try.func26, Try.ntmps26
  go_wp2_with fail
  refine (hs _).mono ?_
  rintro e w2 ⟨rfl, n2⟩
  clear hs
  have hz : w.heap.size + 1 < w2.heap.size := by have := n2.size; simp at this; omega
  have hz0 : w.heap.size < w2.heap.size := by omega
  have B0 : Blk w2 w.heap.size 41 (refc r u t S) := ((Blk.new w _ (refc r u t S)).alloc _).fr n2 id
  have B1 : Blk w2 (w.heap.size + 1) 41 (refc 0 0 0 ⟨#[]⟩) := Blk.fr (by have := Blk.new (w.alloc (.cells (refc r u t S) 41)) 41 (refc 0 0 0 ⟨#[]⟩); simpa [refc] using this) n2 id
  obtain ⟨⟨c0, c1, c2, c3⟩, -⟩ := refblk B0
  obtain ⟨⟨d0, d1, d2, d3⟩, ⟨g0, g1, g2, g3⟩⟩ := refblk B1
  have hfr : New w w2 := (((Fr.refl _ w).then_alloc _).then_alloc _).trans n2 (fun _ => .inl)
  clear B0 B1 n2
  go_wp2
  exact bodyPost_ret (v := (.tuple #[refv r u t S, .int .i64 90])) (by simp [results, Try.results26, go_sem, refv, d0, d1, d2, d3, g0, g1, g2, g3, hz, hz0]) rfl ⟨rfl, (by repeat (first | exact hfr | refine Fr.then_alloc ?_ _ | refine Fr.setCell_new ?_ (by simp) _))⟩

theorem ref_Sync_yes (w : World) (r u t : Int) (S : ByteArray)  (h2 : S.size ≤ 4194304) (ht : t ≠ 0) (ht1 : -1 ≤ t) (ht2 : t ≤ 9223372036854775807) :
    Calls Try.prog 26 #[refv r u t S] w fun e w' => e = .returned (.tuple #[refv r S.size (max (t - 1) (-1)) S, .int .i64 0]) ∧ New w w' := by
  obtain ⟨t', ht'⟩ : ∃ t' : Int, t' = max (t - 1) (-1) := ⟨_, rfl⟩
  have hs := fun w => ref_step_yes w r u t S ht ht1 ht2
  rw [← ht'] at hs ⊢
  clear ht ht1 ht2 ht'
  unfold refv at *
  go_enter Try.func26, Try.ntmps26
  go_wp2_with fail
  refine (hs _).mono ?_
  rintro e w2 ⟨rfl, n2⟩
  clear hs
  have hz : w.heap.size + 1 < w2.heap.size := by have := n2.size; simp at this; omega
  have hz0 : w.heap.size < w2.heap.size := by omega
  have B0 : Blk w2 w.heap.size 41 (refc r u t S) := ((Blk.new w _ (refc r u t S)).alloc _).fr n2 id
  have B1 : Blk w2 (w.heap.size + 1) 41 (refc 0 0 0 ⟨#[]⟩) := Blk.fr (by have := Blk.new (w.alloc (.cells (refc r u t S) 41)) 41 (refc 0 0 0 ⟨#[]⟩); simpa [refc] using this) n2 id
  obtain ⟨⟨c0, c1, c2, c3⟩, -⟩ := refblk B0
  obtain ⟨⟨d0, d1, d2, d3⟩, ⟨g0, g1, g2, g3⟩⟩ := refblk B1
  have hfr : New w w2 := (((Fr.refl _ w).then_alloc _).then_alloc _).trans n2 (fun _ => .inl)
  clear B0 B1 n2
  go_wp2
  exact bodyPost_ret (v := (.tuple #[refv r S.size t' S, .int .i64 0])) (by simp [results, Try.results26, go_sem, refv, d0, d1, d2, d3, g0, g1, g2, g3, hz, hz0]) rfl ⟨rfl, (by repeat (first | exact hfr | refine Fr.then_alloc ?_ _ | refine Fr.setCell_new ?_ (by simp) _))⟩

theorem ref_Cut_bad (w : World) (r u t : Int) (S : ByteArray) (n : Int) (h : n < 0 ∨ (S.size : Int) < n) :
    Calls Try.prog 27 #[refv r u t S, .int .i64 n] w fun e w' => e = .returned (.tuple #[refv r u t S, .int .i64 1]) ∧ New w w' := by
  unfold refv
  by_cases h0 : n < 0
  · clear h
    go_enter Try.func27, Try.ntmps27
    go_wp2
    exact bodyPost_ret (v := (.tuple #[refv r u t S, .int .i64 1])) (by simp [results, Try.results27, go_sem, refv]) rfl ⟨rfl, ((Fr.refl _ _).then_alloc _).then_alloc _⟩
  · have h1 : (S.size : Int) < n := by omega
    clear h
    go_enter Try.func27, Try.ntmps27
    go_wp2
    exact bodyPost_ret (v := (.tuple #[refv r u t S, .int .i64 1])) (by simp [results, Try.results27, go_sem, refv]) rfl ⟨rfl, ((Fr.refl _ _).then_alloc _).then_alloc _⟩

theorem ref_Cut_no (w : World) (r u t : Int) (S : ByteArray) (k : Nat) (h2 : S.size ≤ 4194304) (hk : k ≤ S.size) (ht : t = 0) :
    Calls Try.prog 27 #[refv r u t S, .int .i64 k] w fun e w' => e = .returned (.tuple #[refv r u t S, .int .i64 90]) ∧ New w w' := by
  have hs := fun w => ref_step_no w r u t S ht
  clear ht
  unfold refv at *
  go_enter Try.func27, Try.ntmps27
  go_wp2_with fail
  refine (hs _).mono ?_
  rintro e w2 ⟨rfl, n2⟩
  clear hs
  have hz : w.heap.size + 1 < w2.heap.size := by have := n2.size; simp at this; omega
  have hz0 : w.heap.size < w2.heap.size := by omega
  have B0 : Blk w2 w.heap.size 41 (refc r u t S) := ((Blk.new w _ (refc r u t S)).alloc _).fr n2 id
  have B1 : Blk w2 (w.heap.size + 1) 41 (refc 0 0 0 ⟨#[]⟩) := Blk.fr (by have := Blk.new (w.alloc (.cells (refc r u t S) 41)) 41 (refc 0 0 0 ⟨#[]⟩); simpa [refc] using this) n2 id
  obtain ⟨⟨c0, c1, c2, c3⟩, -⟩ := refblk B0
  obtain ⟨⟨d0, d1, d2, d3⟩, ⟨g0, g1, g2, g3⟩⟩ := refblk B1
  have hfr : New w w2 := (((Fr.refl _ w).then_alloc _).then_alloc _).trans n2 (fun _ => .inl)
  clear B0 B1 n2
  go_wp2
  exact bodyPost_ret (v := (.tuple #[refv r u t S, .int .i64 90])) (by simp [results, Try.results27, go_sem, refv, d0, d1, d2, d3, g0, g1, g2, g3, hz, hz0]) rfl ⟨rfl, (by repeat (first | exact hfr | refine Fr.then_alloc ?_ _ | refine Fr.setCell_new ?_ (by simp) _))⟩

set_option maxHeartbeats 1600000 in
theorem ref_Cut_yes (w : World) (r u t : Int) (S : ByteArray) (k : Nat) (h2 : S.size ≤ 4194304) (hk : k ≤ S.size) (ht : t ≠ 0) (ht1 : -1 ≤ t) (ht2 : t ≤ 9223372036854775807) :
    Calls Try.prog 27 #[refv r u t S, .int .i64 k] w fun e w' => e = .returned (.tuple #[refv r (min u k) (max (t - 1) (-1)) (S.extract 0 k), .int .i64 0]) ∧ New w w' := by
  obtain ⟨t', ht'⟩ : ∃ t' : Int, t' = max (t - 1) (-1) := ⟨_, rfl⟩
  have hs := fun w => ref_step_yes w r u t S ht ht1 ht2
  rw [← ht'] at hs ⊢
  clear ht ht1 ht2 ht'
  unfold refv at *
  by_cases hu : (k : Int) < u
  · have hm : min u k = k := by omega
    rw [hm]
    clear hm
    go_enter Try.func27, Try.ntmps27
    go_wp2_with fail
    refine (hs _).mono ?_
    rintro e w2 ⟨rfl, n2⟩
    clear hs
    have hz : w.heap.size + 1 < w2.heap.size := by have := n2.size; simp at this; omega
    have hz0 : w.heap.size < w2.heap.size := by omega
    have B0 : Blk w2 w.heap.size 41 (refc r u t S) := ((Blk.new w _ (refc r u t S)).alloc _).fr n2 id
    have B1 : Blk w2 (w.heap.size + 1) 41 (refc 0 0 0 ⟨#[]⟩) := Blk.fr (by have := Blk.new (w.alloc (.cells (refc r u t S) 41)) 41 (refc 0 0 0 ⟨#[]⟩); simpa [refc] using this) n2 id
    obtain ⟨⟨c0, c1, c2, c3⟩, -⟩ := refblk B0
    obtain ⟨⟨d0, d1, d2, d3⟩, ⟨g0, g1, g2, g3⟩⟩ := refblk B1
    have hfr : New w w2 := (((Fr.refl _ w).then_alloc _).then_alloc _).trans n2 (fun _ => .inl)
    clear B0 B1 n2
    go_wp2
    exact bodyPost_ret (v := (.tuple #[refv r k t' (S.extract 0 k), .int .i64 0])) (by simp [results, Try.results27, go_sem, refv, d0, d1, d2, d3, g0, g1, g2, g3, hz, hz0]) rfl ⟨rfl, (by repeat (first | exact hfr | refine Fr.then_alloc ?_ _ | refine Fr.setCell_new ?_ (by simp) _))⟩
  · have hm : min u k = u := by omega
    rw [hm]
    clear hm
    go_enter Try.func27, Try.ntmps27
    go_wp2_with fail
    refine (hs _).mono ?_
    rintro e w2 ⟨rfl, n2⟩
    clear hs
    have hz : w.heap.size + 1 < w2.heap.size := by have := n2.size; simp at this; omega
    have hz0 : w.heap.size < w2.heap.size := by omega
    have B0 : Blk w2 w.heap.size 41 (refc r u t S) := ((Blk.new w _ (refc r u t S)).alloc _).fr n2 id
    have B1 : Blk w2 (w.heap.size + 1) 41 (refc 0 0 0 ⟨#[]⟩) := Blk.fr (by have := Blk.new (w.alloc (.cells (refc r u t S) 41)) 41 (refc 0 0 0 ⟨#[]⟩); simpa [refc] using this) n2 id
    obtain ⟨⟨c0, c1, c2, c3⟩, -⟩ := refblk B0
    obtain ⟨⟨d0, d1, d2, d3⟩, ⟨g0, g1, g2, g3⟩⟩ := refblk B1
    have hfr : New w w2 := (((Fr.refl _ w).then_alloc _).then_alloc _).trans n2 (fun _ => .inl)
    clear B0 B1 n2
    go_wp2
    exact bodyPost_ret (v := (.tuple #[refv r u t' (S.extract 0 k), .int .i64 0])) (by simp [results, Try.results27, go_sem, refv, d0, d1, d2, d3, g0, g1, g2, g3, hz, hz0]) rfl ⟨rfl, (by repeat (first | exact hfr | refine Fr.then_alloc ?_ _ | refine Fr.setCell_new ?_ (by simp) _))⟩

set_option maxHeartbeats 1600000 in
theorem ref_Crash (w : World) (r u t : Int) (S : ByteArray) (n : Int) (k : Nat) (h2 : S.size ≤ 4194304) (hu0 : 0 ≤ u) (hu1 : u ≤ S.size) (hk : (k : Int) = u + max 0 (min n (S.size - u))) :
    Calls Try.prog 29 #[refv r u t S, .int .i64 n] w fun e w' => e = .returned (refv r k (-1) (S.extract 0 k)) ∧ New w w' := by
  unfold refv
  have hks : k ≤ S.size := by omega
  have hkz : (S.extract 0 k).size = k := by simp [ByteArray.size_extract]; omega
  by_cases h0 : n < 0
  · have e1 : u + 0 = (k : Int) := by omega
    have e2 : u = (k : Int) := by omega
    subst e2
    clear hk e1
    go_enter Try.func29, Try.ntmps29
    go_wp2
    exact bodyPost_ret (v := refv r k (-1) (S.extract 0 k)) (by simp [results, Try.results29, go_sem, refv]) rfl ⟨rfl, ((Fr.refl _ _).then_alloc _).then_alloc _⟩
  · by_cases h1 : (S.size : Int) - u < n
    · have e1 : u + ((S.size : Int) - u) = (k : Int) := by omega
      have e3 : Hid ((k : Int) = S.size) := by unfold Hid; omega
      clear hk
      go_enter Try.func29, Try.ntmps29
      go_wp2
      exact bodyPost_ret (v := refv r k (-1) (S.extract 0 k)) (by simp [results, Try.results29, go_sem, refv]) rfl ⟨rfl, ((Fr.refl _ _).then_alloc _).then_alloc _⟩
    · have e1 : u + n = (k : Int) := by omega
      clear hk
      go_enter Try.func29, Try.ntmps29
      go_wp2
      exact bodyPost_ret (v := refv r k (-1) (S.extract 0 k)) (by simp [results, Try.results29, go_sem, refv]) rfl ⟨rfl, ((Fr.refl _ _).then_alloc _).then_alloc _⟩

theorem ref_Spoil_bad (w : World) (r u t : Int) (S : ByteArray) (n : Int) (x : UInt8) (h : n < 0 ∨ (S.size : Int) ≤ n) :
    Calls Try.prog 30 #[refv r u t S, .int .i64 n, bv x] w fun e w' => e = .returned (.tuple #[refv r u t S, .int .i64 1]) ∧ New w w' := by
  unfold refv bv
  by_cases h0 : n < 0
  · clear h
    go_enter Try.func30, Try.ntmps30
    go_wp2
    exact bodyPost_ret (v := (.tuple #[refv r u t S, .int .i64 1])) (by simp [results, Try.results30, go_sem, refv]) rfl ⟨rfl, ((Fr.refl _ _).then_alloc _).then_alloc _⟩
  · have h1 : (S.size : Int) ≤ n := by omega
    clear h
    go_enter Try.func30, Try.ntmps30
    go_wp2
    exact bodyPost_ret (v := (.tuple #[refv r u t S, .int .i64 1])) (by simp [results, Try.results30, go_sem, refv]) rfl ⟨rfl, ((Fr.refl _ _).then_alloc _).then_alloc _⟩

set_option maxHeartbeats 1600000 in
theorem ref_Spoil_yes (w : World) (r u t : Int) (S : ByteArray) (k : Nat) (x : UInt8) (h2 : S.size ≤ 4194304) (hk : k < S.size) :
    Calls Try.prog 30 #[refv r u t S, .int .i64 k, bv x] w fun e w' => e = .returned (.tuple #[refv r u t (S.extract 0 k ++ ⟨#[x]⟩ ++ S.extract (k + 1) S.size), .int .i64 0]) ∧ New w w' := by
  unfold refv bv
  have e1 : IntKind.i64.wrap ((k : Int) + 1) = ((k + 1 : Nat) : Int) := by rw [IntWalk.i64_in _ (by omega)]; omega
  have e2 : k ≤ S.size := by omega
  have e3 : k + 1 ≤ S.size := by omega
  have e4 : (k : Int) ≤ S.size := by omega
  have e5 : ((k + 1 : Nat) : Int) ≤ S.size := by omega
  have hcv : ∀ W : World, ∀ n, n = W.heap.size → ∀ dst, Try.prog.underlying dst = some .string → (convert 22 dst (.slice (some ⟨n, 0, none⟩) 1 1)).run Try.prog ((W.alloc (.cells #[.int .u8 (x.toNat : Int)] 5)).drew) = .ok (.string ⟨#[x]⟩) ((W.alloc (.cells #[.int .u8 (x.toNat : Int)] 5)).drew) := by
    intro W n hn dst hd
    subst hn
    exact run_str_rd _ 22 5 Try.underlying22 Try.underlying5 _ 1 [x] ((Rd.lit W [bv x] 5 (0, 0)).drewN 1) dst hd
  have hcv2 := hcv ((w.alloc (.cells #[.int .i64 r, .int .i64 u, .int .i64 t, .string S] 41)).alloc (.cells #[.int .i64 0, .int .i64 0, .int .i64 0, .string ⟨#[]⟩] 41)) (w.heap.size + 1 + 1) (by simp)
  clear hcv
  go_enter Try.func30, Try.ntmps30
  go_wp2
  go_region
  all_goals
    go_wp2
    exact bodyPost_ret (v := (.tuple #[refv r u t (S.extract 0 k ++ ⟨#[x]⟩ ++ S.extract (k + 1) S.size), .int .i64 0])) (by simp [results, Try.results30, go_sem, refv]) rfl ⟨rfl, (by repeat (first | exact Fr.refl _ _ | refine Fr.then_drew ?_ | refine Fr.then_alloc ?_ _ | refine Fr.setCell_new ?_ (by simp) _))⟩
end Go.Proofs.Ytefalfalapnllaa
