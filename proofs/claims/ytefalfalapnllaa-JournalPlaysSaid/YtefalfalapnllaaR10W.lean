/- The contract of the document's Write for journals. -/
import Derived.Test.YtefalfalapnllaaR10P
import Derived.Test.YtefalfalapnllaaSlabRef
import Derived.Test.YtefalfalapnllaaGhost
import Derived.Deep.RegionWith
import Derived.Deep.DeepCutAuto
namespace Go.Proofs.Ytefalfalapnllaa
open Go.RowKit Go.Shelf
set_option linter.unusedVariables false
theorem ref_append_all (w : World) (s : SlabS) (hs : s.ok) (T : List UInt8) :
    Calls Try.prog 25 #[.agg (dsk s), .string ⟨T.toArray⟩] w fun e w' => e = .returned (.tuple #[.agg (dsk (s.append T).1), .int .i64 (s.append T).2]) ∧ New w w' := by
  obtain ⟨k1, k2, k3, k4, k5, k6⟩ := hs
  have hsz : (⟨s.bs.toArray⟩ : ByteArray).size = s.bs.length := rfl
  have htz : (⟨T.toArray⟩ : ByteArray).size = T.length := rfl
  have hbl : s.bs.length ≤ 4194304 := by omega
  unfold SlabS.append
  by_cases h1 : s.room - s.bs.length < T.length
  · rw [if_pos h1]
    exact ref_Append_full w s.room s.sure s.steps ⟨s.bs.toArray⟩ ⟨T.toArray⟩ (by omega) k4 (by rw [hsz]; exact hbl) (by rw [hsz, htz]; exact h1)
  · rw [if_neg h1]
    by_cases h2 : s.steps = 0
    · rw [if_pos h2]
      exact ref_Append_no w s.room s.sure s.steps ⟨s.bs.toArray⟩ ⟨T.toArray⟩ (by omega) k4 (by rw [hsz]; exact hbl) (by rw [hsz, htz]; omega) h2
    · rw [if_neg h2]
      have h := ref_Append_yes w s.room s.sure s.steps ⟨s.bs.toArray⟩ ⟨T.toArray⟩ (by omega) k4 (by rw [hsz]; exact hbl) (by rw [hsz, htz]; omega) h2 k5 k6
      rw [jstr_app] at h
      exact h
theorem ref_sync_all (w : World) (s : SlabS) (hs : s.ok) :
    Calls Try.prog 26 #[.agg (dsk s)] w fun e w' => e = .returned (.tuple #[.agg (dsk s.sync.1), .int .i64 s.sync.2]) ∧ New w w' := by
  obtain ⟨k1, k2, k3, k4, k5, k6⟩ := hs
  have hsz : (⟨s.bs.toArray⟩ : ByteArray).size = s.bs.length := rfl
  have hbl : s.bs.length ≤ 4194304 := by omega
  unfold SlabS.sync
  by_cases h2 : s.steps = 0
  · rw [if_pos h2]
    exact ref_Sync_no w s.room s.sure s.steps ⟨s.bs.toArray⟩ (by rw [hsz]; exact hbl) h2
  · rw [if_neg h2]
    exact ref_Sync_yes w s.room s.sure s.steps ⟨s.bs.toArray⟩ (by rw [hsz]; exact hbl) h2 k5 k6
/-- the region that appends: the box of the new disk is made at any time -/
def rwV (jb : Nat) (s s' : SlabS) (l d rec : List UInt8) (code : Int) (g : Nat) : List Value :=
  [.pointer (some ⟨jb, 0, none⟩), .agg (dsk s), .pointer (some ⟨jb, 5, none⟩), .agg (ida l), .string ⟨d.toArray⟩, .string ⟨rec.toArray⟩, .tuple #[.agg (dsk s'), .int .i64 code], .tuple #[.agg (dsk s'), .int .i64 code], .agg (dsk s'), .int .i64 code, .pointer (some ⟨g, 0, none⟩), undef, .int .i64 code]
def rwS (w0 : World) (X : Array Value) (s' : SlabS) (L : Array Bool) (g : Nat) (W : World) : Prop :=
  Blk W w0.heap.size 79 X ∧ Blk W (w0.heap.size + 1) 79 (jd s0 none 0 0 z32 false) ∧ New w0 W ∧
  (L.getD 11 false = true → L.getD 10 false = true) ∧ (L.getD 10 false = true → w0.heap.size + 1 < g ∧ Blk W g 41 (if L.getD 11 false = true then dsk s' else dsk s0))
section
variable {w0 : World} {X : Array Value} {s' : SlabS} {L : Array Bool} {g : Nat} {W W' : World}
theorem rwS.list (h : rwS w0 X s' L g W) (i : Nat) (h1 : i ≠ 10) (h2 : i ≠ 11) : rwS w0 X s' (L.setIfInBounds i true) g W := by
  unfold rwS at h ⊢
  rw [getD_set_ne false h1, getD_set_ne false h2]
  exact h
theorem rwS.new (h : rwS w0 X s' L g W) (f : New W W') : rwS w0 X s' L g W' :=
  ⟨h.1.fr f id, h.2.1.fr f id, h.2.2.1.trans f (fun _ h => h.elim), h.2.2.2.1, fun h10 => ⟨(h.2.2.2.2 h10).1, (h.2.2.2.2 h10).2.fr f id⟩⟩
theorem rwS.box (h : rwS w0 X s' L g W) (hz : L.size = 13) (h11 : L.getD 11 false = false) : rwS w0 X s' (L.setIfInBounds 10 true) W.heap.size (W.alloc (.cells (dsk s0) 41)) := by
  unfold rwS
  rw [getD_set_self (by rw [hz]; decide), getD_set_ne false (by decide), h11]
  exact ⟨h.1.alloc _, h.2.1.alloc _, h.2.2.1.then_alloc _, (fun h => by cases h), fun _ => ⟨h.2.1.lt, Blk.new W 41 (dsk s0)⟩⟩
theorem rwS.put (h : rwS w0 X s' L g W) (hz : L.size = 13) (h10 : L.getD 10 false = true) : rwS w0 X s' (L.setIfInBounds 11 true) g (W.setRow g (dsk s')) := by
  have hg := h.2.2.2.2 h10
  have f : Fr (fun k => k = g) W (W.setRow g (dsk s')) := (Fr.refl (fun k => k = g) W).setRow (g := g) rfl _
  unfold rwS
  rw [getD_set_self (by rw [hz]; decide), getD_set_ne false (by decide)]
  exact ⟨h.1.fr f (by omega), h.2.1.fr f (by omega), h.2.2.1.trans f (fun k hk => .inr (by omega)), fun _ => h10, fun _ => ⟨hg.1, by rw [if_pos rfl]; exact hg.2.setRow _⟩⟩
end
set_option maxHeartbeats 4000000 in
set_option maxRecDepth 20000 in
theorem r10write_down (w : World) (s : SlabS) (A : Option Addr) (c n : Nat) (l : List UInt8) (d : List UInt8) (hl : l.length = 32) :
    Calls Try.prog 42 #[.agg (jd s A n c l true), .string ⟨d.toArray⟩] w fun e w' => e = .returned (.tuple #[.agg (jd s A n c l true), .int .i64 90]) ∧ New w w' := by
  obtain ⟨ij, hij, hj0, hj1, hj2⟩ := info_parts infoRJ
  have hB1 := (Blk.new w 79 (jd s A n c l true)).alloc (.cells (jd s0 none 0 0 z32 false) 79)
  have hR1 := Blk.new (w.alloc (.cells (jd s A n c l true) 79)) 79 (jd s0 none 0 0 z32 false)
  rw [World.size_alloc] at hR1
  have hN1 : New w ((w.alloc (.cells (jd s A n c l true) 79)).alloc (.cells (jd s0 none 0 0 z32 false) 79)) := (Fr.alloc _ w _).then_alloc _
  have hc := jd_c37 hB1 hl
  have HSX := Lib.hid (show 38 = (jd s A n c l true).size by rw [jd_size _ _ _ _ _ _ hl])
  have HSX0 := Lib.hid (show (jd s0 none 0 0 z32 false).size = (jd s A n c l true).size by rw [jd_size _ _ _ _ _ _ hl]; rfl)
  have HB1 := Lib.hid hB1
  have HR1 := Lib.hid hR1
  have HN1 := Lib.hid hN1
  clear hB1 hR1 hN1
  go_enter Try.func42, Try.ntmps42
  go_wp2_with (first
    | (refine x_value (exec_box (T := 79) rfl rfl) (by simp [go_sem, Region.wanted, yielded]) ?_)
    | (refine x_value (x_alloc (T := 79) rfl hij hj0) (by simp [go_sem, Region.wanted, yielded]) ?_)
    | (refine x_value (exec_load (T := 79) (X := jd s A n c l true) (g := w.heap.size) (off := 0) rfl rfl Try.underlying79 rfl hij (hj1.trans HSX.out) HB1.out.at') (by simp [go_sem, Region.wanted, yielded]) ?_)
    | (refine x_skip (exec_store_all (T := 79) (X := jd s A n c l true) (g := w.heap.size + 1) (cs := jd s0 none 0 0 z32 false) rfl rfl rfl hij (hj1.trans HSX.out) (jd_one _ _ _ _ _ _) HR1.out HSX0.out) rfl ?_))
  refine bodyPost_ret (x_results2 rfl (x_loadVar Try.underlying79 rfl hij (hj1.trans HSX.out) (HR1.out.setRow _).at') rfl rfl) rfl ?_
  exact ⟨rfl, HN1.out.trans ((Fr.refl (fun k => k = w.heap.size + 1) _).setRow (g := w.heap.size + 1) rfl _) (fun k hk => .inr (by omega))⟩
theorem SlabS.append_good {s : SlabS} (h : s.ok) (T : List UInt8) : (s.append T).1.ok := by
  unfold SlabS.append
  by_cases h1 : s.room - s.bs.length < T.length
  · rw [if_pos h1]; exact h
  · rw [if_neg h1]
    by_cases h2 : s.steps = 0
    · rw [if_pos h2]; exact h
    · rw [if_neg h2]
      exact SlabS.app_ok h (by omega)
/-- the records copied, and one more: in memory -/
theorem rw_lists {W : World} {jb : Nat} {s : SlabS} {A : Option Addr} {c : Nat} {rs : List (List UInt8)} {l : List UInt8} {dn : Bool} (hB : Blk W jb 79 (jd s A rs.length c l dn)) (hR : Rd W A (tv rs)) (d : List UInt8) (hn : rs.length ≤ 4194304) :
    ∃ A2 c2 w1 A3 c3 w2, (Builtin.append_ #[58, 58] 58 #[.slice (some ⟨W.heap.size, 0, none⟩) 0 0, .slice A rs.length c]).run Try.prog (W.alloc (.cells #[] 9)) = .ok (.slice A2 rs.length c2) w1 ∧
      (Builtin.append_ #[58, 58] 58 #[.slice A2 rs.length c2, .slice (some ⟨w1.heap.size, 0, none⟩) 1 1]).run Try.prog (w1.alloc (.cells #[.string ⟨d.toArray⟩] 9)) = .ok (.slice A3 (rs.length + 1) c3) w2 ∧
      w2.frozen? ⟨jb, 4, none⟩ = false ∧ w2.cell? ⟨jb, 4, none⟩ = some (.slice A rs.length c) ∧
      Blk (w2.setCell ⟨jb, 4, none⟩ (.slice A3 (rs.length + 1) c3)) jb 79 (jd s A3 (rs.length + 1) c3 l dn) ∧
      Row (w2.setCell ⟨jb, 4, none⟩ (.slice A3 (rs.length + 1) c3)) 9 A3 c3 (tv (rs ++ [d])) ∧ (∀ k, ab A3 = some k → W.heap.size ≤ k) ∧ Fr (fun k => k = jb) W (w2.setCell ⟨jb, 4, none⟩ (.slice A3 (rs.length + 1) c3)) := by
  obtain ⟨i, hi, hz0, hz1, hz2⟩ := info_parts info9
  have hjb := hB.lt
  have hrow0 : Row (W.alloc (.cells #[] 9)) 9 (some ⟨W.heap.size, 0, none⟩) 0 [] := Row.mk (cur := #[]) (Blk.new W 9 #[]) (by simp) (by simp) (by simp)
  obtain ⟨A2, c2, w1, hrun1, hrow1, hf1, hA2⟩ := run_append_rd (P := Try.prog) (W.alloc (.cells #[] 9)) 58 58 9 i (.string ⟨#[]⟩) 16 Try.underlying58 hi hz0 hz1 hz2 rfl _ 0 [] hrow0 A c (tv rs) (hR.alloc _) (tv_one rs) (by simp [tv, maxLen]; omega) (by simp [tv]; omega)
  have hge2 : ∀ k, ab A2 = some k → W.heap.size ≤ k := fun k hk => by
    rcases hA2 k hk with h | h
    · simp [ab] at h; omega
    · simp at h; omega
  have hN1 : New W w1 := (Fr.alloc _ W _).trans hf1 (fun k hk => by simp [ab] at hk; omega)
  rw [List.nil_append] at hrow1
  have hrow1' : Row (w1.alloc (.cells #[.string ⟨d.toArray⟩] 9)) 9 A2 c2 (tv rs) := hrow1.fr (Fr.alloc (fun _ => False) w1 _) (fun _ _ => id)
  obtain ⟨A3, c3, w2, hrun2, hrow2, hf2, hA3⟩ := run_append_rd (P := Try.prog) (w1.alloc (.cells #[.string ⟨d.toArray⟩] 9)) 58 58 9 i (.string ⟨#[]⟩) 16 Try.underlying58 hi hz0 hz1 hz2 rfl A2 c2 (tv rs) hrow1'
    (some ⟨w1.heap.size, 0, none⟩) 1 (tv [d]) (Rd.lit w1 (tv [d]) 9 (0, 0)) (tv_one [d]) (by simp [tv, maxLen]; omega) (by simp [tv]; omega)
  have hsz1 := hN1.size
  have hge3 : ∀ k, ab A3 = some k → W.heap.size ≤ k := fun k hk => by
    rcases hA3 k hk with h | h
    · exact hge2 k h
    · rw [World.size_alloc] at h; omega
  have hf2' : New W w2 := (hN1.then_alloc (.cells #[.string ⟨d.toArray⟩] 9)).trans hf2 (fun k hk => .inr (hge2 k hk.symm))
  have hB2 := hB.fr hf2' id
  have hset := (Fr.refl (fun k => k = jb) w2).then_set (p := ⟨jb, 4, none⟩) rfl (.slice A3 (rs.length + 1) c3)
  simp only [tv, List.length_map, List.length_nil, Nat.zero_add] at hrun1
  simp only [tv, List.length_map, List.length_cons, List.length_nil, Nat.zero_add] at hrun2
  refine ⟨A2, c2, w1, A3, c3, w2, hrun1, hrun2, hB2.frozen 4, jd_c4 hB2, ?_, ?_, hge3, (hf2'.mono fun _ h => h.elim).trans hset (fun k hk => .inl hk)⟩
  · have := hB2.set 4 (.slice A3 (rs.length + 1) c3)
    rw [jd_recs] at this
    exact this
  · have e : tv (rs ++ [d]) = tv rs ++ tv [d] := by simp [tv]
    rw [e]
    exact hrow2.fr hset (fun k hk e => by have := hge3 k hk; omega)
def WJ (w0 : World) (X : Array Value) (W : World) : Prop := Blk W w0.heap.size 79 X ∧ Blk W (w0.heap.size + 1) 79 (jd s0 none 0 0 z32 false) ∧ New w0 W
theorem WJ.set {w0 W : World} {X : Array Value} (h : WJ w0 X W) (X' : Array Value) : WJ w0 X' (W.setRow w0.heap.size X') := by
  have f : Fr (fun k => k = w0.heap.size) W (W.setRow w0.heap.size X') := (Fr.refl (fun k => k = w0.heap.size) W).setRow (g := w0.heap.size) rfl _
  exact ⟨h.1.setRow _, h.2.1.fr f (by omega), h.2.2.trans f (fun k hk => .inr (by omega))⟩
theorem WJ.new {w0 W W' : World} {X : Array Value} (h : WJ w0 X W) (f : New W W') : WJ w0 X W' := ⟨h.1.fr f id, h.2.1.fr f id, h.2.2.trans f (fun _ h => h.elim)⟩
set_option maxHeartbeats 8000000 in
set_option maxRecDepth 20000 in
theorem r10write_up (w : World) (j : JS) (A : Option Addr) (c : Nat) (d : List UInt8) (hdn : j.down = false) (hok : j.s.ok) (hl : j.last.length = 32) (hR : Row w 9 A c (tv j.rs)) (hdl : d.length ≤ 262144) (hrl : j.rs.length ≤ 4194304) :
    Calls Try.prog 42 #[.agg (jd j.s A j.rs.length c j.last false), .string ⟨d.toArray⟩] w fun e w' => ∃ A2 c2, e = .returned (.tuple #[.agg (jd (j.write d).1.s A2 (j.write d).1.rs.length c2 (j.write d).1.last (j.write d).1.down), .int .i64 (j.write d).2]) ∧ Row w' 9 A2 c2 (tv (j.write d).1.rs) ∧ (∀ k, ab A2 = some k → ab A = some k ∨ w.heap.size ≤ k) ∧ New w w' := by
  obtain ⟨ij, hij, hj0, hj1, hj2⟩ := info_parts infoRJ
  obtain ⟨is, his, hs0, hs1, hs2⟩ := info_parts infoRS
  obtain ⟨ii, hii, hz0, hz1, hz2⟩ := info_parts infoID
  obtain ⟨s, rs, l, dn⟩ := j
  simp only at hdn hok hl hR hrl
  subst hdn
  have hB1 := (Blk.new w 79 (jd s A rs.length c l false)).alloc (.cells (jd s0 none 0 0 z32 false) 79)
  have hR1 := Blk.new (w.alloc (.cells (jd s A rs.length c l false) 79)) 79 (jd s0 none 0 0 z32 false)
  rw [World.size_alloc] at hR1
  have hN1 : New w ((w.alloc (.cells (jd s A rs.length c l false) 79)).alloc (.cells (jd s0 none 0 0 z32 false) 79)) := (Fr.alloc _ w _).then_alloc _
  have hc := jd_c37 hB1 hl
  obtain ⟨rec, hrec⟩ : ∃ rec, rec = Jrn.recB l d := ⟨_, rfl⟩
  obtain ⟨s1, hs1e⟩ : ∃ s1, s1 = (s.append rec).1 := ⟨_, rfl⟩
  obtain ⟨code, hcode⟩ : ∃ code, code = (s.append rec).2 := ⟨_, rfl⟩
  have hok1 : s1.ok := hs1e ▸ SlabS.append_good hok rec
  have HREC := Lib.hid (show ∀ W, Calls Try.prog 57 #[.agg (ida l), .string ⟨d.toArray⟩] W fun e w' => e = .returned (.string ⟨rec.toArray⟩) ∧ New W w' from fun W => hrec ▸ r10rec_any W l d hl (by omega))
  have HAPP := Lib.hid (show ∀ W, Calls Try.prog 25 #[.agg (dsk s), .string ⟨rec.toArray⟩] W fun e w' => e = .returned (.tuple #[.agg (dsk s1), .int .i64 code]) ∧ New W w' from fun W => hs1e ▸ hcode ▸ ref_append_all W s hok rec)
  have HS1 := Lib.hid (show s1 = (s.append (Jrn.recB l d)).1 ∧ code = (s.append (Jrn.recB l d)).2 from ⟨hrec ▸ hs1e, hrec ▸ hcode⟩)
  clear hrec hs1e hcode
  have HSZ := Lib.hid (show 4 = (dsk s).size from rfl)
  have HSZ1 := Lib.hid (show 4 = (dsk s1).size from rfl)
  have HLS := Lib.hid (show 32 = (ida l).size by rw [ida_size, hl])
  have hW0 : rwS w (jd s A rs.length c l false) s1 (Array.replicate 13 false) 0 ((w.alloc (.cells (jd s A rs.length c l false) 79)).alloc (.cells (jd s0 none 0 0 z32 false) 79)) := ⟨hB1, hR1, hN1, fun h => by simp at h, fun h => by simp at h⟩
  have HW0 := Lib.hid hW0
  have HR := Lib.hid hR
  have hdl' : (d.length : Int) ≤ 262144 := by omega
  clear hB1 hR1 hN1 hW0 hR
  go_enter Try.func42, Try.ntmps42
  go_wp2_with (first
    | (refine x_value (exec_box (T := 79) rfl rfl) (by simp [go_sem, Region.wanted, yielded]) ?_)
    | (refine x_value (x_alloc (T := 79) rfl hij hj0) (by simp [go_sem, Region.wanted, yielded]) ?_))
  generalize (w.alloc (.cells (jd s A rs.length c l false) 79)).alloc (.cells (jd s0 none 0 0 z32 false) 79) = w3 at *
  clear hc
  refine wp_region_ghost (by kernel_rfl) (by kernel_rfl) (rwV w.heap.size s s1 l d rec code) (fun _ => rfl) (by kernel_rfl) (rwS w (jd s A rs.length c l false) s1) 0 (HW0.out.new (Fr.drew (fun _ => False) _)) _ (by funext g; simp [rwV, putAll, Act.put]; rfl) ?hops ?after
  case hops =>
    refine ⟨?_, ?_, ?_, ?_, ?_, ?_, ?_, ?_, ?_, ?_, ?_, ?_, ?_, trivial⟩
    all_goals
      intro g L W' hz hd hn HS
      refine jheld_want rfl ?_
      have HP := Lib.hid HS
    · have H2 := ghost_keep (vs := (rwV w.heap.size s s1 l d rec code)) (S := (rwS w (jd s A rs.length c l false) s1)) (g := g) (i := 0) rfl (HS.list 0 (by decide) (by decide))
      clear hd hn hz HS
      unfold opGhost
      go_simp
    · exact ghost_value (exec_load (T := 41) (X := dsk s) (g := w.heap.size) (off := 0) rfl rfl Try.underlying41 rfl his (hs1.trans HSZ.out) (jd_at0 HS.1)) (ghost_keep (vs := (rwV w.heap.size s s1 l d rec code)) (S := (rwS w (jd s A rs.length c l false) s1)) (g := g) (i := 1) rfl (HS.list 1 (by decide) (by decide)))
    · have H2 := ghost_keep (vs := (rwV w.heap.size s s1 l d rec code)) (S := (rwS w (jd s A rs.length c l false) s1)) (g := g) (i := 2) rfl (HS.list 2 (by decide) (by decide))
      clear hd hn hz HS
      unfold opGhost
      go_simp
    · exact ghost_value (exec_load (T := 60) (X := ida l) (g := w.heap.size) (off := 5) rfl rfl underID rfl hii (hz1.trans HLS.out) (jd_at5 HS.1)) (ghost_keep (vs := (rwV w.heap.size s s1 l d rec code)) (S := (rwS w (jd s A rs.length c l false) s1)) (g := g) (i := 3) rfl (HS.list 3 (by decide) (by decide)))
    · have H2 := ghost_keep (vs := (rwV w.heap.size s s1 l d rec code)) (S := (rwS w (jd s A rs.length c l false) s1)) (g := g) (i := 4) rfl (HS.list 4 (by decide) (by decide))
      clear hd hn hz HS
      unfold opGhost
      go_simp
    · have hc := HREC.out W'
      clear hd hn hz
      unfold opGhost
      go_simp
      exact (show CallsIn Fence.wide 0 _ _ _ _ _ from (callsIn_wide.2 hc).mono fun e w'' ⟨he, hw⟩ => ⟨_, he, ghost_keep (vs := (rwV w.heap.size s s1 l d rec code)) (S := (rwS w (jd s A rs.length c l false) s1)) (g := g) (i := 5) rfl ((HS.new hw).list 5 (by decide) (by decide))⟩)
    · have hc := HAPP.out W'
      clear hd hn hz
      unfold opGhost
      go_simp
      exact (show CallsIn Fence.wide 0 _ _ _ _ _ from (callsIn_wide.2 hc).mono fun e w'' ⟨he, hw⟩ => ⟨_, he, ghost_keep (vs := (rwV w.heap.size s s1 l d rec code)) (S := (rwS w (jd s A rs.length c l false) s1)) (g := g) (i := 6) rfl ((HS.new hw).list 6 (by decide) (by decide))⟩)
    · have H2 := ghost_keep (vs := (rwV w.heap.size s s1 l d rec code)) (S := (rwS w (jd s A rs.length c l false) s1)) (g := g) (i := 7) rfl (HS.list 7 (by decide) (by decide))
      clear hd hn hz HS
      unfold opGhost
      go_simp
    · have H2 := ghost_keep (vs := (rwV w.heap.size s s1 l d rec code)) (S := (rwS w (jd s A rs.length c l false) s1)) (g := g) (i := 8) rfl (HS.list 8 (by decide) (by decide))
      clear hd hn hz HS
      unfold opGhost
      go_simp
    · have H2 := ghost_keep (vs := (rwV w.heap.size s s1 l d rec code)) (S := (rwS w (jd s A rs.length c l false) s1)) (g := g) (i := 9) rfl (HS.list 9 (by decide) (by decide))
      clear hd hn hz HS
      unfold opGhost
      go_simp
    · have h11 : L.getD 11 false = false := by
        cases h : L.getD 11 false with
        | false => rfl
        | true =>
          have h10 := HS.2.2.2.1 h
          rw [getD_no (i := 10) (by rw [hz]; decide) hn] at h10
          cases h10
      have H2 : ∃ g', (rwV w.heap.size s s1 l d rec code) g' = ((rwV w.heap.size s s1 l d rec code) g).set 10 (.pointer (some ⟨W'.heap.size, 0, none⟩)) ∧ (rwS w (jd s A rs.length c l false) s1) (L.setIfInBounds 10 true) g' (W'.alloc (.cells (dsk s0) 41)) := ⟨W'.heap.size, rfl, HS.box hz h11⟩
      exact ghost_value (x_alloc (T := 41) rfl his hs0) H2
    · have h10 : L.getD 10 false = true := hd ⟨10, .data⟩ (by simp) rfl
      have hB := (HS.2.2.2.2 h10).2
      rw [getD_no (i := 11) (by rw [hz]; decide) hn, if_neg (by decide)] at hB
      exact ghost_skip (exec_store_all (T := 41) (X := dsk s1) (g := g) (cs := dsk s0) rfl rfl rfl his (hs1.trans HSZ1.out) (dsk_one _) hB rfl) (ghost_keep (vs := (rwV w.heap.size s s1 l d rec code)) (S := (rwS w (jd s A rs.length c l false) s1)) (g := g) (i := 11) rfl (HS.put hz h10))
    · have H2 := ghost_keep (vs := (rwV w.heap.size s s1 l d rec code)) (S := (rwS w (jd s A rs.length c l false) s1)) (g := g) (i := 12) rfl (HS.list 12 (by decide) (by decide))
      clear hd hn hz HS
      unfold opGhost
      go_simp
  case after =>
    rintro g L W5 hz hal hP
    have hall : ∀ i, i < 13 → L.getD i false = true := fun i hi => by
      have := hal i
      rw [Array.getD_eq_getD_getElem?] at this ⊢
      rw [Array.getElem?_eq_getElem (by rw [hz]; exact hi)] at this ⊢
      exact this
    have hg := hP.2.2.2.2 (hall 10 (by decide))
    rw [hall 11 (by decide), if_pos rfl] at hg
    have HG := Lib.hid hg.2
    have HJ := Lib.hid hP.1
    have HJR := Lib.hid (show 0 + (dsk s1).size ≤ (jd s A rs.length c l false).size by rw [jd_size _ _ _ _ _ _ hl]; show 0 + 4 ≤ 38; omega)
    have HDK := Lib.hid (jd_disk s s1 A rs.length c l false)
    have HW6 := Lib.hid ((show WJ w (jd s A rs.length c l false) W5 from ⟨hP.1, hP.2.1, hP.2.2.1⟩).set (jd s1 A rs.length c l false))
    clear hP hg hall hal hz
    go_upto_region 7 with (first
      | (refine x_value (exec_load (T := 41) (X := dsk s1) (g := g) (off := 0) rfl rfl Try.underlying41 rfl his (hs1.trans HSZ1.out) HG.out.at') (by simp [go_sem, Region.wanted, yielded]) ?_)
      | (refine x_skip (exec_store (T := 41) (X := dsk s1) (g := w.heap.size) (off := 0) (cs := jd s A rs.length c l false) rfl rfl rfl his (hs1.trans HSZ1.out) (dsk_one _) HJ.out HJR.out) rfl ?_; rw [HDK.out]))
    clear HG HJ HJR HDK
    generalize W5.setRow w.heap.size (jd s1 A rs.length c l false) = W6 at *
    conv => arg 4; simp [Act.put, go_sem]
    go_upto_if 29 with fail
    go_cut [7] (fun v W => ∃ (s2 : SlabS) (code2 : Int), v = .int .i64 code2 ∧ WJ w (jd s2 A rs.length c l false) W ∧ ((code2 ≠ 0 ∧ (JS.mk s rs l false).write d = (⟨s2, rs, l, code2 == 90⟩, code2)) ∨ (code2 = 0 ∧ (JS.mk s rs l false).write d = (⟨s2, rs ++ [d], Jrn.link l d, false⟩, 0))))
    case first =>
      by_cases hc0 : code = 0
      · have hcb : (code == 0) = true := beq_iff_eq.2 hc0
        have hcd : decide (code = 0) = true := decide_eq_true hc0
        have HC0 := Lib.hid hc0
        have HJ := Lib.hid HW6.out.1
        clear hc0
        go_wp2_with (refine x_value (exec_load (T := 41) (X := dsk s1) (g := w.heap.size) (off := 0) rfl rfl Try.underlying41 rfl his (hs1.trans HSZ1.out) (jd_at0 HJ.out)) (by simp [go_sem, Region.wanted, yielded]) ?_)
        refine (ref_sync_all _ s1 hok1).mono ?_
        rintro e W7 ⟨rfl, hN7⟩
        have HSZ2 := Lib.hid (show 4 = (dsk s1.sync.1).size from rfl)
        have hW7 := HW6.out.new hN7
        have HJ7 := Lib.hid hW7.1
        have HJR := Lib.hid (show 0 + (dsk s1.sync.1).size ≤ (jd s1 A rs.length c l false).size by rw [jd_size _ _ _ _ _ _ hl]; show 0 + 4 ≤ 38; omega)
        have HDK := Lib.hid (jd_disk s1 s1.sync.1 A rs.length c l false)
        have HW8 := Lib.hid (hW7.set (jd s1.sync.1 A rs.length c l false))
        clear hW7 hN7 HW6 HJ
        go_wp2_with (refine x_skip (exec_store (T := 41) (X := dsk s1.sync.1) (g := w.heap.size) (off := 0) (cs := jd s1 A rs.length c l false) rfl rfl rfl his (hs1.trans HSZ2.out) (dsk_one _) HJ7.out HJR.out) rfl ?_; rw [HDK.out])
        go_meet
        refine ⟨s1.sync.1, s1.sync.2, rfl, HW8.out, ?_⟩
        have e1 := HS1.out.1
        have e2 := HS1.out.2
        rw [HC0.out] at e2
        by_cases h2 : s1.sync.2 = 0
        · refine .inr ⟨h2, ?_⟩
          unfold JS.write
          rw [if_neg (by simp), if_neg (by omega)]
          simp only
          rw [← e1, ← e2, if_neg (by simp), if_neg (by rw [h2]; simp)]
        · refine .inl ⟨h2, ?_⟩
          unfold JS.write
          rw [if_neg (by simp), if_neg (by omega)]
          simp only
          rw [← e1, ← e2, if_neg (by simp), if_pos h2]
      · have hcb : (code == 0) = false := beq_false_of_ne hc0
        have hcd : decide (code = 0) = false := decide_eq_false hc0
        go_wp2_with fail
        go_meet
        refine ⟨s1, code, rfl, HW6.out, .inl ⟨hc0, ?_⟩⟩
        have e1 := HS1.out.1
        have e2 := HS1.out.2
        unfold JS.write
        rw [if_neg (by simp), if_neg (by omega)]
        simp only
        rw [← e1, ← e2, if_pos hc0]
    case rest =>
      obtain ⟨s2, code2, rfl, hW, hor⟩ := hcut
      clear HW6 hok1 HS1 HAPP HREC HSZ HSZ1
      rcases hor with ⟨hc, hw⟩ | ⟨hc, hw⟩
      · have hcb : (code2 == 0) = false := beq_false_of_ne hc
        have hcb2 : (code2 != 0) = true := bne_iff_ne.2 hc
        by_cases h90 : code2 = 90
        · subst h90
          have e90 : ((90 : Int) == 90) = true := rfl
          rw [e90] at hw
          have hc37 := jd_c37 hW.1 hl
          have hf37 := hW.1.frozen 37
          have hset := (Fr.refl (fun k => k = w.heap.size) wc).then_set (p := ⟨w.heap.size, 37, none⟩) rfl (.bool true)
          have hB7 := hW.1.set 37 (.bool true)
          rw [jd_down _ _ _ _ _ _ _ hl] at hB7
          have hN7 := hW.2.2.trans hset (fun k hk => .inr (by omega))
          have HBR := Lib.hid (show Blk (wc.setCell ⟨w.heap.size, 37, none⟩ (.bool true)) (w.heap.size + 1) 79 (jd s0 none 0 0 z32 false) from hW.2.1.far (by simp) _)
          have HB7 := Lib.hid hB7
          have HN7 := Lib.hid hN7
          have HSX := Lib.hid (show 38 = (jd s2 A rs.length c l true).size by rw [jd_size _ _ _ _ _ _ hl])
          have HSX0 := Lib.hid (show (jd s0 none 0 0 z32 false).size = (jd s2 A rs.length c l true).size by rw [jd_size _ _ _ _ _ _ hl]; rfl)
          have HWR := Lib.hid hw
          clear hW hset hB7 hN7 hw
          go_wp2_with (first
            | (refine x_value (exec_load (T := 79) (X := jd s2 A rs.length c l true) (g := w.heap.size) (off := 0) rfl rfl Try.underlying79 rfl hij (hj1.trans HSX.out) HB7.out.at') (by simp [go_sem, Region.wanted, yielded]) ?_)
            | (refine x_skip (exec_store_all (T := 79) (X := jd s2 A rs.length c l true) (g := w.heap.size + 1) (cs := jd s0 none 0 0 z32 false) rfl rfl rfl hij (hj1.trans HSX.out) (jd_one _ _ _ _ _ _) HBR.out HSX0.out) rfl ?_))
          have hfr : Fr (fun k => k = w.heap.size + 1) (wc.setCell ⟨w.heap.size, 37, none⟩ (.bool true)) ((wc.setCell ⟨w.heap.size, 37, none⟩ (.bool true)).setRow (w.heap.size + 1) (jd s2 A rs.length c l true)) := (Fr.refl (fun k => k = w.heap.size + 1) _).setRow (g := w.heap.size + 1) rfl _
          have hNf : New w ((wc.setCell ⟨w.heap.size, 37, none⟩ (.bool true)).setRow (w.heap.size + 1) (jd s2 A rs.length c l true)) := HN7.out.trans hfr (fun k hk => .inr (by omega))
          refine bodyPost_ret (x_results2 rfl (x_loadVar Try.underlying79 rfl hij (hj1.trans HSX.out) (HBR.out.setRow _).at') rfl rfl) rfl ?_
          rw [HWR.out]
          exact ⟨A, c, rfl, HR.out.fr hNf (fun _ _ => id), fun k hk => .inl hk, hNf⟩
        · have hnb : (code2 == 90) = false := beq_false_of_ne h90
          have hnd : decide (code2 = 90) = false := decide_eq_false h90
          rw [hnb] at hw
          have hc37 := jd_c37 hW.1 hl
          have hf37 := hW.1.frozen 37
          have hset := (Fr.refl (fun k => k = w.heap.size) wc).then_set (p := ⟨w.heap.size, 37, none⟩) rfl (.bool false)
          have hB7 := hW.1.set 37 (.bool false)
          rw [jd_down _ _ _ _ _ _ _ hl] at hB7
          have hN7 := hW.2.2.trans hset (fun k hk => .inr (by omega))
          have HBR := Lib.hid (show Blk (wc.setCell ⟨w.heap.size, 37, none⟩ (.bool false)) (w.heap.size + 1) 79 (jd s0 none 0 0 z32 false) from hW.2.1.far (by simp) _)
          have HB7 := Lib.hid hB7
          have HN7 := Lib.hid hN7
          have HSX := Lib.hid (show 38 = (jd s2 A rs.length c l false).size by rw [jd_size _ _ _ _ _ _ hl])
          have HSX0 := Lib.hid (show (jd s0 none 0 0 z32 false).size = (jd s2 A rs.length c l false).size by rw [jd_size _ _ _ _ _ _ hl]; rfl)
          have HWR := Lib.hid hw
          clear hW hset hB7 hN7 hw
          go_wp2_with (first
            | (refine x_value (exec_load (T := 79) (X := jd s2 A rs.length c l false) (g := w.heap.size) (off := 0) rfl rfl Try.underlying79 rfl hij (hj1.trans HSX.out) HB7.out.at') (by simp [go_sem, Region.wanted, yielded]) ?_)
            | (refine x_skip (exec_store_all (T := 79) (X := jd s2 A rs.length c l false) (g := w.heap.size + 1) (cs := jd s0 none 0 0 z32 false) rfl rfl rfl hij (hj1.trans HSX.out) (jd_one _ _ _ _ _ _) HBR.out HSX0.out) rfl ?_))
          have hfr : Fr (fun k => k = w.heap.size + 1) (wc.setCell ⟨w.heap.size, 37, none⟩ (.bool false)) ((wc.setCell ⟨w.heap.size, 37, none⟩ (.bool false)).setRow (w.heap.size + 1) (jd s2 A rs.length c l false)) := (Fr.refl (fun k => k = w.heap.size + 1) _).setRow (g := w.heap.size + 1) rfl _
          have hNf : New w ((wc.setCell ⟨w.heap.size, 37, none⟩ (.bool false)).setRow (w.heap.size + 1) (jd s2 A rs.length c l false)) := HN7.out.trans hfr (fun k hk => .inr (by omega))
          refine bodyPost_ret (x_results2 rfl (x_loadVar Try.underlying79 rfl hij (hj1.trans HSX.out) (HBR.out.setRow _).at') rfl rfl) rfl ?_
          rw [HWR.out]
          exact ⟨A, c, rfl, HR.out.fr hNf (fun _ _ => id), fun k hk => .inl hk, hNf⟩
      · subst hc
        obtain ⟨A2, c2, w1, A3, c3, w2, hrun1, hrun2, hf4, hc4, hB8, hR8, hA3, hfr8⟩ := rw_lists hW.1 (HR.out.fr hW.2.2 (fun _ _ => id)).rd d hrl
        have c4 := jd_c4 hW.1
        have hfr8' : New w (w2.setCell ⟨w.heap.size, 4, none⟩ (.slice A3 (rs.length + 1) c3)) := hW.2.2.trans hfr8 (fun k hk => .inr (by omega))
        have hRB := hW.2.1.fr hfr8 (by omega)
        have hwsz := hW.2.1.lt
        have HLK := Lib.hid (r10link_any (w2.setCell ⟨w.heap.size, 4, none⟩ (.slice A3 (rs.length + 1) c3)) l d hl (by omega))
        have HB8 := Lib.hid hB8
        have HS8 := Lib.hid (show WJ w (jd s2 A3 (rs.length + 1) c3 l false) (w2.setCell ⟨w.heap.size, 4, none⟩ (.slice A3 (rs.length + 1) c3)) from ⟨hB8, hRB, hfr8'⟩)
        have HR8 := Lib.hid hR8
        have HA3 := Lib.hid (show ∀ k, ab A3 = some k → w.heap.size + 1 < k from fun k hk => by have := hA3 k hk; omega)
        have HDL := Lib.hid (show (Jrn.link l d).length = 32 from rfl)
        have HWR := Lib.hid hw
        have c4' : (wc.alloc (.cells #[] 9)).cell? ⟨w.heap.size, 4, none⟩ = some (.slice A rs.length c) := jd_c4 (hW.1.alloc _)
        generalize Jrn.link l d = l2 at *
        clear hW hfr8 hfr8' hRB hB8 hR8 hA3 hw
        go_wp2_with (first
          | (at_builtin; refine wpList_append_run hrun1 rfl rfl _ _ rfl rfl rfl ?_)
          | (at_builtin; refine wpList_append_run hrun2 rfl rfl _ _ rfl rfl rfl ?_)
          | (refine x_value (exec_load (T := 60) (X := ida l) (g := w.heap.size) (off := 5) rfl rfl underID rfl hii (hz1.trans HLS.out) (jd_at5 HB8.out)) (by simp [go_sem, Region.wanted, yielded]) ?_))
        refine HLK.out.mono ?_
        rintro e w9 ⟨rfl, hN9⟩
        have hS9 := HS8.out.new hN9
        have HB9 := Lib.hid hS9.1
        have HLS2 := Lib.hid (show 32 = (ida l2).size by rw [ida_size, HDL.out])
        have HJR := Lib.hid (show 5 + (ida l2).size ≤ (jd s2 A3 (rs.length + 1) c3 l false).size by rw [jd_size _ _ _ _ _ _ hl, ida_size, HDL.out]; omega)
        have HDK := Lib.hid (jd_last s2 A3 (rs.length + 1) c3 l l2 false hl HDL.out)
        have hS10 := hS9.set (jd s2 A3 (rs.length + 1) c3 l2 false)
        have HR9 := Lib.hid (HR8.out.fr hN9 (fun _ _ => id))
        have HB10 := Lib.hid hS10.1
        have HBR := Lib.hid hS10.2.1
        have HN10 := Lib.hid hS10.2.2
        have HSX := Lib.hid (show 38 = (jd s2 A3 (rs.length + 1) c3 l2 false).size by rw [jd_size _ _ _ _ _ _ HDL.out])
        have HSX0 := Lib.hid (show (jd s0 none 0 0 z32 false).size = (jd s2 A3 (rs.length + 1) c3 l2 false).size by rw [jd_size _ _ _ _ _ _ HDL.out]; rfl)
        clear hrun1 hrun2 hf4 hc4 c4 c4' hN9 hS9 hS10 HS8 HB8 HLK HR8
        go_wp2_with (first
          | (refine x_skip (exec_store (T := 60) (X := ida l2) (g := w.heap.size) (off := 5) (cs := jd s2 A3 (rs.length + 1) c3 l false) rfl rfl rfl hii (hz1.trans HLS2.out) (ida_one _) HB9.out HJR.out) rfl ?_; rw [HDK.out])
          | (refine x_value (exec_load (T := 79) (X := jd s2 A3 (rs.length + 1) c3 l2 false) (g := w.heap.size) (off := 0) rfl rfl Try.underlying79 rfl hij (hj1.trans HSX.out) HB10.out.at') (by simp [go_sem, Region.wanted, yielded]) ?_)
          | (refine x_skip (exec_store_all (T := 79) (X := jd s2 A3 (rs.length + 1) c3 l2 false) (g := w.heap.size + 1) (cs := jd s0 none 0 0 z32 false) rfl rfl rfl hij (hj1.trans HSX.out) (jd_one _ _ _ _ _ _) HBR.out HSX0.out) rfl ?_))
        generalize hw10 : w9.setRow w.heap.size (jd s2 A3 (rs.length + 1) c3 l2 false) = w10 at *
        have hf10 : Fr (fun k => k = w.heap.size) w9 w10 := hw10 ▸ (Fr.refl (fun k => k = w.heap.size) w9).setRow (g := w.heap.size) rfl _
        have hfr : Fr (fun k => k = w.heap.size + 1) w10 (w10.setRow (w.heap.size + 1) (jd s2 A3 (rs.length + 1) c3 l2 false)) := (Fr.refl (fun k => k = w.heap.size + 1) _).setRow (g := w.heap.size + 1) rfl _
        refine bodyPost_ret (x_results2 rfl (x_loadVar Try.underlying79 rfl hij (hj1.trans HSX.out) (HBR.out.setRow _).at') rfl rfl) rfl ?_
        rw [HWR.out]
        refine ⟨A3, c3, by simp, ?_, fun k hk => .inr (by have := HA3.out k hk; omega), HN10.out.trans hfr (fun k hk => .inr (by omega))⟩
        exact ((HR9.out.fr hf10 (fun k hk e => by have := HA3.out k hk; omega)).fr hfr (fun k hk e => by have := HA3.out k hk; omega))
theorem r10write_any (w : World) (j : JS) (A : Option Addr) (c : Nat) (d : List UInt8) (hok : j.s.ok) (hl : j.last.length = 32) (hR : Row w 9 A c (tv j.rs)) (hdl : d.length ≤ 262144) (hrl : j.rs.length ≤ 4194304) :
    Calls Try.prog 42 #[.agg (jd j.s A j.rs.length c j.last j.down), .string ⟨d.toArray⟩] w fun e w' => ∃ A2 c2, e = .returned (.tuple #[.agg (jd (j.write d).1.s A2 (j.write d).1.rs.length c2 (j.write d).1.last (j.write d).1.down), .int .i64 (j.write d).2]) ∧ Row w' 9 A2 c2 (tv (j.write d).1.rs) ∧ (∀ k, ab A2 = some k → ab A = some k ∨ w.heap.size ≤ k) ∧ New w w' := by
  cases hd : j.down with
  | false =>
    have h := r10write_up w j A c d hd hok hl hR hdl hrl
    exact h
  | true =>
    have hw : j.write d = (j, 90) := by
      unfold JS.write
      rw [if_pos hd]
    rw [hw]
    simp only [hd]
    exact (r10write_down w j.s A c j.rs.length j.last d hl).mono fun e w' ⟨he, hN⟩ => ⟨A, c, he, hR.fr hN (fun _ _ => id), fun k hk => .inl hk, hN⟩
end Go.Proofs.Ytefalfalapnllaa
