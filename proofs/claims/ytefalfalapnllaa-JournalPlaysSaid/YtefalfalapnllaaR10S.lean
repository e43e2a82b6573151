/- The contract of the document's Open for journals. (Printed by gen_r10s.py.) -/
import Derived.Test.YtefalfalapnllaaR10P
import Derived.Test.YtefalfalapnllaaSlabRef
import Derived.Deep.RegionWith
import Derived.Deep.DeepCutAuto
import Derived.WalkMore
namespace Go.Proofs.Ytefalfalapnllaa
open Go.RowKit Go.Shelf
set_option linter.unusedVariables false
theorem DJ.put_disk {w0 W : World} {s : SlabS} {A : Option Addr} {c : Nat} {rs : List (List UInt8)} {l : List UInt8} (h : DJ w0 s A c rs l W) (s' : SlabS) : DJX w0 s s' A c rs l (W.setRow (w0.heap.size + 2) (jd s' A rs.length c l false)) := by
  have f : Fr (fun k => k = w0.heap.size + 2) W (W.setRow (w0.heap.size + 2) (jd s' A rs.length c l false)) := (Fr.refl (fun k => k = w0.heap.size + 2) W).setRow (g := w0.heap.size + 2) rfl _
  exact ⟨h.rblk.fr f (by omega), h.jblk.setRow _, h.row.fr f (fun k hk e => by have := h.own k hk; omega), h.own, h.len, h.new.trans f (fun k hk => .inr (by omega))⟩
theorem DJ.other {w0 W : World} {s : SlabS} {A : Option Addr} {c : Nat} {rs : List (List UInt8)} {l : List UInt8} (h : DJ w0 s A c rs l W) {k : Nat} {t : TypeId} {cs : Array Value} (hk : w0.heap.size + 2 < k) (hb : Blk W k t cs) (s' : SlabS) : Blk (W.setRow (w0.heap.size + 2) (jd s' A rs.length c l false)) k t cs :=
  hb.fr ((Fr.refl (fun k => k = w0.heap.size + 2) W).setRow (g := w0.heap.size + 2) rfl _) (by omega)
set_option maxHeartbeats 8000000 in
set_option maxRecDepth 20000 in
theorem r10open_any (w : World) (s : SlabS) (hs : s.ok) :
    Calls Try.prog 41 #[.agg (dsk s)] w fun e w' => ∃ (j : JS) (A : Option Addr) (c : Nat), (openOf s = (some j, 0) ∧ j.down = false ∧ e = .returned (.tuple #[.agg (jd j.s A j.rs.length c j.last false), .int .i64 0]) ∧ Row w' 9 A c (tv j.rs) ∧ (∀ k, ab A = some k → w.heap.size ≤ k) ∧ New w w') ∨
      (∃ code, openOf s = (none, code) ∧ code ≠ 0 ∧ e = .returned (.tuple #[.agg (jd s none 0 0 z32 false), .int .i64 code]) ∧ New w w') := by
  obtain ⟨ij, hij, hj0, hj1, hj2⟩ := info_parts infoRJ
  obtain ⟨is, his, hs0, hs1, hs2⟩ := info_parts infoRS
  obtain ⟨ii, hii, hz0, hz1, hz2⟩ := info_parts infoID
  have hD0 := DJ.at_start w s
  have HJZ := Lib.hid (show 38 = (jd s none 0 0 z32 false).size from rfl)
  have HJZ0 := Lib.hid (show (jd s0 none 0 0 z32 false).size = (jd s none 0 0 z32 false).size from rfl)
  have HSZ := Lib.hid (show 4 = (dsk s).size from rfl)
  have hat : At ((w.alloc (.cells (dsk s) 41)).alloc (.cells (jd s0 none 0 0 z32 false) 79)) w.heap.size 0 (dsk s) := ((Blk.new w 41 (dsk s)).alloc _).at'
  have HD0 := Lib.hid hD0
  have HAT := Lib.hid hat
  have hjsz : ((w.alloc (.cells (dsk s) 41)).alloc (.cells (jd s0 none 0 0 z32 false) 79)).heap.size = w.heap.size + 2 := by simp
  clear hD0 hat
  have hjsz1 : (w.alloc (.cells (dsk s) 41)).heap.size = w.heap.size + 1 := by simp
  go_enter Try.func41, Try.ntmps41
  go_wp2_with (first
    | (refine x_value (exec_box (T := 41) rfl rfl) (by simp [go_sem, Region.wanted, yielded]) ?_)
    | (refine x_value (x_alloc (T := 79) rfl hij hj0) (by simp [go_sem, Region.wanted, yielded]) ?_)
    | (refine x_value (exec_load (T := 41) (X := dsk s) (g := w.heap.size) (off := 0) rfl rfl Try.underlying41 rfl his (hs1.trans HSZ.out) HAT.out) (by simp [go_sem, Region.wanted, yielded]) ?_)
    | (refine x_value (exec_build_rj (s := s) rfl rfl) (by simp [go_sem, Region.wanted, yielded]) ?_)
    | (refine x_skip (exec_store_new (T := 79) (X := jd s none 0 0 z32 false) (Z := jd s0 none 0 0 z32 false) rfl rfl (by simp) rfl hij (hj1.trans HJZ.out) (jd_one _ _ _ _ _ _) HJZ0.out) rfl ?_))
  have hbl : s.bs.length ≤ 4194304 := by have := hs.2.2.1; have := hs.2.2.2.1; omega
  generalize ((w.alloc (.cells (dsk s) 41)).alloc (.cells (jd s0 none 0 0 z32 false) 79)).alloc (.cells (jd s none 0 0 z32 false) 79) = w3 at *
  clear hjsz hjsz1 HAT
  go_loopw [5] (fun i W => ∃ (a : Nat) (A : Option Addr) (c : Nat) (rs : List (List UInt8)) (l : List UInt8), i = .int .i64 a ∧ a ≤ s.bs.length ∧ 35 * rs.length ≤ a ∧ Jrn.opened s.bs = Jrn.scan s.bs s.bs.length a rs l ∧ DJ w s A c rs l W) (fun i _ => s.bs.length - (intOf i).toNat)
  case atStart => exact ⟨0, none, 0, [], z32, rfl, Nat.zero_le _, Nat.zero_le _, rfl, HD0.out⟩
  case round =>
    clear HD0
    obtain ⟨a, A, c, rs, l, rfl, ha, hra, hsc, hD⟩ := hrel
    have c3 := hD.sblk.cell 3
    simp only [dsk] at c3
    have HD := Lib.hid hD
    have HSC := Lib.hid hsc
    clear hD hsc
    by_cases h35 : s.bs.length < a + 35
    · have hd35 : decide ((35 : Int) ≤ (s.bs.length : Int) - (a : Int)) = false := decide_eq_false (by omega)
      have HST := Lib.hid (HSC.out.trans (Jrn.scan_short h35))
      have hcl : (⟨s.bs.toArray⟩ : ByteArray).size = s.bs.length := rfl
      by_cases hal : a < s.bs.length
      · have hdal : decide ((a : Int) < (s.bs.length : Int)) = true := decide_eq_true (by omega)
        by_cases hst0 : s.steps = 0
        · have hop : openOf s = (none, 90) := by
            unfold openOf
            rw [HST.out]
            simp only
            rw [if_pos hal, if_pos hst0]
          go_wp2_with (refine x_value (exec_load (T := 41) (X := dsk s) (g := w.heap.size) (off := 0) rfl rfl Try.underlying41 rfl his (hs1.trans HSZ.out) HD.out.sblk.at') (by simp [go_sem, Region.wanted, yielded]) ?_)
          refine Calls.mono (show Calls Try.prog 27 #[.agg (dsk s), .int .i64 (a : Int)] _ _ from ref_Cut_no _ s.room s.sure s.steps ⟨s.bs.toArray⟩ a (by rw [hcl]; exact hbl) (by rw [hcl]; exact ha) hst0) ?_
          rintro e W4 ⟨rfl, hN4⟩
          rw [show refv s.room s.sure s.steps ⟨s.bs.toArray⟩ = .agg (dsk s) from rfl]
          have hD4 := HD.out.then_new hN4
          have HDY4 := Lib.hid (hD4.then_new (Fr.alloc (fun _ => False) W4 (.cells (dsk s) 41)))
          have HOP := Lib.hid hop
          clear hN4 hD4 hop HD
          go_wp2_with (first
            | (refine x_value (x_alloc (T := 41) rfl his hs0) (by simp [go_sem, Region.wanted, yielded]) ?_)
            | (refine x_skip (exec_store_new (T := 41) (X := dsk s) (Z := dsk s0) rfl rfl rfl rfl his (hs1.trans HSZ.out) (dsk_one _) rfl) rfl ?_)
            | (refine x_value (exec_load (T := 41) (X := dsk s) (g := w.heap.size) (off := 0) rfl rfl Try.underlying41 rfl his (hs1.trans HSZ.out) HDY4.out.sblk.at') (by simp [go_sem, Region.wanted, yielded]) ?_)
            | (refine x_value (exec_build_rj (s := s) rfl rfl) (by simp [go_sem, Region.wanted, yielded]) ?_)
            | (refine x_skip (exec_store_all (T := 79) (X := jd s none 0 0 z32 false) (g := w.heap.size + 1) (cs := jd s0 none 0 0 z32 false) rfl rfl rfl hij (hj1.trans HJZ.out) (jd_one _ _ _ _ _ _) HDY4.out.rblk HJZ0.out) rfl ?_))
          have hop := HOP.out
          have hD4 := HDY4.out
          refine bodyPost_ret (x_results2 rfl (x_loadVar Try.underlying79 rfl hij (hj1.trans HJZ.out) (hD4.rblk.setRow _).at') rfl rfl) rfl ?_
          exact ⟨⟨s, [], [], false⟩, none, 0, .inr ⟨90, hop, by decide, rfl, hD4.new.trans ((Fr.refl (fun k => k = w.heap.size + 1) _).setRow (g := w.heap.size + 1) rfl _) (fun k hk => .inr (by omega))⟩⟩
        · have hop : openOf s = (some ⟨s.cut a, rs, l, false⟩, 0) := by
            unfold openOf
            rw [HST.out]
            simp only
            rw [if_pos hal, if_neg hst0]
          go_wp2_with (refine x_value (exec_load (T := 41) (X := dsk s) (g := w.heap.size) (off := 0) rfl rfl Try.underlying41 rfl his (hs1.trans HSZ.out) HD.out.sblk.at') (by simp [go_sem, Region.wanted, yielded]) ?_)
          refine Calls.mono (show Calls Try.prog 27 #[.agg (dsk s), .int .i64 (a : Int)] _ _ from ref_Cut_yes _ s.room s.sure s.steps ⟨s.bs.toArray⟩ a (by rw [hcl]; exact hbl) (by rw [hcl]; exact ha) hst0 hs.2.2.2.2.1 hs.2.2.2.2.2) ?_
          rintro e W4 ⟨rfl, hN4⟩
          rw [show refv s.room (min s.sure a) (max (s.steps - 1) (-1)) ((⟨s.bs.toArray⟩ : ByteArray).extract 0 a) = .agg (dsk (s.cut a)) by rw [jstr_take]; rfl]
          have hD4 := HD.out.then_new hN4
          have hD5 := hD4.then_new (Fr.alloc (fun _ => False) W4 (.cells (dsk (s.cut a)) 41))
          have HB4 := Lib.hid (Blk.new W4 41 (dsk (s.cut a)))
          have hlt4 := hD4.jblk.lt
          have HDY6 := Lib.hid (hD5.put_disk (s.cut a))
          have HNE := Lib.hid (hD5.other (k := W4.heap.size) (by omega) HB4.out (s.cut a))
          have HJB := Lib.hid hD5.jblk
          have HOP := Lib.hid hop
          have HJN := Lib.hid (show 38 = (jd (s.cut a) A rs.length c l false).size by rw [jd_size _ _ _ _ _ _ hD4.len])
          have HJN0 := Lib.hid (show (jd s0 none 0 0 z32 false).size = (jd (s.cut a) A rs.length c l false).size by rw [jd_size _ _ _ _ _ _ hD4.len]; rfl)
          have HJR := Lib.hid (show 0 + (dsk (s.cut a)).size ≤ (jd s A rs.length c l false).size by rw [jd_size _ _ _ _ _ _ hD4.len]; show 0 + 4 ≤ 38; omega)
          have HDK := Lib.hid (jd_disk s (s.cut a) A rs.length c l false)
          have HSC4 := Lib.hid (show 4 = (dsk (s.cut a)).size from rfl)
          clear hN4 hD4 hD5 hlt4 hop HD
          go_wp2_with (first
            | (refine x_value (x_alloc (T := 41) rfl his hs0) (by simp [go_sem, Region.wanted, yielded]) ?_)
            | (refine x_skip (exec_store_new (T := 41) (X := dsk (s.cut a)) (Z := dsk s0) rfl rfl rfl rfl his (hs1.trans HSC4.out) (dsk_one _) rfl) rfl ?_)
            | (refine x_value (exec_load (T := 41) (X := dsk (s.cut a)) (g := W4.heap.size) (off := 0) rfl rfl Try.underlying41 rfl his (hs1.trans HSC4.out) HB4.out.at') (by simp [go_sem, Region.wanted, yielded]) ?_)
            | (refine x_skip (exec_store (T := 41) (X := dsk (s.cut a)) (g := w.heap.size + 2) (off := 0) (cs := jd s A rs.length c l false) rfl rfl rfl his (hs1.trans HSC4.out) (dsk_one _) HJB.out HJR.out) rfl ?_; rw [HDK.out])
            | (refine x_value (exec_load (T := 79) (X := jd (s.cut a) A rs.length c l false) (g := w.heap.size + 2) (off := 0) rfl rfl Try.underlying79 rfl hij (hj1.trans HJN.out) HDY6.out.jblk.at') (by simp [go_sem, Region.wanted, yielded]) ?_)
            | (refine x_skip (exec_store_all (T := 79) (X := jd (s.cut a) A rs.length c l false) (g := w.heap.size + 1) (cs := jd s0 none 0 0 z32 false) rfl rfl rfl hij (hj1.trans HJN.out) (jd_one _ _ _ _ _ _) HDY6.out.rblk HJN0.out) rfl ?_))
          have hop := HOP.out
          have hD4 := HDY6.out
          refine bodyPost_ret (x_results2 rfl (x_loadVar Try.underlying79 rfl hij (hj1.trans HJN.out) (hD4.rblk.setRow _).at') rfl rfl) rfl ?_
          exact ⟨⟨s.cut a, rs, l, false⟩, A, c, .inl ⟨hop, rfl, rfl, hD4.row.fr ((Fr.refl (fun k => k = w.heap.size + 1) _).setRow (g := w.heap.size + 1) rfl _) (fun k hk e => by have := hD4.own k hk; omega), fun k hk => by have := hD4.own k hk; omega, hD4.new.trans ((Fr.refl (fun k => k = w.heap.size + 1) _).setRow (g := w.heap.size + 1) rfl _) (fun k hk => .inr (by omega))⟩⟩
      · have hdal : decide ((a : Int) < (s.bs.length : Int)) = false := decide_eq_false (by omega)
        have hop : openOf s = (some ⟨s, rs, l, false⟩, 0) := by
          unfold openOf
          rw [HST.out]
          simp only
          rw [if_neg hal]
        have HOP := Lib.hid hop
        have HJN := Lib.hid (show 38 = (jd s A rs.length c l false).size by rw [jd_size _ _ _ _ _ _ HD.out.len])
        have HJN0 := Lib.hid (show (jd s0 none 0 0 z32 false).size = (jd s A rs.length c l false).size by rw [jd_size _ _ _ _ _ _ HD.out.len]; rfl)
        clear hop
        go_wp2_with (first
          | (refine x_value (exec_load (T := 79) (X := jd s A rs.length c l false) (g := w.heap.size + 2) (off := 0) rfl rfl Try.underlying79 rfl hij (hj1.trans HJN.out) HD.out.jblk.at') (by simp [go_sem, Region.wanted, yielded]) ?_)
          | (refine x_skip (exec_store_all (T := 79) (X := jd s A rs.length c l false) (g := w.heap.size + 1) (cs := jd s0 none 0 0 z32 false) rfl rfl rfl hij (hj1.trans HJN.out) (jd_one _ _ _ _ _ _) HD.out.rblk HJN0.out) rfl ?_))
        have hop := HOP.out
        have hD4 := HD.out
        refine bodyPost_ret (x_results2 rfl (x_loadVar Try.underlying79 rfl hij (hj1.trans HJN.out) (hD4.rblk.setRow _).at') rfl rfl) rfl ?_
        exact ⟨⟨s, rs, l, false⟩, A, c, .inl ⟨hop, rfl, rfl, hD4.row.fr ((Fr.refl (fun k => k = w.heap.size + 1) _).setRow (g := w.heap.size + 1) rfl _) (fun k hk e => by have := hD4.own k hk; omega), fun k hk => by have := hD4.own k hk; omega, hD4.new.trans ((Fr.refl (fun k => k = w.heap.size + 1) _).setRow (g := w.heap.size + 1) rfl _) (fun k hk => .inr (by omega))⟩⟩
    · have hd35 : decide ((35 : Int) ≤ (s.bs.length : Int) - (a : Int)) = true := decide_eq_true (by omega)
      obtain ⟨x, y, z, hxyz, hnum⟩ := three_of s.bs a (by omega)
      have hk4 : ∀ W, (Instr.slice 9 (.string ⟨s.bs.toArray⟩) (some (.int .i64 (a : Int))) (some (.int .i64 ((a : Int) + 3))) none).run Try.prog W = .ok (.string ⟨[x, y, z].toArray⟩) W := fun W => by
        rw [run_slice_strT W s.bs a (a + 3) _ _ rfl (by omega) (by omega) (by omega), show a + 3 - a = 3 by omega, hxyz]
      obtain ⟨N, hN⟩ : ∃ N : Nat, N = Jrn.num (s.bs.drop a) := ⟨_, rfl⟩
      have hNl : N < 16777216 := by rw [hN]; exact Jrn.num_lt _
      rw [← hN] at hnum
      have hg0 : ∀ h, (⟨#[x, y, z]⟩ : ByteArray)[0]'h = x := fun _ => rfl
      have hg1 : ∀ h, (⟨#[x, y, z]⟩ : ByteArray)[1]'h = y := fun _ => rfl
      have hg2 : ∀ h, (⟨#[x, y, z]⟩ : ByteArray)[2]'h = z := fun _ => rfl
      have HXYZ := Lib.hid hxyz
      have HNM := Lib.hid hN
      have HV := Lib.hid hnum
      clear hxyz hnum hN
      go_wp2_with fail
      clear hk4
      go_quiet (fail)
      simp only [hg0, hg1, hg2, HV.out]
      clear hg0 hg1 hg2 HV
      have HD5 := Lib.hid (HD.out.then_new (Fr.drewN (fun _ => False) wr nq))
      clear HD c3
      generalize wr.drewN nq = W5 at *
      obtain ⟨P, hP⟩ : ∃ P, P = (s.bs.drop (a + 3)).take 16 := ⟨_, rfl⟩
      obtain ⟨ow, how⟩ : ∃ ow, ow = Jrn.own l [x, y, z] := ⟨_, rfl⟩
      have hk6 : ∀ W, (Instr.slice 9 (.string ⟨s.bs.toArray⟩) (some (.int .i64 ((a : Int) + 3))) (some (.int .i64 ((a : Int) + 19))) none).run Try.prog W = .ok (.string ⟨P.toArray⟩) W := fun W => by
        rw [run_slice_strT W s.bs (a + 3) (a + 19) _ _ (by omega) (by omega) (by omega) (by omega), show a + 19 - (a + 3) = 16 by omega, hP]
      have HOWN := Lib.hid (show ∀ W, Calls Try.prog 56 #[.agg (ida l), .string ⟨[x, y, z].toArray⟩] W fun e w' => e = .returned (.string ⟨ow.toArray⟩) ∧ New W w' from fun W => how ▸ r10own_any W l [x, y, z] HD5.out.len (by simp))
      have HLS := Lib.hid (show 32 = (ida l).size by rw [ida_size, HD5.out.len])
      have HPW := Lib.hid (show P = (s.bs.drop (a + 3)).take 16 ∧ ow = Jrn.own l ((s.bs.drop a).take 3) from ⟨hP, by rw [how, HXYZ.out]⟩)
      clear hP how HXYZ
      by_cases h1 : P = ow
      · have hcmp : (P == ow) = true := beq_iff_eq.2 h1
        have H1 := Lib.hid h1
        clear h1
        go_wp2_with fail
        refine wp_region_all (by kernel_rfl) (by kernel_rfl) [.pointer (some ⟨w.heap.size, 3, none⟩), .string ⟨s.bs.toArray⟩, .int .i64 (a : Int), .int .i64 ((a : Int) + 3), .int .i64 (a : Int), .int .i64 ((a : Int) + 19), .string ⟨P.toArray⟩, .pointer (some ⟨w.heap.size + 2, 5, none⟩), .agg (ida l), .string ⟨[x, y, z].toArray⟩, .string ⟨ow.toArray⟩, .bool false] (by kernel_rfl) (fun _ W' => DJ w s A c rs l W') _ (by simp [putAll, Act.put]; rfl) (HD5.out.then_new (Fr.drew (fun _ => False) _)) ?hops ?after
        case hops =>
          refine ⟨?_, ?_, ?_, ?_, ?_, ?_, ?_, ?_, ?_, ?_, ?_, ?_, trivial⟩
          all_goals
            rintro L W' hs hd hn hP
            have HP := Lib.hid hP
            have c3 := hP.sblk.cell 3
            simp only [dsk] at c3
            clear hs hd hn hP
            first
              | exact jheld_want rfl (held_value (exec_load (T := 60) (X := ida l) (g := w.heap.size + 2) (off := 5) rfl rfl underID rfl hii (hz1.trans HLS.out) (jd_at5 HP.out.jblk)) HP.out)
              | (refine jheld_want rfl ?_; unfold opHeld; go_simp; first | done | exact HP.out | exact ⟨rfl, HP.out⟩ | exact ⟨IntWalk.i64_in _ (by omega), HP.out⟩ | exact callsIn_wide.2 ((HOWN.out W').mono fun _ _ ⟨he, hN⟩ => ⟨he, HP.out.then_new hN⟩))
        case after =>
          rintro L W6 hs hal2 hP
          have HD6 := Lib.hid hP
          have c3 := hP.sblk.cell 3
          simp only [dsk] at c3
          clear hP hs hal2 HD5 hk6 HOWN hcmp
          have hh1 : (s.bs.drop (a + 3)).take 16 = Jrn.own l ((s.bs.drop a).take 3) := by rw [← HPW.out.1, ← HPW.out.2, H1.out]
          by_cases h2 : s.bs.length < a + 35 + N
          · have hd2 : decide ((s.bs.length : Int) - (a : Int) - 35 < (N : Int)) = true := decide_eq_true (by omega)
            have HST := Lib.hid (HSC.out.trans (Jrn.scan_long (by omega) h35 hh1 (by rw [← HNM.out]; exact h2)))
            clear hh1 H1 HPW
            have hcl : (⟨s.bs.toArray⟩ : ByteArray).size = s.bs.length := rfl
            by_cases hal : a < s.bs.length
            · have hdal : decide ((a : Int) < (s.bs.length : Int)) = true := decide_eq_true (by omega)
              by_cases hst0 : s.steps = 0
              · have hop : openOf s = (none, 90) := by
                  unfold openOf
                  rw [HST.out]
                  simp only
                  rw [if_pos hal, if_pos hst0]
                go_wp2_with (refine x_value (exec_load (T := 41) (X := dsk s) (g := w.heap.size) (off := 0) rfl rfl Try.underlying41 rfl his (hs1.trans HSZ.out) HD6.out.sblk.at') (by simp [go_sem, Region.wanted, yielded]) ?_)
                refine Calls.mono (show Calls Try.prog 27 #[.agg (dsk s), .int .i64 (a : Int)] _ _ from ref_Cut_no _ s.room s.sure s.steps ⟨s.bs.toArray⟩ a (by rw [hcl]; exact hbl) (by rw [hcl]; exact ha) hst0) ?_
                rintro e W4 ⟨rfl, hN4⟩
                rw [show refv s.room s.sure s.steps ⟨s.bs.toArray⟩ = .agg (dsk s) from rfl]
                have hD4 := HD6.out.then_new hN4
                have HDY4 := Lib.hid (hD4.then_new (Fr.alloc (fun _ => False) W4 (.cells (dsk s) 41)))
                have HOP := Lib.hid hop
                clear hN4 hD4 hop HD6
                go_wp2_with (first
                  | (refine x_value (x_alloc (T := 41) rfl his hs0) (by simp [go_sem, Region.wanted, yielded]) ?_)
                  | (refine x_skip (exec_store_new (T := 41) (X := dsk s) (Z := dsk s0) rfl rfl rfl rfl his (hs1.trans HSZ.out) (dsk_one _) rfl) rfl ?_)
                  | (refine x_value (exec_load (T := 41) (X := dsk s) (g := w.heap.size) (off := 0) rfl rfl Try.underlying41 rfl his (hs1.trans HSZ.out) HDY4.out.sblk.at') (by simp [go_sem, Region.wanted, yielded]) ?_)
                  | (refine x_value (exec_build_rj (s := s) rfl rfl) (by simp [go_sem, Region.wanted, yielded]) ?_)
                  | (refine x_skip (exec_store_all (T := 79) (X := jd s none 0 0 z32 false) (g := w.heap.size + 1) (cs := jd s0 none 0 0 z32 false) rfl rfl rfl hij (hj1.trans HJZ.out) (jd_one _ _ _ _ _ _) HDY4.out.rblk HJZ0.out) rfl ?_))
                have hop := HOP.out
                have hD4 := HDY4.out
                refine bodyPost_ret (x_results2 rfl (x_loadVar Try.underlying79 rfl hij (hj1.trans HJZ.out) (hD4.rblk.setRow _).at') rfl rfl) rfl ?_
                exact ⟨⟨s, [], [], false⟩, none, 0, .inr ⟨90, hop, by decide, rfl, hD4.new.trans ((Fr.refl (fun k => k = w.heap.size + 1) _).setRow (g := w.heap.size + 1) rfl _) (fun k hk => .inr (by omega))⟩⟩
              · have hop : openOf s = (some ⟨s.cut a, rs, l, false⟩, 0) := by
                  unfold openOf
                  rw [HST.out]
                  simp only
                  rw [if_pos hal, if_neg hst0]
                go_wp2_with (refine x_value (exec_load (T := 41) (X := dsk s) (g := w.heap.size) (off := 0) rfl rfl Try.underlying41 rfl his (hs1.trans HSZ.out) HD6.out.sblk.at') (by simp [go_sem, Region.wanted, yielded]) ?_)
                refine Calls.mono (show Calls Try.prog 27 #[.agg (dsk s), .int .i64 (a : Int)] _ _ from ref_Cut_yes _ s.room s.sure s.steps ⟨s.bs.toArray⟩ a (by rw [hcl]; exact hbl) (by rw [hcl]; exact ha) hst0 hs.2.2.2.2.1 hs.2.2.2.2.2) ?_
                rintro e W4 ⟨rfl, hN4⟩
                rw [show refv s.room (min s.sure a) (max (s.steps - 1) (-1)) ((⟨s.bs.toArray⟩ : ByteArray).extract 0 a) = .agg (dsk (s.cut a)) by rw [jstr_take]; rfl]
                have hD4 := HD6.out.then_new hN4
                have hD5 := hD4.then_new (Fr.alloc (fun _ => False) W4 (.cells (dsk (s.cut a)) 41))
                have HB4 := Lib.hid (Blk.new W4 41 (dsk (s.cut a)))
                have hlt4 := hD4.jblk.lt
                have HDY6 := Lib.hid (hD5.put_disk (s.cut a))
                have HNE := Lib.hid (hD5.other (k := W4.heap.size) (by omega) HB4.out (s.cut a))
                have HJB := Lib.hid hD5.jblk
                have HOP := Lib.hid hop
                have HJN := Lib.hid (show 38 = (jd (s.cut a) A rs.length c l false).size by rw [jd_size _ _ _ _ _ _ hD4.len])
                have HJN0 := Lib.hid (show (jd s0 none 0 0 z32 false).size = (jd (s.cut a) A rs.length c l false).size by rw [jd_size _ _ _ _ _ _ hD4.len]; rfl)
                have HJR := Lib.hid (show 0 + (dsk (s.cut a)).size ≤ (jd s A rs.length c l false).size by rw [jd_size _ _ _ _ _ _ hD4.len]; show 0 + 4 ≤ 38; omega)
                have HDK := Lib.hid (jd_disk s (s.cut a) A rs.length c l false)
                have HSC4 := Lib.hid (show 4 = (dsk (s.cut a)).size from rfl)
                clear hN4 hD4 hD5 hlt4 hop HD6
                go_wp2_with (first
                  | (refine x_value (x_alloc (T := 41) rfl his hs0) (by simp [go_sem, Region.wanted, yielded]) ?_)
                  | (refine x_skip (exec_store_new (T := 41) (X := dsk (s.cut a)) (Z := dsk s0) rfl rfl rfl rfl his (hs1.trans HSC4.out) (dsk_one _) rfl) rfl ?_)
                  | (refine x_value (exec_load (T := 41) (X := dsk (s.cut a)) (g := W4.heap.size) (off := 0) rfl rfl Try.underlying41 rfl his (hs1.trans HSC4.out) HB4.out.at') (by simp [go_sem, Region.wanted, yielded]) ?_)
                  | (refine x_skip (exec_store (T := 41) (X := dsk (s.cut a)) (g := w.heap.size + 2) (off := 0) (cs := jd s A rs.length c l false) rfl rfl rfl his (hs1.trans HSC4.out) (dsk_one _) HJB.out HJR.out) rfl ?_; rw [HDK.out])
                  | (refine x_value (exec_load (T := 79) (X := jd (s.cut a) A rs.length c l false) (g := w.heap.size + 2) (off := 0) rfl rfl Try.underlying79 rfl hij (hj1.trans HJN.out) HDY6.out.jblk.at') (by simp [go_sem, Region.wanted, yielded]) ?_)
                  | (refine x_skip (exec_store_all (T := 79) (X := jd (s.cut a) A rs.length c l false) (g := w.heap.size + 1) (cs := jd s0 none 0 0 z32 false) rfl rfl rfl hij (hj1.trans HJN.out) (jd_one _ _ _ _ _ _) HDY6.out.rblk HJN0.out) rfl ?_))
                have hop := HOP.out
                have hD4 := HDY6.out
                refine bodyPost_ret (x_results2 rfl (x_loadVar Try.underlying79 rfl hij (hj1.trans HJN.out) (hD4.rblk.setRow _).at') rfl rfl) rfl ?_
                exact ⟨⟨s.cut a, rs, l, false⟩, A, c, .inl ⟨hop, rfl, rfl, hD4.row.fr ((Fr.refl (fun k => k = w.heap.size + 1) _).setRow (g := w.heap.size + 1) rfl _) (fun k hk e => by have := hD4.own k hk; omega), fun k hk => by have := hD4.own k hk; omega, hD4.new.trans ((Fr.refl (fun k => k = w.heap.size + 1) _).setRow (g := w.heap.size + 1) rfl _) (fun k hk => .inr (by omega))⟩⟩
            · omega
          · have hd2 : decide ((s.bs.length : Int) - (a : Int) - 35 < (N : Int)) = false := decide_eq_false (by omega)
            obtain ⟨D, hD⟩ : ∃ D, D = Jrn.dataAt s.bs a := ⟨_, rfl⟩
            obtain ⟨R, hR⟩ : ∃ R, R = (s.bs.drop a).take (35 + N) := ⟨_, rfl⟩
            obtain ⟨rec, hrec⟩ : ∃ rec, rec = Jrn.recB l D := ⟨_, rfl⟩
            have hDl : D.length = N := by
              rw [hD]
              unfold Jrn.dataAt
              rw [List.length_take, List.length_drop, ← HNM.out]
              omega
            have hk9 : ∀ W, (Instr.slice 9 (.string ⟨s.bs.toArray⟩) (some (.int .i64 ((a : Int) + 35))) (some (.int .i64 ((a : Int) + 35 + (N : Int)))) none).run Try.prog W = .ok (.string ⟨D.toArray⟩) W := fun W => by
              rw [run_slice_strT W s.bs (a + 35) (a + 35 + N) _ _ (by omega) (by omega) (by omega) (by omega), show a + 35 + N - (a + 35) = N by omega, hD]
              unfold Jrn.dataAt
              rw [← HNM.out]
            have hk10 : ∀ W, (Instr.slice 9 (.string ⟨s.bs.toArray⟩) (some (.int .i64 (a : Int))) (some (.int .i64 ((a : Int) + 35 + (N : Int)))) none).run Try.prog W = .ok (.string ⟨R.toArray⟩) W := fun W => by
              rw [run_slice_strT W s.bs a (a + 35 + N) _ _ rfl (by omega) (by omega) (by omega), show a + 35 + N - a = 35 + N by omega, hR]
            have HREC := Lib.hid (show ∀ W, Calls Try.prog 57 #[.agg (ida l), .string ⟨D.toArray⟩] W fun e w' => e = .returned (.string ⟨rec.toArray⟩) ∧ New W w' from fun W => hrec ▸ r10rec_any W l D HD6.out.len (by omega))
            have hiff := rec_iff s.bs l a h35 hh1 (by rw [← HNM.out]; exact h2)
            rw [← HNM.out, ← hD, ← hR, ← hrec] at hiff
            have HIFF := Lib.hid hiff
            have HDD := Lib.hid (show D = Jrn.dataAt s.bs a ∧ D.length = N from ⟨hD, hDl⟩)
            have HH1 := Lib.hid hh1
            have hsum : (a : Int) + 35 + (N : Int) ≤ 4194304 := by omega
            clear hR hrec hiff hD hDl hh1 H1 HPW
            by_cases h3 : R = rec
            · have hcmp : (R == rec) = true := beq_iff_eq.2 h3
              have H3 := Lib.hid (HIFF.out.1 h3)
              clear h3
              go_wp2_with fail
              refine wp_region_all (by kernel_rfl) (by kernel_rfl) [.pointer (some ⟨w.heap.size, 3, none⟩), .string ⟨s.bs.toArray⟩, .int .i64 (a : Int), .int .i64 (a : Int), .int .i64 ((a : Int) + 35), .int .i64 (N : Int), .int .i64 ((a : Int) + 35 + (N : Int)), .string ⟨R.toArray⟩, .pointer (some ⟨w.heap.size + 2, 5, none⟩), .agg (ida l), .string ⟨D.toArray⟩, .string ⟨rec.toArray⟩, .bool false] (by kernel_rfl) (fun _ W' => DJ w s A c rs l W') _ (by simp [putAll, Act.put]; rfl) (HD6.out.then_new (Fr.drew (fun _ => False) _)) ?hops ?after
              case hops =>
                refine ⟨?_, ?_, ?_, ?_, ?_, ?_, ?_, ?_, ?_, ?_, ?_, ?_, ?_, trivial⟩
                all_goals
                  rintro L W' hs hd hn hP
                  have HP := Lib.hid hP
                  have c3 := hP.sblk.cell 3
                  simp only [dsk] at c3
                  clear hs hd hn hP
                  first
                    | exact jheld_want rfl (held_value (exec_load (T := 60) (X := ida l) (g := w.heap.size + 2) (off := 5) rfl rfl underID rfl hii (hz1.trans HLS.out) (jd_at5 HP.out.jblk)) HP.out)
                    | (refine jheld_want rfl ?_; unfold opHeld; go_simp; first | done | exact HP.out | exact ⟨rfl, HP.out⟩ | exact ⟨IntWalk.i64_in _ (by omega), HP.out⟩ | exact callsIn_wide.2 ((HREC.out W').mono fun _ _ ⟨he, hN⟩ => ⟨he, HP.out.then_new hN⟩))
              case after =>
                rintro L W7 hs hal2 hP
                have HD7 := Lib.hid hP
                obtain ⟨A2, c2, w8, hrun, hc4, hf4, hD8⟩ := hP.append D (by omega)
                have c4 := jd_c4 (hP.jblk.fr (Fr.alloc (fun _ => False) W7 (.cells #[.string ⟨D.toArray⟩] 9)) id)
                have c40 := jd_c4 hP.jblk
                have HD8 := Lib.hid hD8
                clear hP hs hal2 HD6 hk9 hk10 HREC hcmp hD8 c3
                have hlk := r10link_any (w8.setCell ⟨w.heap.size + 2, 4, none⟩ (.slice A2 (rs.length + 1) c2)) l D HD8.out.len (by have := HDD.out.2; omega)
                have HLK := Lib.hid hlk
                have HDL := Lib.hid (show (Jrn.link l D).length = 32 from rfl)
                clear hlk
                obtain ⟨l2, hl2⟩ : ∃ l2, l2 = Jrn.link l D := ⟨_, rfl⟩
                rw [← hl2] at HLK HDL
                have HL2 := Lib.hid hl2
                clear hl2
                go_wp2_with (first
                  | (at_builtin; refine wpList_append_run hrun rfl rfl _ _ rfl rfl rfl ?_)
                  | (refine x_value (exec_load (T := 60) (X := ida l) (g := w.heap.size + 2) (off := 5) rfl rfl underID rfl hii (hz1.trans HLS.out) (jd_at5 HD8.out.jblk)) (by simp [go_sem, Region.wanted, yielded]) ?_))
                refine HLK.out.mono ?_
                rintro e w9 ⟨rfl, hN9⟩
                have hD9 := HD8.out.then_new hN9
                have HJB := Lib.hid hD9.jblk
                have HD10 := Lib.hid (hD9.store_last l2 HDL.out)
                have HLS2 := Lib.hid (show 32 = (ida l2).size by rw [ida_size, HDL.out])
                have HJR := Lib.hid (show 5 + (ida l2).size ≤ (jd s A2 (rs ++ [D]).length c2 l false).size by rw [jd_size _ _ _ _ _ _ hD9.len, ida_size, HDL.out]; omega)
                have HDK := Lib.hid (jd_last s A2 (rs ++ [D]).length c2 l l2 false hD9.len HDL.out)
                clear hrun hc4 hf4 c4 c40 hN9 hD9 HD8 HLK HD7
                go_wp2_with (refine x_skip (exec_store (T := 60) (X := ida l2) (g := w.heap.size + 2) (off := 5) (cs := jd s A2 (rs ++ [D]).length c2 l false) rfl rfl rfl hii (hz1.trans HLS2.out) (ida_one _) HJB.out HJR.out) rfl ?_; rw [HDK.out])
                go_roundw
                case rel => exact ⟨a + (35 + N), A2, c2, rs ++ [D], l2, by go_num, by omega, by simp; omega, (by
                  rw [HSC.out, Jrn.scan_next (by omega) h35 HH1.out (by rw [← HNM.out]; exact h2) (by rw [← HDD.out.1]; exact H3.out), ← HDD.out.1, ← HNM.out, HL2.out]
                  rw [show a + (35 + N) = a + 35 + N by omega]), (by
                  have hd := HD10.out
                  rw [show (rs ++ [D]).length = rs.length + 1 by simp] at hd
                  exact hd)⟩
                case measure => simp [intOf]; omega
            · have hcmp : (R == rec) = false := beq_false_of_ne h3
              have HOP := Lib.hid (show openOf s = (none, 100) by
                unfold openOf
                rw [HSC.out, Jrn.scan_link (by omega) h35 HH1.out (by rw [← HNM.out]; exact h2) (by rw [← HDD.out.1]; exact fun e => h3 (HIFF.out.2 e))])
              clear h3
              go_wp2_with fail
              refine wp_region_all (by kernel_rfl) (by kernel_rfl) [.pointer (some ⟨w.heap.size, 3, none⟩), .string ⟨s.bs.toArray⟩, .int .i64 (a : Int), .int .i64 (a : Int), .int .i64 ((a : Int) + 35), .int .i64 (N : Int), .int .i64 ((a : Int) + 35 + (N : Int)), .string ⟨R.toArray⟩, .pointer (some ⟨w.heap.size + 2, 5, none⟩), .agg (ida l), .string ⟨D.toArray⟩, .string ⟨rec.toArray⟩, .bool true] (by kernel_rfl) (fun _ W' => DJ w s A c rs l W') _ (by simp [putAll, Act.put]; rfl) (HD6.out.then_new (Fr.drew (fun _ => False) _)) ?hops ?after
              case hops =>
                refine ⟨?_, ?_, ?_, ?_, ?_, ?_, ?_, ?_, ?_, ?_, ?_, ?_, ?_, trivial⟩
                all_goals
                  rintro L W' hs hd hn hP
                  have HP := Lib.hid hP
                  have c3 := hP.sblk.cell 3
                  simp only [dsk] at c3
                  clear hs hd hn hP
                  first
                    | exact jheld_want rfl (held_value (exec_load (T := 60) (X := ida l) (g := w.heap.size + 2) (off := 5) rfl rfl underID rfl hii (hz1.trans HLS.out) (jd_at5 HP.out.jblk)) HP.out)
                    | (refine jheld_want rfl ?_; unfold opHeld; go_simp; first | done | exact HP.out | exact ⟨rfl, HP.out⟩ | exact ⟨IntWalk.i64_in _ (by omega), HP.out⟩ | exact callsIn_wide.2 ((HREC.out W').mono fun _ _ ⟨he, hN⟩ => ⟨he, HP.out.then_new hN⟩))
              case after =>
                rintro L W7 hs hal2 hP
                have HD7 := Lib.hid hP
                clear hP hs hal2 HD6 hk9 hk10 HREC hcmp
                go_wp2_with (first
                  | (refine x_value (exec_load (T := 41) (X := dsk s) (g := w.heap.size) (off := 0) rfl rfl Try.underlying41 rfl his (hs1.trans HSZ.out) HD7.out.sblk.at') (by simp [go_sem, Region.wanted, yielded]) ?_)
                  | (refine x_value (exec_build_rj (s := s) rfl rfl) (by simp [go_sem, Region.wanted, yielded]) ?_)
                  | (refine x_skip (exec_store_all (T := 79) (X := jd s none 0 0 z32 false) (g := w.heap.size + 1) (cs := jd s0 none 0 0 z32 false) rfl rfl rfl hij (hj1.trans HJZ.out) (jd_one _ _ _ _ _ _) HD7.out.rblk HJZ0.out) rfl ?_))
                have hop := HOP.out
                have hD4 := HD7.out
                refine bodyPost_ret (x_results2 rfl (x_loadVar Try.underlying79 rfl hij (hj1.trans HJZ.out) (hD4.rblk.setRow _).at') rfl rfl) rfl ?_
                exact ⟨⟨s, [], [], false⟩, none, 0, .inr ⟨100, hop, by decide, rfl, hD4.new.trans ((Fr.refl (fun k => k = w.heap.size + 1) _).setRow (g := w.heap.size + 1) rfl _) (fun k hk => .inr (by omega))⟩⟩
      · have hcmp : (P == ow) = false := beq_false_of_ne h1
        have HOP := Lib.hid (show openOf s = (none, 100) by
          unfold openOf
          rw [HSC.out, Jrn.scan_own (by omega) h35 (by rw [← HPW.out.1, ← HPW.out.2]; exact h1)])
        clear h1
        go_wp2_with fail
        refine wp_region_all (by kernel_rfl) (by kernel_rfl) [.pointer (some ⟨w.heap.size, 3, none⟩), .string ⟨s.bs.toArray⟩, .int .i64 (a : Int), .int .i64 ((a : Int) + 3), .int .i64 (a : Int), .int .i64 ((a : Int) + 19), .string ⟨P.toArray⟩, .pointer (some ⟨w.heap.size + 2, 5, none⟩), .agg (ida l), .string ⟨[x, y, z].toArray⟩, .string ⟨ow.toArray⟩, .bool true] (by kernel_rfl) (fun _ W' => DJ w s A c rs l W') _ (by simp [putAll, Act.put]; rfl) (HD5.out.then_new (Fr.drew (fun _ => False) _)) ?hops ?after
        case hops =>
          refine ⟨?_, ?_, ?_, ?_, ?_, ?_, ?_, ?_, ?_, ?_, ?_, ?_, trivial⟩
          all_goals
            rintro L W' hs hd hn hP
            have HP := Lib.hid hP
            have c3 := hP.sblk.cell 3
            simp only [dsk] at c3
            clear hs hd hn hP
            first
              | exact jheld_want rfl (held_value (exec_load (T := 60) (X := ida l) (g := w.heap.size + 2) (off := 5) rfl rfl underID rfl hii (hz1.trans HLS.out) (jd_at5 HP.out.jblk)) HP.out)
              | (refine jheld_want rfl ?_; unfold opHeld; go_simp; first | done | exact HP.out | exact ⟨rfl, HP.out⟩ | exact ⟨IntWalk.i64_in _ (by omega), HP.out⟩ | exact callsIn_wide.2 ((HOWN.out W').mono fun _ _ ⟨he, hN⟩ => ⟨he, HP.out.then_new hN⟩))
        case after =>
          rintro L W6 hs hal2 hP
          have HD6 := Lib.hid hP
          clear hP hs hal2 HD5 hk6 HOWN
          go_wp2_with (first
            | (refine x_value (exec_load (T := 41) (X := dsk s) (g := w.heap.size) (off := 0) rfl rfl Try.underlying41 rfl his (hs1.trans HSZ.out) HD6.out.sblk.at') (by simp [go_sem, Region.wanted, yielded]) ?_)
            | (refine x_value (exec_build_rj (s := s) rfl rfl) (by simp [go_sem, Region.wanted, yielded]) ?_)
            | (refine x_skip (exec_store_all (T := 79) (X := jd s none 0 0 z32 false) (g := w.heap.size + 1) (cs := jd s0 none 0 0 z32 false) rfl rfl rfl hij (hj1.trans HJZ.out) (jd_one _ _ _ _ _ _) HD6.out.rblk HJZ0.out) rfl ?_))
          have hop := HOP.out
          have hD4 := HD6.out
          refine bodyPost_ret (x_results2 rfl (x_loadVar Try.underlying79 rfl hij (hj1.trans HJZ.out) (hD4.rblk.setRow _).at') rfl rfl) rfl ?_
          exact ⟨⟨s, [], [], false⟩, none, 0, .inr ⟨100, hop, by decide, rfl, hD4.new.trans ((Fr.refl (fun k => k = w.heap.size + 1) _).setRow (g := w.heap.size + 1) rfl _) (fun k hk => .inr (by omega))⟩⟩
end Go.Proofs.Ytefalfalapnllaa
