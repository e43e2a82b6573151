/- JournalPlays walked. (Printed by gen_jplays.py.) -/
import Derived.Test.YtefalfalapnllaaJrnPlQ
import Derived.Deep.CutBlock
import Derived.Deep.RegionWith
import Derived.Deep.DeepCutAuto
namespace Go.Proofs.Ytefalfalapnllaa
open Go.RowKit Go.Shelf
set_option linter.unusedVariables false
theorem dsk_4 (s : SlabS) : 4 = (dsk s).size := rfl
set_option maxHeartbeats 4000000 in
set_option maxRecDepth 20000 in
theorem jplays_out (room : Int) (A : Option Addr) (cA n : Nat) (w : World) (h : room < 0 ∨ 3000 < room ∨ 40 < n) :
    Calls Try.prog 14 #[.int .i64 room, .slice A n cA] w fun e w' => e = .returned (.bool true) ∧ New w w' := by
  go_enter Try.func14, Try.ntmps14
  go_wp2_with fail
  refine (writes_any w).mono ?_
  rintro e w1 ⟨rfl, hN1⟩
  by_cases h1 : room < 0
  · go_wp2_with fail
    go_ret
    exact ⟨rfl, hN1⟩
  · by_cases h2 : 3000 < room
    · go_wp2_with fail
      go_ret
      exact ⟨rfl, hN1⟩
    · have h3 : 40 < n := by omega
      go_wp2_with fail
      go_ret
      exact ⟨rfl, hN1⟩
set_option maxHeartbeats 8000000 in
set_option maxRecDepth 20000 in
theorem jplays_in (room : Int) (A : Option Addr) (cA : Nat) (ops : List OpD) (w : World) (hi : OpsIn w A ops) (h0 : 0 ≤ room) (h1 : room ≤ 3000) (hl : ops.length ≤ 40) :
    Calls Try.prog 14 #[.int .i64 room, .slice A ops.length cA] w fun e w' => e = .returned (.bool true) ∧ New w w' := by
  obtain ⟨ij, hij, hj0, hj1, hj2⟩ := info_parts infoRJ
  obtain ⟨is, his, hs0, hs1, hs2⟩ := info_parts infoRS
  obtain ⟨ii, hii, hz0, hz1, hz2⟩ := info_parts infoID
  go_enter Try.func14, Try.ntmps14
  go_wp2_with fail
  refine (writes_any w).mono ?_
  rintro e w1 ⟨rfl, hN1⟩
  go_wp2_with fail
  refine (slab_New room h0 (by omega)).mono ?_
  rintro e w2 ⟨rfl, hS2, hN2⟩
  have hsl : Sl w w1.heap.size ⟨room, [], 0, -1⟩ w2 := ⟨_, hS2, (by have := hN1.size; intro k hk; omega), hN1.trans hN2 (fun _ h => h.elim)⟩
  clear hS2 hN1 hN2
  generalize w1.heap.size = p at *
  obtain ⟨sr, hsr⟩ : ∃ sr : SlabS, sr = ⟨room, [], 0, -1⟩ := ⟨_, rfl⟩
  rw [← hsr] at hsl
  have hok : sr.ok := by
    obtain ⟨F, hF, _⟩ := hsl
    exact hF.good
  obtain ⟨j0, hj0e⟩ : ∃ j0, openOf sr = (some j0, 0) := ⟨jof room [], by rw [hsr]; exact jof_open room [] (by simp)⟩
  have HSL := Lib.hid hsl
  have HSR := Lib.hid hsr
  have HJO := Lib.hid hj0e
  clear hsl hsr hj0e
  go_wp2_with fail
  refine (ref_New w2 room h0 (by omega)).mono ?_
  rintro e w3 ⟨rfl, hN3⟩
  rw [show refv room 0 (-1) ⟨#[]⟩ = .agg (dsk sr) by rw [HSR.out]; rfl]
  have hN4 : New w2 (w3.alloc (.cells (dsk sr) 41)) := hN3.then_alloc _
  have hs23 := hN3.size
  have HB4 := Lib.hid (Blk.new w3 41 (dsk sr))
  have HOP := Lib.hid (HSL.out.OpenG hN4 HJO.out)
  clear hN4 hN3 HSL HSR
  go_wp2_with (first
    | (refine x_value (x_alloc (T := 41) rfl his hs0) (by simp [go_sem, Region.wanted, yielded]) ?_)
    | (refine x_skip (exec_store_new (T := 41) (X := dsk sr) (Z := dsk s0) rfl rfl rfl rfl his (hs1.trans (dsk_4 _)) (dsk_one _) rfl) rfl ?_))
  refine HOP.out.mono ?_
  rintro e w5 ⟨q, rfl, hO5, hf5⟩
  have HB5 := Lib.hid (HB4.out.fr hf5 (by omega))
  have HO5 := Lib.hid hO5
  clear hf5 hO5 HOP HB4 hs23
  generalize w3.heap.size = b7 at *
  go_wp2_with (refine x_value (exec_load (T := 41) (X := dsk sr) (g := b7) (off := 0) rfl rfl Try.underlying41 rfl his (hs1.trans (dsk_4 _)) HB5.out.at') (by simp [go_sem, Region.wanted, yielded]) ?_)
  refine (r10open_some w5 hok HJO.out).mono ?_
  rintro e w6 ⟨A0, c0, rfl, hR6, hA6, hN6⟩
  have HP0 := Lib.hid (PlS.mk0 HO5.out hN6 hR6 hA6)
  have HI0 := Lib.hid (PInv.of_open 0 hok HJO.out)
  have hjl := openOf_last HJO.out
  have HSX := Lib.hid (show 38 = (jd j0.s A0 j0.rs.length c0 j0.last j0.down).size by rw [jd_size _ _ _ _ _ _ hjl])
  have HSX0 := Lib.hid (show (jd s0 none 0 0 z32 false).size = (jd j0.s A0 j0.rs.length c0 j0.last j0.down).size by rw [jd_size _ _ _ _ _ _ hjl]; rfl)
  clear hR6 hA6 hN6 hjl HO5 HB5 HJO hok
  go_wp2_with (first
    | (refine x_value (x_alloc (T := 79) rfl hij hj0) (by simp [go_sem, Region.wanted, yielded]) ?_)
    | (refine x_skip (exec_store_new (T := 79) (X := jd j0.s A0 j0.rs.length c0 j0.last j0.down) (Z := jd s0 none 0 0 z32 false) rfl rfl rfl rfl hij (hj1.trans HSX.out) (jd_one _ _ _ _ _ _) HSX0.out) rfl ?_))
  generalize w6.alloc (.cells (jd j0.s A0 j0.rs.length c0 j0.last j0.down) 79) = w7 at *
  generalize w6.heap.size = M at *
  clear HSX HSX0
  go_loopw [9, 63] (fun qv i W => ∃ (k q : Nat) (j : JS) (A' : Option Addr) (c' : Nat), qv = .pointer (some ⟨q, 0, none⟩) ∧ i = .int .i64 k ∧ k ≤ ops.length ∧ PInv k j ∧ PlS w p q M j j A' c' W) (fun _ i _ => ops.length - (intOf i).toNat)
  case atStart => exact ⟨0, q, j0, A0, c0, rfl, rfl, Nat.zero_le _, HI0.out, HP0.out⟩
  case round =>
    clear HP0 HI0
    obtain ⟨k, q, j, A', c', rfl, rfl, hk, hinv, hP⟩ := hrel
    by_cases hlt : k < ops.length
    · obtain ⟨b, off, rfl, _, hcells⟩ := hi.rd (by omega)
      obtain ⟨c0', c1', c2', c3'⟩ := hcells k hlt
      obtain ⟨hdat, hwk, hwn⟩ := hi.data _ (List.getElem_mem hlt)
      obtain ⟨o, ho⟩ : ∃ o, o = ops[k] := ⟨_, rfl⟩
      rw [← ho] at c0' c1' c2' c3' hdat hwk hwn
      clear ho hcells
      have hb : b < w.heap.size := World.block_lt_of_cell? _ _ c0'
      have hN := hP.frm
      have d0 := (hN.cell (p := ⟨b, off + k * 4, none⟩) hb id).trans c0'
      have d1 := (hN.cell (p := ⟨b, off + k * 4 + 1, none⟩) hb id).trans c1'
      have d2 := (hN.cell (p := ⟨b, off + k * 4 + 2, none⟩) hb id).trans c2'
      have d3 := (hN.cell (p := ⟨b, off + k * 4 + 3, none⟩) hb id).trans c3'
      unfold bv at d2
      have HI := Lib.hid hi
      clear c0' c1' c2' c3' hi
      have hM := hP.blk.lt
      have hok := hP.ok
      have hlast := hP.last
      have hrs := hinv.2
      have HINV := Lib.hid hinv
      have HP := Lib.hid hP
      have HSX := Lib.hid (show 38 = (jd j.s A' j.rs.length c' j.last j.down).size by rw [jd_size _ _ _ _ _ _ hlast])
      clear hinv hP
      go_upto_block 2 with fail
      obtain ⟨kind, nn, xx, A1, c1, dat⟩ := o
      simp only at d0 d1 d2 d3 hdat hwk hwn
      have hnn : nn ≤ 9223372036854775807 := by have := bounds_i64 hwn; omega
      have HPa := Lib.hid (show ∀ ob, PlS w p q M j j A' c' (wr.alloc ob) from fun ob => HP.out.new (Fr.alloc _ _ ob))
      have hMn := Nat.ne_of_lt hM
      have hMn' := Nat.ne_of_gt hM
      go_cut [9, 15, 16] (fun qv ev cv W => ∃ (q' : Nat) (j' : JS) (A2 : Option Addr) (c2 : Nat) (code : Int), qv = .pointer (some ⟨q', 0, none⟩) ∧ ev = .int .i64 code ∧ cv = .int .i64 code ∧ PInv (k + 1) j' ∧ PlS w p q' M j' j' A2 c2 W)
      case first =>
        clear hwk hwn
        by_cases q0 : kind = 0
        · subst q0
          by_cases hbig : 300 < dat.length
          · go_wp2_with fail
            go_roundw
            case rel => exact ⟨k + 1, q, j, A', c', rfl, by go_num, by omega, HINV.out.mono, HPa.out _⟩
            case measure => simp [intOf]; omega
          · have hcv : ∀ ob, (convert 22 9 (.slice A1 dat.length c1)).run Try.prog (wr.alloc ob) = .ok (.string ⟨dat.toArray⟩) (wr.alloc ob) := fun ob => Rd.str c1 (hdat.rd.fr (hN.then_alloc ob) (fun _ _ => id))
            go_wp2_with (refine x_value (exec_load (T := 79) (X := (jd j.s A' j.rs.length c' j.last j.down)) (g := M) (off := 0) rfl rfl Try.underlying79 rfl hij (hj1.trans HSX.out) (HPa.out _).blk.at') (by simp [go_sem, Region.wanted, yielded]) ?_)
            refine (r10write_any _ j A' c' dat hok hlast (HPa.out _).row (by omega) (by omega)).mono ?_
            rintro e W1 ⟨A2, c2, rfl, hR1, hA1, hN1⟩
            have hP1 := (HPa.out _).doc hN1 hR1 hA1
            have hB1 := ((HPa.out _).new hN1).blk
            have hBO := Blk.fr (Blk.new wr _ _) hN1 id
            have hinv2 := HINV.out.write dat (by omega)
            have hlast2 := write_last j dat hlast
            have hWr := fun (W2 : World) (h : PlS w p q M j (j.write dat).1 A2 c2 W2) => h.real (R := fun e _ => e = .returned (.int .i64 (j.write dat).2)) (fun H hB hH => jb_Write hB A1 c1 dat (hdat.rd.fr h.frm (fun _ _ => id)) (fun h0 k hk hk2 => by have := hdat.rd.lt (by simpa using h0) k hk; have := hH k hk2; omega) (by omega) (by omega))
            generalize (j.write dat).1 = jw at *
            generalize (j.write dat).2 = code at *
            have HSW := Lib.hid (show 38 = (jd jw.s A2 jw.rs.length c2 jw.last jw.down).size by rw [jd_size _ _ _ _ _ _ hlast2])
            have HSW0 := Lib.hid (show (jd j.s A' j.rs.length c' j.last j.down).size = (jd jw.s A2 jw.rs.length c2 jw.last jw.down).size by rw [jd_size _ _ _ _ _ _ hlast2, jd_size _ _ _ _ _ _ hlast])
            have hfs : Fr (fun k => k = M) W1 (W1.setRow M (jd jw.s A2 jw.rs.length c2 jw.last jw.down)) := (Fr.refl (fun k => k = M) W1).setRow (g := M) rfl _
            have e3 : (W1.setRow M (jd jw.s A2 jw.rs.length c2 jw.last jw.down)).cell? ⟨wr.heap.size, 3, none⟩ = some (.slice A1 dat.length c1) := (hBO.fr hfs (by omega)).cell 3
            have e3' : W1.cell? ⟨wr.heap.size, 3, none⟩ = some (.slice A1 dat.length c1) := hBO.cell 3
            have HP1 := Lib.hid hP1
            have HB1 := Lib.hid hB1
            have HWR := Lib.hid hWr
            clear hP1 hB1 hBO hWr hfs hR1 hA1 hN1 hcv
            go_wp2_with (refine x_skip (exec_store_all (T := 79) (X := jd jw.s A2 jw.rs.length c2 jw.last jw.down) (g := M) (cs := (jd j.s A' j.rs.length c' j.last j.down)) rfl rfl rfl hij (hj1.trans HSW.out) (jd_one _ _ _ _ _ _) HB1.out HSW0.out) rfl ?_)
            refine (HWR.out _ HP1.out).mono ?_
            rintro e W3 ⟨rfl, hP3⟩
            have HP3 := Lib.hid hP3
            clear hP3 HWR HP1 HB1 e3 e3'
            go_wp2_with fail
            go_meet
            exact ⟨q, jw, A2, c2, code, rfl, rfl, rfl, hinv2, HP3.out⟩
        · by_cases q1 : kind = 1
          · subst q1
            go_wp2_with fail
            refine (HP.out.real_at (Fr.alloc _ wr _) (R := fun e _ => e = _) fun H hB hH => jb_Break hB nn hnn).mono ?_
            rintro e W1 ⟨rfl, hP1, hf1⟩
            obtain ⟨s1, hs1e⟩ : ∃ s1 : SlabS, s1 = { j.s with steps := max nn (-1) } := ⟨_, rfl⟩
            rw [← hs1e] at hP1
            have HS1 := Lib.hid hs1e
            clear hs1e
            have hBO := (Blk.new wr _ _).fr hf1 (by omega)
            have e1 : W1.cell? ⟨wr.heap.size, 1, none⟩ = some (.int .i64 nn) := hBO.cell 1
            have e2 : W1.cell? ⟨wr.heap.size, 2, none⟩ = some (.int .u8 (xx.toNat : Int)) := hBO.cell 2
            have hB1 : Blk W1 M 79 (jd j.s A' j.rs.length c' j.last j.down) := hP1.blk
            have HB1 := Lib.hid hB1
            have HP1 := Lib.hid hP1
            clear hBO hB1 hP1 hf1
            go_wp2_with (refine x_value (exec_load (T := 41) (X := dsk j.s) (g := M) (off := 0) rfl rfl Try.underlying41 rfl his (hs1.trans (dsk_4 _)) (jd_at0 HB1.out)) (by simp [go_sem, Region.wanted, yielded]) ?_)
            refine Calls.mono (show Calls Try.prog 28 #[.agg (dsk j.s), .int .i64 nn] W1 _ from ref_Break W1 j.s.room j.s.sure j.s.steps ⟨j.s.bs.toArray⟩ nn) ?_
            rintro e W2 ⟨rfl, hN2⟩
            rw [show refv j.s.room j.s.sure (max nn (-1)) ⟨j.s.bs.toArray⟩ = .agg (dsk s1) by rw [HS1.out]; rfl]
            have hN2' := hN2
            have HDK := Lib.hid (jd_disk j.s s1 A' j.rs.length c' j.last j.down)
            have HJR := Lib.hid (show 0 + (dsk s1).size ≤ (jd j.s A' j.rs.length c' j.last j.down).size by rw [jd_size _ _ _ _ _ _ hlast]; show 0 + 4 ≤ 38; omega)
            have hB2 : Blk W2 M 79 (jd j.s A' j.rs.length c' j.last j.down) := (HP1.out.new hN2).blk
            have hP2 : PlS w p q M { j with s := s1 } { j with s := s1 } A' c' (W2.setRow M (jd s1 A' j.rs.length c' j.last j.down)) := HP1.out.doc hN2 (m' := { j with s := s1 }) (A' := A') (c' := c') (HP1.out.new hN2).row (fun k hk => .inl hk)
            have HB2 := Lib.hid hB2
            have HP2 := Lib.hid hP2
            clear hB2 hP2 HP1 HB1 e1 e2 hN2 hN2'
            go_wp2_with (refine x_skip (exec_store (T := 41) (X := dsk s1) (g := M) (off := 0) (cs := (jd j.s A' j.rs.length c' j.last j.down)) rfl rfl rfl his (hs1.trans (dsk_4 _)) (dsk_one _) HB2.out HJR.out) rfl ?_; rw [HDK.out])
            clear HB2 HDK HJR
            go_meet
            exact ⟨q, { j with s := s1 }, A', c', 0, rfl, rfl, rfl, HINV.out.mono, HP2.out⟩
          · by_cases q2 : kind = 2
            · subst q2
              go_wp2_with fail
              refine (HP.out.real_at (Fr.alloc _ wr _) (R := fun e _ => e = _) fun H hB hH => jb_Crash hB nn).mono ?_
              rintro e W1 ⟨rfl, hP1, hf1⟩
              have HCD := Lib.hid (crash_doc W1 j.s hok nn)
              generalize j.s.crash nn = s1 at *
              have hBO := (Blk.new wr _ _).fr hf1 (by omega)
              have e1 : W1.cell? ⟨wr.heap.size, 1, none⟩ = some (.int .i64 nn) := hBO.cell 1
              have e2 : W1.cell? ⟨wr.heap.size, 2, none⟩ = some (.int .u8 (xx.toNat : Int)) := hBO.cell 2
              have hB1 : Blk W1 M 79 (jd j.s A' j.rs.length c' j.last j.down) := hP1.blk
              have HB1 := Lib.hid hB1
              have HP1 := Lib.hid hP1
              clear hBO hB1 hP1 hf1
              go_wp2_with (refine x_value (exec_load (T := 41) (X := dsk j.s) (g := M) (off := 0) rfl rfl Try.underlying41 rfl his (hs1.trans (dsk_4 _)) (jd_at0 HB1.out)) (by simp [go_sem, Region.wanted, yielded]) ?_)
              refine HCD.out.mono ?_
              rintro e W2 ⟨rfl, hN2⟩
              clear HCD
              have hN2' := hN2
              have HDK := Lib.hid (jd_disk j.s s1 A' j.rs.length c' j.last j.down)
              have HJR := Lib.hid (show 0 + (dsk s1).size ≤ (jd j.s A' j.rs.length c' j.last j.down).size by rw [jd_size _ _ _ _ _ _ hlast]; show 0 + 4 ≤ 38; omega)
              have hB2 : Blk W2 M 79 (jd j.s A' j.rs.length c' j.last j.down) := (HP1.out.new hN2).blk
              have hP2 : PlS w p q M { j with s := s1 } { j with s := s1 } A' c' (W2.setRow M (jd s1 A' j.rs.length c' j.last j.down)) := HP1.out.doc hN2 (m' := { j with s := s1 }) (A' := A') (c' := c') (HP1.out.new hN2).row (fun k hk => .inl hk)
              have HB2 := Lib.hid hB2
              have HP2 := Lib.hid hP2
              clear hB2 hP2 HP1 HB1 e1 e2 hN2 hN2'
              go_wp2_with (refine x_skip (exec_store (T := 41) (X := dsk s1) (g := M) (off := 0) (cs := (jd j.s A' j.rs.length c' j.last j.down)) rfl rfl rfl his (hs1.trans (dsk_4 _)) (dsk_one _) HB2.out HJR.out) rfl ?_; rw [HDK.out])
              clear HB2 HDK HJR
              generalize W2.setRow M (jd s1 A' j.rs.length c' j.last j.down) = Wx at *
              have hok1 : s1.ok := HP2.out.ok
              rcases hoo : openOf s1 with ⟨oj, e0⟩
              cases oj with
              | none =>
                have hce := openOf_none hoo
                have hcb : (e0 == 0) = false := beq_false_of_ne hce
                have hcb2 : (e0 != 0) = true := bne_iff_ne.2 hce
                refine (HP2.out.OpenNo hoo).mono ?_
                rintro e W3 ⟨rfl, hP3⟩
                have hB3 : Blk W3 M 79 (jd s1 A' j.rs.length c' j.last j.down) := hP3.blk
                have HB3 := Lib.hid hB3
                have HP3 := Lib.hid hP3
                have HOO := Lib.hid hoo
                clear hB3 hP3 HP2 hoo
                go_wp2_with (refine x_value (exec_load (T := 41) (X := dsk s1) (g := M) (off := 0) rfl rfl Try.underlying41 rfl his (hs1.trans (dsk_4 _)) (jd_at0 HB3.out)) (by simp [go_sem, Region.wanted, yielded]) ?_)
                refine (r10open_none W3 hok1 HOO.out).mono ?_
                rintro e W4 ⟨rfl, hN4⟩
                have hP4 : PlS w p q M { j with s := s1 } ⟨s1, [], z32, false⟩ none 0 (W4.setRow M (jd s1 none 0 0 z32 false)) := HP3.out.doc hN4 (m' := ⟨s1, [], z32, false⟩) (A' := none) (c' := 0) (Row.nil _ _) (fun k hk => by simp [ab] at hk)
                have hB4 : Blk W4 M 79 (jd s1 A' j.rs.length c' j.last j.down) := (HP3.out.new hN4).blk
                have HB4 := Lib.hid hB4
                have HP4 := Lib.hid hP4
                have HSN := Lib.hid (show 38 = (jd s1 none 0 0 z32 false).size from rfl)
                have HSN0 := Lib.hid (show (jd s1 A' j.rs.length c' j.last j.down).size = (jd s1 none 0 0 z32 false).size by rw [jd_size _ _ _ _ _ _ hlast]; rfl)
                clear hB4 hP4 hN4 HP3 HB3 HOO hce
                go_wp2_with (refine x_skip (exec_store_all (T := 79) (X := jd s1 none 0 0 z32 false) (g := M) (cs := (jd s1 A' j.rs.length c' j.last j.down)) rfl rfl rfl hij (hj1.trans HSN.out) (jd_one _ _ _ _ _ _) HB4.out HSN0.out) rfl ?_)
                generalize W4.setRow M (jd s1 none 0 0 z32 false) = W5 at *
                clear HB4 HSN HSN0
                refine wp_region_ghost (by kernel_rfl) (by kernel_rfl) (plV36 p M e0 s1.bs.length ⟨s1.bs.toArray⟩) (fun _ => rfl) (by kernel_rfl) (plS w p q M { j with s := s1 } ⟨s1, [], z32, false⟩ none 0) ⟨none, 0⟩ ⟨(HP4.out).new (Fr.drew (fun _ => False) _), fun h => by simp at h⟩ _ (by funext g; simp [plV36, plV42, putAll, Act.put]; rfl) ?cnh ?cna
                case cnh =>
                  refine ⟨?_, ?_, ?_, ?_, ?_, ?_, ?_, ?_, ?_, ?_, ?_, ?_, trivial⟩
                  all_goals
                    intro g L W' hz hd hn HS
                    refine jheld_want rfl ?_
                  · have H2 := ghost_keep (vs := (plV36 p M e0 s1.bs.length ⟨s1.bs.toArray⟩)) (S := (plS w p q M { j with s := s1 } ⟨s1, [], z32, false⟩ none 0)) (g := g) (i := 0) rfl (HS.list 0 (by decide))
                    clear hd hn hz HS
                    unfold opGhost
                    go_simp
                  · have H2 := ghost_keep (vs := (plV36 p M e0 s1.bs.length ⟨s1.bs.toArray⟩)) (S := (plS w p q M { j with s := s1 } ⟨s1, [], z32, false⟩ none 0)) (g := g) (i := 1) rfl (HS.list 1 (by decide))
                    clear hd hn hz HS
                    unfold opGhost
                    go_simp
                  · have H2 := ghost_keep (vs := (plV36 p M e0 s1.bs.length ⟨s1.bs.toArray⟩)) (S := (plS w p q M { j with s := s1 } ⟨s1, [], z32, false⟩ none 0)) (g := g) (i := 2) rfl (HS.list 2 (by decide))
                    clear hd hn hz HS
                    unfold opGhost
                    go_simp
                  · have H2 := ghost_keep (vs := (plV36 p M e0 s1.bs.length ⟨s1.bs.toArray⟩)) (S := (plS w p q M { j with s := s1 } ⟨s1, [], z32, false⟩ none 0)) (g := g) (i := 3) rfl (HS.list 3 (by decide))
                    clear hd hn hz HS
                    unfold opGhost
                    go_simp
                  · have H2 := ghost_keep (vs := (plV36 p M e0 s1.bs.length ⟨s1.bs.toArray⟩)) (S := (plS w p q M { j with s := s1 } ⟨s1, [], z32, false⟩ none 0)) (g := g) (i := 4) rfl (HS.list 4 (by decide))
                    clear hd hn hz HS
                    unfold opGhost
                    go_simp
                  · have hc := HS.1.Bytes
                    clear hd hn hz
                    unfold opGhost
                    go_simp
                    exact (show CallsIn Fence.wide 0 _ _ _ _ _ from (callsIn_wide.2 hc).mono fun e w'' ⟨A2, c2, he, hR, hN⟩ => ⟨_, he, ⟨⟨A2, c2⟩, rfl, HS.got hN hR⟩⟩)
                  · have h5 : L.getD 5 false = true := hd ⟨5, .data⟩ (by simp) rfl
                    have hstr : (convert 22 9 (.slice g.A s1.bs.length g.c)).run Try.prog W' = .ok (.string ⟨s1.bs.toArray⟩) W' := Rd.str g.c (HS.2 h5)
                    exact ghost_value (jexec_conv rfl rfl hstr) (ghost_keep (vs := (plV36 p M e0 s1.bs.length ⟨s1.bs.toArray⟩)) (S := (plS w p q M { j with s := s1 } ⟨s1, [], z32, false⟩ none 0)) (g := g) (i := 6) rfl (HS.list 6 (by decide)))
                  · have H2 := ghost_keep (vs := (plV36 p M e0 s1.bs.length ⟨s1.bs.toArray⟩)) (S := (plS w p q M { j with s := s1 } ⟨s1, [], z32, false⟩ none 0)) (g := g) (i := 7) rfl (HS.list 7 (by decide))
                    clear hd hn hz HS
                    unfold opGhost
                    go_simp
                  · have H2 := ghost_keep (vs := (plV36 p M e0 s1.bs.length ⟨s1.bs.toArray⟩)) (S := (plS w p q M { j with s := s1 } ⟨s1, [], z32, false⟩ none 0)) (g := g) (i := 8) rfl (HS.list 8 (by decide))
                    clear hd hn hz HS
                    unfold opGhost
                    go_simp
                  · have H2 := ghost_keep (vs := (plV36 p M e0 s1.bs.length ⟨s1.bs.toArray⟩)) (S := (plS w p q M { j with s := s1 } ⟨s1, [], z32, false⟩ none 0)) (g := g) (i := 9) rfl (HS.list 9 (by decide))
                    have c3 : W'.cell? ⟨M, 3, none⟩ = some (.string ⟨s1.bs.toArray⟩) := HS.1.blk.cell 3
                    clear hd hn hz HS
                    unfold opGhost
                    go_simp
                  · have H2 := ghost_keep (vs := (plV36 p M e0 s1.bs.length ⟨s1.bs.toArray⟩)) (S := (plS w p q M { j with s := s1 } ⟨s1, [], z32, false⟩ none 0)) (g := g) (i := 10) rfl (HS.list 10 (by decide))
                    clear hd hn hz HS
                    unfold opGhost
                    go_simp
                  · have H2 := ghost_keep (vs := (plV36 p M e0 s1.bs.length ⟨s1.bs.toArray⟩)) (S := (plS w p q M { j with s := s1 } ⟨s1, [], z32, false⟩ none 0)) (g := g) (i := 11) rfl (HS.list 11 (by decide))
                    clear hd hn hz HS
                    unfold opGhost
                    go_simp
                case cna =>
                  rintro g L W6 hz hal hS
                  have hfin := hS.1.frm
                  clear hS hz hal HP4
                  go_wp2_with fail
                  go_ret
                  exact ⟨rfl, hfin⟩
              | some j2 =>
                obtain ⟨rfl, -⟩ := openOf_e hoo
                have hlast2 := openOf_last hoo
                have hinv2 : PInv (k + 1) j2 := PInv.of_open _ hok1 hoo
                refine (HP2.out.Open hoo).mono ?_
                rintro e W3 ⟨q2, rfl, hP3⟩
                have hB3 : Blk W3 M 79 (jd s1 A' j.rs.length c' j.last j.down) := hP3.blk
                have HB3 := Lib.hid hB3
                have HP3 := Lib.hid hP3
                have HOO := Lib.hid hoo
                have HI2 := Lib.hid hinv2
                clear hB3 hP3 HP2 hoo hinv2
                go_wp2_with (refine x_value (exec_load (T := 41) (X := dsk s1) (g := M) (off := 0) rfl rfl Try.underlying41 rfl his (hs1.trans (dsk_4 _)) (jd_at0 HB3.out)) (by simp [go_sem, Region.wanted, yielded]) ?_)
                refine (r10open_some W3 hok1 HOO.out).mono ?_
                rintro e W4 ⟨A4, c4, rfl, hR4, hA4, hN4⟩
                have hP4 := HP3.out.doc hN4 (m' := j2) hR4 (fun k hk => .inr (hA4 k hk))
                have hB4 : Blk W4 M 79 (jd s1 A' j.rs.length c' j.last j.down) := (HP3.out.new hN4).blk
                have HB4 := Lib.hid hB4
                have HP4 := Lib.hid hP4
                have HSN := Lib.hid (show 38 = (jd j2.s A4 j2.rs.length c4 j2.last j2.down).size by rw [jd_size _ _ _ _ _ _ hlast2])
                have HSN0 := Lib.hid (show (jd s1 A' j.rs.length c' j.last j.down).size = (jd j2.s A4 j2.rs.length c4 j2.last j2.down).size by rw [jd_size _ _ _ _ _ _ hlast, jd_size _ _ _ _ _ _ hlast2])
                clear hB4 hP4 hN4 HP3 HB3 HOO hR4 hA4
                go_wp2_with (refine x_skip (exec_store_all (T := 79) (X := jd j2.s A4 j2.rs.length c4 j2.last j2.down) (g := M) (cs := (jd s1 A' j.rs.length c' j.last j.down)) rfl rfl rfl hij (hj1.trans HSN.out) (jd_one _ _ _ _ _ _) HB4.out HSN0.out) rfl ?_)
                generalize W4.setRow M (jd j2.s A4 j2.rs.length c4 j2.last j2.down) = W5 at *
                clear HB4 HSN HSN0
                refine wp_region_ghost (by kernel_rfl) (by kernel_rfl) (plV36 p M 0 j2.s.bs.length ⟨j2.s.bs.toArray⟩) (fun _ => rfl) (by kernel_rfl) (plS w p q2 M j2 j2 A4 c4) ⟨none, 0⟩ ⟨(HP4.out).new (Fr.drew (fun _ => False) _), fun h => by simp at h⟩ _ (by funext g; simp [plV36, plV42, putAll, Act.put]; rfl) ?csh ?csa
                case csh =>
                  refine ⟨?_, ?_, ?_, ?_, ?_, ?_, ?_, ?_, ?_, ?_, ?_, ?_, trivial⟩
                  all_goals
                    intro g L W' hz hd hn HS
                    refine jheld_want rfl ?_
                  · have H2 := ghost_keep (vs := (plV36 p M 0 j2.s.bs.length ⟨j2.s.bs.toArray⟩)) (S := (plS w p q2 M j2 j2 A4 c4)) (g := g) (i := 0) rfl (HS.list 0 (by decide))
                    clear hd hn hz HS
                    unfold opGhost
                    go_simp
                  · have H2 := ghost_keep (vs := (plV36 p M 0 j2.s.bs.length ⟨j2.s.bs.toArray⟩)) (S := (plS w p q2 M j2 j2 A4 c4)) (g := g) (i := 1) rfl (HS.list 1 (by decide))
                    clear hd hn hz HS
                    unfold opGhost
                    go_simp
                  · have H2 := ghost_keep (vs := (plV36 p M 0 j2.s.bs.length ⟨j2.s.bs.toArray⟩)) (S := (plS w p q2 M j2 j2 A4 c4)) (g := g) (i := 2) rfl (HS.list 2 (by decide))
                    clear hd hn hz HS
                    unfold opGhost
                    go_simp
                  · have H2 := ghost_keep (vs := (plV36 p M 0 j2.s.bs.length ⟨j2.s.bs.toArray⟩)) (S := (plS w p q2 M j2 j2 A4 c4)) (g := g) (i := 3) rfl (HS.list 3 (by decide))
                    clear hd hn hz HS
                    unfold opGhost
                    go_simp
                  · have H2 := ghost_keep (vs := (plV36 p M 0 j2.s.bs.length ⟨j2.s.bs.toArray⟩)) (S := (plS w p q2 M j2 j2 A4 c4)) (g := g) (i := 4) rfl (HS.list 4 (by decide))
                    clear hd hn hz HS
                    unfold opGhost
                    go_simp
                  · have hc := HS.1.Bytes
                    clear hd hn hz
                    unfold opGhost
                    go_simp
                    exact (show CallsIn Fence.wide 0 _ _ _ _ _ from (callsIn_wide.2 hc).mono fun e w'' ⟨A2, c2, he, hR, hN⟩ => ⟨_, he, ⟨⟨A2, c2⟩, rfl, HS.got hN hR⟩⟩)
                  · have h5 : L.getD 5 false = true := hd ⟨5, .data⟩ (by simp) rfl
                    have hstr : (convert 22 9 (.slice g.A j2.s.bs.length g.c)).run Try.prog W' = .ok (.string ⟨j2.s.bs.toArray⟩) W' := Rd.str g.c (HS.2 h5)
                    exact ghost_value (jexec_conv rfl rfl hstr) (ghost_keep (vs := (plV36 p M 0 j2.s.bs.length ⟨j2.s.bs.toArray⟩)) (S := (plS w p q2 M j2 j2 A4 c4)) (g := g) (i := 6) rfl (HS.list 6 (by decide)))
                  · have H2 := ghost_keep (vs := (plV36 p M 0 j2.s.bs.length ⟨j2.s.bs.toArray⟩)) (S := (plS w p q2 M j2 j2 A4 c4)) (g := g) (i := 7) rfl (HS.list 7 (by decide))
                    clear hd hn hz HS
                    unfold opGhost
                    go_simp
                  · have H2 := ghost_keep (vs := (plV36 p M 0 j2.s.bs.length ⟨j2.s.bs.toArray⟩)) (S := (plS w p q2 M j2 j2 A4 c4)) (g := g) (i := 8) rfl (HS.list 8 (by decide))
                    clear hd hn hz HS
                    unfold opGhost
                    go_simp
                  · have H2 := ghost_keep (vs := (plV36 p M 0 j2.s.bs.length ⟨j2.s.bs.toArray⟩)) (S := (plS w p q2 M j2 j2 A4 c4)) (g := g) (i := 9) rfl (HS.list 9 (by decide))
                    have c3 : W'.cell? ⟨M, 3, none⟩ = some (.string ⟨j2.s.bs.toArray⟩) := HS.1.blk.cell 3
                    clear hd hn hz HS
                    unfold opGhost
                    go_simp
                  · have H2 := ghost_keep (vs := (plV36 p M 0 j2.s.bs.length ⟨j2.s.bs.toArray⟩)) (S := (plS w p q2 M j2 j2 A4 c4)) (g := g) (i := 10) rfl (HS.list 10 (by decide))
                    clear hd hn hz HS
                    unfold opGhost
                    go_simp
                  · have H2 := ghost_keep (vs := (plV36 p M 0 j2.s.bs.length ⟨j2.s.bs.toArray⟩)) (S := (plS w p q2 M j2 j2 A4 c4)) (g := g) (i := 11) rfl (HS.list 11 (by decide))
                    clear hd hn hz HS
                    unfold opGhost
                    go_simp
                case csa =>
                  rintro g L W6 hz hal hS
                  have HP6 := Lib.hid hS.1
                  clear hS hz hal HP4
                  go_wp2_with fail
                  go_meet
                  exact ⟨q2, j2, A4, c4, 0, rfl, rfl, rfl, HI2.out, HP6.out⟩
            · by_cases q3 : kind = 3
              · subst q3
                go_wp2_with fail
                refine (HP.out.real_at (Fr.alloc _ wr _) (R := fun e _ => ∃ v, e = .returned v) fun H hB hH => jb_spoiled hB nn xx).mono ?_
                rintro e W1 ⟨⟨v1, rfl⟩, hP1, hf1⟩
                have hcd := spoil_doc W1 j.s hok nn xx
                unfold bv at hcd
                have HCD := Lib.hid hcd
                clear hcd
                generalize j.s.spoiled nn xx = s1 at *
                have hBO := (Blk.new wr _ _).fr hf1 (by omega)
                have e1 : W1.cell? ⟨wr.heap.size, 1, none⟩ = some (.int .i64 nn) := hBO.cell 1
                have e2 : W1.cell? ⟨wr.heap.size, 2, none⟩ = some (.int .u8 (xx.toNat : Int)) := hBO.cell 2
                have hB1 : Blk W1 M 79 (jd j.s A' j.rs.length c' j.last j.down) := hP1.blk
                have HB1 := Lib.hid hB1
                have HP1 := Lib.hid hP1
                clear hBO hB1 hP1 hf1
                go_wp2_with (refine x_value (exec_load (T := 41) (X := dsk j.s) (g := M) (off := 0) rfl rfl Try.underlying41 rfl his (hs1.trans (dsk_4 _)) (jd_at0 HB1.out)) (by simp [go_sem, Region.wanted, yielded]) ?_)
                refine HCD.out.mono ?_
                rintro e W2 ⟨⟨v2, rfl⟩, hN2⟩
                clear HCD
                have hN2' := hN2
                have HDK := Lib.hid (jd_disk j.s s1 A' j.rs.length c' j.last j.down)
                have HJR := Lib.hid (show 0 + (dsk s1).size ≤ (jd j.s A' j.rs.length c' j.last j.down).size by rw [jd_size _ _ _ _ _ _ hlast]; show 0 + 4 ≤ 38; omega)
                have hB2 : Blk W2 M 79 (jd j.s A' j.rs.length c' j.last j.down) := (HP1.out.new hN2).blk
                have hP2 : PlS w p q M { j with s := s1 } { j with s := s1 } A' c' (W2.setRow M (jd s1 A' j.rs.length c' j.last j.down)) := HP1.out.doc hN2 (m' := { j with s := s1 }) (A' := A') (c' := c') (HP1.out.new hN2).row (fun k hk => .inl hk)
                have HB2 := Lib.hid hB2
                have HP2 := Lib.hid hP2
                clear hB2 hP2 HP1 HB1 e1 e2 hN2 hN2'
                go_wp2_with (refine x_skip (exec_store (T := 41) (X := dsk s1) (g := M) (off := 0) (cs := (jd j.s A' j.rs.length c' j.last j.down)) rfl rfl rfl his (hs1.trans (dsk_4 _)) (dsk_one _) HB2.out HJR.out) rfl ?_; rw [HDK.out])
                clear HB2 HDK HJR
                generalize W2.setRow M (jd s1 A' j.rs.length c' j.last j.down) = Wx at *
                have hok1 : s1.ok := HP2.out.ok
                rcases hoo : openOf s1 with ⟨oj, e0⟩
                cases oj with
                | none =>
                  have hce := openOf_none hoo
                  have hcb : (e0 == 0) = false := beq_false_of_ne hce
                  have hcb2 : (e0 != 0) = true := bne_iff_ne.2 hce
                  refine (HP2.out.OpenNo hoo).mono ?_
                  rintro e W3 ⟨rfl, hP3⟩
                  have hB3 : Blk W3 M 79 (jd s1 A' j.rs.length c' j.last j.down) := hP3.blk
                  have HB3 := Lib.hid hB3
                  have HP3 := Lib.hid hP3
                  have HOO := Lib.hid hoo
                  clear hB3 hP3 HP2 hoo
                  go_wp2_with (refine x_value (exec_load (T := 41) (X := dsk s1) (g := M) (off := 0) rfl rfl Try.underlying41 rfl his (hs1.trans (dsk_4 _)) (jd_at0 HB3.out)) (by simp [go_sem, Region.wanted, yielded]) ?_)
                  refine (r10open_none W3 hok1 HOO.out).mono ?_
                  rintro e W4 ⟨rfl, hN4⟩
                  have hP4 : PlS w p q M { j with s := s1 } ⟨s1, [], z32, false⟩ none 0 (W4.setRow M (jd s1 none 0 0 z32 false)) := HP3.out.doc hN4 (m' := ⟨s1, [], z32, false⟩) (A' := none) (c' := 0) (Row.nil _ _) (fun k hk => by simp [ab] at hk)
                  have hB4 : Blk W4 M 79 (jd s1 A' j.rs.length c' j.last j.down) := (HP3.out.new hN4).blk
                  have HB4 := Lib.hid hB4
                  have HP4 := Lib.hid hP4
                  have HSN := Lib.hid (show 38 = (jd s1 none 0 0 z32 false).size from rfl)
                  have HSN0 := Lib.hid (show (jd s1 A' j.rs.length c' j.last j.down).size = (jd s1 none 0 0 z32 false).size by rw [jd_size _ _ _ _ _ _ hlast]; rfl)
                  clear hB4 hP4 hN4 HP3 HB3 HOO hce
                  go_wp2_with (refine x_skip (exec_store_all (T := 79) (X := jd s1 none 0 0 z32 false) (g := M) (cs := (jd s1 A' j.rs.length c' j.last j.down)) rfl rfl rfl hij (hj1.trans HSN.out) (jd_one _ _ _ _ _ _) HB4.out HSN0.out) rfl ?_)
                  generalize W4.setRow M (jd s1 none 0 0 z32 false) = W5 at *
                  clear HB4 HSN HSN0
                  refine wp_region_ghost (by kernel_rfl) (by kernel_rfl) (plV36 p M e0 s1.bs.length ⟨s1.bs.toArray⟩) (fun _ => rfl) (by kernel_rfl) (plS w p q M { j with s := s1 } ⟨s1, [], z32, false⟩ none 0) ⟨none, 0⟩ ⟨(HP4.out).new (Fr.drew (fun _ => False) _), fun h => by simp at h⟩ _ (by funext g; simp [plV36, plV42, putAll, Act.put]; rfl) ?snh ?sna
                  case snh =>
                    refine ⟨?_, ?_, ?_, ?_, ?_, ?_, ?_, ?_, ?_, ?_, ?_, ?_, trivial⟩
                    all_goals
                      intro g L W' hz hd hn HS
                      refine jheld_want rfl ?_
                    · have H2 := ghost_keep (vs := (plV36 p M e0 s1.bs.length ⟨s1.bs.toArray⟩)) (S := (plS w p q M { j with s := s1 } ⟨s1, [], z32, false⟩ none 0)) (g := g) (i := 0) rfl (HS.list 0 (by decide))
                      clear hd hn hz HS
                      unfold opGhost
                      go_simp
                    · have H2 := ghost_keep (vs := (plV36 p M e0 s1.bs.length ⟨s1.bs.toArray⟩)) (S := (plS w p q M { j with s := s1 } ⟨s1, [], z32, false⟩ none 0)) (g := g) (i := 1) rfl (HS.list 1 (by decide))
                      clear hd hn hz HS
                      unfold opGhost
                      go_simp
                    · have H2 := ghost_keep (vs := (plV36 p M e0 s1.bs.length ⟨s1.bs.toArray⟩)) (S := (plS w p q M { j with s := s1 } ⟨s1, [], z32, false⟩ none 0)) (g := g) (i := 2) rfl (HS.list 2 (by decide))
                      clear hd hn hz HS
                      unfold opGhost
                      go_simp
                    · have H2 := ghost_keep (vs := (plV36 p M e0 s1.bs.length ⟨s1.bs.toArray⟩)) (S := (plS w p q M { j with s := s1 } ⟨s1, [], z32, false⟩ none 0)) (g := g) (i := 3) rfl (HS.list 3 (by decide))
                      clear hd hn hz HS
                      unfold opGhost
                      go_simp
                    · have H2 := ghost_keep (vs := (plV36 p M e0 s1.bs.length ⟨s1.bs.toArray⟩)) (S := (plS w p q M { j with s := s1 } ⟨s1, [], z32, false⟩ none 0)) (g := g) (i := 4) rfl (HS.list 4 (by decide))
                      clear hd hn hz HS
                      unfold opGhost
                      go_simp
                    · have hc := HS.1.Bytes
                      clear hd hn hz
                      unfold opGhost
                      go_simp
                      exact (show CallsIn Fence.wide 0 _ _ _ _ _ from (callsIn_wide.2 hc).mono fun e w'' ⟨A2, c2, he, hR, hN⟩ => ⟨_, he, ⟨⟨A2, c2⟩, rfl, HS.got hN hR⟩⟩)
                    · have h5 : L.getD 5 false = true := hd ⟨5, .data⟩ (by simp) rfl
                      have hstr : (convert 22 9 (.slice g.A s1.bs.length g.c)).run Try.prog W' = .ok (.string ⟨s1.bs.toArray⟩) W' := Rd.str g.c (HS.2 h5)
                      exact ghost_value (jexec_conv rfl rfl hstr) (ghost_keep (vs := (plV36 p M e0 s1.bs.length ⟨s1.bs.toArray⟩)) (S := (plS w p q M { j with s := s1 } ⟨s1, [], z32, false⟩ none 0)) (g := g) (i := 6) rfl (HS.list 6 (by decide)))
                    · have H2 := ghost_keep (vs := (plV36 p M e0 s1.bs.length ⟨s1.bs.toArray⟩)) (S := (plS w p q M { j with s := s1 } ⟨s1, [], z32, false⟩ none 0)) (g := g) (i := 7) rfl (HS.list 7 (by decide))
                      clear hd hn hz HS
                      unfold opGhost
                      go_simp
                    · have H2 := ghost_keep (vs := (plV36 p M e0 s1.bs.length ⟨s1.bs.toArray⟩)) (S := (plS w p q M { j with s := s1 } ⟨s1, [], z32, false⟩ none 0)) (g := g) (i := 8) rfl (HS.list 8 (by decide))
                      clear hd hn hz HS
                      unfold opGhost
                      go_simp
                    · have H2 := ghost_keep (vs := (plV36 p M e0 s1.bs.length ⟨s1.bs.toArray⟩)) (S := (plS w p q M { j with s := s1 } ⟨s1, [], z32, false⟩ none 0)) (g := g) (i := 9) rfl (HS.list 9 (by decide))
                      have c3 : W'.cell? ⟨M, 3, none⟩ = some (.string ⟨s1.bs.toArray⟩) := HS.1.blk.cell 3
                      clear hd hn hz HS
                      unfold opGhost
                      go_simp
                    · have H2 := ghost_keep (vs := (plV36 p M e0 s1.bs.length ⟨s1.bs.toArray⟩)) (S := (plS w p q M { j with s := s1 } ⟨s1, [], z32, false⟩ none 0)) (g := g) (i := 10) rfl (HS.list 10 (by decide))
                      clear hd hn hz HS
                      unfold opGhost
                      go_simp
                    · have H2 := ghost_keep (vs := (plV36 p M e0 s1.bs.length ⟨s1.bs.toArray⟩)) (S := (plS w p q M { j with s := s1 } ⟨s1, [], z32, false⟩ none 0)) (g := g) (i := 11) rfl (HS.list 11 (by decide))
                      clear hd hn hz HS
                      unfold opGhost
                      go_simp
                  case sna =>
                    rintro g L W6 hz hal hS
                    have hfin := hS.1.frm
                    clear hS hz hal HP4
                    go_wp2_with fail
                    go_ret
                    exact ⟨rfl, hfin⟩
                | some j2 =>
                  obtain ⟨rfl, -⟩ := openOf_e hoo
                  have hlast2 := openOf_last hoo
                  have hinv2 : PInv (k + 1) j2 := PInv.of_open _ hok1 hoo
                  refine (HP2.out.Open hoo).mono ?_
                  rintro e W3 ⟨q2, rfl, hP3⟩
                  have hB3 : Blk W3 M 79 (jd s1 A' j.rs.length c' j.last j.down) := hP3.blk
                  have HB3 := Lib.hid hB3
                  have HP3 := Lib.hid hP3
                  have HOO := Lib.hid hoo
                  have HI2 := Lib.hid hinv2
                  clear hB3 hP3 HP2 hoo hinv2
                  go_wp2_with (refine x_value (exec_load (T := 41) (X := dsk s1) (g := M) (off := 0) rfl rfl Try.underlying41 rfl his (hs1.trans (dsk_4 _)) (jd_at0 HB3.out)) (by simp [go_sem, Region.wanted, yielded]) ?_)
                  refine (r10open_some W3 hok1 HOO.out).mono ?_
                  rintro e W4 ⟨A4, c4, rfl, hR4, hA4, hN4⟩
                  have hP4 := HP3.out.doc hN4 (m' := j2) hR4 (fun k hk => .inr (hA4 k hk))
                  have hB4 : Blk W4 M 79 (jd s1 A' j.rs.length c' j.last j.down) := (HP3.out.new hN4).blk
                  have HB4 := Lib.hid hB4
                  have HP4 := Lib.hid hP4
                  have HSN := Lib.hid (show 38 = (jd j2.s A4 j2.rs.length c4 j2.last j2.down).size by rw [jd_size _ _ _ _ _ _ hlast2])
                  have HSN0 := Lib.hid (show (jd s1 A' j.rs.length c' j.last j.down).size = (jd j2.s A4 j2.rs.length c4 j2.last j2.down).size by rw [jd_size _ _ _ _ _ _ hlast, jd_size _ _ _ _ _ _ hlast2])
                  clear hB4 hP4 hN4 HP3 HB3 HOO hR4 hA4
                  go_wp2_with (refine x_skip (exec_store_all (T := 79) (X := jd j2.s A4 j2.rs.length c4 j2.last j2.down) (g := M) (cs := (jd s1 A' j.rs.length c' j.last j.down)) rfl rfl rfl hij (hj1.trans HSN.out) (jd_one _ _ _ _ _ _) HB4.out HSN0.out) rfl ?_)
                  generalize W4.setRow M (jd j2.s A4 j2.rs.length c4 j2.last j2.down) = W5 at *
                  clear HB4 HSN HSN0
                  refine wp_region_ghost (by kernel_rfl) (by kernel_rfl) (plV36 p M 0 j2.s.bs.length ⟨j2.s.bs.toArray⟩) (fun _ => rfl) (by kernel_rfl) (plS w p q2 M j2 j2 A4 c4) ⟨none, 0⟩ ⟨(HP4.out).new (Fr.drew (fun _ => False) _), fun h => by simp at h⟩ _ (by funext g; simp [plV36, plV42, putAll, Act.put]; rfl) ?ssh ?ssa
                  case ssh =>
                    refine ⟨?_, ?_, ?_, ?_, ?_, ?_, ?_, ?_, ?_, ?_, ?_, ?_, trivial⟩
                    all_goals
                      intro g L W' hz hd hn HS
                      refine jheld_want rfl ?_
                    · have H2 := ghost_keep (vs := (plV36 p M 0 j2.s.bs.length ⟨j2.s.bs.toArray⟩)) (S := (plS w p q2 M j2 j2 A4 c4)) (g := g) (i := 0) rfl (HS.list 0 (by decide))
                      clear hd hn hz HS
                      unfold opGhost
                      go_simp
                    · have H2 := ghost_keep (vs := (plV36 p M 0 j2.s.bs.length ⟨j2.s.bs.toArray⟩)) (S := (plS w p q2 M j2 j2 A4 c4)) (g := g) (i := 1) rfl (HS.list 1 (by decide))
                      clear hd hn hz HS
                      unfold opGhost
                      go_simp
                    · have H2 := ghost_keep (vs := (plV36 p M 0 j2.s.bs.length ⟨j2.s.bs.toArray⟩)) (S := (plS w p q2 M j2 j2 A4 c4)) (g := g) (i := 2) rfl (HS.list 2 (by decide))
                      clear hd hn hz HS
                      unfold opGhost
                      go_simp
                    · have H2 := ghost_keep (vs := (plV36 p M 0 j2.s.bs.length ⟨j2.s.bs.toArray⟩)) (S := (plS w p q2 M j2 j2 A4 c4)) (g := g) (i := 3) rfl (HS.list 3 (by decide))
                      clear hd hn hz HS
                      unfold opGhost
                      go_simp
                    · have H2 := ghost_keep (vs := (plV36 p M 0 j2.s.bs.length ⟨j2.s.bs.toArray⟩)) (S := (plS w p q2 M j2 j2 A4 c4)) (g := g) (i := 4) rfl (HS.list 4 (by decide))
                      clear hd hn hz HS
                      unfold opGhost
                      go_simp
                    · have hc := HS.1.Bytes
                      clear hd hn hz
                      unfold opGhost
                      go_simp
                      exact (show CallsIn Fence.wide 0 _ _ _ _ _ from (callsIn_wide.2 hc).mono fun e w'' ⟨A2, c2, he, hR, hN⟩ => ⟨_, he, ⟨⟨A2, c2⟩, rfl, HS.got hN hR⟩⟩)
                    · have h5 : L.getD 5 false = true := hd ⟨5, .data⟩ (by simp) rfl
                      have hstr : (convert 22 9 (.slice g.A j2.s.bs.length g.c)).run Try.prog W' = .ok (.string ⟨j2.s.bs.toArray⟩) W' := Rd.str g.c (HS.2 h5)
                      exact ghost_value (jexec_conv rfl rfl hstr) (ghost_keep (vs := (plV36 p M 0 j2.s.bs.length ⟨j2.s.bs.toArray⟩)) (S := (plS w p q2 M j2 j2 A4 c4)) (g := g) (i := 6) rfl (HS.list 6 (by decide)))
                    · have H2 := ghost_keep (vs := (plV36 p M 0 j2.s.bs.length ⟨j2.s.bs.toArray⟩)) (S := (plS w p q2 M j2 j2 A4 c4)) (g := g) (i := 7) rfl (HS.list 7 (by decide))
                      clear hd hn hz HS
                      unfold opGhost
                      go_simp
                    · have H2 := ghost_keep (vs := (plV36 p M 0 j2.s.bs.length ⟨j2.s.bs.toArray⟩)) (S := (plS w p q2 M j2 j2 A4 c4)) (g := g) (i := 8) rfl (HS.list 8 (by decide))
                      clear hd hn hz HS
                      unfold opGhost
                      go_simp
                    · have H2 := ghost_keep (vs := (plV36 p M 0 j2.s.bs.length ⟨j2.s.bs.toArray⟩)) (S := (plS w p q2 M j2 j2 A4 c4)) (g := g) (i := 9) rfl (HS.list 9 (by decide))
                      have c3 : W'.cell? ⟨M, 3, none⟩ = some (.string ⟨j2.s.bs.toArray⟩) := HS.1.blk.cell 3
                      clear hd hn hz HS
                      unfold opGhost
                      go_simp
                    · have H2 := ghost_keep (vs := (plV36 p M 0 j2.s.bs.length ⟨j2.s.bs.toArray⟩)) (S := (plS w p q2 M j2 j2 A4 c4)) (g := g) (i := 10) rfl (HS.list 10 (by decide))
                      clear hd hn hz HS
                      unfold opGhost
                      go_simp
                    · have H2 := ghost_keep (vs := (plV36 p M 0 j2.s.bs.length ⟨j2.s.bs.toArray⟩)) (S := (plS w p q2 M j2 j2 A4 c4)) (g := g) (i := 11) rfl (HS.list 11 (by decide))
                      clear hd hn hz HS
                      unfold opGhost
                      go_simp
                  case ssa =>
                    rintro g L W6 hz hal hS
                    have HP6 := Lib.hid hS.1
                    clear hS hz hal HP4
                    go_wp2_with fail
                    go_meet
                    exact ⟨q2, j2, A4, c4, 0, rfl, rfl, rfl, HI2.out, HP6.out⟩
              · have r0 : (kind == 0) = false := beq_false_of_ne q0
                have r1 : (kind == 1) = false := beq_false_of_ne q1
                have r2 : (kind == 2) = false := beq_false_of_ne q2
                have r3 : (kind == 3) = false := beq_false_of_ne q3
                clear q0 q1 q2 q3
                go_wp2_with fail
                go_meet
                exact ⟨q, j, A', c', 0, rfl, rfl, rfl, HINV.out.mono, HPa.out _⟩
      case rest =>
        obtain ⟨q', j', A2, c2, code, rfl, rfl, rfl, hinv2, hP2⟩ := hcut
        have hlast2 := hP2.last
        have hrs2 := hinv2.2
        have hne : (!(j'.last == j'.last)) = false := by rw [beq_self_eq_true]; rfl
        have HLL := Lib.hid hlast2
        have HNE := Lib.hid hne
        have HLS := Lib.hid (show 32 = (ida j'.last).size by rw [ida_size, hlast2])
        have HI2 := Lib.hid hinv2
        have HP2 := Lib.hid hP2
        clear hne hlast2 hinv2 hP2 HP HPa HINV HSX d0 d1 d2 d3 hdat hwk hwn hN hok hlast hrs hM hMn hMn'
        go_wp2_with fail
        refine wp_region_ghost (by kernel_rfl) (by kernel_rfl) (plV42 p q' M code j'.s.bs.length ⟨j'.s.bs.toArray⟩ A2 c2 j'.rs.length j'.last) (fun _ => rfl) (by kernel_rfl) (plS w p q' M j' j' A2 c2) ⟨none, 0⟩ ⟨(HP2.out).new (Fr.drew (fun _ => False) _), fun h => by simp at h⟩ _ (by funext g; simp [plV36, plV42, putAll, Act.put]; rfl) ?rh ?ra
        case rh =>
          refine ⟨?_, ?_, ?_, ?_, ?_, ?_, ?_, ?_, ?_, ?_, ?_, ?_, ?_, ?_, ?_, ?_, ?_, ?_, ?_, ?_, ?_, ?_, ?_, ?_, ?_, ?_, ?_, trivial⟩
          all_goals
            intro g L W' hz hd hn HS
            refine jheld_want rfl ?_
          · have H2 := ghost_keep (vs := (plV42 p q' M code j'.s.bs.length ⟨j'.s.bs.toArray⟩ A2 c2 j'.rs.length j'.last)) (S := (plS w p q' M j' j' A2 c2)) (g := g) (i := 0) rfl (HS.list 0 (by decide))
            clear hd hn hz HS
            unfold opGhost
            go_simp
          · have H2 := ghost_keep (vs := (plV42 p q' M code j'.s.bs.length ⟨j'.s.bs.toArray⟩ A2 c2 j'.rs.length j'.last)) (S := (plS w p q' M j' j' A2 c2)) (g := g) (i := 1) rfl (HS.list 1 (by decide))
            clear hd hn hz HS
            unfold opGhost
            go_simp
          · have H2 := ghost_keep (vs := (plV42 p q' M code j'.s.bs.length ⟨j'.s.bs.toArray⟩ A2 c2 j'.rs.length j'.last)) (S := (plS w p q' M j' j' A2 c2)) (g := g) (i := 2) rfl (HS.list 2 (by decide))
            clear hd hn hz HS
            unfold opGhost
            go_simp
          · have H2 := ghost_keep (vs := (plV42 p q' M code j'.s.bs.length ⟨j'.s.bs.toArray⟩ A2 c2 j'.rs.length j'.last)) (S := (plS w p q' M j' j' A2 c2)) (g := g) (i := 3) rfl (HS.list 3 (by decide))
            clear hd hn hz HS
            unfold opGhost
            go_simp
          · have H2 := ghost_keep (vs := (plV42 p q' M code j'.s.bs.length ⟨j'.s.bs.toArray⟩ A2 c2 j'.rs.length j'.last)) (S := (plS w p q' M j' j' A2 c2)) (g := g) (i := 4) rfl (HS.list 4 (by decide))
            clear hd hn hz HS
            unfold opGhost
            go_simp
          · have hc := HS.1.Bytes
            clear hd hn hz
            unfold opGhost
            go_simp
            exact (show CallsIn Fence.wide 0 _ _ _ _ _ from (callsIn_wide.2 hc).mono fun e w'' ⟨A2, c2, he, hR, hN⟩ => ⟨_, he, ⟨⟨A2, c2⟩, rfl, HS.got hN hR⟩⟩)
          · have h5 : L.getD 5 false = true := hd ⟨5, .data⟩ (by simp) rfl
            have hstr : (convert 22 9 (.slice g.A j'.s.bs.length g.c)).run Try.prog W' = .ok (.string ⟨j'.s.bs.toArray⟩) W' := Rd.str g.c (HS.2 h5)
            exact ghost_value (jexec_conv rfl rfl hstr) (ghost_keep (vs := (plV42 p q' M code j'.s.bs.length ⟨j'.s.bs.toArray⟩ A2 c2 j'.rs.length j'.last)) (S := (plS w p q' M j' j' A2 c2)) (g := g) (i := 6) rfl (HS.list 6 (by decide)))
          · have H2 := ghost_keep (vs := (plV42 p q' M code j'.s.bs.length ⟨j'.s.bs.toArray⟩ A2 c2 j'.rs.length j'.last)) (S := (plS w p q' M j' j' A2 c2)) (g := g) (i := 7) rfl (HS.list 7 (by decide))
            clear hd hn hz HS
            unfold opGhost
            go_simp
          · have H2 := ghost_keep (vs := (plV42 p q' M code j'.s.bs.length ⟨j'.s.bs.toArray⟩ A2 c2 j'.rs.length j'.last)) (S := (plS w p q' M j' j' A2 c2)) (g := g) (i := 8) rfl (HS.list 8 (by decide))
            clear hd hn hz HS
            unfold opGhost
            go_simp
          · have H2 := ghost_keep (vs := (plV42 p q' M code j'.s.bs.length ⟨j'.s.bs.toArray⟩ A2 c2 j'.rs.length j'.last)) (S := (plS w p q' M j' j' A2 c2)) (g := g) (i := 9) rfl (HS.list 9 (by decide))
            have c3 : W'.cell? ⟨M, 3, none⟩ = some (.string ⟨j'.s.bs.toArray⟩) := HS.1.blk.cell 3
            clear hd hn hz HS
            unfold opGhost
            go_simp
          · have H2 := ghost_keep (vs := (plV42 p q' M code j'.s.bs.length ⟨j'.s.bs.toArray⟩ A2 c2 j'.rs.length j'.last)) (S := (plS w p q' M j' j' A2 c2)) (g := g) (i := 10) rfl (HS.list 10 (by decide))
            clear hd hn hz HS
            unfold opGhost
            go_simp
          · have H2 := ghost_keep (vs := (plV42 p q' M code j'.s.bs.length ⟨j'.s.bs.toArray⟩ A2 c2 j'.rs.length j'.last)) (S := (plS w p q' M j' j' A2 c2)) (g := g) (i := 11) rfl (HS.list 11 (by decide))
            clear hd hn hz HS
            unfold opGhost
            go_simp
          · have H2 := ghost_keep (vs := (plV42 p q' M code j'.s.bs.length ⟨j'.s.bs.toArray⟩ A2 c2 j'.rs.length j'.last)) (S := (plS w p q' M j' j' A2 c2)) (g := g) (i := 12) rfl (HS.list 12 (by decide))
            clear hd hn hz HS
            unfold opGhost
            go_simp
          · have H2 := ghost_keep (vs := (plV42 p q' M code j'.s.bs.length ⟨j'.s.bs.toArray⟩ A2 c2 j'.rs.length j'.last)) (S := (plS w p q' M j' j' A2 c2)) (g := g) (i := 13) rfl (HS.list 13 (by decide))
            clear hd hn hz HS
            unfold opGhost
            go_simp
          · have hc := HS.1.one.Len
            clear hd hn hz
            unfold opGhost
            go_simp
            exact (show CallsIn Fence.wide 0 _ _ _ _ _ from (callsIn_wide.2 hc).mono fun e w'' ⟨he, hw⟩ => ⟨_, he, hw ▸ ghost_keep (vs := (plV42 p q' M code j'.s.bs.length ⟨j'.s.bs.toArray⟩ A2 c2 j'.rs.length j'.last)) (S := (plS w p q' M j' j' A2 c2)) (g := g) (i := 14) rfl (HS.list 14 (by decide))⟩)
          · have H2 := ghost_keep (vs := (plV42 p q' M code j'.s.bs.length ⟨j'.s.bs.toArray⟩ A2 c2 j'.rs.length j'.last)) (S := (plS w p q' M j' j' A2 c2)) (g := g) (i := 15) rfl (HS.list 15 (by decide))
            clear hd hn hz HS
            unfold opGhost
            go_simp
          · have H2 := ghost_keep (vs := (plV42 p q' M code j'.s.bs.length ⟨j'.s.bs.toArray⟩ A2 c2 j'.rs.length j'.last)) (S := (plS w p q' M j' j' A2 c2)) (g := g) (i := 16) rfl (HS.list 16 (by decide))
            have c4 := jd_c4 HS.1.blk
            clear hd hn hz HS
            unfold opGhost
            go_simp
          · have H2 := ghost_keep (vs := (plV42 p q' M code j'.s.bs.length ⟨j'.s.bs.toArray⟩ A2 c2 j'.rs.length j'.last)) (S := (plS w p q' M j' j' A2 c2)) (g := g) (i := 17) rfl (HS.list 17 (by decide))
            clear hd hn hz HS
            unfold opGhost
            go_simp
          · have H2 := ghost_keep (vs := (plV42 p q' M code j'.s.bs.length ⟨j'.s.bs.toArray⟩ A2 c2 j'.rs.length j'.last)) (S := (plS w p q' M j' j' A2 c2)) (g := g) (i := 18) rfl (HS.list 18 (by decide))
            clear hd hn hz HS
            unfold opGhost
            go_simp
          · have H2 := ghost_keep (vs := (plV42 p q' M code j'.s.bs.length ⟨j'.s.bs.toArray⟩ A2 c2 j'.rs.length j'.last)) (S := (plS w p q' M j' j' A2 c2)) (g := g) (i := 19) rfl (HS.list 19 (by decide))
            clear hd hn hz HS
            unfold opGhost
            go_simp
          · have H2 := ghost_keep (vs := (plV42 p q' M code j'.s.bs.length ⟨j'.s.bs.toArray⟩ A2 c2 j'.rs.length j'.last)) (S := (plS w p q' M j' j' A2 c2)) (g := g) (i := 20) rfl (HS.list 20 (by decide))
            clear hd hn hz HS
            unfold opGhost
            go_simp
          · have H2 := ghost_keep (vs := (plV42 p q' M code j'.s.bs.length ⟨j'.s.bs.toArray⟩ A2 c2 j'.rs.length j'.last)) (S := (plS w p q' M j' j' A2 c2)) (g := g) (i := 21) rfl (HS.list 21 (by decide))
            clear hd hn hz HS
            unfold opGhost
            go_simp
          · have hc := HS.1.Last
            clear hd hn hz
            unfold opGhost
            go_simp
            exact (show CallsIn Fence.wide 0 _ _ _ _ _ from (callsIn_wide.2 hc).mono fun e w'' ⟨he, hN⟩ => ⟨_, he, ghost_keep (vs := (plV42 p q' M code j'.s.bs.length ⟨j'.s.bs.toArray⟩ A2 c2 j'.rs.length j'.last)) (S := (plS w p q' M j' j' A2 c2)) (g := g) (i := 22) rfl ((HS.new hN).list 22 (by decide))⟩)
          · have H2 := ghost_keep (vs := (plV42 p q' M code j'.s.bs.length ⟨j'.s.bs.toArray⟩ A2 c2 j'.rs.length j'.last)) (S := (plS w p q' M j' j' A2 c2)) (g := g) (i := 23) rfl (HS.list 23 (by decide))
            clear hd hn hz HS
            unfold opGhost
            go_simp
          · exact ghost_value (exec_load (T := 60) (X := ida j'.last) (g := M) (off := 5) rfl rfl underID rfl hii (hz1.trans HLS.out) (jd_at5 HS.1.blk)) (ghost_keep (vs := (plV42 p q' M code j'.s.bs.length ⟨j'.s.bs.toArray⟩ A2 c2 j'.rs.length j'.last)) (S := (plS w p q' M j' j' A2 c2)) (g := g) (i := 24) rfl (HS.list 24 (by decide)))
          · exact ghost_value (jneq rfl rfl rfl HLL.out HLL.out HNE.out) (ghost_keep (vs := (plV42 p q' M code j'.s.bs.length ⟨j'.s.bs.toArray⟩ A2 c2 j'.rs.length j'.last)) (S := (plS w p q' M j' j' A2 c2)) (g := g) (i := 25) rfl (HS.list 25 (by decide)))
          · have H2 := ghost_keep (vs := (plV42 p q' M code j'.s.bs.length ⟨j'.s.bs.toArray⟩ A2 c2 j'.rs.length j'.last)) (S := (plS w p q' M j' j' A2 c2)) (g := g) (i := 26) rfl (HS.list 26 (by decide))
            clear hd hn hz HS
            unfold opGhost
            go_simp
        case ra =>
          rintro g L W6 hz hal hS
          have HP6 := Lib.hid hS.1
          have hc4 := jd_c4 hS.1.blk
          clear hS hz hal HP2 HLL HNE HLS
          go_wp2_with fail
          go_loopw [193] (fun i W => ∃ i' : Nat, i = .int .i64 i' ∧ i' ≤ j'.rs.length ∧ PlS w p q' M j' j' A2 c2 W) (fun i _ => j'.rs.length - (intOf i).toNat)
          case atStart => exact ⟨0, rfl, Nat.zero_le _, HP6.out⟩
          case round =>
            clear HP6 hc4
            obtain ⟨i', rfl, hi', hPr⟩ := hrel
            have HPr := Lib.hid hPr
            clear hPr
            by_cases hlt2 : i' < j'.rs.length
            · go_wp2_with fail
              refine (HPr.out.one.At i' (j'.rs[i']) (List.getElem?_eq_getElem hlt2) (by have := HI2.out.1 _ (List.getElem_mem hlt2); omega) (by omega)).mono ?_
              rintro e W7 ⟨A7, c7, rfl, hR7, _⟩
              have hP7 := HPr.out.new hR7.fr
              obtain ⟨b2, off2, hA, hcell⟩ := hP7.rec i' hlt2
              have hc4 := jd_c4 hP7.blk
              have hq1 : ∀ n, (convert 22 9 (.slice A7 (j'.rs[i']).length c7)).run Try.prog (W7.drewN n) = .ok (.string ⟨(j'.rs[i']).toArray⟩) (W7.drewN n) := fun n => Rd.str c7 (hR7.row.rd.fr (Fr.drewN (fun _ => False) W7 n) (fun _ _ => id))
              have HP7 := Lib.hid hP7
              generalize j'.rs[i'] = x at *
              subst hA
              clear hP7 hR7 HPr
              go_wp2_with fail
              go_quiet (fail)
              clear hq1 hc4 hcell
              go_wp2_with fail
              go_roundw
              case rel => exact ⟨i' + 1, by go_num, by omega, HP7.out.new (Fr.drewN _ _ _)⟩
              case measure => simp [intOf]; omega
            · go_wp2_with fail
              go_roundw
              case rel => exact ⟨k + 1, q', j', A2, c2, rfl, by go_num, by omega, HI2.out, HPr.out⟩
              case measure => simp [intOf]; omega
    · have HP := Lib.hid hP
      clear hP
      go_wp2_with fail
      refine HP.out.one.Len.mono ?_
      rintro e _ ⟨rfl, rfl⟩
      go_wp2_with fail
      refine (HP.out.one.AtBad (j.rs.length : Int) (.inr (Int.le_refl _))).mono ?_
      rintro e _ ⟨rfl, rfl⟩
      have hfin := HP.out.frm
      clear HP
      go_wp2_with fail
      go_ret
      exact ⟨rfl, hfin⟩
theorem journalPlays_walk (room : Int) (A : Option Addr) (cA : Nat) (ops : List OpD) (w : World) (hi : OpsIn w A ops) :
    Calls Try.prog 14 #[.int .i64 room, .slice A ops.length cA] w fun e w' => e = .returned (.bool true) ∧ Below w.heap.size w w' := by
  have hb : ∀ w', New w w' → Below w.heap.size w w' := fun w' h => h.below (Nat.le_refl _) (fun _ => False.elim)
  by_cases h : room < 0 ∨ 3000 < room ∨ 40 < ops.length
  · exact (jplays_out room A cA ops.length w h).mono fun e w' ⟨he, hn⟩ => ⟨he, hb w' hn⟩
  · exact (jplays_in room A cA ops w hi (by omega) (by omega) (by omega)).mono fun e w' ⟨he, hn⟩ => ⟨he, hb w' hn⟩
end Go.Proofs.Ytefalfalapnllaa
