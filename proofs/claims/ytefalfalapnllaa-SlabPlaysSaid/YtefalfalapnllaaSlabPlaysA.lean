/- SlabPlays walked: the slab and the document's value go side by side. -/
import Derived.Test.YtefalfalapnllaaSlabPlayC
import Derived.Deep.LoopGhost
import Derived.Deep.CutBlock
import Derived.Deep.DeepCutAuto
import Derived.Deep.RegionWith
import Derived.Outline
namespace Go.Proofs.Ytefalfalapnllaa
open Go.RowKit
set_option linter.unusedVariables false

set_option maxHeartbeats 8000000 in
set_option maxRecDepth 100000 in
theorem slabPlays_great (room : Int) (A : Option Addr) (c : Nat) (ops : List OpD) (w : World) (hi : OpsIn w A ops) (h0 : 5000 < room) (h1 : room ≤ 4194304) (hl : ops.length ≤ 100) :
    Calls Try.prog 7 #[.int .i64 room, .slice A ops.length c] w fun e w' => e = .returned (.bool true) ∧ Below w.heap.size w w' := by
  go_enter Try.func7, Try.ntmps7
  go_wp2_with fail
  refine (slab_keeps w).mono ?_
  rintro e w1 ⟨rfl, k1⟩
  go_wp2_with fail
  refine (slab_New 5000 (by omega) (by omega)).mono ?_
  rintro e w2 ⟨rfl, k2, f2⟩
  go_wp2_with fail
  refine (ref_New w2 5000 (by omega) (by omega)).mono ?_
  rintro e w3 ⟨rfl, f3⟩
  have P0 : Play w (w3.alloc (.cells #[.int .i64 5000, .int .i64 0, .int .i64 (-1), .string ⟨#[]⟩] 41)) w1.heap.size w3.heap.size ⟨5000, [], 0, -1⟩ ⟨5000, [], 0, -1⟩ := by
    have hn3 : New w w3 := (k1.trans f2 (fun _ => .inl)).trans f3 (fun _ => .inl)
    refine ⟨_, (k2.fr f3 (fun _ _ => id)).alloc _, fun k hk => by rw [hk]; exact k1.size, hn3.then_alloc _, Blk.new w3 _ _, ?_, hn3.size⟩
    intro e
    have e : w3.heap.size = w1.heap.size := e
    have := k2.lt _ rfl
    have := f3.size
    omega
  clear k1 k2 f2 f3
  unfold refv
  go_wp2_with fail
  go_loopw [52] (fun i W => ∃ k : Nat, ∃ s : SlabS, i = .int .i64 k ∧ k ≤ ops.length ∧ Play w W w1.heap.size w3.heap.size s s) (fun i _ => ops.length - (intOf i).toNat)
  case atStart => exact ⟨0, _, rfl, Nat.zero_le _, P0⟩
  case round =>
    obtain ⟨k, s, rfl, hk, hP⟩ := hrel
    clear P0
    by_cases hlt : k < ops.length
    · obtain ⟨b, off, rfl, _, hcells⟩ := hi.rd (by omega)
      obtain ⟨c0, c1, c2, c3⟩ := hcells k hlt
      obtain ⟨hdat, hwk, hwn⟩ := hi.data _ (List.getElem_mem hlt)
      obtain ⟨o, ho⟩ : ∃ o, o = ops[k] := ⟨_, rfl⟩
      rw [← ho] at c0 c1 c2 c3 hdat hwk hwn
      clear ho hcells
      have hb : b < w.heap.size := World.block_lt_of_cell? _ _ c0
      have hN := hP.new
      have d0 := (hN.cell (p := ⟨b, off + k * 4, none⟩) hb id).trans c0
      have d1 := (hN.cell (p := ⟨b, off + k * 4 + 1, none⟩) hb id).trans c1
      have d2 := (hN.cell (p := ⟨b, off + k * 4 + 2, none⟩) hb id).trans c2
      have d3 := (hN.cell (p := ⟨b, off + k * 4 + 3, none⟩) hb id).trans c3
      unfold bv at d2
      clear c0 c1 c2 c3
      go_upto_block 2 with fail
      obtain ⟨kind, nn, xx, A1, c1, dat⟩ := o
      simp only at d0 d1 d2 d3 hdat hwk hwn
      have hnn : nn ≤ 9223372036854775807 := by have := bounds_i64 hwn; omega
      have hPa : ∀ ob, Play w (wr.alloc ob) w1.heap.size w3.heap.size s s := fun ob => hP.then_new (Fr.alloc _ _ ob)
      obtain ⟨⟨u0, u1, u2, u3⟩, -⟩ := refblk hP.blk
      have hq := hP.blk.lt
      have hqn := Nat.ne_of_lt hq
      have hqn' := Nat.ne_of_gt hq
      go_cut [11, 12] (fun ev cv W => ∃ s' : SlabS, ∃ code : Int, ev = .int .i64 code ∧ cv = .int .i64 code ∧ Play w W w1.heap.size w3.heap.size s' s')
      case first =>
        clear hwk hwn hi
        by_cases q0 : kind = 0
        · subst q0
          by_cases hbig : 500 < dat.length
          · go_wp2
            go_roundw
            case rel => exact ⟨k + 1, s, by go_num, by omega, hPa _⟩
            case measure => simp [intOf]; omega
          · have mk := text_of c1 hdat.rd rfl
            have hNa : ∀ ob, New w (wr.alloc ob) := fun ob => hN.then_alloc ob
            obtain ⟨s', code, cR, cL⟩ := app_step w s hP.good dat A1 c1 hdat.rd
            go_wp2_with fail
            refine (cR _).mono ?_
            rintro e W1 ⟨rfl, n1⟩
            have P1 := (hPa _).then_new n1
            obtain ⟨⟨x0, x1, x2, x3⟩, ⟨y0, y1, y2, y3⟩⟩ := refblk P1.blk
            have BO := Blk.fr (Blk.new wr _ _) n1 id
            have e1 : W1.cell? ⟨wr.heap.size, 1, none⟩ = some (.int .i64 nn) := BO.cell 1
            have e2 : W1.cell? ⟨wr.heap.size, 2, none⟩ = some (.int .u8 (xx.toNat : Int)) := BO.cell 2
            have e3 : W1.cell? ⟨wr.heap.size, 3, none⟩ = some (.slice A1 dat.length c1) := BO.cell 3
            clear cR n1 BO
            go_wp2_with fail
            refine (cL _ _ _ _ (P1.set s')).mono ?_
            rintro e W2 ⟨rfl, P2⟩
            clear cL P1 x0 x1 x2 x3 y0 y1 y2 y3 e1 e2 e3
            go_wp2
            go_meet
            exact ⟨s', code, rfl, rfl, P2⟩
        · by_cases q1 : kind = 1
          · subst q1
            obtain ⟨s', code, cR, cL⟩ := sync_step w s hP.good
            go_wp2_with fail
            refine (cR _).mono ?_
            rintro e W1 ⟨rfl, n1⟩
            have P1 := (hPa _).then_new n1
            obtain ⟨⟨x0, x1, x2, x3⟩, ⟨y0, y1, y2, y3⟩⟩ := refblk P1.blk
            have BO := Blk.fr (Blk.new wr _ _) n1 id
            have e1 : W1.cell? ⟨wr.heap.size, 1, none⟩ = some (.int .i64 nn) := BO.cell 1
            have e2 : W1.cell? ⟨wr.heap.size, 2, none⟩ = some (.int .u8 (xx.toNat : Int)) := BO.cell 2
            have e3 : W1.cell? ⟨wr.heap.size, 3, none⟩ = some (.slice A1 dat.length c1) := BO.cell 3
            clear cR n1 BO
            go_wp2_with fail
            refine (cL _ _ _ _ (P1.set s')).mono ?_
            rintro e W2 ⟨rfl, P2⟩
            clear cL P1 x0 x1 x2 x3 y0 y1 y2 y3 e1 e2 e3
            go_wp2
            go_meet
            exact ⟨s', code, rfl, rfl, P2⟩
          · by_cases q2 : kind = 2
            · subst q2
              obtain ⟨s', code, cR, cL⟩ := cut_step w s hP.good nn
              go_wp2_with fail
              refine (cR _).mono ?_
              rintro e W1 ⟨rfl, n1⟩
              have P1 := (hPa _).then_new n1
              obtain ⟨⟨x0, x1, x2, x3⟩, ⟨y0, y1, y2, y3⟩⟩ := refblk P1.blk
              have BO := Blk.fr (Blk.new wr _ _) n1 id
              have e1 : W1.cell? ⟨wr.heap.size, 1, none⟩ = some (.int .i64 nn) := BO.cell 1
              have e2 : W1.cell? ⟨wr.heap.size, 2, none⟩ = some (.int .u8 (xx.toNat : Int)) := BO.cell 2
              have e3 : W1.cell? ⟨wr.heap.size, 3, none⟩ = some (.slice A1 dat.length c1) := BO.cell 3
              clear cR n1 BO
              go_wp2_with fail
              refine (cL _ _ _ _ (P1.set s')).mono ?_
              rintro e W2 ⟨rfl, P2⟩
              clear cL P1 x0 x1 x2 x3 y0 y1 y2 y3 e1 e2 e3
              go_wp2
              go_meet
              exact ⟨s', code, rfl, rfl, P2⟩
            · by_cases q3 : kind = 3
              · subst q3
                obtain ⟨s', cR, cL⟩ := break_step w s hP.good nn hnn
                go_wp2_with fail
                refine (cR _).mono ?_
                rintro e W1 ⟨rfl, n1⟩
                have P1 := (hPa _).then_new n1
                obtain ⟨⟨x0, x1, x2, x3⟩, ⟨y0, y1, y2, y3⟩⟩ := refblk P1.blk
                have BO := Blk.fr (Blk.new wr _ _) n1 id
                have e1 : W1.cell? ⟨wr.heap.size, 1, none⟩ = some (.int .i64 nn) := BO.cell 1
                have e2 : W1.cell? ⟨wr.heap.size, 2, none⟩ = some (.int .u8 (xx.toNat : Int)) := BO.cell 2
                have e3 : W1.cell? ⟨wr.heap.size, 3, none⟩ = some (.slice A1 dat.length c1) := BO.cell 3
                clear cR n1 BO
                go_wp2_with fail
                refine (cL _ _ _ _ (P1.set s')).mono ?_
                rintro e W2 ⟨rfl, P2⟩
                clear cL P1 x0 x1 x2 x3 y0 y1 y2 y3 e1 e2 e3
                go_wp2
                go_meet
                exact ⟨s', 0, rfl, rfl, P2⟩
              · by_cases q4 : kind = 4
                · subst q4
                  obtain ⟨s', cR, cL⟩ := crash_step w s hP.good nn
                  go_wp2_with fail
                  refine (cR _).mono ?_
                  rintro e W1 ⟨rfl, n1⟩
                  have P1 := (hPa _).then_new n1
                  obtain ⟨⟨x0, x1, x2, x3⟩, ⟨y0, y1, y2, y3⟩⟩ := refblk P1.blk
                  have BO := Blk.fr (Blk.new wr _ _) n1 id
                  have e1 : W1.cell? ⟨wr.heap.size, 1, none⟩ = some (.int .i64 nn) := BO.cell 1
                  have e2 : W1.cell? ⟨wr.heap.size, 2, none⟩ = some (.int .u8 (xx.toNat : Int)) := BO.cell 2
                  have e3 : W1.cell? ⟨wr.heap.size, 3, none⟩ = some (.slice A1 dat.length c1) := BO.cell 3
                  clear cR n1 BO
                  go_wp2_with fail
                  refine (cL _ _ _ _ (P1.set s')).mono ?_
                  rintro e W2 ⟨rfl, P2⟩
                  clear cL P1 x0 x1 x2 x3 y0 y1 y2 y3 e1 e2 e3
                  go_wp2
                  go_meet
                  exact ⟨s', 0, rfl, rfl, P2⟩
                · by_cases q5 : kind = 5
                  · subst q5
                    obtain ⟨s', code, cR, cL⟩ := spoil_step w s hP.good nn xx
                    unfold bv at cR cL
                    go_wp2_with fail
                    refine (cR _).mono ?_
                    rintro e W1 ⟨rfl, n1⟩
                    have P1 := (hPa _).then_new n1
                    obtain ⟨⟨x0, x1, x2, x3⟩, ⟨y0, y1, y2, y3⟩⟩ := refblk P1.blk
                    have BO := Blk.fr (Blk.new wr _ _) n1 id
                    have e1 : W1.cell? ⟨wr.heap.size, 1, none⟩ = some (.int .i64 nn) := BO.cell 1
                    have e2 : W1.cell? ⟨wr.heap.size, 2, none⟩ = some (.int .u8 (xx.toNat : Int)) := BO.cell 2
                    have e3 : W1.cell? ⟨wr.heap.size, 3, none⟩ = some (.slice A1 dat.length c1) := BO.cell 3
                    clear cR n1 BO
                    go_wp2_with fail
                    refine (cL _ _ _ _ (P1.set s')).mono ?_
                    rintro e W2 ⟨rfl, P2⟩
                    clear cL P1 x0 x1 x2 x3 y0 y1 y2 y3 e1 e2 e3
                    go_wp2
                    go_meet
                    exact ⟨s', code, rfl, rfl, P2⟩
                  · have r0 : (kind == 0) = false := by simpa using q0
                    have r1 : (kind == 1) = false := by simpa using q1
                    have r2 : (kind == 2) = false := by simpa using q2
                    have r3 : (kind == 3) = false := by simpa using q3
                    have r4 : (kind == 4) = false := by simpa using q4
                    have r5 : (kind == 5) = false := by simpa using q5
                    clear q0 q1 q2 q3 q4 q5
                    go_wp2
                    go_meet
                    exact ⟨s, 0, rfl, rfl, hPa _⟩
      case rest =>
        obtain ⟨s', code, rfl, rfl, P2⟩ := hcut
        clear hP hPa hN d0 d1 d2 d3 hdat hwk hwn u0 u1 u2 u3 hq hqn hqn'
        obtain ⟨n, hn⟩ : ∃ n, n = s'.bs.length := ⟨_, rfl⟩
        obtain ⟨S, hS⟩ : ∃ S : ByteArray, S = ⟨s'.bs.toArray⟩ := ⟨_, rfl⟩
        obtain ⟨u, hu⟩ : ∃ u, u = s'.sure := ⟨_, rfl⟩
        have hz : S.size = n := by rw [hS, hn]; rfl
        have cS := fun W (h : Play w W w1.heap.size w3.heap.size s' s') => play_Size h n hn
        have cB := play_Bytes (w0 := w) (p := w1.heap.size) (q := w3.heap.size) (r := s') n hn S hS
        have cx : ∀ W, Play w W w1.heap.size w3.heap.size s' s' → W.cell? ⟨w3.heap.size, 1, none⟩ = some (.int .i64 u) ∧ W.cell? ⟨w3.heap.size, 3, none⟩ = some (.string S) := by
          intro W h
          rw [hS, hu]
          exact ⟨(refblk h.blk).1.2.1, (refblk h.blk).1.2.2.2⟩
        rw [← hu] at cS
        clear hn hS hu
        go_wp2_with fail
        refine (cS _ P2).mono ?_
        rintro e W3 ⟨rfl, P3⟩
        clear P2 cS
        obtain ⟨x1, x3⟩ := cx _ P3
        go_wp2_with fail
        go_region_with (go_at_call 20; refine (cB _ (P3.then_new (Fr.drew _ _))).mono ?_; rintro e W4 ⟨A2, c2, rfl, P4, hc⟩; obtain ⟨z1, z3⟩ := cx _ P4)
        all_goals
          go_wp2
          go_roundw
          case rel => exact ⟨k + 1, s', by go_num, by omega, P4⟩
          case measure => simp [intOf]; omega
    · have hfin := hP.new.below (Nat.le_refl _) (fun _ => False.elim)
      go_wp2
      go_ret
      exact ⟨rfl, hfin⟩
end Go.Proofs.Ytefalfalapnllaa
