/- JournalWhole walked. -/
import Derived.Test.YtefalfalapnllaaJrnK
import Derived.Test.YtefalfalapnllaaJrnWhP
import Derived.Deep.RegionWith
import Derived.Deep.DeepCutAuto
import Derived.WalkMore
namespace Go.Proofs.Ytefalfalapnllaa
open Go.RowKit Go.Shelf
set_option linter.unusedVariables false
set_option maxHeartbeats 4000000 in
set_option maxRecDepth 20000 in
theorem whole_out (A : Option Addr) (cA n : Nat) (steps keep : Int) (w : World) (h : n = 0 ∨ 12 < n) :
    Calls Try.prog 12 #[.slice A n cA, .int .i64 steps, .int .i64 keep] w fun e w' => e = .returned (.bool true) ∧ New w w' := by
  go_enter Try.func12, Try.ntmps12
  go_wp2_with fail
  refine (writes_any w).mono ?_
  rintro e w1 ⟨rfl, hN1⟩
  by_cases h1 : n = 0
  · subst h1
    go_wp2_with fail
    go_ret
    exact ⟨rfl, hN1⟩
  · have h2 : 12 < n := by omega
    go_wp2_with fail
    go_ret
    exact ⟨rfl, hN1⟩
def more : List UInt8 := [109, 111, 114, 101]
/-- the records of the first k -/
def recs (ps : List Part) (k : Nat) : List (List UInt8) := (ps.take k).map (·.b)
theorem recs_len (ps : List Part) (k : Nat) (h : k ≤ ps.length) : (recs ps k).length = k := by simp [recs]; omega
theorem recs_succ (ps : List Part) (k : Nat) (h : k < ps.length) : recs ps (k + 1) = recs ps k ++ [(ps[k]).b] := by
  unfold recs
  rw [List.take_succ_eq_append_getElem h, List.map_append]
  rfl
theorem recs_get (ps : List Part) (k i : Nat) (hi : i < k) (h : k ≤ ps.length) : (recs ps k)[i]? = some ((ps[i]'(by omega)).b) := by
  unfold recs
  rw [List.getElem?_map, List.getElem?_take, if_pos hi, List.getElem?_eq_getElem (by omega)]
  rfl
theorem all_le (rs : List (List UInt8)) (h : ∀ d ∈ rs, d.length ≤ 300) (l : List UInt8) : (Jrn.all l rs).length ≤ 335 * rs.length := by
  induction rs generalizing l with
  | nil => simp [Jrn.all]
  | cons d rs ih =>
    have := ih (fun d hd => h d (List.mem_cons_of_mem _ hd)) (Jrn.link l d)
    have hd := h d (List.mem_cons_self ..)
    simp only [Jrn.all, List.length_append, Jrn.recB_length, List.length_cons]
    omega
set_option maxHeartbeats 4000000 in
set_option maxRecDepth 20000 in
theorem whole_in (A : Option Addr) (cA : Nat) (ps : List Part) (steps keep : Int) (w : World) (hL : ListIn w A ps) (hst : steps ≤ 9223372036854775807) (hn0 : 0 < ps.length) (hn : ps.length ≤ 12) :
    Calls Try.prog 12 #[.slice A ps.length cA, .int .i64 steps, .int .i64 keep] w fun e w' => e = .returned (.bool true) ∧ New w w' := by
  go_enter Try.func12, Try.ntmps12
  go_wp2_with fail
  refine (writes_any w).mono ?_
  rintro e w1 ⟨rfl, hN1⟩
  have hz : ((ps.length : Int) == 0) = false := beq_false_of_ne (by omega)
  go_wp2_with fail
  refine (slab_New 100000 (by omega) (by omega)).mono ?_
  rintro e w2 ⟨rfl, hS2, hN2⟩
  have hsl : Sl w w1.heap.size (jof 100000 []).s w2 := ⟨_, hS2, (by have := hN1.size; intro k hk; omega), hN1.trans hN2 (fun _ h => h.elim)⟩
  clear hS2 hN1 hN2
  generalize w1.heap.size = p at *
  have HS := Lib.hid hsl
  clear hsl
  go_wp2_with fail
  refine (HS.out.Open (jof_open 100000 [] (by simp))).mono ?_
  rintro e w3 ⟨q, rfl, hW⟩
  have HW := Lib.hid hW
  clear hW HS
  go_wp2_with fail
  go_loopw [48] (fun i W => ∃ k : Nat, i = .int .i64 k ∧ k ≤ ps.length ∧ (∀ d ∈ recs ps k, d.length ≤ 300) ∧
    ((k < ps.length ∧ One w p q (jof 100000 (recs ps k)) W) ∨ (k = ps.length ∧ ∃ m x, ps.length = m + 1 ∧ recs ps k = recs ps m ++ [x] ∧ One w p q (((jof 100000 (recs ps m)).brk steps).write x).1 W))) (fun i _ => ps.length - (intOf i).toNat)
  case atStart => exact ⟨0, rfl, Nat.zero_le _, by simp [recs], .inl ⟨hn0, HW.out⟩⟩
  case round =>
    clear HW
    obtain ⟨k, rfl, hk, hds, hW⟩ := hrel
    by_cases hlt : k < ps.length
    · have hW : One w p q (jof 100000 (recs ps k)) wr := by
        rcases hW with ⟨_, h⟩ | ⟨h, _⟩
        · exact h
        · omega
      obtain ⟨b, off, hA, hbl, hcell⟩ := (hL.new hW.frm).cell k hlt
      have hrdx : ∀ W, New w W → Rd W (ps[k]).a ((ps[k]).b.map bv) := fun W f => (hL.new f).rd k hlt
      have hlow := hL.low k hlt
      have hlen := hL.len (ps[k]) (List.getElem_mem hlt)
      have hsucc := recs_succ ps k hlt
      generalize ps[k] = x at *
      subst hA
      have HL := Lib.hid hL
      clear hL
      by_cases hx : 300 < x.b.length
      · have hfin := hW.frm
        go_wp2_with fail
        go_ret
        exact ⟨rfl, hfin⟩
      · have hal := all_le (recs ps k) hds Jrn.zero
        rw [recs_len ps k hk] at hal
        have hds2 : ∀ d ∈ recs ps (k + 1), d.length ≤ 300 := by
          rw [hsucc]
          intro d hd
          rcases List.mem_append.1 hd with h | h
          · exact hds d h
          · simp at h; subst h; omega
        have hrl := recs_len ps k hk
        have HSU := Lib.hid hsucc
        have HDS := Lib.hid hds2
        have HW := Lib.hid hW
        have HRL := Lib.hid hrl
        clear hW hsucc hds hds2 hrl
        by_cases hlast : k + 1 < ps.length
        · have hdec : decide ((k : Int) = (ps.length : Int) - 1) = false := by simp; omega
          have hdec3 : ((k : Int) == (ps.length : Int) - 1) = false := beq_false_of_ne (by omega)
          have hdec2 : decide ((k : Int) < (ps.length : Int) - 1) = true := by simp; omega
          go_wp2_with fail
          refine (HW.out.Write x.a x.c x.b (hrdx _ HW.out.frm) hlow (by omega) (by rw [jof_rs, HRL.out]; omega)).mono ?_
          rintro e w6 ⟨rfl, hW6⟩
          rw [jof_write (by omega) (by omega)] at hW6 ⊢
          have HW6 := Lib.hid hW6
          clear hW6 HW
          go_wp2_with fail
          go_roundw
          case rel => exact ⟨k + 1, by go_num, by omega, HDS.out, .inl ⟨hlast, by rw [HSU.out]; exact HW6.out⟩⟩
          case measure => simp [intOf]; omega
        · have hdec : decide ((k : Int) = (ps.length : Int) - 1) = true := by simp; omega
          have hdec3 : ((k : Int) == (ps.length : Int) - 1) = true := beq_iff_eq.2 (by omega)
          have hdec2 : decide ((k : Int) < (ps.length : Int) - 1) = false := by simp; omega
          go_wp2_with fail
          refine (HW.out.Break steps hst).mono ?_
          rintro e w5 ⟨rfl, hW5⟩
          have HW5 := Lib.hid (show One w p q ((jof 100000 (recs ps k)).brk steps) w5 from hW5)
          clear hW5 HW
          go_wp2_with fail
          refine (HW5.out.Write x.a x.c x.b (hrdx _ HW5.out.frm) hlow (by omega) (by show (recs ps k).length < _; rw [HRL.out]; omega)).mono ?_
          rintro e w6 ⟨rfl, hW6⟩
          have HW6 := Lib.hid hW6
          clear hW6 HW5
          go_wp2_with fail
          go_roundw
          case rel => exact ⟨k + 1, by go_num, by omega, HDS.out, .inr ⟨by omega, k, x.b, by omega, HSU.out, HW6.out⟩⟩
          case measure => simp [intOf]; omega
    · obtain ⟨m, x, hm, hsp, hW⟩ : ∃ m x, ps.length = m + 1 ∧ recs ps k = recs ps m ++ [x] ∧ One w p q (((jof 100000 (recs ps m)).brk steps).write x).1 wr := by
        rcases hW with ⟨h, _⟩ | ⟨_, h⟩
        · omega
        · exact h
      have hke : k = ps.length := by omega
      have hds1 : ∀ d ∈ recs ps m, d.length ≤ 300 := fun d hd => hds d (by rw [hsp]; exact List.mem_append_left _ hd)
      have hx : x.length ≤ 300 := hds x (by rw [hsp]; simp)
      have hal := all_le (recs ps m) hds1 Jrn.zero
      rw [recs_len ps m (by omega)] at hal
      obtain ⟨rs2, ho, hrs2⟩ := whole_open 100000 (recs ps m) x steps keep hds1 hx (by omega)
      obtain ⟨M, hM, hM2⟩ : ∃ M, rs2 = recs ps M ∧ (M = ps.length ∨ (M + 1 = ps.length ∧ 0 ≤ steps ∧ steps ≤ 1)) := by
        rcases hrs2 with h | ⟨h, h1, h2⟩
        · exact ⟨k, by rw [h, hsp], .inl hke⟩
        · exact ⟨m, h, .inr ⟨by omega, h1, h2⟩⟩
      subst hM
      have hdsM : ∀ d ∈ recs ps M, d.length ≤ 300 := by
        rcases hM2 with h | ⟨h, _⟩
        · rw [h, ← hke]; exact hds
        · have : M = m := by omega
          rw [this]; exact hds1
      have hMle : M ≤ ps.length := by omega
      have HDS := Lib.hid hdsM
      have HO := Lib.hid ho
      have HW := Lib.hid hW
      clear ho hW hsp hds hds1 hrs2 hal hdsM hm
      go_wp2_with fail
      refine (HW.out.Crash keep).mono ?_
      rintro e w4 ⟨rfl, hW4⟩
      have HS4 := Lib.hid hW4.slab
      clear hW4 HW
      go_wp2_with fail
      refine (HS4.out.Open HO.out).mono ?_
      rintro e w5 ⟨q2, rfl, hW5⟩
      have hlen : Calls Try.prog 35 #[.pointer (some ⟨q2, 0, none⟩)] w5 fun e w' => e = .returned (.int .i64 (M : Int)) ∧ w5 = w' := by
        have := hW5.Len
        rw [jof_rs, recs_len ps M hMle] at this
        exact this
      have HW5 := Lib.hid hW5
      have HLEN := Lib.hid hlen
      clear hW5 hlen HS4 HO
      go_upto_region 24 with fail
      go_cut [127] (fun v W => v = .bool false ∧ One w p q2 (jof 100000 (recs ps M)) W)
      case first =>
        by_cases hMn : M = ps.length
        · subst hMn
          by_cases hs0 : steps < 0
          · have hs1 : ¬ 1 < steps := by omega
            go_wp2_with (go_at_call 35; refine HLEN.out.mono ?_; rintro e _ ⟨rfl, rfl⟩)
            go_meet
            exact ⟨by rw [decide_eq_false (by omega)], HW5.out⟩
          · by_cases hs1 : 1 < steps
            · go_wp2_with (go_at_call 35; refine HLEN.out.mono ?_; rintro e _ ⟨rfl, rfl⟩)
              go_meet
              exact ⟨by rw [decide_eq_false (by omega)], HW5.out⟩
            · go_wp2_with (go_at_call 35; refine HLEN.out.mono ?_; rintro e _ ⟨rfl, rfl⟩)
              go_meet
              exact ⟨by rw [decide_eq_false (by omega)], HW5.out⟩
        · have hs0 : ¬ steps < 0 := by omega
          have hs1 : ¬ 1 < steps := by omega
          have hMM : (M : Int) = (ps.length : Int) - 1 := by omega
          go_wp2_with (go_at_call 35; refine HLEN.out.mono ?_; rintro e _ ⟨rfl, rfl⟩)
          go_meet
          exact ⟨by rw [decide_eq_false (by omega)], HW5.out⟩
      case rest =>
        obtain ⟨rfl, hW6⟩ := hcut
        have HW6 := Lib.hid hW6
        clear HLEN HW5 hM2 hW6
        go_wp2_with fail
        go_loopw [16] (fun i W => ∃ i' : Nat, i = .int .i64 i' ∧ i' ≤ M ∧ One w p q2 (jof 100000 (recs ps M)) W) (fun i _ => M - (intOf i).toNat)
        case atStart => exact ⟨0, rfl, Nat.zero_le _, HW6.out⟩
        case round =>
          clear HW6
          obtain ⟨i', rfl, hi, hW⟩ := hrel
          have hlen : Calls Try.prog 35 #[.pointer (some ⟨q2, 0, none⟩)] wr fun e w' => e = .returned (.int .i64 (M : Int)) ∧ wr = w' := by
            have := hW.Len
            rw [jof_rs, recs_len ps M hMle] at this
            exact this
          have HLEN := Lib.hid hlen
          have HW := Lib.hid hW
          clear hlen hW
          by_cases hlt : i' < M
          · have hlp : i' < ps.length := by omega
            go_wp2_with (go_at_call 35; refine HLEN.out.mono ?_; rintro e _ ⟨rfl, rfl⟩)
            refine (HW.out.At i' ((ps[i']).b) (recs_get ps M i' hlt hMle) (by have := HDS.out _ (List.mem_of_getElem? (recs_get ps M i' hlt hMle)); omega) (by rw [jof_rs, recs_len ps M hMle]; omega)).mono ?_
            rintro e w7 ⟨A7, c7, rfl, hR7, hW7⟩
            obtain ⟨b, off, hA, hbl, hcell⟩ := (hL.new hW7.frm).cell i' hlp
            have hrdx : ∀ W, New w W → Rd W (ps[i']).a ((ps[i']).b.map bv) := fun W f => (hL.new f).rd i' hlp
            have hq1 : ∀ n, (convert 22 9 (.slice A7 (ps[i']).b.length c7)).run Try.prog (w7.drewN n) = .ok (.string ⟨(ps[i']).b.toArray⟩) (w7.drewN n) := fun n => Rd.str c7 (hR7.row.rd.fr (Fr.drewN (fun _ => False) w7 n) (fun _ _ => id))
            have hq2 : ∀ n, (convert 22 9 (.slice (ps[i']).a (ps[i']).b.length (ps[i']).c)).run Try.prog (w7.drewN n) = .ok (.string ⟨(ps[i']).b.toArray⟩) (w7.drewN n) := fun n => Rd.str (ps[i']).c (hrdx _ (hW7.frm.then_drewN n))
            have HW7 := Lib.hid hW7
            generalize ps[i'] = x at *
            subst hA
            clear hW7 hR7 hrdx HLEN HW
            go_wp2_with fail
            go_quiet (fail)
            clear hq1 hq2
            go_wp2_with fail
            go_roundw
            case rel => exact ⟨i' + 1, by go_num, by omega, HW7.out.new (Fr.drewN _ _ _)⟩
            case measure => simp [intOf]; omega
          · go_wp2_with (go_at_call 35; refine HLEN.out.mono ?_; rintro e _ ⟨rfl, rfl⟩)
            have hal := all_le (recs ps M) HDS.out Jrn.zero
            rw [recs_len ps M hMle] at hal
            refine (HW.out.again (jof_open 100000 (recs ps M) (fun d hd => by have := HDS.out d hd; omega))).mono ?_
            rintro e w7 ⟨q3, rfl, hW7⟩
            have hlen3 := hW7.one.Len
            have hlen2 := hW7.LenOld
            rw [jof_rs, recs_len ps M hMle] at hlen2 hlen3
            have HW7 := Lib.hid hW7
            have HL2 := Lib.hid hlen2
            have HL3 := Lib.hid hlen3
            obtain ⟨rsM, hrsM⟩ : ∃ r, r = recs ps M := ⟨_, rfl⟩
            have hrl : rsM.length = M := by rw [hrsM, recs_len ps M hMle]
            clear hW7 hlen2 hlen3 HLEN HW HDS
            rw [← hrsM] at HW7 hal
            have HRL := Lib.hid hrl
            clear hrl hrsM
            have kc := fun (w : World) (C : Array Value) (n c : Nat) => Lib.run_convert_bytes_const (P := Try.prog) w 22 5 C n c Try.underlying22 Try.underlying5
            go_wp2_with (first
              | (go_at_call 35; refine HL3.out.mono ?_; rintro e _ ⟨rfl, rfl⟩)
              | (go_at_call 35; refine HL2.out.mono ?_; rintro e _ ⟨rfl, rfl⟩))
            refine Calls.mono (show Calls Try.prog 34 #[.pointer (some ⟨q3, 0, none⟩), .slice (some ⟨w7.heap.size, 0, none⟩) 4 4] (w7.alloc (.cells (more.map bv).toArray 5 (4, 5))) _ from
              HW7.out.Write_new (.cells (more.map bv).toArray 5 (4, 5)) 4 more (Rd.lit w7 (more.map bv) 5 (4, 5)) (by decide) (by rw [jof_rs, HRL.out]; omega)) ?_
            rintro e w8 ⟨rfl, hW8⟩
            rw [jof_write (by decide) (by show (((Jrn.all Jrn.zero rsM).length + 35 + 4 : Nat) : Int) ≤ 100000; omega)] at hW8 ⊢
            have hlen2 := hW8.LenOld
            rw [jof_rs, HRL.out] at hlen2
            have HL2b := Lib.hid hlen2
            have HW8 := Lib.hid hW8
            clear hW8 hlen2 HW7 HL2 HL3 hal
            go_wp2_with (go_at_call 35; refine HL2b.out.mono ?_; rintro e _ ⟨rfl, rfl⟩)
            refine (HW8.out.one.At M more (by rw [jof_rs, ← HRL.out]; simp) (by decide) (by rw [jof_rs, List.length_append, HRL.out]; simp; omega)).mono ?_
            rintro e w9 ⟨A9, c9, rfl, hR9, hW9⟩
            have hq := Rd.str c9 hR9.row.rd
            have hfin := hW9.frm
            clear hW9 hR9 HW8 HL2b
            rw [show more.length = 4 from rfl] at hq ⊢
            go_wp2_with fail
            go_ret
            exact ⟨rfl, hfin⟩
theorem journalWhole_walk (A : Option Addr) (cA : Nat) (ps : List Part) (steps keep : Int) (w : World) (hst : (Lit.int .i64 steps).wf = true) (hL : ListIn w A ps) :
    Calls Try.prog 12 #[.slice A ps.length cA, .int .i64 steps, .int .i64 keep] w fun e w' => e = .returned (.bool true) ∧ Below w.heap.size w w' := by
  have hb : ∀ w', New w w' → Below w.heap.size w w' := fun w' h => h.below (Nat.le_refl _) (fun _ => False.elim)
  have hs := bounds_i64 hst
  by_cases h : ps.length = 0 ∨ 12 < ps.length
  · exact (whole_out A cA ps.length steps keep w h).mono fun e w' ⟨he, hn⟩ => ⟨he, hb w' hn⟩
  · exact (whole_in A cA ps steps keep w hL (by omega) (by omega) (by omega)).mono fun e w' ⟨he, hn⟩ => ⟨he, hb w' hn⟩
end Go.Proofs.Ytefalfalapnllaa
