/- JournalBound walked. -/
import Derived.Test.YtefalfalapnllaaJrnBound
import Derived.Deep.RegionWith
import Derived.Deep.DeepCutAuto
namespace Go.Proofs.Ytefalfalapnllaa
open Go.RowKit Go.Shelf
set_option linter.unusedVariables false
set_option maxHeartbeats 4000000 in
set_option maxRecDepth 20000 in
theorem bound_out (A : Option Addr) (cA n : Nat) (room : Int) (w : World) (h : 12 < n ∨ room < 0 ∨ 2000 < room) :
    Calls Try.prog 11 #[.slice A n cA, .int .i64 room] w fun e w' => e = .returned (.bool true) ∧ New w w' := by
  go_enter Try.func11, Try.ntmps11
  go_wp2_with fail
  refine (writes_any w).mono ?_
  rintro e w1 ⟨rfl, hN1⟩
  by_cases h1 : 12 < n
  · go_wp2_with fail
    go_ret
    exact ⟨rfl, hN1⟩
  · by_cases h2 : room < 0
    · go_wp2_with fail
      go_ret
      exact ⟨rfl, hN1⟩
    · have h3 : 2000 < room := by omega
      go_wp2_with fail
      go_ret
      exact ⟨rfl, hN1⟩
theorem make_zeros (w : World) (n : Nat) (c : Int) (hc : c = (n : Int)) (h : n ≤ 281474976710656) :
    (Instr.makeSlice 22 (.int .i64 c) (.int .i64 c)).run Try.prog w = .ok (.slice (some ⟨w.heap.size, 0, none⟩) n n) (w.alloc (.cells ((List.replicate n (0 : UInt8)).map bv).toArray 5)) := by
  subst hc
  obtain ⟨i, hi, hz0, hz1, hz2⟩ := info_parts info5
  have hr := run_make (P := Try.prog) w 22 5 i (.int .u8 0) Try.underlying22 hi hz0 .i64 .i64 n n (by omega) (Int.le_refl _) (by rw [hz2]; omega) (by omega)
  rw [hr]
  have e : madeCells (Value.int IntKind.u8 0).cells ((n : Int).toNat * i.size) = ((List.replicate n (0 : UInt8)).map bv).toArray := by
    apply Array.ext
    · rw [size_madeCells]
      simp [hz1]
    · intro k h1 h2
      simp [madeCells, Value.cells, bv, Nat.mod_one]
  rw [e]
  rfl
theorem make_d (w : World) (n : Nat) (c : Int) (hc : c = (n : Int)) (h : n ≤ 281474976710656) : ∃ d : List UInt8, d.length = n ∧
    (Instr.makeSlice 22 (.int .i64 c) (.int .i64 c)).run Try.prog w = .ok (.slice (some ⟨w.heap.size, 0, none⟩) d.length d.length) (w.alloc (.cells (d.map bv).toArray 5)) :=
  ⟨List.replicate n 0, List.length_replicate .., by rw [List.length_replicate]; exact make_zeros w n c hc h⟩
set_option maxHeartbeats 4000000 in
set_option maxRecDepth 20000 in
theorem bound_in (A : Option Addr) (cA : Nat) (ps : List Part) (room : Int) (w : World) (hL : ListIn w A ps) (hn : ps.length ≤ 12) (hr0 : 0 ≤ room) (hr1 : room ≤ 2000) :
    Calls Try.prog 11 #[.slice A ps.length cA, .int .i64 room] w fun e w' => e = .returned (.bool true) ∧ New w w' := by
  go_enter Try.func11, Try.ntmps11
  go_wp2_with fail
  refine (writes_any w).mono ?_
  rintro e w1 ⟨rfl, hN1⟩
  go_wp2_with fail
  refine (slab_New room hr0 (by omega)).mono ?_
  rintro e w2 ⟨rfl, hS2, hN2⟩
  go_wp2_with fail
  refine (slab_New 100000 (by omega) (by omega)).mono ?_
  rintro e w3 ⟨rfl, hT3, hN3⟩
  have hS3 := hS2.fr hN3 (fun _ _ => id)
  have hN : New w w3 := (hN1.trans hN2 (fun _ h => h.elim)).trans hN3 (fun _ h => h.elim)
  have hlt := hS2.lt _ rfl
  have hs1 := hN1.size
  have hs2 := hN2.size
  clear hS2 hN1 hN2 hN3
  go_wp2_with fail
  refine (jb_Open hS3 (jof_open room [] (by simp))).mono ?_
  rintro e w4 ⟨q1, H1, rfl, hB1, hH1, hf1⟩
  have hT4 := hT3.fr hf1 (fun k hk hk2 => by omega)
  go_wp2_with fail
  refine (jb_Open hT4 (jof_open 100000 [] (by simp))).mono ?_
  rintro e w5 ⟨q2, H2, rfl, hB2, hH2, hf2⟩
  have hW := Two.make hN hS3 hT3 (by intro k a b; omega) (by intro k a; omega) (by intro k a; omega) hB1 hH1 hf1 hB2 hH2 hf2
  clear hS3 hT3 hT4 hN hlt hs1 hB1 hH1 hf1 hB2 hH2 hf2
  generalize w1.heap.size = p1 at *
  generalize w2.heap.size = p2 at *
  go_wp2_with fail
  go_loopw [64] (fun i W => ∃ (k : Nat) (rs : List (List UInt8)), i = .int .i64 k ∧ k ≤ ps.length ∧ rs.length ≤ k ∧ (Jrn.all Jrn.zero rs).length ≤ 335 * k ∧ Two w p1 q1 p2 q2 (jof room rs) (jof 100000 rs) W) (fun i _ => ps.length - (intOf i).toNat)
  case atStart => exact ⟨0, [], rfl, Nat.zero_le _, Nat.zero_le _, Nat.zero_le _, hW⟩
  case round =>
    clear hW
    obtain ⟨k, rs, rfl, hk, hrs, hal, hW⟩ := hrel
    by_cases hlt : k < ps.length
    · obtain ⟨b, off, hA, hbl, hcell⟩ := (hL.new hW.frm).cell k hlt
      have hrd := (hL.new hW.frm).rd k hlt
      have hlow := hL.low k hlt
      have hrdx : ∀ W, New w W → Rd W (ps[k]).a ((ps[k]).b.map bv) := fun W f => (hL.new f).rd k hlt
      have hlen := hL.len (ps[k]) (List.getElem_mem hlt)
      generalize ps[k] = x at *
      subst hA
      have HL := Lib.hid hL
      clear hL
      by_cases hx : 300 < x.b.length
      · have hfin := hW.frm
        go_wp2_with fail
        go_ret
        exact ⟨rfl, hfin⟩
      · have HW := Lib.hid hW
        clear hW
        go_wp2_with fail
        obtain ⟨z, hz⟩ : ∃ z, z = (Jrn.all Jrn.zero rs).length := ⟨_, rfl⟩
        have e1 : (jof room rs).s.bs.length = z := hz.symm
        have e2 : (jof room rs).s.sure = (z : Int) := by rw [hz]; rfl
        refine (HW.out.size1).mono ?_
        rintro e w6 ⟨he, hW6⟩
        rw [e1, e2] at he
        subst he
        clear e1 e2
        have hal' : z ≤ 335 * k := by rw [hz]; exact hal
        clear hal
        clear HW
        have HW6 := Lib.hid hW6
        clear hW6
        go_wp2_with fail
        refine (HW6.out.write1 x.a x.c x.b (hrdx _ HW6.out.frm) hlow (by omega) (by rw [jof_rs]; omega)).mono ?_
        rintro e w7 ⟨rfl, hW7⟩
        clear HW6
        have hll : (Jrn.lastOf Jrn.zero rs).length = 32 := last_len rs
        by_cases hfit : ((z + 35 + x.b.length : Nat) : Int) ≤ room
        · rw [jof_write (by omega) (by rw [← hz]; exact hfit)] at hW7 ⊢
          have hal2 : (Jrn.all Jrn.zero (rs ++ [x.b])).length ≤ 335 * (k + 1) := by rw [all_snoc_len, ← hz]; omega
          have hll2 : (Jrn.lastOf Jrn.zero (rs ++ [x.b])).length = 32 := last_len _
          have HW7 := Lib.hid hW7
          clear hW7
          go_wp2_with fail
          refine (HW7.out.write2 x.a x.c x.b (hrdx _ HW7.out.frm) hlow (by omega) (by rw [jof_rs]; omega)).mono ?_
          rintro e w8 ⟨rfl, hW8⟩
          rw [jof_write (by omega) (by rw [← hz]; omega)] at hW8 ⊢
          have HW8 := Lib.hid hW8
          clear hW8 HW7
          go_wp2_with fail
          have hne : (!(Jrn.lastOf Jrn.zero (rs ++ [x.b]) == Jrn.lastOf Jrn.zero (rs ++ [x.b]))) = false := by rw [beq_self_eq_true]; rfl
          have hLL := Lib.hid hll2
          have hNE := Lib.hid hne
          clear hne
          refine (HW8.out.last1).mono ?_
          rintro e w9 ⟨rfl, hW9⟩
          rw [jof_last]
          have HW9 := Lib.hid hW9
          clear hW9 HW8
          go_wp2_with fail
          refine (HW9.out.last2).mono ?_
          rintro e wa ⟨rfl, hWa⟩
          rw [jof_last]
          have HWa := Lib.hid hWa
          clear hWa HW9
          go_wp2_with (refine x_value (jneq rfl rfl rfl hLL.out hLL.out hNE.out) (by simp [go_sem, Region.wanted, yielded]) ?_)
          refine (HWa.out.len1).mono ?_
          rintro e wb ⟨rfl, hWb⟩
          rw [jof_rs]
          have HWb := Lib.hid hWb
          clear hWb HWa
          go_wp2_with fail
          refine (HWb.out.len2).mono ?_
          rintro e wc ⟨rfl, hWc⟩
          rw [jof_rs]
          have HWc := Lib.hid hWc
          clear hWc HWb
          go_wp2_with fail
          go_roundw
          case rel => exact ⟨k + 1, rs ++ [x.b], by go_num, by omega, by simp; omega, hal2, HWc.out⟩
          case measure => simp [intOf]; omega
        · rw [jof_full (by omega) (by rw [← hz]; omega)] at hW7 ⊢
          have HW7 := Lib.hid hW7
          clear hW7
          go_wp2_with fail
          have hne : (!(Jrn.lastOf Jrn.zero rs == Jrn.lastOf Jrn.zero rs)) = false := by rw [beq_self_eq_true]; rfl
          have hLL := Lib.hid hll
          have hNE := Lib.hid hne
          clear hne
          refine (HW7.out.last1).mono ?_
          rintro e w9 ⟨rfl, hW9⟩
          rw [jof_last]
          have HW9 := Lib.hid hW9
          clear hW9 HW7
          go_wp2_with fail
          refine (HW9.out.last2).mono ?_
          rintro e wa ⟨rfl, hWa⟩
          rw [jof_last]
          have HWa := Lib.hid hWa
          clear hWa HW9
          go_wp2_with (refine x_value (jneq rfl rfl rfl hLL.out hLL.out hNE.out) (by simp [go_sem, Region.wanted, yielded]) ?_)
          refine (HWa.out.len1).mono ?_
          rintro e wb ⟨rfl, hWb⟩
          rw [jof_rs]
          have HWb := Lib.hid hWb
          clear hWb HWa
          go_wp2_with fail
          refine (HWb.out.len2).mono ?_
          rintro e wc ⟨rfl, hWc⟩
          rw [jof_rs]
          have HWc := Lib.hid hWc
          clear hWc HWb
          go_wp2_with fail
          go_roundw
          case rel => exact ⟨k + 1, rs, by go_num, by omega, by omega, by omega, HWc.out⟩
          case measure => simp [intOf]; omega
    · have HW := Lib.hid hW
      obtain ⟨d, hdl, hk⟩ := make_d wr 262145 262145 rfl (by omega)
      have hDL := Lib.hid hdl
      clear hW hdl
      go_wp2_with fail
      refine (HW.out.write2_new (.cells (d.map bv).toArray 5) d.length d (Rd.lit wr (d.map bv) 5 (0, 0)) (by have := hDL.out; omega) (by rw [jof_rs]; omega)).mono ?_
      rintro e w6 ⟨rfl, hW6⟩
      rw [jof_long (by have := hDL.out; omega)]
      have hfin := hW6.frm
      clear hW6 hk HW hDL
      go_wp2_with fail
      go_ret
      exact ⟨rfl, hfin⟩
theorem journalBound_walk (A : Option Addr) (cA : Nat) (ps : List Part) (room : Int) (w : World) (hL : ListIn w A ps) :
    Calls Try.prog 11 #[.slice A ps.length cA, .int .i64 room] w fun e w' => e = .returned (.bool true) ∧ Below w.heap.size w w' := by
  have hb : ∀ w', New w w' → Below w.heap.size w w' := fun w' h => h.below (Nat.le_refl _) (fun _ => False.elim)
  by_cases h : 12 < ps.length ∨ room < 0 ∨ 2000 < room
  · exact (bound_out A cA ps.length room w h).mono fun e w' ⟨he, hn⟩ => ⟨he, hb w' hn⟩
  · exact (bound_in A cA ps room w hL (by omega) (by omega) (by omega)).mono fun e w' ⟨he, hn⟩ => ⟨he, hb w' hn⟩
end Go.Proofs.Ytefalfalapnllaa
