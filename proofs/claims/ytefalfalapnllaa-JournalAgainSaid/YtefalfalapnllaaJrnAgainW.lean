/- JournalAgain walked. -/
import Derived.Test.YtefalfalapnllaaJrnAg
import Derived.Deep.RegionWith
import Derived.Deep.DeepCutAuto
import Derived.WalkMore
namespace Go.Proofs.Ytefalfalapnllaa
open Go.RowKit Go.Shelf
set_option linter.unusedVariables false
set_option maxHeartbeats 4000000 in
set_option maxRecDepth 20000 in
theorem again_out (A : Option Addr) (cA n : Nat) (times : Int) (w : World) (h : 10 < n ∨ times < 1 ∨ 5 < times) :
    Calls Try.prog 9 #[.slice A n cA, .int .i64 times] w fun e w' => e = .returned (.bool true) ∧ New w w' := by
  go_enter Try.func9, Try.ntmps9
  go_wp2_with fail
  refine (writes_any w).mono ?_
  rintro e w1 ⟨rfl, hN1⟩
  by_cases h1 : 10 < n
  · go_wp2_with fail
    go_ret
    exact ⟨rfl, hN1⟩
  · by_cases h2 : times < 1
    · go_wp2_with fail
      go_ret
      exact ⟨rfl, hN1⟩
    · have h3 : 5 < times := by omega
      go_wp2_with fail
      go_ret
      exact ⟨rfl, hN1⟩
set_option maxHeartbeats 4000000 in
set_option maxRecDepth 20000 in
theorem again_in (A : Option Addr) (cA : Nat) (ps : List Part) (times : Nat) (w : World) (hL : ListIn w A ps) (hn : ps.length ≤ 10) (hr0 : 1 ≤ times) (hr1 : times ≤ 5) :
    Calls Try.prog 9 #[.slice A ps.length cA, .int .i64 times] w fun e w' => e = .returned (.bool true) ∧ New w w' := by
  obtain ⟨ii, hii, hz0, hz1, hz2⟩ := info_parts infoID
  go_enter Try.func9, Try.ntmps9
  go_wp2_with fail
  refine (writes_any w).mono ?_
  rintro e w1 ⟨rfl, hN1⟩
  go_wp2_with fail
  refine (slab_New 50000 (by omega) (by omega)).mono ?_
  rintro e w2 ⟨rfl, hS2, hN2⟩
  have hS0 : AgS w w2.heap.size Jrn.zero w1.heap.size (jof 50000 []).s (w2.alloc (.cells (ida z32) 60)) := by
    have hlt := hS2.lt _ rfl
    have hs1 := hN1.size
    have hs2 := hN2.size
    exact ⟨fun k => k = w1.heap.size, hS2.fr (Fr.alloc (fun _ => False) w2 _) (fun _ _ => id), by omega, by intro k hk; omega, Blk.new w2 60 (ida z32), by omega, (hN1.trans hN2 (fun _ h => h.elim)).then_alloc _⟩
  have hT := hS0.blk.lt
  clear hS2 hN1 hN2
  generalize w1.heap.size = p at *
  have HS0 := Lib.hid hS0
  clear hS0
  go_wp2_with (refine x_value (x_alloc (T := 60) rfl hii hz0) (by simp [go_sem, Region.wanted, yielded]) ?_)
  generalize w2.alloc (.cells (ida z32) 60) = w3 at *
  generalize w2.heap.size = T at *
  go_wp2_with fail
  go_loopw [7, 39] (fun nn i W => ∃ (k : Nat) (rs : List (List UInt8)), nn = .int .i64 k ∧ i = .int .i64 k ∧ k ≤ ps.length ∧ rs.length = k ∧ (Jrn.all Jrn.zero rs).length ≤ 335 * k ∧ (∀ d ∈ rs, d.length ≤ 300) ∧ AgS w T (Jrn.lastOf Jrn.zero rs) p (jof 50000 rs).s W) (fun _ i _ => ps.length - (intOf i).toNat)
  case atStart => exact ⟨0, [], rfl, rfl, Nat.zero_le _, rfl, Nat.zero_le _, by simp, HS0.out⟩
  case round =>
    clear HS0
    obtain ⟨k, rs, rfl, rfl, hk, rfl, hal, hds, hW⟩ := hrel
    by_cases hlt : rs.length < ps.length
    · obtain ⟨b, off, hA, hbl, hcell⟩ := (hL.new hW.frm).cell rs.length hlt
      have hrdx : ∀ W, New w W → Rd W (ps[rs.length]).a ((ps[rs.length]).b.map bv) := fun W f => (hL.new f).rd rs.length hlt
      have hlow := hL.low rs.length hlt
      have hlen := hL.len (ps[rs.length]) (List.getElem_mem hlt)
      generalize ps[rs.length] = x at *
      subst hA
      have HL := Lib.hid hL
      clear hL
      by_cases hx : 300 < x.b.length
      · have hfin := hW.frm
        go_wp2_with fail
        go_ret
        exact ⟨rfl, hfin⟩
      · have HW := Lib.hid hW
        have HDS := Lib.hid hds
        clear hW hds
        go_wp2_with fail
        go_loopw [7, 11] (fun nn i W => ∃ (m : Nat) (rs' : List (List UInt8)), i = .int .i64 m ∧ m ≤ times ∧ rs' = (if m < times then rs else rs ++ [x.b]) ∧ nn = .int .i64 rs'.length ∧ AgS w T (Jrn.lastOf Jrn.zero rs') p (jof 50000 rs').s W) (fun _ i _ => times - (intOf i).toNat)
        case atStart => exact ⟨0, rs, rfl, Nat.zero_le _, by rw [if_pos (by omega)], rfl, HW.out⟩
        case round =>
          clear HW
          obtain ⟨m, rs', rfl, hm, hrs', rfl, hW⟩ := hrel
          by_cases hmt : m < times
          · rw [if_pos hmt] at hrs'
            subst hrs'
            have HW := Lib.hid hW
            clear hW
            go_wp2_with fail
            refine (HW.out.Open (jof_open 50000 rs' (fun d hd => by have := HDS.out d hd; omega))).mono ?_
            rintro e w4 ⟨q, rfl, hW4⟩
            have HW4 := Lib.hid hW4
            clear hW4 HW
            go_wp2_with fail
            have hll : (Jrn.lastOf Jrn.zero rs').length = 32 := last_len rs'
            have hne : (!(Jrn.lastOf Jrn.zero rs' == Jrn.lastOf Jrn.zero rs')) = false := by rw [beq_self_eq_true]; rfl
            have HLL := Lib.hid hll
            have HNE := Lib.hid hne
            have HXS := Lib.hid (show 32 = (ida (Jrn.lastOf Jrn.zero rs')).size by rw [ida_size, hll])
            clear hll hne
            refine wp_region_all (by kernel_rfl) (by kernel_rfl) [.pointer (some ⟨q, 0, none⟩), .bool false, .bool false, .int .i64 0, .bool false, .bool false, .bool false, .pointer (some ⟨q, 0, none⟩), .int .i64 (rs'.length : Int), .int .i64 (rs'.length : Int), .bool false, .bool false, .bool false, .pointer (some ⟨q, 0, none⟩), .agg (ida (Jrn.lastOf Jrn.zero rs')), .agg (ida (Jrn.lastOf Jrn.zero rs')), .bool false, .bool false]
              (by kernel_rfl) (fun _ W' => Agn w T (Jrn.lastOf Jrn.zero rs') p q (jof 50000 rs') W') _ (by simp [putAll, Act.put]; rfl) (HW4.out.new (Fr.drew (fun _ => False) _)) ?hops ?after
            case hops =>
              refine ⟨?_, ?_, ?_, ?_, ?_, ?_, ?_, ?_, ?_, ?_, ?_, ?_, ?_, ?_, ?_, ?_, ?_, ?_, trivial⟩
              all_goals
                rintro L W' hs hd hn hP
                have HP := Lib.hid hP
                clear hs hd hn hP
                first
                  | exact jheld_want rfl (held_value (jneq rfl rfl rfl HLL.out HLL.out HNE.out) HP.out)
                  | exact jheld_want rfl (held_value (exec_load (T := 60) (X := ida (Jrn.lastOf Jrn.zero rs')) (g := T) (off := 0) rfl rfl underID rfl hii (hz1.trans HXS.out) HP.out.blk.at') HP.out)
                  | (refine jheld_want rfl ?_; unfold opHeld; go_simp; first | done | exact HP.out | exact ⟨rfl, HP.out⟩ | exact callsIn_wide.2 HP.out.Len | exact callsIn_wide.2 HP.out.Last)
            case after =>
              rintro L W5 hs hal2 hP
              have HW5 := Lib.hid hP
              clear hP hs hal2 HW4
              by_cases hlast : m + 1 < times
              · have HS5 := Lib.hid HW5.out.slab
                have hdec : decide ((m : Int) = (times : Int) - 1) = false := by simp; omega
                clear HW5
                go_wp2_with fail
                go_roundw
                case rel => exact ⟨m + 1, rs', by go_num, by omega, by rw [if_pos hlast], rfl, HS5.out⟩
                case measure => simp [intOf]; omega
              · have hdec : decide ((m : Int) = (times : Int) - 1) = true := by simp; omega
                go_wp2_with fail
                refine (HW5.out.Write x.a x.c x.b (hrdx _ HW5.out.frm) hlow (by omega) (by rw [jof_rs]; omega)).mono ?_
                rintro e w6 ⟨rfl, hW6⟩
                rw [jof_write (by omega) (by omega)] at hW6 ⊢
                have HW6 := Lib.hid hW6
                clear hW6 HW5
                go_wp2_with fail
                refine HW6.out.Last.mono ?_
                rintro e w7 ⟨rfl, hW7⟩
                have hb7 := hW7.blk
                have HS8 := Lib.hid (hW7.store (Jrn.lastOf Jrn.zero (rs' ++ [x.b]))).slab
                rw [jof_last]
                clear hW7 HW6
                have hll2 : (Jrn.lastOf Jrn.zero (rs' ++ [x.b])).length = 32 := last_len _
                have HX2 := Lib.hid (show 32 = (ida (Jrn.lastOf Jrn.zero (rs' ++ [x.b]))).size by rw [ida_size, hll2])
                have HZ2 := Lib.hid (show (ida (Jrn.lastOf Jrn.zero rs')).size = (ida (Jrn.lastOf Jrn.zero (rs' ++ [x.b]))).size by rw [ida_size, ida_size, hll2]; exact HLL.out)
                clear hll2 HXS HNE
                go_wp2_with (refine x_skip (exec_store_all (T := 60) (X := ida (Jrn.lastOf Jrn.zero (rs' ++ [x.b]))) (g := T) (cs := ida (Jrn.lastOf Jrn.zero rs')) rfl rfl rfl hii (hz1.trans HX2.out) (ida_one _) hb7 HZ2.out) rfl ?_)
                go_roundw
                case rel => exact ⟨m + 1, rs' ++ [x.b], by go_num, by omega, by rw [if_neg hlast], by simp, HS8.out⟩
                case measure => simp [intOf]; omega
          · rw [if_neg hmt] at hrs'
            have HW := Lib.hid hW
            clear hW
            go_wp2_with fail
            go_roundw
            case rel => exact ⟨rs.length + 1, rs', by rw [hrs']; simp, by go_num, by omega, by rw [hrs']; simp, by rw [hrs', all_snoc_len]; omega, (by rw [hrs']; intro d hd; rcases List.mem_append.1 hd with h | h; exact HDS.out d h; simp at h; subst h; omega), HW.out⟩
            case measure => simp [intOf]; omega
    · have HW := Lib.hid hW
      have HDS := Lib.hid hds
      clear hW hds
      go_wp2_with fail
      refine (slab_New 50000 (by omega) (by omega)).mono ?_
      rintro e w4 ⟨rfl, hS4, hN4⟩
      have hW4 := HW.out.new hN4
      have hge : w.heap.size ≤ wr.heap.size := HW.out.frm.size
      have hTlt := HW.out.blk.lt
      have hplt := hS4.lt _ rfl
      have HW4 := Lib.hid hW4
      have HS4 := Lib.hid hS4
      clear hW4 hN4 hS4 HW
      go_wp2_with fail
      obtain ⟨F, g1, g2, g3, g4, g5, g6⟩ := HW4.out
      refine (slab_Bytes g1).mono ?_
      rintro e w5 ⟨A5, c5, rfl, hR5, hA5, _, hN5⟩
      clear g1 g2 g3 g4 g5 g6
      have HW5 := Lib.hid (HW4.out.new hN5)
      have HS5 := Lib.hid (HS4.out.fr hN5 (fun _ _ => id))
      have hRd5 := hR5.rd
      clear HW4 HS4 hN5 hR5
      go_wp2_with fail
      refine (HW5.out.copy HS5.out hge (by omega) (by rw [jof_s]; simp only; omega) hRd5 (fun k hk => by have := hA5 k hk; omega)).mono ?_
      rintro e w6 ⟨rfl, hW6⟩
      have HW6 := Lib.hid hW6
      clear hW6 HW5 HS5 hRd5
      have ho : openOf ⟨50000, (jof 50000 rs).s.bs, 0, -1⟩ = (some ⟨⟨50000, (jof 50000 rs).s.bs, 0, -1⟩, rs, Jrn.lastOf Jrn.zero rs, false⟩, 0) := openOf_all _ rs (fun d hd => by have := HDS.out d hd; omega) rfl
      have HO := Lib.hid ho
      clear ho
      go_wp2_with fail
      refine (HW6.out.Open HO.out).mono ?_
      rintro e w7 ⟨q, rfl, hW7⟩
      have HW7 := Lib.hid hW7
      clear hW7 HW6 HO
      go_wp2_with fail
      have hll : (Jrn.lastOf Jrn.zero rs).length = 32 := last_len rs
      have HLL := Lib.hid hll
      have HXS := Lib.hid (show 32 = (ida (Jrn.lastOf Jrn.zero rs)).size by rw [ida_size, hll])
      clear hll
      generalize (⟨50000, (jof 50000 rs).s.bs, 0, -1⟩ : SlabS) = s2 at *
      refine wp_region_all (by kernel_rfl) (by kernel_rfl) [.pointer (some ⟨q, 0, none⟩), .bool true, .bool true, .int .i64 0, .bool true, .bool true, .bool true, .pointer (some ⟨q, 0, none⟩), .int .i64 (rs.length : Int), .int .i64 (rs.length : Int), .bool true, .bool true, .bool true, .pointer (some ⟨q, 0, none⟩), .agg (ida (Jrn.lastOf Jrn.zero rs)), .agg (ida (Jrn.lastOf Jrn.zero rs)), .bool true, .bool true, .bool true]
        (by kernel_rfl) (fun _ W' => Agn w T (Jrn.lastOf Jrn.zero rs) wr.heap.size q ⟨s2, rs, Jrn.lastOf Jrn.zero rs, false⟩ W') _ (by simp [putAll, Act.put]; rfl) (HW7.out.new (Fr.drew (fun _ => False) _)) ?hops2 ?after2
      case hops2 =>
        refine ⟨?_, ?_, ?_, ?_, ?_, ?_, ?_, ?_, ?_, ?_, ?_, ?_, ?_, ?_, ?_, ?_, ?_, ?_, ?_, trivial⟩
        all_goals
          rintro L W' hs hd hn hP
          have HP := Lib.hid hP
          clear hs hd hn hP
          first
            | exact jheld_want rfl (held_value (jeql_same rfl rfl rfl HLL.out) HP.out)
            | exact jheld_want rfl (held_value (exec_load (T := 60) (X := ida (Jrn.lastOf Jrn.zero rs)) (g := T) (off := 0) rfl rfl underID rfl hii (hz1.trans HXS.out) HP.out.blk.at') HP.out)
            | (refine jheld_want rfl ?_; unfold opHeld; go_simp; first | done | exact HP.out | exact ⟨rfl, HP.out⟩ | exact callsIn_wide.2 HP.out.Len | exact callsIn_wide.2 HP.out.Last)
      case after2 =>
        rintro L W5 hs hal2 hP
        have hfin := hP.frm
        clear hP hs hal2 HW7
        go_wp2_with fail
        go_ret
        exact ⟨rfl, hfin⟩
theorem journalAgain_walk (A : Option Addr) (cA : Nat) (ps : List Part) (times : Int) (w : World) (hL : ListIn w A ps) :
    Calls Try.prog 9 #[.slice A ps.length cA, .int .i64 times] w fun e w' => e = .returned (.bool true) ∧ Below w.heap.size w w' := by
  have hb : ∀ w', New w w' → Below w.heap.size w w' := fun w' h => h.below (Nat.le_refl _) (fun _ => False.elim)
  by_cases h : 10 < ps.length ∨ times < 1 ∨ 5 < times
  · exact (again_out A cA ps.length times w h).mono fun e w' ⟨he, hn⟩ => ⟨he, hb w' hn⟩
  · obtain ⟨t, rfl⟩ : ∃ t : Nat, times = (t : Int) := ⟨times.toNat, by omega⟩
    exact (again_in A cA ps t w hL (by omega) (by omega) (by omega)).mono fun e w' ⟨he, hn⟩ => ⟨he, hb w' hn⟩
end Go.Proofs.Ytefalfalapnllaa
