/- JournalOwn walked. -/
import Derived.Test.YtefalfalapnllaaJrnAx
import Derived.Test.YtefalfalapnllaaJrnWholeW
import Derived.Test.YtefalfalapnllaaR10L
namespace Go.Proofs.Ytefalfalapnllaa
open Go.RowKit Go.Shelf
set_option linter.unusedVariables false
set_option maxHeartbeats 4000000 in
set_option maxRecDepth 20000 in
theorem own_out (A : Option Addr) (cA n : Nat) (w : World) (h : 10 < n) :
    Calls Try.prog 10 #[.slice A n cA] w fun e w' => e = .returned (.bool true) ∧ New w w' := by
  go_enter Try.func10, Try.ntmps10
  go_wp2_with fail
  refine (writes_any w).mono ?_
  rintro e w1 ⟨rfl, hN1⟩
  go_wp2_with fail
  go_ret
  exact ⟨rfl, hN1⟩
set_option maxHeartbeats 4000000 in
set_option maxRecDepth 20000 in
theorem own_in (A : Option Addr) (cA : Nat) (ps : List Part) (w : World) (hL : ListIn w A ps) (hn : ps.length ≤ 10) :
    Calls Try.prog 10 #[.slice A ps.length cA] w fun e w' => e = .returned (.bool true) ∧ New w w' := by
  obtain ⟨ii, hii, hz0, hz1, hz2⟩ := info_parts infoID
  go_enter Try.func10, Try.ntmps10
  go_wp2_with fail
  refine (writes_any w).mono ?_
  rintro e w1 ⟨rfl, hN1⟩
  go_wp2_with fail
  refine (slab_New 50000 (by omega) (by omega)).mono ?_
  rintro e w2 ⟨rfl, hS2, hN2⟩
  have hsl : Sl w w1.heap.size (jof 50000 []).s w2 := ⟨_, hS2, (by have := hN1.size; intro k hk; omega), hN1.trans hN2 (fun _ h => h.elim)⟩
  clear hS2 hN1 hN2
  generalize w1.heap.size = p at *
  have HS := Lib.hid hsl
  clear hsl
  go_wp2_with fail
  refine (HS.out.Open (jof_open 50000 [] (by simp))).mono ?_
  rintro e w3 ⟨q, rfl, hW⟩
  have HW := Lib.hid hW.box
  clear hW HS
  go_wp2_with (refine x_value (x_alloc (T := 60) rfl hii hz0) (by simp [go_sem, Region.wanted, yielded]) ?_)
  generalize w3.alloc (.cells (ida z32) 60) = w4 at *
  generalize w3.heap.size = T at *
  go_wp2_with fail
  go_loopw [37] (fun i W => ∃ k : Nat, i = .int .i64 k ∧ k ≤ ps.length ∧ (∀ d ∈ recs ps k, d.length ≤ 300) ∧ Agn w T (Jrn.lastOf Jrn.zero (recs ps k)) p q (jof 50000 (recs ps k)) W) (fun i _ => ps.length - (intOf i).toNat)
  case atStart => exact ⟨0, rfl, Nat.zero_le _, by simp [recs], HW.out⟩
  case round =>
    clear HW
    obtain ⟨k, rfl, hk, hds, hW⟩ := hrel
    by_cases hlt : k < ps.length
    · obtain ⟨b, off, hA, hbl, hcell⟩ := (hL.new hW.frm).cell k hlt
      have hrdx : ∀ W, New w W → Rd W (ps[k]).a ((ps[k]).b.map bv) := fun W f => (hL.new f).rd k hlt
      have hlen := hL.len (ps[k]) (List.getElem_mem hlt)
      have hsucc := recs_succ ps k hlt
      have hget := recs_get ps (k + 1) k (by omega) (by omega)
      generalize ps[k] = x at *
      subst hA
      have HL := Lib.hid hL
      clear hL
      by_cases hx : 300 < x.b.length
      · have hfin := hW.frm
        go_wp2_with fail
        go_ret
        exact ⟨rfl, hfin⟩
      · have hal := all_le (recs ps k) hds Jrn.zero
        rw [recs_len ps k hk] at hal
        have hds2 : ∀ d ∈ recs ps (k + 1), d.length ≤ 300 := by
          rw [hsucc]
          intro d hd
          rcases List.mem_append.1 hd with h | h
          · exact hds d h
          · simp at h; subst h; omega
        have hrl := recs_len ps k hk
        have HSU := Lib.hid hsucc
        have HGET := Lib.hid hget
        have HDS := Lib.hid hds2
        have HRL := Lib.hid hrl
        have HRX := Lib.hid hrdx
        have hrow0 : Row (wr.alloc (.cells #[] 5)) 5 (some ⟨wr.heap.size, 0, none⟩) 0 [] := Row.mk (cur := #[]) (Blk.new wr 5 #[]) (by simp) (by simp) (by simp)
        obtain ⟨i8, hi, hy0, hy1, hy2⟩ := info_parts info5
        obtain ⟨A3, c3, w5, hrun, hrow3, f3, hA3⟩ := run_append_rd (P := Try.prog) (wr.alloc (.cells #[] 5)) 22 22 5 i8 (.int .u8 0) 1 Try.underlying22 hi hy0 hy1 hy2 rfl _ 0 [] hrow0 x.a x.c _ ((hrdx _ hW.frm).alloc _)
          (by simp [bv_one]) (by simp [maxLen]; omega) (by simp; omega)
        have hge : ∀ k, ab A3 = some k → wr.heap.size ≤ k := fun k hk => by
          rcases hA3 k hk with h | h
          · simp [ab] at h; omega
          · simp at h; omega
        have f23 : New wr w5 := (Fr.alloc _ wr _).trans f3 (fun k hk => by simp [ab] at hk; omega)
        rw [List.nil_append] at hrow3
        have HX5 := Lib.hid (Agx.of (X := fun k => ab A3 = some k) hW f23 (fun k hk => ⟨hge k hk, hrow3.lt hk⟩))
        simp only [List.length_map, List.length_nil, Nat.zero_add] at hrun
        clear hi hy0 hy1 hy2 hrow0 f3 hA3 f23 hge hW hsucc hds hds2 hrl hget
        go_wp2_with (at_builtin; refine wpList_append_run hrun rfl rfl _ _ rfl rfl rfl ?_)
        clear hrun
        refine (HX5.out.Write A3 c3 x.b hrow3.rd (fun _ h => h) (by omega) (by rw [jof_rs, HRL.out]; omega)).mono ?_
        rintro e w6 ⟨rfl, hX6, hf6⟩
        rw [jof_write (by omega) (by omega)] at hX6 ⊢
        rw [← HSU.out] at hX6
        have hrow6 := hrow3.fr hf6 (fun k hk h => h hk)
        have HX6 := Lib.hid hX6
        clear hX6 hf6 hrow3 HX5
        have hll : (Jrn.lastOf Jrn.zero (recs ps k)).length = 32 := last_len _
        have hll2 : (Jrn.lastOf Jrn.zero (recs ps (k + 1))).length = 32 := last_len _
        have hlk : Jrn.link (Jrn.lastOf Jrn.zero (recs ps k)) x.b = Jrn.lastOf Jrn.zero (recs ps (k + 1)) := by rw [HSU.out, Jrn.lastOf_append]
        have HXS := Lib.hid (show 32 = (ida (Jrn.lastOf Jrn.zero (recs ps k))).size by rw [ida_size, hll])
        have HX2 := Lib.hid (show 32 = (ida (Jrn.lastOf Jrn.zero (recs ps (k + 1)))).size by rw [ida_size, hll2])
        have HZ2 := Lib.hid (show (ida (Jrn.lastOf Jrn.zero (recs ps k))).size = (ida (Jrn.lastOf Jrn.zero (recs ps (k + 1)))).size by rw [ida_size, ida_size, hll2, hll])
        have HLL := Lib.hid hll
        have HLK := Lib.hid hlk
        have HLL2 := Lib.hid hll2
        have HR6 := Lib.hid hrow6
        have hq := Rd.str x.c (hrdx w6 HX6.out.frm)
        clear hll hll2 hlk hrow6
        go_wp2_with (refine x_value (exec_load (T := 60) (X := ida (Jrn.lastOf Jrn.zero (recs ps k))) (g := T) (off := 0) rfl rfl underID rfl hii (hz1.trans HXS.out) HX6.out.blk.at') (by simp [go_sem, Region.wanted, yielded]) ?_)
        refine (r10link_any _ _ x.b HLL.out (by omega)).mono ?_
        rintro e w7 ⟨rfl, hN7⟩
        rw [HLK.out]
        have hX7 := HX6.out.new hN7
        have hb7 := hX7.blk
        have hX8 := hX7.store (Jrn.lastOf Jrn.zero (recs ps (k + 1)))
        have hrow8 := (HR6.out.fr hN7 (fun _ _ => id)).fr hX8.2 (fun k hk h => h hk)
        have HX8 := Lib.hid hX8.1
        have HR8 := Lib.hid (Any8.of_bytes hrow8)
        clear hX7 hX8 hrow8 hN7 HX6 HR6 hq
        go_wp2_with (refine x_skip (exec_store_all (T := 60) (X := ida (Jrn.lastOf Jrn.zero (recs ps (k + 1)))) (g := T) (cs := ida (Jrn.lastOf Jrn.zero (recs ps k))) rfl rfl rfl hii (hz1.trans HX2.out) (ida_one _) hb7 HZ2.out) rfl ?_)
        clear hb7
        generalize w7.setRow T (ida (Jrn.lastOf Jrn.zero (recs ps (k + 1)))) = w8 at *
        go_wp2_with fail
        go_loopw [58] (fun i W => ∃ m : Nat, i = .int .i64 m ∧ m ≤ x.b.length ∧ Any8 W A3 x.b.length c3 ∧ Fr (fun j => ab A3 = some j) w8 W) (fun i _ => x.b.length - (intOf i).toNat)
        case atStart => exact ⟨0, rfl, Nat.zero_le _, HR8.out, Fr.refl _ _⟩
        case round =>
          clear HR8
          obtain ⟨m, rfl, hm, hs, hf⟩ := hrel
          by_cases hmt : m < x.b.length
          · obtain ⟨g, y, hA, cg, fg⟩ := hs.at_ hmt
            have HST := Lib.hid (fun q => hs.set hmt hA q)
            have HFT := Lib.hid (fun q => hf.then_set (p := ⟨g, m, none⟩) (by rw [hA]; rfl) (.int .u8 q))
            subst hA
            clear hs hf
            go_wp2_with fail
            go_roundw
            case rel => exact ⟨m + 1, by go_num, by omega, HST.out _, HFT.out _⟩
            case measure => simp [intOf]; omega
          · have HX9 := Lib.hid (HX8.out.turn hf).agn
            clear hs hf HX8
            go_wp2_with fail
            refine (HX9.out.At k x.b HGET.out (by omega) (by rw [jof_rs, recs_len ps (k + 1) (by omega)]; omega)).mono ?_
            rintro e w9 ⟨A9, c9, rfl, hR9, hX9⟩
            have HX10 := Lib.hid hX9
            have HR9 := Lib.hid hR9.row
            clear hX9 hR9 HX9
            go_wp2_with fail
            have hne : (!(Jrn.lastOf Jrn.zero (recs ps (k + 1)) == Jrn.lastOf Jrn.zero (recs ps (k + 1)))) = false := by rw [beq_self_eq_true]; rfl
            have HNE := Lib.hid hne
            clear hne
            refine wp_region_all (by kernel_rfl) (by kernel_rfl) [.int .i64 0, .bool false, .bool false, .slice A9 x.b.length c9, .string ⟨x.b.toArray⟩, .slice x.a x.b.length x.c, .string ⟨x.b.toArray⟩, .bool false, .bool false, .bool false, .pointer (some ⟨q, 0, none⟩), .agg (ida (Jrn.lastOf Jrn.zero (recs ps (k + 1)))), .agg (ida (Jrn.lastOf Jrn.zero (recs ps (k + 1)))), .bool false, .bool false]
              (by kernel_rfl) (fun _ W' => Agx w (fun k => ab A9 = some k) T (Jrn.lastOf Jrn.zero (recs ps (k + 1))) p q (jof 50000 (recs ps (k + 1))) W' ∧ New w9 W') _ (by simp [putAll, Act.put]; rfl) ⟨HX10.out.new (Fr.drew (fun _ => False) _), Fr.drew _ _⟩ ?hops ?after
            case hops =>
              refine ⟨?_, ?_, ?_, ?_, ?_, ?_, ?_, ?_, ?_, ?_, ?_, ?_, ?_, ?_, ?_, trivial⟩
              all_goals
                rintro L W' hs hd hn hP
                have HP := Lib.hid hP
                have hqA := Rd.str c9 (HR9.out.fr hP.2 (fun _ _ => id)).rd
                have hqB := Rd.str x.c (hrdx W' hP.1.frm)
                clear hs hd hn hP
                first
                  | exact jheld_want rfl (held_value (jneq rfl rfl rfl HLL2.out HLL2.out HNE.out) HP.out)
                  | exact jheld_want rfl (held_value (exec_load (T := 60) (X := ida (Jrn.lastOf Jrn.zero (recs ps (k + 1)))) (g := T) (off := 0) rfl rfl underID rfl hii (hz1.trans HX2.out) HP.out.1.blk.at') HP.out)
                  | (refine jheld_want rfl ?_; unfold opHeld; go_simp; first | done | exact HP.out | exact ⟨rfl, HP.out⟩ | exact callsIn_wide.2 (HP.out.1.Last.mono fun _ _ ⟨he, hx, hN⟩ => ⟨he, hx, HP.out.2.trans hN (fun _ h => h.elim)⟩))
            case after =>
              rintro L W5 hs hal2 hP
              have HX11 := Lib.hid hP.1
              have HR11 := Lib.hid (Any8.of_bytes (HR9.out.fr hP.2 (fun _ _ => id)))
              clear hP hs hal2 HX10 HR9
              go_wp2_with fail
              go_loopw [91] (fun i W => ∃ m : Nat, i = .int .i64 m ∧ m ≤ x.b.length ∧ Any8 W A9 x.b.length c9 ∧ Fr (fun j => ab A9 = some j) W5 W) (fun i _ => x.b.length - (intOf i).toNat)
              case atStart => exact ⟨0, rfl, Nat.zero_le _, HR11.out, Fr.refl _ _⟩
              case round =>
                clear HR11
                obtain ⟨m2, rfl, hm2, hs, hf⟩ := hrel
                by_cases hmt : m2 < x.b.length
                · obtain ⟨g, y, hA, cg, fg⟩ := hs.at_ hmt
                  have HST := Lib.hid (fun q => hs.set hmt hA q)
                  have HFT := Lib.hid (fun q => hf.then_set (p := ⟨g, m2, none⟩) (by rw [hA]; rfl) (.int .u8 q))
                  subst hA
                  clear hs hf
                  go_wp2_with fail
                  go_roundw
                  case rel => exact ⟨m2 + 1, by go_num, by omega, HST.out _, HFT.out _⟩
                  case measure => simp [intOf]; omega
                · have HX12 := Lib.hid (HX11.out.turn hf).agn
                  clear hs hf HX11
                  go_wp2_with fail
                  refine (HX12.out.At k x.b HGET.out (by omega) (by rw [jof_rs, recs_len ps (k + 1) (by omega)]; omega)).mono ?_
                  rintro e w13 ⟨A13, c13, rfl, hR13, hX13⟩
                  have hqA := Rd.str c13 hR13.row.rd
                  have hqB := Rd.str x.c (hrdx w13 hX13.frm)
                  have HX13 := Lib.hid hX13.agn
                  clear hX13 hR13 HX12
                  go_wp2_with fail
                  go_roundw
                  case rel => exact ⟨k + 1, by go_num, by omega, HDS.out, HX13.out⟩
                  case measure => simp [intOf]; omega
    · have hfin := hW.frm
      go_wp2_with fail
      go_ret
      exact ⟨rfl, hfin⟩
theorem journalOwn_walk (A : Option Addr) (cA : Nat) (ps : List Part) (w : World) (hL : ListIn w A ps) :
    Calls Try.prog 10 #[.slice A ps.length cA] w fun e w' => e = .returned (.bool true) ∧ Below w.heap.size w w' := by
  have hb : ∀ w', New w w' → Below w.heap.size w w' := fun w' h => h.below (Nat.le_refl _) (fun _ => False.elim)
  by_cases h : 10 < ps.length
  · exact (own_out A cA ps.length w h).mono fun e w' ⟨he, hn⟩ => ⟨he, hb w' hn⟩
  · exact (own_in A cA ps w hL (by omega)).mono fun e w' ⟨he, hn⟩ => ⟨he, hb w' hn⟩
end Go.Proofs.Ytefalfalapnllaa
