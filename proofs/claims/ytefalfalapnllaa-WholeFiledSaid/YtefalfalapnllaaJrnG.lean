/- Package journal: the contract of Open. -/
import Derived.Test.YtefalfalapnllaaJrnH
import Derived.WalkMore
namespace Go.Proofs.Ytefalfalapnllaa
open Go.RowKit Go.Shelf
set_option linter.unusedVariables false
attribute [local irreducible] opGhost
set_option maxHeartbeats 8000000 in
set_option maxRecDepth 20000 in
theorem j_Open {w : World} {F : Nat → Prop} {p : Nat} {s : SlabS} (hS : SlabAt w F p s) :
    Calls Try.prog 32 #[.pointer (some ⟨p, 0, none⟩)] w (OpenPost w F p s) := by
  obtain ⟨ii, hii, hz0, hz1, hz2⟩ := info_parts infoID
  obtain ⟨ij, hij, hj0, hj1, hj2⟩ := info_parts infoJ
  have hok := hS.good
  have hblen : s.bs.length ≤ 4194304 := by
    obtain ⟨_, _, h3, h4, _, _⟩ := hok
    omega
  have HS := Lib.hid hS
  clear hS hok
  go_enter Try.func32, Try.ntmps32
  go_wp2_with fail
  go_step3
  go_wp2_with (first
    | (refine x_value (exec_build_jrn rfl rfl) (by simp [go_sem, Region.wanted]) ?_)
    | (refine x_value (exec_box (T := 92) rfl rfl) (by simp [go_sem, Region.wanted]) ?_))
  have hB1 := Blk.new w 92 (jc p none 0 0 z32 false)
  have hN1 : New w (w.alloc (.cells (jc p none 0 0 z32 false) 92)) := Fr.alloc _ w _
  have hJ1 : JAt (w.alloc (.cells (jc p none 0 0 z32 false) 92)) (fun k => k = w.heap.size) w.heap.size p [] Jrn.zero false none 0 [] :=
    ⟨hB1, Row.nil _ _, rfl, fun x hx => by simp at hx, rfl, fun k hk => by simp [ab] at hk, fun x hx => by simp at hx, fun k hk => by rw [hk]; exact hB1.lt, rfl⟩
  generalize w.alloc (.cells (jc p none 0 0 z32 false) 92) = W1 at *
  refine (slab_Bytes (HS.out.fr hN1 (fun _ _ => id))).mono ?_
  rintro e w2 ⟨A2, c2, rfl, hR2, hA2, hS2, hN2⟩
  have hJ2 := hJ1.new hN2
  have hN3 := hN1.trans hN2 fun _ h => h.elim
  have hq1 : w.heap.size < W1.heap.size := hB1.lt
  have hrd2 := hR2.rd
  have hcap := hR2.cap
  rw [List.length_map] at hcap
  clear hB1 hN1 hJ1 hS2 hN2
  go_wp2_with fail
  go_step3
  go_wp2_with fail
  have hA2' : ∀ k, ab A2 = some k → ¬ (k = w.heap.size) := fun k hk e => by
    have := hA2 k hk
    omega
  have HLT := Lib.hid (show ∀ k, ab A2 = some k → k < w2.heap.size from fun k hk => hR2.lt hk)
  clear hA2 hR2
  go_loopw [6] (fun at_ V => ∃ (a : Nat) (rs : List (List UInt8)) (last : List UInt8) (G : Nat → Prop) (A : Option Addr) (c : Nat) (ps : List Part), at_ = .int .i64 (a : Int) ∧ a ≤ s.bs.length ∧ Hid (JAt V G w.heap.size p rs last false A c ps) ∧ Hid (∀ k, G k → w.heap.size ≤ k) ∧ Hid (∀ k, ab A2 = some k → ¬ G k) ∧ 35 * rs.length ≤ a ∧ Hid (Jrn.scan s.bs s.bs.length a rs last = Jrn.opened s.bs) ∧ Hid (New w V) ∧ Hid (Rd V A2 (s.bs.map bv))) (fun at_ _ => s.bs.length - (intOf at_).toNat)
  case atStart => exact ⟨0, [], Jrn.zero, fun k => k = w.heap.size, none, 0, [], rfl, by omega, Lib.hid hJ2, Lib.hid (fun k hk => by omega), Lib.hid hA2', by simp, Lib.hid rfl, Lib.hid hN3, Lib.hid hrd2⟩
  case round =>
    obtain ⟨a, rs, last, G, A, c, ps, rfl, ha, HJ, HG, HA2, hrs, HSC, HN, HRD⟩ := hrel
    clear hJ2 hN3 hrd2 hA2'
    by_cases hlt : a < s.bs.length
    · obtain ⟨g, off, rfl, hgl, hgc⟩ := HRD.out (by simp; omega)
      have hcell : ∀ j, a + j < s.bs.length → wr.cell? ⟨g, off + a + j, none⟩ = some (.int .u8 (((s.bs.drop a).getD j 0).toNat : Int)) := fun j hj => by
        rw [Nat.add_assoc, hgc (a + j) (by simpa using hj), List.getElem_map, List.getD_eq_getElem?_getD, List.getElem?_drop, List.getElem?_eq_getElem hj]
        rfl
      have HCELL := Lib.hid hcell
      have hlt' : (a : Int) < (s.bs.length : Int) := by omega
      have hslF := sl_from g off s.bs.length c2 a (by omega) (by omega)
      obtain ⟨m, hm⟩ : ∃ m, m = s.bs.length - a := ⟨_, rfl⟩
      obtain ⟨cm, hcm⟩ : ∃ cm, cm = c2 - a := ⟨_, rfl⟩
      obtain ⟨o, ho⟩ : ∃ o, o = off + a := ⟨_, rfl⟩
      rw [← hm, ← hcm, ← ho] at hslF
      have hma : m + a = s.bs.length := by omega
      have hmc : m ≤ cm := by omega
      have HMA := Lib.hid hma
      have HO := Lib.hid ho
      clear hcell hgc hm hcm ho
      by_cases h35 : m < 35
      · have h35' : (m : Int) < 35 := by omega
        have HST := Lib.hid (show Jrn.opened s.bs = .stop a rs last by rw [← HSC.out]; exact Jrn.scan_short (by omega))
        have hSV := HS.out.fr HN.out (fun _ _ => id)
        by_cases h0 : s.steps = 0
        · have hop : openOf s = (none, 90) := by unfold openOf; rw [HST.out]; simp only; rw [if_pos (by omega), if_pos h0]
          have HOP := Lib.hid hop
          have HC := Lib.hid (slab_Cut_no hSV (a : Int) (by omega) (by omega) h0)
          clear hop h0 hSV
          go_wp2_with fail
          refine HC.out.mono ?_
          rintro e w5 ⟨rfl, rfl⟩
          go_wp2_with fail
          go_ret2
          unfold OpenPost
          rw [HOP.out]
          exact ⟨rfl, HS.out.fr HN.out (fun _ _ => id), HN.out⟩
        · have hop : openOf s = (some ⟨s.cut a, rs, last, false⟩, 0) := by unfold openOf; rw [HST.out]; simp only; rw [if_pos (by omega), if_neg h0]
          have HOP := Lib.hid hop
          have HC := Lib.hid (slab_Cut_yes hSV (a : Int) (by omega) (by omega) h0)
          clear hop h0 hSV
          go_wp2_with fail
          refine HC.out.mono ?_
          rintro e w5 ⟨rfl, hS5, hf5⟩
          go_wp2_with fail
          go_ret2
          unfold OpenPost
          rw [HOP.out]
          exact ⟨w.heap.size, G, A, c, ps, rfl, hS5, HJ.out.fr hf5 (fun k hk hF => by have := HG.out k hk; have := HS.out.lt k hF; omega), HG.out, (HN.out.mono (T := F) fun _ h => h.elim).trans hf5 fun _ h => .inl h⟩
      · have h35' : decide ((m : Int) < 35) = false := by rw [decide_eq_false_iff_not]; omega
        have k0 := HCELL.out 0 (by omega)
        have k1 := HCELL.out 1 (by omega)
        have k2 := HCELL.out 2 (by omega)
        rw [← HO.out] at k0 k1 k2
        rw [Nat.add_zero] at k0
        have hm0 : (0 : Int) < (m : Int) := by omega
        have hm1 : (1 : Int) < (m : Int) := by omega
        have hm2 : (2 : Int) < (m : Int) := by omega
        have hnum : Jrn.num (s.bs.drop a) = ((s.bs.drop a).getD 0 0).toNat * 65536 + ((s.bs.drop a).getD 1 0).toNat * 256 + ((s.bs.drop a).getD 2 0).toNat := rfl
        generalize (s.bs.drop a).getD 0 0 = x0 at *
        generalize (s.bs.drop a).getD 1 0 = x1 at *
        generalize (s.bs.drop a).getD 2 0 = x2 at *
        have hv := or3 x0 x1 x2
        rw [← hnum] at hv
        have hx0 : (x0.toNat : Int) < 256 := by have := UInt8.toNat_lt x0; omega
        have hx1 : (x1.toNat : Int) < 256 := by have := UInt8.toNat_lt x1; omega
        have hx2 : (x2.toNat : Int) < 256 := by have := UInt8.toNat_lt x2; omega
        have hnl := Jrn.num_lt (s.bs.drop a)
        clear hnum
        generalize hN' : Jrn.num (s.bs.drop a) = N at *
        have HNN := Lib.hid hN'
        clear hN'
        go_upto_region 7 with fail
        go_quiet (fail)
        clear hv k0 k1 k2 hx0 hx1 hx2
        have hJ8 : JAt (wr.drewN nq) G w.heap.size p rs last false A c ps := HJ.out.new (Fr.drewN _ wr nq)
        have hRD8 : Rd (wr.drewN nq) (some ⟨g, off, none⟩) (s.bs.map bv) := HRD.out.fr (Fr.drewN (fun _ => False) wr nq) (fun _ _ => id)
        have hN8 : New w (wr.drewN nq) := HN.out.then_drewN nq
        generalize wr.drewN nq = W8 at *
        have HJ8 := Lib.hid hJ8
        have HRD8 := Lib.hid hRD8
        have HN8 := Lib.hid hN8
        clear hJ8 hRD8 hN8 HJ HRD HN HCELL
        go_upto_region 8 with fail
        obtain ⟨S, hSS⟩ : ∃ S, S = Once.sumFor Jrn.pFront [last, (s.bs.drop a).take 3] := ⟨_, rfl⟩
        have HSS := Lib.hid hSS.symm
        have HSL := Lib.hid (show S.length = 32 by rw [hSS]; rfl)
        have HOW := Lib.hid (show Jrn.own last ((s.bs.drop a).take 3) = S.take 16 by rw [hSS]; rfl)
        have HD3 := Lib.hid (show ((s.bs.drop a).take 3).length = 3 by rw [List.length_take, List.length_drop]; omega)
        clear hSS
        have hsl3 : ∀ W, (Instr.slice 22 (.slice (some ⟨g, o, none⟩) m cm) none (some (.int .i64 3)) none).run Try.prog W = .ok (.slice (some ⟨g, o, none⟩) 3 cm) W := fun W => sl_pre (some ⟨g, o, none⟩) m cm 3 (by omega) W
        have h0S : openS W8.drew w.heap.size g o cm S (Array.replicate 10 false) ⟨0, 0⟩ W8.drew := ⟨Fr.refl _ _, fun h => by simp at h, fun h => by simp at h, fun h => by simp at h, fun h => by simp at h⟩
        refine wp_region_ghost (by kernel_rfl) (by kernel_rfl) (openV w.heap.size g o m cm S) (fun _ => rfl) (by kernel_rfl) (openS W8.drew w.heap.size g o cm S) ⟨0, 0⟩ h0S _ (by funext k; simp [openV, putAll, Act.put]; rfl) ?hops ?after
        case hops =>
          refine ⟨?_, ?_, ?_, ?_, ?_, ?_, ?_, ?_, ?_, ?_, trivial⟩
          all_goals
            intro k L W' hz hd hn HS2
            refine held_plain rfl ?_
          · have H2 := ghost_keep (vs := openV w.heap.size g o m cm S) (S := openS W8.drew w.heap.size g o cm S) (g := k) (i := 0) rfl (HS2.list 0 (by decide) (by decide) (by decide))
            clear hd hn hz HS2
            unfold opGhost
            go_simp
          · have H2 := ghost_keep (vs := openV w.heap.size g o m cm S) (S := openS W8.drew w.heap.size g o cm S) (g := k) (i := 1) rfl (HS2.list 1 (by decide) (by decide) (by decide))
            clear hd hn hz HS2
            unfold opGhost
            go_simp
          · have H2 := ghost_keep (vs := openV w.heap.size g o m cm S) (S := openS W8.drew w.heap.size g o cm S) (g := k) (i := 2) rfl (HS2.list 2 (by decide) (by decide) (by decide))
            clear hd hn hz HS2
            unfold opGhost
            go_simp
          · have H2 := ghost_keep (vs := openV w.heap.size g o m cm S) (S := openS W8.drew w.heap.size g o cm S) (g := k) (i := 3) rfl (HS2.list 3 (by decide) (by decide) (by decide))
            clear hd hn hz HS2
            unfold opGhost
            go_simp
          · have H2 := ghost_keep (vs := openV w.heap.size g o m cm S) (S := openS W8.drew w.heap.size g o cm S) (g := k) (i := 4) rfl (HS2.list 4 (by decide) (by decide) (by decide))
            clear hd hn hz HS2
            unfold opGhost
            go_simp
          · have H2 := ghost_keep (vs := openV w.heap.size g o m cm S) (S := openS W8.drew w.heap.size g o cm S) (g := k) (i := 5) rfl (HS2.list 5 (by decide) (by decide) (by decide))
            clear hd hn hz HS2
            unfold opGhost
            go_simp
          · have H2 : ∃ g', openV w.heap.size g o m cm S g' = (openV w.heap.size g o m cm S k).set 6 (.slice (some ⟨W'.heap.size, 0, none⟩) 2 2) ∧ openS W8.drew w.heap.size g o cm S (L.setIfInBounds 6 true) g' (W'.alloc (.cells #[.slice (some ⟨w.heap.size, 2, none⟩) 32 32, .slice (some ⟨g, o, none⟩) 3 cm] 22)) :=
              ⟨⟨W'.heap.size, k.b⟩, rfl, HS2.a hz (getD_no (by rw [hz]; decide) hn)⟩
            clear hd hn hz HS2
            unfold opGhost
            go_simp
          · have h6 : L.getD 6 false = true := hd ⟨6, .data⟩ (by simp) rfl
            have hNW := (Fr.drew (fun _ => False) W8).trans HS2.1 fun _ h => h.elim
            have hrr := rd_take (rd_drop (HRD8.out.fr hNW (fun _ _ => id)) a) 3
            rw [← HO.out] at hrr
            have hP : PartsAt W' (some ⟨k.a, 0, none⟩) [⟨some ⟨w.heap.size, 2, none⟩, 32, last⟩, ⟨some ⟨g, o, none⟩, cm, (s.bs.drop a).take 3⟩] := by
              refine ⟨?_, fun x hx => ?_⟩
              · have e : ([⟨some ⟨w.heap.size, 2, none⟩, 32, last⟩, ⟨some ⟨g, o, none⟩, cm, (s.bs.drop a).take 3⟩] : List Part).map Part.v = [.slice (some ⟨w.heap.size, 2, none⟩) 32 32, .slice (some ⟨g, o, none⟩) 3 cm] := by simp [Part.v, HJ8.out.len, HD3.out]
                rw [e]
                exact (HS2.2.2.1 h6).2
              · simp at hx
                rcases hx with rfl | rfl
                · exact (HJ8.out.new hNW).rd2
                · exact hrr
            have hfor := sumFor_any W' Jrn.pFront (some ⟨k.a, 0, none⟩) 2 _ hP (by simp [Once.forB, Once.len4, Jrn.pFront, HJ8.out.len]; omega) (by simp)
            have hid : Once.sumFor Jrn.pFront (([⟨some ⟨w.heap.size, 2, none⟩, 32, last⟩, ⟨some ⟨g, o, none⟩, cm, (s.bs.drop a).take 3⟩] : List Part).map (·.b)) = Once.sumFor Jrn.pFront [last, (s.bs.drop a).take 3] := rfl
            rw [hid, HSS.out] at hfor
            clear hd hn hz hP hrr hid
            unfold opGhost
            go_simp
            exact (show CallsIn Fence.wide 0 _ _ _ _ _ from (callsIn_wide.2 hfor).mono fun e w'' ⟨he, hw⟩ => ⟨_, he, ghost_keep (vs := openV w.heap.size g o m cm S) (S := openS W8.drew w.heap.size g o cm S) (g := k) (i := 7) rfl ((HS2.new hw).list 7 (by decide) (by decide) (by decide))⟩)
          · exact ghost_value (x_alloc (T := 60) rfl hii hz0) ⟨⟨k.a, W'.heap.size⟩, rfl, HS2.b hz (getD_no (by rw [hz]; decide) hn)⟩
          · have h8 : L.getD 8 false = true := hd ⟨8, .data⟩ (by simp) rfl
            have h9 : L.getD 9 false = false := getD_no (by rw [hz]; decide) hn
            have hB := (HS2.2.2.2.1 h8).2
            rw [h9, if_neg (by decide)] at hB
            exact ghost_skip (exec_store_all (T := 60) (X := ida S) (g := k.b) (cs := ida z32) rfl rfl rfl hii (hz1.trans (by rw [ida_size]; exact HSL.out.symm)) (ida_one _) hB (by rw [ida_size, ida_size]; exact HSL.out.symm)) (ghost_keep (vs := openV w.heap.size g o m cm S) (S := openS W8.drew w.heap.size g o cm S) (g := k) (i := 9) rfl (HS2.c hz h8))
        case after =>
          intro k L W9 hz hal HS2
          have hall : ∀ i, i < 10 → L.getD i false = true := fun i hi => by
            have := hal i
            rw [Array.getD_eq_getD_getElem?] at this ⊢
            rw [Array.getElem?_eq_getElem (by rw [hz]; exact hi)] at this ⊢
            exact this
          have hB := (HS2.2.2.2.1 (hall 8 (by decide))).2
          rw [hall 9 (by decide), if_pos rfl] at hB
          have hNW := (Fr.drew (fun _ => False) W8).trans HS2.1 fun _ h => h.elim
          clear HS2 hall hal hz h0S
          obtain ⟨_, gb⟩ := k
          change Blk W9 gb _ _ at hB
          have hJ9 := HJ8.out.new hNW
          have hRD9 := HRD8.out.fr hNW (fun _ _ => id)
          have hN9 := HN8.out.trans hNW fun _ h => h.elim
          clear hNW HJ8 HRD8 HN8
          dsimp only
          have hrO := rd_take (once_lt hB) 16
          have hS16 : (S.take 16).length = 16 := by rw [List.length_take, HSL.out]; rfl
          have hrM := rd_take (rd_drop hRD9 (a + 3)) 16
          have hM16 : ((s.bs.drop (a + 3)).take 16).length = 16 := by rw [List.length_take, List.length_drop]; omega
          rw [show off + (a + 3) = o + 3 by rw [HO.out]; omega] at hrM
          have hslM : ∀ W, (Instr.slice 22 (.slice (some ⟨g, o, none⟩) m cm) (some (.int .i64 3)) (some (.int .i64 19)) none).run Try.prog W = .ok (.slice (some ⟨g, o + 3, none⟩) 16 (cm - 3)) W := fun W => by
            have h1 := sl_mid g o m cm 3 19 (by omega) (by omega) W
            unfold slA at h1
            rw [if_neg (by omega)] at h1
            exact h1
          have hstO : ∀ n, (convert 22 9 (.slice (some ⟨gb, 0, none⟩) 16 32)).run Try.prog (W9.drewN n) = .ok (.string ⟨(S.take 16).toArray⟩) (W9.drewN n) := fun n => by
            have h1 := run_str_rd (P := Try.prog) (W9.drewN n) 22 5 Try.underlying22 Try.underlying5 (some ⟨gb, 0, none⟩) 32 (S.take 16) (hrO.fr (Fr.drewN (fun _ => False) W9 n) (fun _ _ => id)) 9 Try.underlying9
            rw [hS16] at h1
            exact h1
          have hstM : ∀ n, (convert 22 9 (.slice (some ⟨g, o + 3, none⟩) 16 (cm - 3))).run Try.prog (W9.drewN n) = .ok (.string ⟨((s.bs.drop (a + 3)).take 16).toArray⟩) (W9.drewN n) := fun n => by
            have h1 := run_str_rd (P := Try.prog) (W9.drewN n) 22 5 Try.underlying22 Try.underlying5 (some ⟨g, o + 3, none⟩) (cm - 3) ((s.bs.drop (a + 3)).take 16) (hrM.fr (Fr.drewN (fun _ => False) W9 n) (fun _ _ => id)) 9 Try.underlying9
            rw [hM16] at h1
            exact h1
          have HB9 := Lib.hid hB
          have HJ9 := Lib.hid hJ9
          have HRD9 := Lib.hid hRD9
          have HN9 := Lib.hid hN9
          clear hrO hS16 hrM hM16 hB hJ9 hRD9 hN9 hsl3
          by_cases hown : (s.bs.drop (a + 3)).take 16 = S.take 16
          · rw [hown] at hstM
            have HO1 := Lib.hid (show (s.bs.drop (a + 3)).take 16 = Jrn.own last ((s.bs.drop a).take 3) by rw [HOW.out]; exact hown)
            clear hown
            go_upto_region 9 with fail
            go_quiet (fail)
            have HJ := Lib.hid (show JAt (W9.drewN nq) G w.heap.size p rs last false A c ps from HJ9.out.new (Fr.drewN _ W9 nq))
            have HRD := Lib.hid (show Rd (W9.drewN nq) (some ⟨g, off, none⟩) (s.bs.map bv) from HRD9.out.fr (Fr.drewN (fun _ => False) W9 nq) (fun _ _ => id))
            have HN := Lib.hid (show New w (W9.drewN nq) from HN9.out.then_drewN nq)
            clear hstO hstM hslM HJ9 HRD9 HN9 HB9
            generalize W9.drewN nq = W10 at *
            by_cases hbig : m < 35 + N
            · have hbig' : decide ((N : Int) > (m : Int) - 35) = true := by simp; omega
              have hbig2 : decide ((m : Int) - 35 < (N : Int)) = true := by simp; omega
              have HST := Lib.hid (show Jrn.opened s.bs = .stop a rs last by rw [← HSC.out]; exact Jrn.scan_long (by omega) (by omega) HO1.out (by rw [HNN.out]; omega))
              have hSV := HS.out.fr HN.out (fun _ _ => id)
              by_cases h0 : s.steps = 0
              · have hop : openOf s = (none, 90) := by unfold openOf; rw [HST.out]; simp only; rw [if_pos (by omega), if_pos h0]
                have HOP := Lib.hid hop
                have HC := Lib.hid (slab_Cut_no hSV (a : Int) (by omega) (by omega) h0)
                clear hop h0 hSV
                go_wp2_with fail
                refine HC.out.mono ?_
                rintro e w5 ⟨rfl, rfl⟩
                go_wp2_with fail
                go_ret2
                unfold OpenPost
                rw [HOP.out]
                exact ⟨rfl, HS.out.fr HN.out (fun _ _ => id), HN.out⟩
              · have hop : openOf s = (some ⟨s.cut a, rs, last, false⟩, 0) := by unfold openOf; rw [HST.out]; simp only; rw [if_pos (by omega), if_neg h0]
                have HOP := Lib.hid hop
                have HC := Lib.hid (slab_Cut_yes hSV (a : Int) (by omega) (by omega) h0)
                clear hop h0 hSV
                go_wp2_with fail
                refine HC.out.mono ?_
                rintro e w5 ⟨rfl, hS5, hf5⟩
                go_wp2_with fail
                go_ret2
                unfold OpenPost
                rw [HOP.out]
                exact ⟨w.heap.size, G, A, c, ps, rfl, hS5, HJ.out.fr hf5 (fun k hk hF => by have := HG.out k hk; have := HS.out.lt k hF; omega), HG.out, (HN.out.mono (T := F) fun _ h => h.elim).trans hf5 fun _ h => .inl h⟩
            · have hbig' : decide ((N : Int) > (m : Int) - 35) = false := by simp; omega
              have hbig2 : decide ((m : Int) - 35 < (N : Int)) = false := by simp; omega
              have hslD : ∀ W, (Instr.slice 22 (.slice (some ⟨g, o, none⟩) m cm) (some (.int .i64 35)) (some (.int .i64 (35 + (N : Int)))) none).run Try.prog W = .ok (.slice (some (slA g o cm 35)) N (cm - 35)) W := fun W => by
                have h1 := sl_mid g o m cm 35 (35 + N) (by omega) (by omega) W
                rw [show ((35 + N : Nat) : Int) = 35 + (N : Int) by omega, show 35 + N - 35 = N by omega] at h1
                exact h1
              obtain ⟨d, hd⟩ : ∃ d, d = Jrn.dataAt s.bs a := ⟨_, rfl⟩
              have hdd : ((s.bs.drop a).drop 35).take N = d := by rw [hd]; unfold Jrn.dataAt; rw [HNN.out, List.drop_drop]
              have hdl : d.length = N := by rw [← hdd, List.length_take, List.length_drop, List.length_drop]; omega
              have hrD := rd_drop HRD.out a
              rw [← HO.out] at hrD
              have hrD2 := rd_mid hrD cm 35 N (fun e => by rw [show N = 0 by omega]; rfl)
              rw [hdd] at hrD2
              have hDb : ∀ k, ab (some (slA g o cm 35)) = some k → k = g := fun k hk => by
                unfold slA at hk
                split at hk <;> · simp [ab] at hk; exact hk.symm
              generalize slA g o cm 35 = D at *
              have hKK := link_any W10 last HJ.out.len (some D) (cm - 35) d hrD2 (by omega)
              rw [hdl] at hKK
              obtain ⟨K, hK⟩ : ∃ K, K = Jrn.link last d := ⟨_, rfl⟩
              rw [← hK] at hKK
              have HKL := Lib.hid (show K.length = 32 by rw [hK]; rfl)
              have HKS := Lib.hid (show (ida K).size = 32 by rw [ida_size, hK]; rfl)
              have HKZ := Lib.hid (show (ida z32).size = (ida K).size by rw [ida_size, ida_size, hK]; rfl)
              have HLI := Lib.hid (show 32 = (ida last).size by rw [ida_size, HJ.out.len])
              have HJL := Lib.hid HJ.out.at2
              have HKE := Lib.hid hK
              have HDE := Lib.hid hd
              have HDL := Lib.hid hdl
              have HDR := Lib.hid hrD2
              have HDB := Lib.hid hDb
              have HKC := Lib.hid hKK
              clear hK hd hdd hdl hrD hrD2 hDb hKK
              go_wp2_with (refine x_value (exec_load (T := 60) (X := ida last) (g := w.heap.size) (off := 2) rfl rfl underID rfl hii (hz1.trans HLI.out) HJL.out) (by simp [go_sem, Region.wanted]) ?_)
              refine HKC.out.mono ?_
              rintro e w11 ⟨rfl, hN11⟩
              have HLB0 := Lib.hid (Blk.new w11 60 (ida K))
              have hN12 := hN11.then_alloc (.cells (ida K) 60)
              have HJ12 := Lib.hid (HJ.out.new hN12)
              have HRD12 := Lib.hid (HRD.out.fr hN12 (fun _ _ => id))
              have HDR12 := Lib.hid (HDR.out.fr hN12 (fun _ _ => id))
              have HN12 := Lib.hid (HN.out.trans hN12 fun _ h => h.elim)
              have HGL := Lib.hid (show ∀ k, G k → k < w11.heap.size from fun k hk => Nat.lt_of_lt_of_le (HJ.out.glt k hk) hN11.size)
              clear hN11 hN12 HJ HRD HDR HN HKC HJL hslD
              go_upto_region 14 with (first
                | (refine x_value (x_alloc (T := 60) rfl hii hz0) (by simp [go_sem, Region.wanted]) ?_)
                | (refine x_skip (exec_store_new (T := 60) (X := ida K) (Z := ida z32) rfl rfl rfl rfl hii (hz1.trans HKS.out.symm) (ida_one _) HKZ.out) rfl ?_))
              generalize w11.alloc (.cells (ida K) 60) = W12 at *
              generalize w11.heap.size = gl at *
              have hrO := rd_take (once_lt HLB0.out) 16
              have hS16 : (K.take 16).length = 16 := by rw [List.length_take, HKL.out]; rfl
              have hrM := rd_take (rd_drop HRD12.out (a + 19)) 16
              have hM16 : ((s.bs.drop (a + 19)).take 16).length = 16 := by rw [List.length_take, List.length_drop]; omega
              rw [show off + (a + 19) = o + 19 by rw [HO.out]; omega] at hrM
              have hslM : ∀ W, (Instr.slice 22 (.slice (some ⟨g, o, none⟩) m cm) (some (.int .i64 19)) (some (.int .i64 35)) none).run Try.prog W = .ok (.slice (some ⟨g, o + 19, none⟩) 16 (cm - 19)) W := fun W => by
                have h1 := sl_mid g o m cm 19 35 (by omega) (by omega) W
                unfold slA at h1
                rw [if_neg (by omega)] at h1
                exact h1
              have hstO : ∀ n, (convert 22 9 (.slice (some ⟨gl, 0, none⟩) 16 32)).run Try.prog (W12.drewN n) = .ok (.string ⟨(K.take 16).toArray⟩) (W12.drewN n) := fun n => by
                have h1 := run_str_rd (P := Try.prog) (W12.drewN n) 22 5 Try.underlying22 Try.underlying5 (some ⟨gl, 0, none⟩) 32 (K.take 16) (hrO.fr (Fr.drewN (fun _ => False) W12 n) (fun _ _ => id)) 9 Try.underlying9
                rw [hS16] at h1
                exact h1
              have hstM : ∀ n, (convert 22 9 (.slice (some ⟨g, o + 19, none⟩) 16 (cm - 19))).run Try.prog (W12.drewN n) = .ok (.string ⟨((s.bs.drop (a + 19)).take 16).toArray⟩) (W12.drewN n) := fun n => by
                have h1 := run_str_rd (P := Try.prog) (W12.drewN n) 22 5 Try.underlying22 Try.underlying5 (some ⟨g, o + 19, none⟩) (cm - 19) ((s.bs.drop (a + 19)).take 16) (hrM.fr (Fr.drewN (fun _ => False) W12 n) (fun _ _ => id)) 9 Try.underlying9
                rw [hM16] at h1
                exact h1
              clear hrO hS16 hrM hM16
              by_cases hlk : (s.bs.drop (a + 19)).take 16 = K.take 16
              · rw [hlk] at hstM
                have HSC2 := Lib.hid (show Jrn.scan s.bs s.bs.length (a + 35 + N) (rs ++ [d]) K = Jrn.opened s.bs by
                  rw [← HSC.out, Jrn.scan_next (by omega) (by omega) HO1.out (by rw [HNN.out]; omega) (by rw [← HDE.out, ← HKE.out]; exact hlk), HNN.out, ← HDE.out, ← HKE.out])
                clear hlk
                go_upto_region 14 with fail
                go_quiet (fail)
                have HRDQ := Lib.hid (show Rd (W12.drewN nq) (some ⟨g, off, none⟩) (s.bs.map bv) from HRD12.out.fr (Fr.drewN (fun _ => False) W12 nq) (fun _ _ => id))
                have HJQ := Lib.hid (show JAt (W12.drewN nq) G w.heap.size p rs last false A c ps from HJ12.out.new (Fr.drewN _ W12 nq))
                have HDQ := Lib.hid (show Rd (W12.drewN nq) (some D) (d.map bv) from HDR12.out.fr (Fr.drewN (fun _ => False) W12 nq) (fun _ _ => id))
                have HNQ := Lib.hid (show New w (W12.drewN nq) from HN12.out.then_drewN nq)
                have HLQ := Lib.hid (show Blk (W12.drewN nq) gl 60 (ida K) from HLB0.out)
                clear hstO hstM hslM HRD12 HJ12 HDR12 HN12 HLB0
                generalize W12.drewN nq = W13 at *
                obtain ⟨U0, hU0⟩ : ∃ U0, U0 = W13.drew := ⟨_, rfl⟩
                have hJU : JAt U0 G w.heap.size p rs last false A c ps := hU0 ▸ HJQ.out.new (Fr.drew _ W13)
                have HRDU := Lib.hid (show Rd U0 (some ⟨g, off, none⟩) (s.bs.map bv) from hU0 ▸ HRDQ.out.fr (Fr.drew (fun _ => False) W13) (fun _ _ => id))
                have HLB := Lib.hid (show Blk U0 gl 60 (ida K) from hU0 ▸ HLQ.out.fr (Fr.drew (fun _ => False) W13) id)
                have HNU := Lib.hid (show New w U0 from hU0 ▸ HNQ.out.then_drew)
                obtain ⟨A4, c4, wA, hrunA, hRA, hNA⟩ := copy_run U0 U0 (Fr.refl _ _) (some D) (cm - 35) d (hU0 ▸ HDQ.out.fr (Fr.drew (fun _ => False) W13) (fun _ _ => id)) (by rw [HDL.out]; omega)
                obtain ⟨A5, c5, wB, hrunB, hcB, hzB, hfB, hJB⟩ := hJU.more hRA (by omega)
                rw [HDL.out] at hrunA hrunB
                have HN1 := Lib.hid (show New U0 (U0.alloc (.cells #[] 5)) from Fr.alloc _ _ _)
                have HN2 := Lib.hid hNA
                have HN3 := Lib.hid (hNA.then_alloc (.cells #[.slice A4 N c4] 22))
                have HJD := Lib.hid hJU
                have HJ6 := Lib.hid hJB
                have HFR6 := Lib.hid hfB
                have HU0 := Lib.hid hU0
                clear hU0 hJU hRA hNA hfB hJB HRDQ HJQ HDQ HNQ HLQ
                go_upto_region 16 with fail
                refine wp_region_all (by kernel_rfl) (by kernel_rfl) [.pointer (some ⟨w.heap.size, 0, none⟩), .pointer (some ⟨w.heap.size, 0, none⟩), .pointer (some ⟨w.heap.size, 0, none⟩), .pointer (some ⟨w.heap.size, 1, none⟩), .slice A ps.length c, .slice (some ⟨U0.heap.size, 0, none⟩) 0 0, .slice (some D) N (cm - 35), .slice A4 N c4, .slice (some ⟨wA.heap.size, 0, none⟩) 1 1, .slice A5 (ps.length + 1) c5, .pointer (some ⟨w.heap.size, 0, none⟩), .pointer (some ⟨w.heap.size, 1, none⟩), undef]
                  (by kernel_rfl) (MoreAt U0 (U0.alloc (.cells #[] 5)) wA (wA.alloc (.cells #[.slice A4 N c4] 22)) wB (wB.setCell ⟨w.heap.size, 1, none⟩ (.slice A5 (ps.length + 1) c5))) _ (by simp [putAll, Act.put]; rfl) (by rw [← HU0.out]; exact MoreAt.zero _ _ _ _ _ _) ?hops ?after
                case hops =>
                  refine ⟨?_, ?_, ?_, ?_, ?_, ?_, ?_, ?_, ?_, ?_, ?_, ?_, ?_, trivial⟩
                  all_goals
                    rintro L W' hz hd hn HSM
                    refine held_plain rfl ?_
                  · have H2 := HSM.list 0 (by decide) (by decide) (by decide) (by decide) (by decide)
                    clear hd hn hz HSM
                    unfold opHeld
                    go_simp
                  · have H2 := HSM.list 1 (by decide) (by decide) (by decide) (by decide) (by decide)
                    clear hd hn hz HSM
                    unfold opHeld
                    go_simp
                  · have H2 := HSM.list 2 (by decide) (by decide) (by decide) (by decide) (by decide)
                    clear hd hn hz HSM
                    unfold opHeld
                    go_simp
                  · have H2 := HSM.list 3 (by decide) (by decide) (by decide) (by decide) (by decide)
                    clear hd hn hz HSM
                    unfold opHeld
                    go_simp
                  · have hN := HSM.early (getD_no (by rw [hz]; decide) hn) HN1.out HN2.out HN3.out
                    have c1' := (HJD.out.new hN).c1
                    have H2 := HSM.list 4 (by decide) (by decide) (by decide) (by decide) (by decide)
                    clear hd hn hz HSM hN
                    unfold opHeld
                    go_simp
                  · obtain ⟨hW, H2⟩ := HSM.at5 hz (getD_no (by rw [hz]; decide) hn)
                    clear HSM hd hn hz
                    subst hW
                    unfold opHeld
                    go_simp
                  · have H2 := HSM.list 6 (by decide) (by decide) (by decide) (by decide) (by decide)
                    clear hd hn hz HSM
                    unfold opHeld
                    go_simp
                  · obtain ⟨hW, H2⟩ := HSM.at7 hz (getD_no (by rw [hz]; decide) hn) (hd ⟨5, .data⟩ (by simp) rfl)
                    clear HSM hd hn hz
                    subst hW
                    exact held_value (exec_app rfl rfl rfl hrunA) H2
                  · obtain ⟨hW, H2⟩ := HSM.at8 hz (getD_no (by rw [hz]; decide) hn) (hd ⟨7, .data⟩ (by simp) rfl)
                    clear HSM hd hn hz
                    subst hW
                    unfold opHeld
                    go_simp
                  · obtain ⟨hW, H2⟩ := HSM.at9 hz (getD_no (by rw [hz]; decide) hn) (hd ⟨8, .data⟩ (by simp) rfl) (hd ⟨4, .data⟩ (by simp) rfl)
                    clear HSM hd hn hz
                    subst hW
                    exact held_value (exec_app rfl rfl rfl hrunB) H2
                  · have H2 := HSM.list 10 (by decide) (by decide) (by decide) (by decide) (by decide)
                    clear hd hn hz HSM
                    unfold opHeld
                    go_simp
                  · have H2 := HSM.list 11 (by decide) (by decide) (by decide) (by decide) (by decide)
                    clear hd hn hz HSM
                    unfold opHeld
                    go_simp
                  · obtain ⟨hW, H2⟩ := HSM.at12 hz (getD_no (by rw [hz]; decide) hn) (hd ⟨9, .data⟩ (by simp) rfl)
                    clear HSM hd hn hz
                    subst hW
                    unfold opHeld
                    go_simp
                case after =>
                  rintro L W' hz hal HSM
                  have hW := HSM.last hz hal
                  clear HSM hz hal
                  subst hW
                  have hJ6 := HJ6.out
                  have hfr6 := HFR6.out
                  obtain ⟨W6, hW6⟩ : ∃ W6, W6 = wB.setCell ⟨w.heap.size, 1, none⟩ (.slice A5 (ps.length + 1) c5) := ⟨_, rfl⟩
                  rw [← hW6] at hJ6 hfr6 ⊢
                  have hLb := HLB.out.fr hfr6 (fun hG => by have := HGL.out _ hG; omega)
                  have HLB6 := Lib.hid hLb.at'
                  have HJB := Lib.hid hJ6.blk
                  have HZB := Lib.hid (show (jc p A5 (ps ++ [(⟨A4, c4, d⟩ : Part)]).length c5 last false).size = 35 from jc_size _ _ _ _ _ _ hJ6.len)
                  have HPB := Lib.hid (jc_last p A5 (ps ++ [(⟨A4, c4, d⟩ : Part)]).length c5 last K false hJ6.len HKL.out)
                  have hfin := hJ6.setLast K HKL.out
                  have hll : (ps ++ [(⟨A4, c4, d⟩ : Part)]).length = ps.length + 1 := by simp
                  have hrdE := HRDU.out.fr hfr6 (fun k hk hG => HA2.out k hk hG)
                  have HRDE := Lib.hid hrdE
                  have HFE := Lib.hid hfr6
                  have HFIN := Lib.hid hfin
                  clear hJ6 hfr6 hW6 hLb hfin hrdE hrunA hrunB hcB hzB
                  go_wp2_with (first
                    | (refine x_value (exec_load (T := 60) (X := ida K) (g := gl) (off := 0) rfl rfl underID rfl hii (hz1.trans HKS.out.symm) HLB6.out) (by simp [go_sem, Region.wanted]) ?_)
                    | (refine x_skip (exec_store (T := 60) (X := ida K) (g := w.heap.size) (off := 2) rfl rfl rfl hii (hz1.trans HKS.out.symm) (ida_one _) HJB.out (by rw [HZB.out, HKS.out]; omega)) rfl ?_; rw [HPB.out]))
                  have hfin := HFIN.out
                  rw [hll] at hfin
                  have hq8 : Fr (fun k => k = w.heap.size) W6 (W6.setRow w.heap.size (jc p A5 (ps.length + 1) c5 K false)) := (Fr.refl (fun k => k = w.heap.size) W6).setRow (g := w.heap.size) rfl _
                  have hUs := HNU.out.size
                  have hgU : g < U0.heap.size := (HRDU.out.lt (by simp; omega)) g rfl
                  have hgw : g ≠ w.heap.size := fun e => HA2.out g rfl (e ▸ HJD.out.gq)
                  refine ⟨⟨a + 35 + N, rs ++ [d], K, Grown U0 wB G, A5, c5, ps ++ [⟨A4, c4, d⟩], ?_, by omega, Lib.hid hfin, Lib.hid fun k hk => ?_, Lib.hid fun k hk hG => ?_, ?_, HSC2, Lib.hid ?_, Lib.hid ?_⟩, ?_⟩
                  · congr 1
                    omega
                  · rcases hk with h | h
                    · exact HG.out k h
                    · omega
                  · simp [ab] at hk
                    subst hk
                    rcases hG with h | h
                    · exact HA2.out g rfl h
                    · omega
                  · rw [List.length_append]
                    simp
                    omega
                  · exact (HNU.out.trans HFE.out fun k hk => .inr (HG.out k hk)).trans hq8 fun k hk => .inr (by omega)
                  · exact HRDE.out.fr hq8 (fun k hk e => by simp [ab] at hk; omega)
                  · simp only [intOf]
                    omega
              · have hne : (K.take 16 == (s.bs.drop (a + 19)).take 16) = false := by
                  rw [beq_eq_false_iff_ne]
                  exact fun e => hlk e.symm
                have HST := Lib.hid (show Jrn.opened s.bs = .torn by rw [← HSC.out]; exact Jrn.scan_link (by omega) (by omega) HO1.out (by rw [HNN.out]; omega) (by rw [← HDE.out, ← HKE.out]; exact hlk))
                clear hlk
                go_upto_region 14 with fail
                go_quiet (fail)
                have HN := Lib.hid (show New w (W12.drewN nq) from HN12.out.then_drewN nq)
                clear hstO hstM hslM
                generalize W12.drewN nq = W13 at *
                have hop : openOf s = (none, 100) := by unfold openOf; rw [HST.out]
                have HOP := Lib.hid hop
                clear hop
                go_wp2_with fail
                go_ret2
                unfold OpenPost
                rw [HOP.out]
                exact ⟨rfl, HS.out.fr HN.out (fun _ _ => id), HN.out⟩
          · have hne : (S.take 16 == (s.bs.drop (a + 3)).take 16) = false := by
              rw [beq_eq_false_iff_ne]
              exact fun e => hown e.symm
            have HST := Lib.hid (show Jrn.opened s.bs = .torn by rw [← HSC.out]; exact Jrn.scan_own (by omega) (by omega) (by rw [HOW.out]; exact hown))
            clear hown
            go_upto_region 9 with fail
            go_quiet (fail)
            have HJ := Lib.hid (show JAt (W9.drewN nq) G w.heap.size p rs last false A c ps from HJ9.out.new (Fr.drewN _ W9 nq))
            have HRD := Lib.hid (show Rd (W9.drewN nq) (some ⟨g, off, none⟩) (s.bs.map bv) from HRD9.out.fr (Fr.drewN (fun _ => False) W9 nq) (fun _ _ => id))
            have HN := Lib.hid (show New w (W9.drewN nq) from HN9.out.then_drewN nq)
            clear hstO hstM hslM HJ9 HRD9 HN9 HB9
            generalize W9.drewN nq = W10 at *
            have hop : openOf s = (none, 100) := by unfold openOf; rw [HST.out]
            have HOP := Lib.hid hop
            clear hop
            go_wp2_with fail
            go_ret2
            unfold OpenPost
            rw [HOP.out]
            exact ⟨rfl, HS.out.fr HN.out (fun _ _ => id), HN.out⟩
    · have hae : decide ((a : Int) < (s.bs.length : Int)) = false := by rw [decide_eq_false_iff_not]; omega
      have HST := Lib.hid (show Jrn.opened s.bs = .stop a rs last by rw [← HSC.out]; exact Jrn.scan_short (by omega))
      have hop : openOf s = (some ⟨s, rs, last, false⟩, 0) := by unfold openOf; rw [HST.out]; simp only; rw [if_neg (by omega)]
      have HOP := Lib.hid hop
      clear hop
      go_wp2_with fail
      go_ret2
      unfold OpenPost
      rw [HOP.out]
      exact ⟨w.heap.size, G, A, c, ps, rfl, HS.out.fr HN.out (fun _ _ => id), HJ.out, HG.out, HN.out.mono fun _ h => h.elim⟩
end Go.Proofs.Ytefalfalapnllaa
