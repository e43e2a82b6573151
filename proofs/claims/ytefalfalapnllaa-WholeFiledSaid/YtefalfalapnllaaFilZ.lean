/- Package pack: the rounds of Read's loop: the IDs. -/
import Derived.Test.YtefalfalapnllaaFilY
namespace Go.Proofs.Ytefalfalapnllaa
open Go.RowKit Go.Shelf
set_option linter.unusedVariables false
attribute [local go_sem] Oper.semAt_some
attribute [local irreducible] opHeld
set_option maxHeartbeats 8000000 in
set_option maxRecDepth 100000 in
theorem rd_ids {c : Code} (hc : c = rfBody ((Try.f37.body).getD .skip)) (l mb r rb nb g o cd q : Nat) (d : List UInt8) (k : Int) (W : World) (HM : Hid (MsgOk k none 0 0 mb W)) (HC : Hid (RdW mb r rb nb W)) (hq : 0 < q) (hq2 : q ≤ 64) (hd : d.length = 32 * q) (hRd : Rd W (some ⟨g, o, none⟩) (d.map bv)) (hcd : d.length ≤ cd) (hgm : g ≠ mb)
    (t0 t1 t2 t3 t9 t10 t11 t12 t13 t14 t15 t16 t17 t18 t19 t20 t21 t22 t23 t24 t25 t26 t27 t28 t29 t30 t31 t32 t33 t34 t35 t36 t37 t38 t39 t40 t41 t42 t43 t44 t45 t46 t47 t48 t49 t50 t51 t52 t53 t54 t55 t56 t57 t58 t59 t60 t61 t62 t63 t64 t65 t66 t67 t68 t69 t70 t71 t72 t73 t74 t75 t76 t77 t78 t79 t80 t81 t82 t83 t84 t85 t86 t87 t88 t89 t90 t91 t92 t93 t94 t95 t96 t97 t98 t99 t100 t101 t102 t103 t104 t105 t106 t107 t108 t109 t110 t111 t112 t113 t114 t115 t116 t117 t118 t119 t120 t121 t122 t123 t124 t125 t126 t127 t128 t129 t130 t131 t132 t133 t134 t135 t136 t137 t138 t139 t140 t141 t142 t143 t144 t145 t146 t147 t148 t149 t150 t151 t152 t153 t154 t155 t156 t157 t158 t159 t160 t161 t162 t163 t164 t165 t166 t167 t168 t169 t170 t171 t172 : Value) (Q : Exit → Act → World → Prop) (hQ : Hid (∀ tmps W' A ac, MsgOk k A q ac mb W' → Fr (fun j => j = mb) W W' → Q .normal { tmps := tmps, defers := [] } W')) :
    Code.wpIn (Fence.wide.inRound l) 4 Try.prog c Q { tmps := #[t0, t1, t2, t3, .pointer (some ⟨mb, 0, none⟩), .pointer (some ⟨rb, 0, none⟩), .pointer (some ⟨nb, 0, none⟩), .int .u8 8, .slice (some ⟨g, o, none⟩) d.length cd, t9, t10, t11, t12, t13, t14, t15, t16, t17, t18, t19, t20, t21, t22, t23, t24, t25, t26, t27, t28, t29, t30, t31, t32, t33, t34, t35, t36, t37, t38, t39, t40, t41, t42, t43, t44, t45, t46, t47, t48, t49, t50, t51, t52, t53, t54, t55, t56, t57, t58, t59, t60, t61, t62, t63, t64, t65, t66, t67, t68, t69, t70, t71, t72, t73, t74, t75, t76, t77, t78, t79, t80, t81, t82, t83, t84, t85, t86, t87, t88, t89, t90, t91, t92, t93, t94, t95, t96, t97, t98, t99, t100, t101, t102, t103, t104, t105, t106, t107, t108, t109, t110, t111, t112, t113, t114, t115, t116, t117, t118, t119, t120, t121, t122, t123, t124, t125, t126, t127, t128, t129, t130, t131, t132, t133, t134, t135, t136, t137, t138, t139, t140, t141, t142, t143, t144, t145, t146, t147, t148, t149, t150, t151, t152, t153, t154, t155, t156, t157, t158, t159, t160, t161, t162, t163, t164, t165, t166, t167, t168, t169, t170, t171, t172], defers := [] } W := by
  subst hc
  conv => arg 4; whnf
  obtain ⟨n1, n2, n3, n4, n5, id, Ad, nd, cdd, hB, hok, hid, hnd⟩ := HM.out
  obtain ⟨hrb, ⟨v, hr⟩, hnb, hrbm, hrm, hnbm⟩ := HC.out
  obtain ⟨ii, hii, hi0, hi1, hi2⟩ := info_parts infoID
  have HOK := Lib.hid hok
  have HRD := Lib.hid hRd
  have hq1 : ((32 * (q : Int)) == 0) = false := beq_false_of_ne (by omega)
  have hgW : g < W.heap.size := hRd.lt (by rw [List.length_map, hd]; omega) g rfl
  have HDL := Lib.hid hd
  rw [hd] at hcd ⊢
  have hcast : ((32 * q : Nat) : Int) = 32 * (q : Int) := by omega
  have HB := Lib.hid hB
  clear hok hRd hd hB
  gi_wp2_with fail
  gi_loopw [8] (fun bv8 V => ∃ (p o' c' ac : Nat) (A : Option Addr) (xs : List Value), p ≤ q ∧ bv8 = .slice (some ⟨g, o', none⟩) (32 * (q - p)) c' ∧ 32 * (q - p) ≤ c' ∧ Rd V (some ⟨g, o', none⟩) ((d.drop (32 * p)).map bv) ∧ Blk V mb 64 (mc k n1 n2 n3 n4 n5 id Ad nd cdd A p ac none 0 0) ∧ V.ownsRow 0 60 32 (.slice A p ac) p xs ∧ (∀ j, ab A = some j → W.heap.size ≤ j) ∧ Fr (fun j => j = mb) W V) (fun bv8 _ => match bv8 with | .slice _ n _ => n | _ => 0)
  case atStart => exact ⟨0, o, cd, 0, none, [], Nat.zero_le _, rfl, hcd, by simpa using HRD.out, HB.out, World.ownsRow_nil _ _ _ _, fun j hj => by simp [ab] at hj, Fr.refl _ _⟩
  case round =>
    obtain ⟨p, o', c', ac, A, xs, hp, rfl, hc', hR, hBr, hown, hA, hF⟩ := hrel
    by_cases hpq : p < q
    · have hdl := HDL.out
      obtain ⟨b, hb⟩ : ∃ b, (d.drop (32 * p)).take 32 = b := ⟨_, rfl⟩
      have hbl : b.length = 32 := by rw [← hb, List.length_take, List.length_drop, hdl]; omega
      have hRb : Rd wr (some ⟨g, o', none⟩) (b.map bv) := hb ▸ rd_take hR 32
      have HDS := Lib.hid (hi1.trans (show 32 = (ida b).size by rw [ida_size]; exact hbl.symm))
      have hgwr : g < wr.heap.size := Nat.lt_of_lt_of_le hgW hF.size
      obtain ⟨A2, c2, W2, hrun, hown2, hfr2, hA2⟩ := append_id (w := wr.drew) (b := b) (show wr.drew.ownsRow 0 60 32 (.slice A p ac) p xs from hown) hbl (by omega)
      have hmw := hBr.lt
      have hAm : ∀ V, Fr (fun k => some k = ab A) wr.drew V → Blk V mb 64 (mc k n1 n2 n3 n4 n5 id Ad nd cdd A p ac none 0 0) := fun V hV => (show Blk wr.drew mb 64 _ from hBr).fr hV (fun e => by have := hA mb e.symm; have := HB.out.lt; omega)
      have hAt : ∀ V, Fr (fun k => some k = ab A) wr.drew V → At V g o' (ida b) := fun V hV => at_of_rd ((show Rd wr.drew (some ⟨g, o', none⟩) (b.map bv) from hRb).fr hV (fun j hj e => by simp [ab] at hj; subst hj; have := hA _ e.symm; omega))
      obtain ⟨W1, hW1⟩ : ∃ W1, wr.drew.alloc (.cells (ida b) 60) = W1 := ⟨_, rfl⟩
      have hf1 : Fr (fun k => some k = ab A) wr.drew W1 := hW1 ▸ Fr.alloc _ wr.drew _
      have hB0 := hAm wr.drew (Fr.refl _ _)
      have hB1 := hAm W1 hf1
      have hB2 := hAm W2 hfr2
      obtain ⟨WE, hWE⟩ : ∃ WE, W2.setCell ⟨mb, 39, none⟩ (.slice A2 (p + 1) c2) = WE := ⟨_, rfl⟩
      have hBE := hB2.set 39 (.slice A2 (p + 1) c2)
      rw [mc_setids hid, hWE] at hBE
      have hFE : Fr (fun k => some k = ab A ∨ k = mb) wr WE := hWE ▸ (((Fr.drew (fun k => some k = ab A ∨ k = mb) wr).trans hfr2 (fun k hk => .inl (.inl hk))).then_set (p := ⟨mb, 39, none⟩) (.inr rfl) _)
      have hFEW : Fr (fun j => j = mb) W WE := hF.trans hFE (fun k hk => by
        rcases hk with h | h
        · exact .inr (hA k h.symm)
        · exact .inl h)
      have hA2n : ∀ j, ab A2 = some j → W.heap.size ≤ j := fun j hj => by
        rcases hA2 j hj with h | h
        · exact hA j h
        · exact Nat.le_trans hF.size h
      have hownE : WE.ownsRow 0 60 32 (.slice A2 (p + 1) c2) (p + 1) (xs ++ b.map bv) := hWE ▸ owns_fr hown2 (Fr.setCell (S := fun k => k = mb) W2 rfl _) (fun j hj e => by have := hA2n j hj; have := HB.out.lt; subst e; omega)
      have hRE := hR.fr hFE (fun j hj e => by
        simp [ab] at hj
        subst hj
        rcases e with e | e
        · have := hA _ e.symm; omega
        · exact hgm e)
      have hREd := rd_dropO hRE c' 32 (by rw [List.length_drop, hdl]; omega)
      rw [List.drop_drop] at hREd
      have h0c := fun V (hV : Blk V mb 64 (mc k n1 n2 n3 n4 n5 id Ad nd cdd A p ac none 0 0)) => (show V.cell? ⟨mb, 39, none⟩ = some (.slice A p ac) by rw [hV.cell]; simp [mc, hid])
      have hs1 : ∀ V, (Instr.slice 22 (.slice (some ⟨g, o', none⟩) (32 * (q - p)) c') none (some (.int .i64 32)) none).run Try.prog V = .ok (.slice (some ⟨g, o', none⟩) 32 c') V := fun V => sl_head g o' _ c' 32 (by omega) V
      have hs2 : ∀ V, (Instr.slice 22 (.slice (some ⟨g, o', none⟩) (32 * (q - p)) c') (some (.int .i64 32)) none none).run Try.prog V = .ok (.slice (some ⟨g, slO o' c' 32, none⟩) (32 * (q - p) - 32) (c' - 32)) V := fun V => sl_drop g o' _ c' 32 (by omega) (by omega) V
      have hpos : (0 : Int) < (((32 * (q - p) : Nat)) : Int) := by omega
      have HREd := Lib.hid hREd
      have HBE := Lib.hid hBE
      have HOE := Lib.hid hownE
      have HFEW := Lib.hid hFEW
      have HC0 := Lib.hid (h0c _ hB0)
      have HC1 := Lib.hid (h0c _ hB1)
      have hc2 := h0c _ hB2
      have HC2 := Lib.hid hc2
      have HA0 := Lib.hid (hAt _ (Fr.refl _ _))
      have HA1 := Lib.hid (hAt _ hf1)
      have HA2 := Lib.hid (hAt _ hfr2)
      have hz2 := hB2.frozen 39
      have HRUN := Lib.hid hrun
      have hm : 32 * (q - p) - 32 = 32 * (q - (p + 1)) := by omega
      have hc'' : 32 * (q - (p + 1)) ≤ c' - 32 := by omega
      generalize hmm : 32 * (q - p) = M at *
      clear hR hRb hBr hown hF hAm hAt hf1 hfr2 hB0 hB1 hB2 hBE hFE hFEW hownE hRE hREd h0c hb hown2 hA2 hrun
      gi_upto_region 26 with fail
      refine wpIn_region_all (fun _ => trivial) rfl (by kernel_rfl) (by kernel_rfl) [.pointer (some ⟨mb, 39, none⟩), .slice A p ac, .slice (some ⟨g, o', none⟩) M c', .slice (some ⟨g, o', none⟩) 32 c', .pointer (some ⟨g, o', none⟩), .agg (ida b), .slice (some ⟨wr.heap.size, 0, none⟩) 1 1, .slice A2 (p + 1) c2, .pointer (some ⟨mb, 39, none⟩), undef] (by kernel_rfl) (chS 9 [0, 1, 2, 3, 4, 5, 6, 7, 8] WE wr.drew [(6, W1), (7, W2)]) _ (by simp [putAll, Act.put]; rfl) (chS.zero 10) ?hops ?after
      case hops =>
        refine ⟨?_, ?_, ?_, ?_, ?_, ?_, ?_, ?_, ?_, ?_, trivial⟩
        all_goals
          rintro L W' hz hd hn HS
          refine held_plain rfl ?_
        · have H2 := HS.keep (by rw [hz]; decide) (by decide) hn (by simp)
          clear hd hn hz HS
          unfold opHeld
          go_simp
        · have H2 := HS.keep (by rw [hz]; decide) (by decide) hn (by simp)
          have hc : W'.cell? ⟨mb, 39, none⟩ = some (.slice A p ac) := by
            obtain ⟨kk, hk0, e⟩ := HS.at (HS.need (by rw [hz]; decide) (by decide) hn)
            rw [e]
            obtain rfl | rfl | rfl : kk = 0 ∨ kk = 1 ∨ kk = 2 := by simp at hk0; omega
            · exact HC0.out
            · exact HC1.out
            · exact HC2.out
          clear hd hn hz HS
          unfold opHeld
          go_simp
        · have H2 := HS.keep (by rw [hz]; decide) (by decide) hn (by simp)
          clear hd hn hz HS
          unfold opHeld
          go_simp
        · have H2 := HS.keep (by rw [hz]; decide) (by decide) hn (by simp)
          clear hd hn hz HS
          unfold opHeld
          go_simp
        · have H2 := HS.keep (by rw [hz]; decide) (by decide) hn (by simp)
          exact held_value (exec_s2a rfl rfl (by decide)) H2
        · have H2 := HS.keep (by rw [hz]; decide) (by decide) hn (by simp)
          have hAT : At W' g o' (ida b) := by
            obtain ⟨kk, hk0, e⟩ := HS.at (HS.need (by rw [hz]; decide) (by decide) hn)
            rw [e]
            obtain rfl | rfl | rfl : kk = 0 ∨ kk = 1 ∨ kk = 2 := by simp at hk0; omega
            · exact HA0.out
            · exact HA1.out
            · exact HA2.out
          exact held_value (exec_load (T := 60) (X := ida b) (g := g) (off := o') rfl rfl underID rfl hii HDS.out hAT) H2
        · obtain ⟨e, H2⟩ := HS.step (by rw [hz]; decide) 0 (V := W1) rfl (by
            intro j p hp hj
            obtain rfl | h : j = 1 ∨ 2 ≤ j := by omega
            · simp at hp; subst hp; simp
            · rw [List.getElem?_eq_none (by simp; omega)] at hp; cases hp) (by decide) (by rw [hz]; decide) (by decide) hn (fun _ h => absurd rfl h)
          obtain rfl : W' = wr.drew := e
          exact held_value (w' := W1) (by rw [← hW1]; exact exec_ids1 hbl rfl rfl) H2
        · obtain ⟨e, H2⟩ := HS.step (by rw [hz]; decide) 1 (V := W2) rfl (by
            intro j p hp hj
            obtain rfl | h : j = 0 ∨ 2 ≤ j := by omega
            · simp at hp; subst hp; simp
            · rw [List.getElem?_eq_none (by simp; omega)] at hp; cases hp) (by decide) (by rw [hz]; decide) (by decide) hn (fun p _ hp => by
              simp at hp; subst hp; exact hd ⟨6, .data⟩ (by simp) rfl)
          obtain rfl : W' = W1 := e
          exact held_value (w' := W2) (by rw [← hW1]; exact x_app rfl rfl rfl HRUN.out) H2
        · have H2 := HS.keep (by rw [hz]; decide) (by decide) hn (by simp)
          clear hd hn hz HS
          unfold opHeld
          go_simp
        · have hall : ∀ i ∈ [0, 1, 2, 3, 4, 5, 6, 7, 8], L.getD i true = true := by
            intro i hi
            simp only [List.mem_cons, List.not_mem_nil, or_false] at hi
            obtain rfl | rfl | rfl | rfl | rfl | rfl | rfl | rfl | rfl := hi
            iterate 8 exact getD_of_both (hd ⟨_, .phase⟩ (by simp) rfl)
            exact getD_of_both (hd ⟨8, .data⟩ (by simp) rfl)
          have h6 : L.getD 6 false = true := hd ⟨6, .phase⟩ (by simp) rfl
          have h7 : L.getD 7 false = true := hd ⟨7, .data⟩ (by simp) rfl
          obtain ⟨e, H2⟩ := HS.last (by rw [hz]; decide) hn hall (by
            intro p hp
            simp at hp
            rcases hp with rfl | rfl
            · exact ⟨by simp, h6⟩
            · exact ⟨by simp, h7⟩)
          obtain rfl : W' = W2 := e
          clear hd hn hz HS hall h6 h7
          unfold opHeld
          go_simp
      case after =>
        intro L w' hz hall HS
        obtain rfl := HS.end (by rw [hz]; decide) hall
        clear HS hall hz
        gi_wp2_with fail
        refine ⟨⟨p + 1, _, _, c2, A2, _, by omega, rfl, hc'', (by rw [show 32 * (p + 1) = 32 * p + 32 by omega]; exact HREd.out), HBE.out, HOE.out, hA2n, HFEW.out⟩, ?_⟩
        show 32 * (q - (p + 1)) < M
        omega
    · obtain rfl : p = q := by omega
      have e5 := (hrb.fr hF hrbm).cell 0
      have er := (hr.fr hF hrm).cell 1
      simp at e5 er
      have HBr := Lib.hid hBr
      have HF := Lib.hid hF
      clear hBr hF hown hR
      rw [Nat.sub_self]
      gi_wp2_with fail
      exact hQ.out _ _ A ac ⟨_, _, _, _, _, id, Ad, nd, cdd, HBr.out, HOK.out, hid, hnd⟩ HF.out
end Go.Proofs.Ytefalfalapnllaa
