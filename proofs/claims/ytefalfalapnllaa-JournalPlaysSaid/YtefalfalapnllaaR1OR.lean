/- The 64 rounds of a block, in the document's sum. -/
import Derived.Test.YtefalfalapnllaaR1OW
namespace Go.Proofs.Ytefalfalapnllaa
open Go.RowKit Go.Shelf
set_option linter.unusedVariables false
attribute [local go_sem] v_s2 v_s3 v_s4 v_s5 v_s6 v_s7 v_not q_xor q_and q_or q_not q_s2 q_s3 q_s4 q_s5 q_s6 q_s7 q_m2 q_m4 q_m6 q_m7 q_d8 q_d1024
set_option maxHeartbeats 4000000 in
set_option maxRecDepth 100000 in
theorem of_rounds {c : Code} (hc : c = blk 6 ((Try.f62.body).getD .skip)) (gw gk g0 c0 n0 : Nat) (blk : List UInt8) (st : Sha.St) (w6 : World) (hK7 : Blk w6 gk 135 (wl Sha.kTab)) (hw7 : Blk w6 gw 135 (wl (Sha.sched blk 64))) (hv0 : Rd w6 (some ⟨g0, 0, none⟩) (wv st)) (hg0 : n0 ≤ g0) (hn0 : n0 ≤ w6.heap.size)
    (t0 t1 t2 t3 t6 t7 t9 t10 t11 t12 t13 t14 t17 t18 t19 t20 t21 t22 t23 t24 t25 t26 t27 t28 t29 t30 t31 t32 t33 t34 t35 t36 t37 t38 t39 t40 t41 t42 t43 t44 t45 t46 t47 t48 t49 t50 t51 t52 t53 t54 t55 t56 t57 t58 t59 t60 t61 t62 t63 t64 t65 t66 t67 t68 t69 t70 t71 t72 t73 t74 t75 t76 t77 t78 t79 t80 t81 t82 t83 t84 t85 t86 t87 t88 t89 t90 t91 t92 t93 t94 t95 t96 t97 t98 t99 t100 t101 t102 t103 t104 t105 t106 t107 t108 t109 t110 t111 t112 t113 t114 t115 t116 t117 t118 t119 t120 t121 t122 t123 t124 t125 t126 t127 t128 t129 t130 t131 t132 t133 t134 t135 t136 t137 t138 t139 t140 t141 t142 t143 t144 t145 t146 t147 t148 t149 t150 t151 t152 t153 t154 t155 t156 t157 t158 t159 t160 t161 t162 t163 t164 t165 t166 t167 t168 t169 t170 t171 t172 t173 t174 t175 t176 t177 t178 t179 t180 t181 t182 t183 t184 t185 t186 t187 t188 t189 t190 t191 t192 t193 t194 t195 t196 t197 t198 t199 t200 t201 t202 t203 t204 t205 t206 t207 t208 t209 t210 t211 t212 t213 t214 t215 t216 t217 t218 t219 t220 t221 t222 t223 t224 t225 t226 t227 t228 t229 t230 t231 t232 t233 t234 t235 t236 t237 t238 t239 t240 t241 t242 t243 t244 t245 t246 t247 t248 t249 t250 t251 t252 t253 t254 t255 t256 t257 t258 t259 t260 t261 t262 t263 t264 t265 t266 t267 t268 t269 t270 t271 : Value) (Q : Exit → Act → World → Prop) (hQ : ∀ (g cc : Nat) (v16 v17 v18 v19 v20 v112 v113 v114 v115 v116 v117 v118 v119 v120 v121 v122 v123 v124 v125 v126 v127 v128 v129 v130 v131 v132 v133 v134 v135 v136 v137 v138 v139 v140 v141 v142 v143 v144 v145 v146 v147 v148 v149 v150 v151 v152 v153 v154 v155 v156 v157 v158 v159 v160 v161 v162 v163 v164 v165 v166 v167 v168 v169 v170 v171 v172 v173 v174 v175 v176 v177 v178 v179 v180 v181 v182 v183 v184 v185 v186 v187 v188 v189 v190 v191 v192 v193 v194 v195 v196 v197 v198 v199 v200 v201 v202 v203 v204 v205 v206 v207 v208 v209 v210 v211 v212 v213 v214 v215 v216 v217 v218 v219 v220 v221 v222 v223 v224 v225 v226 v227 v228 v229 v230 v231 v232 v233 : Value) (W' : World), Rd W' (some ⟨g, 0, none⟩) (wv (Sha.rounds blk st 64)) → n0 ≤ g → New w6 W' → Q .normal { tmps := #[t0, t1, t2, t3, .slice (some ⟨gk, 0, none⟩) 64 64, .int .u64 4294967296, t6, t7, .slice (some ⟨gw, 0, none⟩) 64 64, t9, t10, t11, t12, t13, t14, .slice (some ⟨g, 0, none⟩) 8 cc, v16, v17, v18, v19, v20, t21, t22, t23, t24, t25, t26, t27, t28, t29, t30, t31, t32, t33, t34, t35, t36, t37, t38, t39, t40, t41, t42, t43, t44, t45, t46, t47, t48, t49, t50, t51, t52, t53, t54, t55, t56, t57, t58, t59, t60, t61, t62, t63, t64, t65, t66, t67, t68, t69, t70, t71, t72, t73, t74, t75, t76, t77, t78, t79, t80, t81, t82, t83, t84, t85, t86, t87, t88, t89, t90, t91, t92, t93, t94, t95, t96, t97, t98, t99, t100, t101, t102, t103, t104, t105, t106, t107, t108, t109, t110, t111, v112, v113, v114, v115, v116, v117, v118, v119, v120, v121, v122, v123, v124, v125, v126, v127, v128, v129, v130, v131, v132, v133, v134, v135, v136, v137, v138, v139, v140, v141, v142, v143, v144, v145, v146, v147, v148, v149, v150, v151, v152, v153, v154, v155, v156, v157, v158, v159, v160, v161, v162, v163, v164, v165, v166, v167, v168, v169, v170, v171, v172, v173, v174, v175, v176, v177, v178, v179, v180, v181, v182, v183, v184, v185, v186, v187, v188, v189, v190, v191, v192, v193, v194, v195, v196, v197, v198, v199, v200, v201, v202, v203, v204, v205, v206, v207, v208, v209, v210, v211, v212, v213, v214, v215, v216, v217, v218, v219, v220, v221, v222, v223, v224, v225, v226, v227, v228, v229, v230, v231, v232, v233, t234, t235, t236, t237, t238, t239, t240, t241, t242, t243, t244, t245, t246, t247, t248, t249, t250, t251, t252, t253, t254, t255, t256, t257, t258, t259, t260, t261, t262, t263, t264, t265, t266, t267, t268, t269, t270, t271], defers := [] } W') :
    Code.wp Try.prog c Q { tmps := #[t0, t1, t2, t3, .slice (some ⟨gk, 0, none⟩) 64 64, .int .u64 4294967296, t6, t7, .slice (some ⟨gw, 0, none⟩) 64 64, t9, t10, t11, t12, t13, t14, .slice (some ⟨g0, 0, none⟩) 8 c0, .int .i64 0, t17, t18, t19, t20, t21, t22, t23, t24, t25, t26, t27, t28, t29, t30, t31, t32, t33, t34, t35, t36, t37, t38, t39, t40, t41, t42, t43, t44, t45, t46, t47, t48, t49, t50, t51, t52, t53, t54, t55, t56, t57, t58, t59, t60, t61, t62, t63, t64, t65, t66, t67, t68, t69, t70, t71, t72, t73, t74, t75, t76, t77, t78, t79, t80, t81, t82, t83, t84, t85, t86, t87, t88, t89, t90, t91, t92, t93, t94, t95, t96, t97, t98, t99, t100, t101, t102, t103, t104, t105, t106, t107, t108, t109, t110, t111, t112, t113, t114, t115, t116, t117, t118, t119, t120, t121, t122, t123, t124, t125, t126, t127, t128, t129, t130, t131, t132, t133, t134, t135, t136, t137, t138, t139, t140, t141, t142, t143, t144, t145, t146, t147, t148, t149, t150, t151, t152, t153, t154, t155, t156, t157, t158, t159, t160, t161, t162, t163, t164, t165, t166, t167, t168, t169, t170, t171, t172, t173, t174, t175, t176, t177, t178, t179, t180, t181, t182, t183, t184, t185, t186, t187, t188, t189, t190, t191, t192, t193, t194, t195, t196, t197, t198, t199, t200, t201, t202, t203, t204, t205, t206, t207, t208, t209, t210, t211, t212, t213, t214, t215, t216, t217, t218, t219, t220, t221, t222, t223, t224, t225, t226, t227, t228, t229, t230, t231, t232, t233, t234, t235, t236, t237, t238, t239, t240, t241, t242, t243, t244, t245, t246, t247, t248, t249, t250, t251, t252, t253, t254, t255, t256, t257, t258, t259, t260, t261, t262, t263, t264, t265, t266, t267, t268, t269, t270, t271], defers := [] } w6 := by
  subst hc
  conv => arg 2; whnf
  go_wp2_with fail
  go_loopw [15, 16] (fun v n W => ∃ g c k : Nat, v = .slice (some ⟨g, 0, none⟩) 8 c ∧ n = .int .i64 k ∧ k ≤ 64 ∧ Rd W (some ⟨g, 0, none⟩) (wv (Sha.rounds blk st k)) ∧ n0 ≤ g ∧ New w6 W) (fun _ n _ => 64 - (intOf n).toNat)
  case atStart => exact ⟨g0, c0, 0, rfl, rfl, by omega, hv0, hg0, Fr.refl _ _⟩
  case round =>
    obtain ⟨g, cc, k, rfl, rfl, hk, hv, hg, hNr⟩ := hrel
    clear hv0 hg0
    have HQ := Lib.hid hQ
    clear hQ
    by_cases hlt : k < 64
    · have hnr := hNr.size
      have hkc := wl_cell (hK7.fr hNr id) (j := k) hlt
      have hwc := wl_cell (hw7.fr hNr id) (j := k) (by rw [Sha.sched_length]; exact hlt)
      have hsu : Sha.rounds blk st (k + 1) = Sha.round (Sha.rounds blk st k) (Sha.kTab.getD k 0) ((Sha.sched blk 64).getD k 0) := rfl
      generalize Sha.kTab.getD k 0 = kk at *
      generalize (Sha.sched blk 64).getD k 0 = ww at *
      generalize Sha.rounds blk st k = v at *
      have d0 : wr.cell? ⟨g, 0, none⟩ = some (.int .u64 v.a.toNat) := wv_cell hv 0 (by decide)
      have d1 : wr.cell? ⟨g, 1, none⟩ = some (.int .u64 v.b.toNat) := wv_cell hv 1 (by decide)
      have d2 : wr.cell? ⟨g, 2, none⟩ = some (.int .u64 v.c.toNat) := wv_cell hv 2 (by decide)
      have d3 : wr.cell? ⟨g, 3, none⟩ = some (.int .u64 v.d.toNat) := wv_cell hv 3 (by decide)
      have d4 : wr.cell? ⟨g, 4, none⟩ = some (.int .u64 v.e.toNat) := wv_cell hv 4 (by decide)
      have d5 : wr.cell? ⟨g, 5, none⟩ = some (.int .u64 v.f.toNat) := wv_cell hv 5 (by decide)
      have d6 : wr.cell? ⟨g, 6, none⟩ = some (.int .u64 v.g.toNat) := wv_cell hv 6 (by decide)
      have d7 : wr.cell? ⟨g, 7, none⟩ = some (.int .u64 v.h.toNat) := wv_cell hv 7 (by decide)
      have hlt' : (k : Int) < 64 := by omega
      have HG := Lib.hid hg
      have HNR := Lib.hid hNr
      have HS := Lib.hid hsu
      clear hv hg hNr hsu hK7 hw7
      go_upto_region 25 with fail
      go_quiet (fail)
      revert nq
      intro n1
      go_upto_region 26 with fail
      go_quiet (fail)
      revert nq
      intro n2
      go_upto_region 27 with fail
      (refine wp_region_quiet_lit (by kernel_rfl) (by kernel_rfl) ?_; repeat (quiet_step (fail)))
      (quiet_step (exact quiet_turn (turn_6 _ _)); repeat (quiet_step (fail)))
      (quiet_step (exact quiet_turn (turn_11 _ _)); repeat (quiet_step (fail)))
      (quiet_step (exact quiet_turn (turn_25 _ _)); repeat (quiet_step (fail)))
      refine wpQuiet_nil ?_
      intro _ hw1
      obtain ⟨nq, hw2⟩ := hw1
      subst hw2
      revert nq
      intro n3
      go_upto_region 28 with fail
      (refine wp_region_quiet_lit (by kernel_rfl) (by kernel_rfl) ?_; repeat (quiet_step (fail)))
      (quiet_step (exact quiet_turn (turn_2 _ _)); repeat (quiet_step (fail)))
      (quiet_step (exact quiet_turn (turn_13 _ _)); repeat (quiet_step (fail)))
      (quiet_step (exact quiet_turn (turn_22 _ _)); repeat (quiet_step (fail)))
      refine wpQuiet_nil ?_
      intro _ hw1
      obtain ⟨nq, hw2⟩ := hw1
      subst hw2
      revert nq
      intro n4
      go_upto_region 29 with fail
      have f0 : ((((wr.drewN n1).drewN n2).drewN n3).drewN n4).cell? ⟨g, 0, none⟩ = some (.int .u64 v.a.toNat) := d0
      have f1 : ((((wr.drewN n1).drewN n2).drewN n3).drewN n4).cell? ⟨g, 1, none⟩ = some (.int .u64 v.b.toNat) := d1
      have f2 : ((((wr.drewN n1).drewN n2).drewN n3).drewN n4).cell? ⟨g, 2, none⟩ = some (.int .u64 v.c.toNat) := d2
      have f3 : ((((wr.drewN n1).drewN n2).drewN n3).drewN n4).cell? ⟨g, 3, none⟩ = some (.int .u64 v.d.toNat) := d3
      have f4 : ((((wr.drewN n1).drewN n2).drewN n3).drewN n4).cell? ⟨g, 4, none⟩ = some (.int .u64 v.e.toNat) := d4
      have f5 : ((((wr.drewN n1).drewN n2).drewN n3).drewN n4).cell? ⟨g, 5, none⟩ = some (.int .u64 v.f.toNat) := d5
      have f6 : ((((wr.drewN n1).drewN n2).drewN n3).drewN n4).cell? ⟨g, 6, none⟩ = some (.int .u64 v.g.toNat) := d6
      have HW := Lib.hid (show New w6 ((((wr.drewN n1).drewN n2).drewN n3).drewN n4) from (((HNR.out.then_drewN _).then_drewN _).then_drewN _).then_drewN _)
      clear d0 d1 d2 d3 d4 d5 d6 d7 hkc hwc HNR
      generalize (((wr.drewN n1).drewN n2).drewN n3).drewN n4 = W at *
      set_option maxRecDepth 20000 in go_still_tail 30, (by kernel_rfl)
      change wpList _ _ _ _ _ W.drew
      go_wp2_with fail
      go_roundw
      case rel =>
        refine ⟨W.heap.size, 8, k + 1, rfl, by go_num, by omega, ?_, ?_, HW.out.then_drew.then_alloc _⟩
        · rw [HS.out]
          have hrd := Rd.lit W.drew (wv (Sha.round v kk ww)) 135 (0, 0)
          unfold wv at hrd ⊢
          rw [round_lst] at hrd ⊢
          exact hrd
        · have := HW.out.size
          omega
      case measure => simp [intOf]; omega
    · obtain rfl : k = 64 := by omega
      clear hlt hk hK7 hw7
      go_wp2_with fail
      apply HQ.out
      · exact hv
      · exact hg
      · exact hNr
end Go.Proofs.Ytefalfalapnllaa
