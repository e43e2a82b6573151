/- A block's rounds are added, in the document's sum. -/
import Derived.Test.YtefalfalapnllaaR1OR
namespace Go.Proofs.Ytefalfalapnllaa
open Go.RowKit Go.Shelf
set_option linter.unusedVariables false
attribute [local go_sem] v_s2 v_s3 v_s4 v_s5 v_s6 v_s7 v_not q_xor q_and q_or q_not q_s2 q_s3 q_s4 q_s5 q_s6 q_s7 q_m2 q_m4 q_m6 q_m7 q_d8 q_d1024
set_option maxHeartbeats 4000000 in
set_option maxRecDepth 100000 in
theorem of_adding {c : Code} (hc : c = blk 8 ((Try.f62.body).getD .skip)) (hb g cc : Nat) (st v : Sha.St) (wr : World) (hH8 : Blk wr hb 135 (wl (mix st v 0))) (hv : Rd wr (some ⟨g, 0, none⟩) (wv v)) (hne : hb < g)
    (t0 t1 t2 t3 t4 t7 t8 t9 t10 t11 t12 t13 t14 t16 t17 t18 t19 t20 t22 t23 t24 t25 t26 t27 t28 t29 t30 t31 t32 t33 t34 t35 t36 t37 t38 t39 t40 t41 t42 t43 t44 t45 t46 t47 t48 t49 t50 t51 t52 t53 t54 t55 t56 t57 t58 t59 t60 t61 t62 t63 t64 t65 t66 t67 t68 t69 t70 t71 t72 t73 t74 t75 t76 t77 t78 t79 t80 t81 t82 t83 t84 t85 t86 t87 t88 t89 t90 t91 t92 t93 t94 t95 t96 t97 t98 t99 t100 t101 t102 t103 t104 t105 t106 t107 t108 t109 t110 t111 t112 t113 t114 t115 t116 t117 t118 t119 t120 t121 t122 t123 t124 t125 t126 t127 t128 t129 t130 t131 t132 t133 t134 t135 t136 t137 t138 t139 t140 t141 t142 t143 t144 t145 t146 t147 t148 t149 t150 t151 t152 t153 t154 t155 t156 t157 t158 t159 t160 t161 t162 t163 t164 t165 t166 t167 t168 t169 t170 t171 t172 t173 t174 t175 t176 t177 t178 t179 t180 t181 t182 t183 t184 t185 t186 t187 t188 t189 t190 t191 t192 t193 t194 t195 t196 t197 t198 t199 t200 t201 t202 t203 t204 t205 t206 t207 t208 t209 t210 t211 t212 t213 t214 t215 t216 t217 t218 t219 t220 t221 t222 t223 t224 t225 t226 t227 t228 t229 t230 t231 t232 t233 t234 t235 t236 t237 t238 t239 t240 t241 t242 t243 t244 t245 t246 t247 t248 t249 t250 t251 t252 t253 t254 t255 t256 t257 t258 t259 t260 t261 t262 t263 t264 t265 t266 t267 t268 t269 t270 t271 : Value) (Q : Exit → Act → World → Prop) (hQ : ∀ (v21 v234 v235 v236 v237 v238 v239 v240 v241 v242 v243 v244 v245 v246 v247 v248 v249 v250 v251 : Value) (W' : World), Blk W' hb 135 (wl (lst (st.plus v))) → Fr (fun j => j = hb) wr W' → Q .normal { tmps := #[t0, t1, t2, t3, t4, .int .u64 4294967296, .slice (some ⟨hb, 0, none⟩) 8 8, t7, t8, t9, t10, t11, t12, t13, t14, .slice (some ⟨g, 0, none⟩) 8 cc, t16, t17, t18, t19, t20, v21, t22, t23, t24, t25, t26, t27, t28, t29, t30, t31, t32, t33, t34, t35, t36, t37, t38, t39, t40, t41, t42, t43, t44, t45, t46, t47, t48, t49, t50, t51, t52, t53, t54, t55, t56, t57, t58, t59, t60, t61, t62, t63, t64, t65, t66, t67, t68, t69, t70, t71, t72, t73, t74, t75, t76, t77, t78, t79, t80, t81, t82, t83, t84, t85, t86, t87, t88, t89, t90, t91, t92, t93, t94, t95, t96, t97, t98, t99, t100, t101, t102, t103, t104, t105, t106, t107, t108, t109, t110, t111, t112, t113, t114, t115, t116, t117, t118, t119, t120, t121, t122, t123, t124, t125, t126, t127, t128, t129, t130, t131, t132, t133, t134, t135, t136, t137, t138, t139, t140, t141, t142, t143, t144, t145, t146, t147, t148, t149, t150, t151, t152, t153, t154, t155, t156, t157, t158, t159, t160, t161, t162, t163, t164, t165, t166, t167, t168, t169, t170, t171, t172, t173, t174, t175, t176, t177, t178, t179, t180, t181, t182, t183, t184, t185, t186, t187, t188, t189, t190, t191, t192, t193, t194, t195, t196, t197, t198, t199, t200, t201, t202, t203, t204, t205, t206, t207, t208, t209, t210, t211, t212, t213, t214, t215, t216, t217, t218, t219, t220, t221, t222, t223, t224, t225, t226, t227, t228, t229, t230, t231, t232, t233, v234, v235, v236, v237, v238, v239, v240, v241, v242, v243, v244, v245, v246, v247, v248, v249, v250, v251, t252, t253, t254, t255, t256, t257, t258, t259, t260, t261, t262, t263, t264, t265, t266, t267, t268, t269, t270, t271], defers := [] } W') :
    Code.wp Try.prog c Q { tmps := #[t0, t1, t2, t3, t4, .int .u64 4294967296, .slice (some ⟨hb, 0, none⟩) 8 8, t7, t8, t9, t10, t11, t12, t13, t14, .slice (some ⟨g, 0, none⟩) 8 cc, t16, t17, t18, t19, t20, .int .i64 0, t22, t23, t24, t25, t26, t27, t28, t29, t30, t31, t32, t33, t34, t35, t36, t37, t38, t39, t40, t41, t42, t43, t44, t45, t46, t47, t48, t49, t50, t51, t52, t53, t54, t55, t56, t57, t58, t59, t60, t61, t62, t63, t64, t65, t66, t67, t68, t69, t70, t71, t72, t73, t74, t75, t76, t77, t78, t79, t80, t81, t82, t83, t84, t85, t86, t87, t88, t89, t90, t91, t92, t93, t94, t95, t96, t97, t98, t99, t100, t101, t102, t103, t104, t105, t106, t107, t108, t109, t110, t111, t112, t113, t114, t115, t116, t117, t118, t119, t120, t121, t122, t123, t124, t125, t126, t127, t128, t129, t130, t131, t132, t133, t134, t135, t136, t137, t138, t139, t140, t141, t142, t143, t144, t145, t146, t147, t148, t149, t150, t151, t152, t153, t154, t155, t156, t157, t158, t159, t160, t161, t162, t163, t164, t165, t166, t167, t168, t169, t170, t171, t172, t173, t174, t175, t176, t177, t178, t179, t180, t181, t182, t183, t184, t185, t186, t187, t188, t189, t190, t191, t192, t193, t194, t195, t196, t197, t198, t199, t200, t201, t202, t203, t204, t205, t206, t207, t208, t209, t210, t211, t212, t213, t214, t215, t216, t217, t218, t219, t220, t221, t222, t223, t224, t225, t226, t227, t228, t229, t230, t231, t232, t233, t234, t235, t236, t237, t238, t239, t240, t241, t242, t243, t244, t245, t246, t247, t248, t249, t250, t251, t252, t253, t254, t255, t256, t257, t258, t259, t260, t261, t262, t263, t264, t265, t266, t267, t268, t269, t270, t271], defers := [] } wr := by
  subst hc
  conv => arg 2; whnf
  have HQ := Lib.hid hQ
  clear hQ
  go_wp2_with fail
  go_loopw [21] (fun n W => ∃ k : Nat, n = .int .i64 k ∧ k ≤ 8 ∧ Blk W hb 135 (wl (mix st v k)) ∧ Fr (fun j => j = hb) wr W) (fun n _ => 8 - (intOf n).toNat)
  case atStart => exact ⟨0, rfl, by omega, hH8, Fr.refl _ _⟩
  case round =>
    obtain ⟨k, rfl, hk, hx, hf⟩ := hrel
    clear hH8
    by_cases hlt : k < 8
    · have c0 := wl_cell hx (j := k) (by rw [mix_length st v hk]; exact hlt)
      have c1 := wv_cell (hv.fr' hf (fun h0 k hk e => by simp [ab] at hk; omega)) k hlt
      have fcw := hx.frozen k
      have hst := wl_set hx k (Sha.add ((mix st v k).getD k 0) ((lst v).getD k 0))
      rw [mix_set st v hlt] at hst
      have hft := hf.then_set (p := ⟨hb, k, none⟩) rfl (.int .u64 ((Sha.add ((mix st v k).getD k 0) ((lst v).getD k 0)).toNat : Int))
      generalize (mix st v k).getD k 0 = x at *
      generalize (lst v).getD k 0 = y at *
      have hlt' : (k : Int) < 8 := by omega
      clear hx hf hv
      go_upto_region 33 with fail
      set_option maxRecDepth 20000 in go_still_tail 14, (by kernel_rfl)
      change wpList _ _ _ _ _ wr.drew
      go_wp2_with fail
      go_roundw
      case rel => exact ⟨k + 1, by go_num, by omega, hst, hft.then_drew⟩
      case measure => simp [intOf]; omega
    · obtain rfl : k = 8 := by omega
      have hx' : Blk wr hb 135 (wl (lst (st.plus v))) := hx
      clear hx hv hlt hk
      go_wp2_with fail
      apply HQ.out
      · exact hx'
      · exact hf
end Go.Proofs.Ytefalfalapnllaa
