/- The words of a block, in the document's sum: the loop that makes them. -/
import Derived.Test.YtefalfalapnllaaR1W
namespace Go.Proofs.Ytefalfalapnllaa
open Go.RowKit Go.Shelf
set_option linter.unusedVariables false
attribute [local go_sem] v_s2 v_s3 v_s4 v_s5 v_s6 v_s7 v_not q_xor q_and q_or q_not q_s2 q_s3 q_s4 q_s5 q_s6 q_s7 q_m2 q_m4 q_m6 q_m7 q_d8 q_d1024
/-- a block of a function's code -/
def blk (n : Nat) : Code → Code
  | .block i b => if i = n then .block i b else blk n b
  | .seq a b => match blk n a with
    | .skip => blk n b
    | c => c
  | .loop b => blk n b
  | .cond _ a b => match blk n a with
    | .skip => blk n b
    | c => c
  | _ => .skip
theorem run_indexS (F : List UInt8) (p : Nat) (b : UInt8) (h : F[p]? = some b) (w : World) : (Instr.index 9 (.string ⟨F.toArray⟩) (.int .i64 (p : Int))).run Try.prog w = .ok (.int .u8 (b.toNat : Int)) w := by
  obtain ⟨hp, he⟩ := List.getElem?_eq_some_iff.1 h
  have hsz : (⟨F.toArray⟩ : ByteArray).size = F.length := by simp [ByteArray.size]
  rw [run_index_string w 9 _ _ _ Try.underlying9, dif_pos ⟨by omega, by rw [hsz]; omega⟩]
  subst he
  rfl
set_option maxHeartbeats 4000000 in
set_option maxRecDepth 100000 in
theorem of_words {c : Code} (hc : c = blk 2 ((Try.f62.body).getD .skip)) (gw i : Nat) (F blk : List UInt8) (w5 : World) (HFL : Hid (F.length < 200000000000000)) (HBG : Hid (∀ j, j < 64 → F[64 * i + j]? = some (blk.getD j 0))) (hw5 : Blk w5 gw 135 (wl (made blk 0)))
    (t0 t1 t2 t4 t6 t10 t11 t12 t13 t14 t15 t16 t17 t18 t19 t20 t21 t22 t23 t24 t25 t26 t27 t28 t29 t30 t31 t32 t33 t34 t35 t36 t37 t38 t39 t40 t41 t42 t43 t44 t45 t46 t47 t48 t49 t50 t51 t52 t53 t54 t55 t56 t57 t58 t59 t60 t61 t62 t63 t64 t65 t66 t67 t68 t69 t70 t71 t72 t73 t74 t75 t76 t77 t78 t79 t80 t81 t82 t83 t84 t85 t86 t87 t88 t89 t90 t91 t92 t93 t94 t95 t96 t97 t98 t99 t100 t101 t102 t103 t104 t105 t106 t107 t108 t109 t110 t111 t112 t113 t114 t115 t116 t117 t118 t119 t120 t121 t122 t123 t124 t125 t126 t127 t128 t129 t130 t131 t132 t133 t134 t135 t136 t137 t138 t139 t140 t141 t142 t143 t144 t145 t146 t147 t148 t149 t150 t151 t152 t153 t154 t155 t156 t157 t158 t159 t160 t161 t162 t163 t164 t165 t166 t167 t168 t169 t170 t171 t172 t173 t174 t175 t176 t177 t178 t179 t180 t181 t182 t183 t184 t185 t186 t187 t188 t189 t190 t191 t192 t193 t194 t195 t196 t197 t198 t199 t200 t201 t202 t203 t204 t205 t206 t207 t208 t209 t210 t211 t212 t213 t214 t215 t216 t217 t218 t219 t220 t221 t222 t223 t224 t225 t226 t227 t228 t229 t230 t231 t232 t233 t234 t235 t236 t237 t238 t239 t240 t241 t242 t243 t244 t245 t246 t247 t248 t249 t250 t251 t252 t253 t254 t255 t256 t257 t258 t259 t260 t261 t262 t263 t264 t265 t266 t267 t268 t269 t270 t271 : Value) (Q : Exit → Act → World → Prop) (hQ : ∀ (v9 v10 v11 v12 v13 v14 v35 v36 v37 v38 v39 v40 v41 v42 v43 v44 v45 v46 v47 v48 v49 v50 v51 v52 v53 v54 v55 v56 v57 v58 v59 v60 v61 v62 v63 v64 v65 v66 v67 v68 v69 v70 v71 v72 v73 v74 v75 v76 v77 v78 v79 v80 v81 v82 v83 v84 v85 v86 v87 v88 v89 v90 v91 v92 v93 v94 v95 v96 v97 v98 v99 v100 v101 v102 v103 v104 v105 v106 v107 v108 : Value) (W' : World), Blk W' gw 135 (wl (Sha.sched blk 64)) → Fr (fun j => j = gw) w5 W' → Q .normal { tmps := #[t0, t1, t2, .string ⟨F.toArray⟩, t4, .int .u64 4294967296, t6, .int .i64 (64 * (i : Int)), .slice (some ⟨gw, 0, none⟩) 64 64, v9, v10, v11, v12, v13, v14, t15, t16, t17, t18, t19, t20, t21, t22, t23, t24, t25, t26, t27, t28, t29, t30, t31, t32, t33, t34, v35, v36, v37, v38, v39, v40, v41, v42, v43, v44, v45, v46, v47, v48, v49, v50, v51, v52, v53, v54, v55, v56, v57, v58, v59, v60, v61, v62, v63, v64, v65, v66, v67, v68, v69, v70, v71, v72, v73, v74, v75, v76, v77, v78, v79, v80, v81, v82, v83, v84, v85, v86, v87, v88, v89, v90, v91, v92, v93, v94, v95, v96, v97, v98, v99, v100, v101, v102, v103, v104, v105, v106, v107, v108, t109, t110, t111, t112, t113, t114, t115, t116, t117, t118, t119, t120, t121, t122, t123, t124, t125, t126, t127, t128, t129, t130, t131, t132, t133, t134, t135, t136, t137, t138, t139, t140, t141, t142, t143, t144, t145, t146, t147, t148, t149, t150, t151, t152, t153, t154, t155, t156, t157, t158, t159, t160, t161, t162, t163, t164, t165, t166, t167, t168, t169, t170, t171, t172, t173, t174, t175, t176, t177, t178, t179, t180, t181, t182, t183, t184, t185, t186, t187, t188, t189, t190, t191, t192, t193, t194, t195, t196, t197, t198, t199, t200, t201, t202, t203, t204, t205, t206, t207, t208, t209, t210, t211, t212, t213, t214, t215, t216, t217, t218, t219, t220, t221, t222, t223, t224, t225, t226, t227, t228, t229, t230, t231, t232, t233, t234, t235, t236, t237, t238, t239, t240, t241, t242, t243, t244, t245, t246, t247, t248, t249, t250, t251, t252, t253, t254, t255, t256, t257, t258, t259, t260, t261, t262, t263, t264, t265, t266, t267, t268, t269, t270, t271], defers := [] } W') :
    Code.wp Try.prog c Q { tmps := #[t0, t1, t2, .string ⟨F.toArray⟩, t4, .int .u64 4294967296, t6, .int .i64 (64 * (i : Int)), .slice (some ⟨gw, 0, none⟩) 64 64, .int .i64 0, t10, t11, t12, t13, t14, t15, t16, t17, t18, t19, t20, t21, t22, t23, t24, t25, t26, t27, t28, t29, t30, t31, t32, t33, t34, t35, t36, t37, t38, t39, t40, t41, t42, t43, t44, t45, t46, t47, t48, t49, t50, t51, t52, t53, t54, t55, t56, t57, t58, t59, t60, t61, t62, t63, t64, t65, t66, t67, t68, t69, t70, t71, t72, t73, t74, t75, t76, t77, t78, t79, t80, t81, t82, t83, t84, t85, t86, t87, t88, t89, t90, t91, t92, t93, t94, t95, t96, t97, t98, t99, t100, t101, t102, t103, t104, t105, t106, t107, t108, t109, t110, t111, t112, t113, t114, t115, t116, t117, t118, t119, t120, t121, t122, t123, t124, t125, t126, t127, t128, t129, t130, t131, t132, t133, t134, t135, t136, t137, t138, t139, t140, t141, t142, t143, t144, t145, t146, t147, t148, t149, t150, t151, t152, t153, t154, t155, t156, t157, t158, t159, t160, t161, t162, t163, t164, t165, t166, t167, t168, t169, t170, t171, t172, t173, t174, t175, t176, t177, t178, t179, t180, t181, t182, t183, t184, t185, t186, t187, t188, t189, t190, t191, t192, t193, t194, t195, t196, t197, t198, t199, t200, t201, t202, t203, t204, t205, t206, t207, t208, t209, t210, t211, t212, t213, t214, t215, t216, t217, t218, t219, t220, t221, t222, t223, t224, t225, t226, t227, t228, t229, t230, t231, t232, t233, t234, t235, t236, t237, t238, t239, t240, t241, t242, t243, t244, t245, t246, t247, t248, t249, t250, t251, t252, t253, t254, t255, t256, t257, t258, t259, t260, t261, t262, t263, t264, t265, t266, t267, t268, t269, t270, t271], defers := [] } w5 := by
  subst hc
  conv => arg 2; whnf
  go_wp2_with fail
  go_loopw [9] (fun k W => ∃ n : Nat, k = .int .i64 n ∧ n ≤ 64 ∧ Blk W gw 135 (wl (made blk n)) ∧ Fr (fun j => j = gw) w5 W) (fun k _ => 64 - (intOf k).toNat)
  case atStart => exact ⟨0, rfl, by omega, hw5, Fr.refl _ _⟩
  case round =>
    obtain ⟨k, rfl, hk, hw, hf⟩ := hrel
    clear hw5
    by_cases h16 : k < 16
    · have h16' : (k : Int) < 16 := by omega
      have h64' : (k : Int) < 64 := by omega
      have HQ := Lib.hid hQ
      clear hQ
      have hmk : Blk wr gw 135 (wl (making blk k 0)) := by rw [making_none blk (by omega)]; exact hw
      go_wp2_with fail
      go_loopw [10] (fun c W => ∃ n : Nat, c = .int .i64 n ∧ n ≤ 4 ∧ Blk W gw 135 (wl (making blk k n)) ∧ Fr (fun j => j = gw) w5 W) (fun c _ => 4 - (intOf c).toNat)
      case atStart => exact ⟨0, rfl, by omega, hmk, hf⟩
      case round =>
        obtain ⟨c, rfl, hc, hm, hfm⟩ := hrel
        clear hmk hw hf
        by_cases h4 : c < 4
        · have h4' : (c : Int) < 4 := by omega
          have hcell := wl_cell hm (j := k) (by rw [making_length blk c (by omega)]; omega)
          rw [making_get blk c (by omega)] at hcell
          have hfz := hm.frozen k
          have hst := wl_set hm k (pw blk k (c + 1))
          rw [making_set] at hst
          have hft := hfm.then_set (p := ⟨gw, k, none⟩) rfl (.int .u64 ((pw blk k (c + 1)).toNat : Int))
          have hlt4 := pw_lt blk k c (by omega)
          have hp4 : 256 ^ c ≤ 16777216 := by
            have := Nat.pow_le_pow_right (n := 256) (by decide) (show c ≤ 3 by omega)
            simpa using this
          have hstep := pw_step blk k c h4
          have hget := HBG.out (4 * k + c) (by omega)
          generalize blk.getD (4 * k + c) 0 = by_ at *
          generalize pw blk k (c + 1) = y at *
          generalize pw blk k c = x at *
          have hm1 : ((x.toNat : Int) * 256) % 18446744073709551616 = (x.toNat : Int) * 256 := by omega
          have hm2 : ((x.toNat : Int) * 256 + (by_.toNat : Int)) % 18446744073709551616 = (y.toNat : Int) := by have := y.isLt; omega
          have hm4 : IntKind.u64.wrap ((x.toNat : Int) * 256) = (x.toNat : Int) * 256 := by rw [IntKind.wrap_u64]; exact hm1
          have hm5 : IntKind.u64.wrap ((x.toNat : Int) * 256 + (by_.toNat : Int)) = (y.toNat : Int) := by rw [IntKind.wrap_u64]; exact hm2
          have hm3 : (by_.toNat : Int) % 18446744073709551616 = (by_.toNat : Int) := by have := UInt8.toNat_lt by_; omega
          obtain ⟨p1, hp1⟩ : ∃ p : Nat, p = 4 * k := ⟨_, rfl⟩
          obtain ⟨p2, hp2⟩ : ∃ p : Nat, p = 64 * i + p1 := ⟨_, rfl⟩
          obtain ⟨p3, hp3⟩ : ∃ p : Nat, p = p2 + c := ⟨_, rfl⟩
          rw [show 64 * i + (4 * k + c) = p3 by omega] at hget
          have hidx := run_indexS F p3 by_ hget
          have hFl := HFL.out
          have hp3F : p3 < F.length := (List.getElem?_eq_some_iff.1 hget).1
          have m1 : IntKind.i64.wrap (4 * (k : Int)) = (p1 : Int) := by rw [IntWalk.i64_in _ (by omega)]; omega
          have m2 : IntKind.i64.wrap (64 * (i : Int) + (p1 : Int)) = (p2 : Int) := by rw [IntWalk.i64_in _ (by omega)]; omega
          have m3 : IntKind.i64.wrap ((p2 : Int) + (c : Int)) = (p3 : Int) := by rw [IntWalk.i64_in _ (by omega)]; omega
          clear hm hfm hstep hlt4 hp4 hp1 hp2 hp3 hp3F hget hFl
          go_upto_region 16 with fail
          set_option maxRecDepth 20000 in go_still_tail 18, (by kernel_rfl)
          change wpList _ _ _ _ _ wr.drew
          go_wp2_with fail
          go_roundw
          case rel => exact ⟨c + 1, by go_num, by omega, hst, hft.then_drew⟩
          case measure => simp [intOf]; omega
        · obtain rfl : c = 4 := by omega
          rw [making_all blk (by omega)] at hm
          go_wp2_with fail
          refine ⟨⟨k + 1, by go_num, by omega, hm, hfm⟩, ?_⟩
          simp [intOf]
          omega
    · by_cases hlt : k < 64
      · have HQ := Lib.hid hQ
        clear hQ
        have PP : ∀ j, 1 ≤ j → j ≤ 16 → ∃ p : Nat, ∃ y : Sha.W, p + j = k ∧ (p : Int) < 64 ∧ y = (Sha.sched blk k).getD (k - j) 0 ∧ wr.cell? ⟨gw, p, none⟩ = some (.int .u64 (y.toNat : Int)) := fun j hj hj' => ⟨k - j, _, by omega, by omega, rfl, by rw [← made_get blk (by omega)]; exact wl_cell hw (by rw [made_length blk hk]; omega)⟩
        obtain ⟨p16, y16, e16, b16, z16, q16⟩ := PP 16 (by omega) (by omega)
        obtain ⟨p15, y15, e15, b15, z15, q15⟩ := PP 15 (by omega) (by omega)
        obtain ⟨p7, y7, e7, b7, z7, q7⟩ := PP 7 (by omega) (by omega)
        obtain ⟨p2, y2, e2, b2, z2, q2⟩ := PP 2 (by omega) (by omega)
        have hst := wl_set hw k (Sha.add (Sha.add (Sha.add y16 (Sha.xor (Sha.xor (Sha.rotr 7 y15) (Sha.rotr 18 y15)) (Sha.shr 3 y15))) y7) (Sha.xor (Sha.xor (Sha.rotr 17 y2) (Sha.rotr 19 y2)) (Sha.shr 10 y2)))
        have hft := hf.then_set (p := ⟨gw, k, none⟩) rfl (.int .u64 ((Sha.add (Sha.add (Sha.add y16 (Sha.xor (Sha.xor (Sha.rotr 7 y15) (Sha.rotr 18 y15)) (Sha.shr 3 y15))) y7) (Sha.xor (Sha.xor (Sha.rotr 17 y2) (Sha.rotr 19 y2)) (Sha.shr 10 y2))).toNat : Int))
        have hms : (made blk k).set k (Sha.add (Sha.add (Sha.add y16 (Sha.xor (Sha.xor (Sha.rotr 7 y15) (Sha.rotr 18 y15)) (Sha.shr 3 y15))) y7) (Sha.xor (Sha.xor (Sha.rotr 17 y2) (Sha.rotr 19 y2)) (Sha.shr 10 y2))) = made blk (k + 1) := by
          rw [made_succ blk (by omega), if_neg h16, z16, z15, z7, z2]
          rfl
        rw [hms] at hst
        have m16 : IntKind.i64.wrap ((k : Int) - 16) = (p16 : Int) := by rw [IntWalk.i64_in _ (by omega)]; omega
        have m15 : IntKind.i64.wrap ((k : Int) - 15) = (p15 : Int) := by rw [IntWalk.i64_in _ (by omega)]; omega
        have m7 : IntKind.i64.wrap ((k : Int) - 7) = (p7 : Int) := by rw [IntWalk.i64_in _ (by omega)]; omega
        have m2 : IntKind.i64.wrap ((k : Int) - 2) = (p2 : Int) := by rw [IntWalk.i64_in _ (by omega)]; omega
        clear PP e16 e15 e7 e2 z16 z15 z7 z2 hms
        have hcw := wl_cell hw (j := k) (by rw [made_length blk hk]; omega)
        have fcw := hw.frozen k
        clear hw hf
        have h16' : decide ((k : Int) < 16) = false := by rw [decide_eq_false_iff_not]; omega
        have h64' : (k : Int) < 64 := by omega
        go_upto_region 17 with fail
        go_quiet (fail)
        clear q15 q2
        go_upto_region 20 with fail
        refine (turn_7 _ _).mono ?_
        rintro e w1 ⟨rfl, n1, rfl⟩
        go_upto_region 20 with fail
        refine (turn_18 _ _).mono ?_
        rintro e w1 ⟨rfl, n2, rfl⟩
        go_upto_region 20 with fail
        refine (turn_17 _ _).mono ?_
        rintro e w1 ⟨rfl, n3, rfl⟩
        go_upto_region 20 with fail
        refine (turn_19 _ _).mono ?_
        rintro e w1 ⟨rfl, n4, rfl⟩
        go_upto_region 20 with fail
        have r16 : (wr.drewN (nq + n1 + n2 + n3 + n4)).cell? ⟨gw, p16, none⟩ = some (.int .u64 (y16.toNat : Int)) := q16
        have r7 : (wr.drewN (nq + n1 + n2 + n3 + n4)).cell? ⟨gw, p7, none⟩ = some (.int .u64 (y7.toNat : Int)) := q7
        have rcw : (wr.drewN (nq + n1 + n2 + n3 + n4)).cell? ⟨gw, k, none⟩ = some (.int .u64 (((made blk k).getD k 0).toNat : Int)) := hcw
        have rfw : (wr.drewN (nq + n1 + n2 + n3 + n4)).frozen? ⟨gw, k, none⟩ = false := fcw
        have hst2 : Blk ((wr.drewN (nq + n1 + n2 + n3 + n4)).setCell ⟨gw, k, none⟩ (.int .u64 ((Sha.add (Sha.add (Sha.add y16 (Sha.xor (Sha.xor (Sha.rotr 7 y15) (Sha.rotr 18 y15)) (Sha.shr 3 y15))) y7) (Sha.xor (Sha.xor (Sha.rotr 17 y2) (Sha.rotr 19 y2)) (Sha.shr 10 y2))).toNat : Int))) gw 135 (wl (made blk (k + 1))) := hst
        have hft2 : Fr (fun j => j = gw) w5 ((wr.drewN (nq + n1 + n2 + n3 + n4)).setCell ⟨gw, k, none⟩ (.int .u64 ((Sha.add (Sha.add (Sha.add y16 (Sha.xor (Sha.xor (Sha.rotr 7 y15) (Sha.rotr 18 y15)) (Sha.shr 3 y15))) y7) (Sha.xor (Sha.xor (Sha.rotr 17 y2) (Sha.rotr 19 y2)) (Sha.shr 10 y2))).toNat : Int))) := hft.then_drewN (nq + n1 + n2 + n3 + n4)
        clear hst hft q16 q7 hcw fcw
        generalize wr.drewN (nq + n1 + n2 + n3 + n4) = W at *
        set_option maxRecDepth 20000 in go_still_tail 20, (by kernel_rfl)
        change wpList _ _ _ _ _ W.drew
        go_wp2_with fail
        go_roundw
        case rel => exact ⟨k + 1, by go_num, by omega, hst2, hft2.then_drew⟩
        case measure => simp [intOf]; omega
      · obtain rfl : k = 64 := by omega
        rw [made_done] at hw
        have HQ := Lib.hid hQ
        clear hQ hk h16 hlt
        go_wp2_with fail
        apply HQ.out
        · exact hw
        · exact hf
end Go.Proofs.Ytefalfalapnllaa
