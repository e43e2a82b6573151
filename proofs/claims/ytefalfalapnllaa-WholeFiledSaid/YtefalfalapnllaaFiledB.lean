/- WholeFiled: all that is sure is looked at. (Printed by gen_filed.py.) -/
import Derived.Test.YtefalfalapnllaaFiledA
import Derived.Deep.RegionWith
import Derived.Deep.DeepCutAuto
namespace Go.Proofs.Ytefalfalapnllaa
open Go.RowKit Go.Shelf
set_option linter.unusedVariables false
/-- a block of a function's code -/
def fblk (n : Nat) : Code → Code
  | .block i b => if i = n then .block i b else fblk n b
  | .seq a b => match fblk n a with
    | .skip => fblk n b
    | c => c
  | .loop b => fblk n b
  | .cond _ a b => match fblk n a with
    | .skip => fblk n b
    | c => c
  | _ => .skip
/-- what is sure, with any steps left -/
def KW (w0 : World) (p q : Nat) (rs : List (List UInt8)) (A : Option Addr) (c : Nat) (W : World) : Prop := ∃ st, KS w0 p q ((jof 1048576 rs).brk st) A c rs none [] W
set_option maxHeartbeats 8000000 in
set_option maxRecDepth 100000 in
theorem wf_check {c0 : Code} (hc : c0 = fblk 2 ((Try.f8.body).getD .skip)) (w0 : World) (p q : Nat) (rs : List (List UInt8)) (A : Option Addr) (c : Nat) (W : World) (HK : Hid (KW w0 p q rs A c W)) (HRS : Hid (∀ d ∈ rs, Kept d)) (hn : rs.length ≤ 16)
    (t0 t1 t2 t3 t4 t6 t8 t9 t10 t11 t12 t13 t14 t15 t16 t17 t18 t19 t20 t21 t22 t23 t24 t25 t26 t27 t28 t29 t30 t31 t32 t33 t34 t35 t36 t37 t38 t39 t40 t41 t42 t43 t44 t45 t46 t47 t48 t49 t50 t51 t52 t53 t54 t55 t56 t57 t58 t59 t60 t61 t62 t63 t64 t65 t66 t67 t68 t69 t70 t71 t72 t73 t74 t75 t76 t77 t78 t79 t80 t81 t82 t83 t84 t85 t86 t87 t88 t89 t90 t91 t92 t93 t94 t95 t96 t97 t98 t99 t100 t101 t102 t103 t104 t105 t106 t107 t108 t109 t110 t111 t112 t113 t114 t115 t116 t117 t118 t119 t120 t121 t122 t123 t124 t125 t126 t127 t128 t129 t130 t131 t132 t133 t134 t135 t136 t137 t138 t139 t140 t141 t142 t143 t144 t145 t146 t147 t148 t149 t150 t151 t152 t153 t154 t155 t156 t157 t158 t159 t160 t161 t162 t163 t164 t165 t166 t167 t168 t169 t170 t174 t175 t176 t177 t178 t179 t180 t181 t182 t183 t184 t185 t186 t187 t188 t189 t190 t191 t192 t193 t194 t195 t196 t197 t198 t199 t200 t201 t202 t203 t204 t205 : Value) (Q : Exit → Act → World → Prop) (hQ : Hid (∀ (u4 u16 u17 u18 u19 u20 u21 u173 u174 u175 u176 u177 u178 u179 u180 u181 u182 u183 u184 u185 u186 u187 u188 u189 u190 u191 u192 u193 u194 u195 u196 u197 u198 u199 : Value) W', KW w0 p q rs A c W' → Q .normal { tmps := #[t0, t1, t2, t3, u4, .pointer (some ⟨p, 0, none⟩), t6, .pointer (some ⟨q, 0, none⟩), t8, t9, t10, t11, t12, t13, t14, t15, u16, u17, u18, u19, u20, u21, t22, t23, t24, t25, t26, t27, t28, t29, t30, t31, t32, t33, t34, t35, t36, t37, t38, t39, t40, t41, t42, t43, t44, t45, t46, t47, t48, t49, t50, t51, t52, t53, t54, t55, t56, t57, t58, t59, t60, t61, t62, t63, t64, t65, t66, t67, t68, t69, t70, t71, t72, t73, t74, t75, t76, t77, t78, t79, t80, t81, t82, t83, t84, t85, t86, t87, t88, t89, t90, t91, t92, t93, t94, t95, t96, t97, t98, t99, t100, t101, t102, t103, t104, t105, t106, t107, t108, t109, t110, t111, t112, t113, t114, t115, t116, t117, t118, t119, t120, t121, t122, t123, t124, t125, t126, t127, t128, t129, t130, t131, t132, t133, t134, t135, t136, t137, t138, t139, t140, t141, t142, t143, t144, t145, t146, t147, t148, t149, t150, t151, t152, t153, t154, t155, t156, t157, t158, t159, t160, t161, t162, t163, t164, t165, t166, t167, t168, t169, t170, .slice A rs.length c, .int .i64 (rs.length : Int), u173, u174, u175, u176, u177, u178, u179, u180, u181, u182, u183, u184, u185, u186, u187, u188, u189, u190, u191, u192, u193, u194, u195, u196, u197, u198, u199, t200, t201, t202, t203, t204, t205], defers := [] } W')) :
    Code.wp Try.prog c0 Q { tmps := #[t0, t1, t2, t3, t4, .pointer (some ⟨p, 0, none⟩), t6, .pointer (some ⟨q, 0, none⟩), t8, t9, t10, t11, t12, t13, t14, t15, t16, t17, t18, t19, t20, t21, t22, t23, t24, t25, t26, t27, t28, t29, t30, t31, t32, t33, t34, t35, t36, t37, t38, t39, t40, t41, t42, t43, t44, t45, t46, t47, t48, t49, t50, t51, t52, t53, t54, t55, t56, t57, t58, t59, t60, t61, t62, t63, t64, t65, t66, t67, t68, t69, t70, t71, t72, t73, t74, t75, t76, t77, t78, t79, t80, t81, t82, t83, t84, t85, t86, t87, t88, t89, t90, t91, t92, t93, t94, t95, t96, t97, t98, t99, t100, t101, t102, t103, t104, t105, t106, t107, t108, t109, t110, t111, t112, t113, t114, t115, t116, t117, t118, t119, t120, t121, t122, t123, t124, t125, t126, t127, t128, t129, t130, t131, t132, t133, t134, t135, t136, t137, t138, t139, t140, t141, t142, t143, t144, t145, t146, t147, t148, t149, t150, t151, t152, t153, t154, t155, t156, t157, t158, t159, t160, t161, t162, t163, t164, t165, t166, t167, t168, t169, t170, .slice A rs.length c, .int .i64 (rs.length : Int), .int .i64 0, t174, t175, t176, t177, t178, t179, t180, t181, t182, t183, t184, t185, t186, t187, t188, t189, t190, t191, t192, t193, t194, t195, t196, t197, t198, t199, t200, t201, t202, t203, t204, t205], defers := [] } W := by
  subst hc
  conv => arg 2; whnf
  obtain ⟨im, him, hm0, hm1, hm2⟩ := info_parts infoMsg
  have hms0 : (mc 0 0 0 0 0 0 z32 none 0 0 none 0 0 none 0 0).size = 41 := rfl
  obtain ⟨M0, hM0⟩ : ∃ M0, mc 0 0 0 0 0 0 z32 none 0 0 none 0 0 none 0 0 = M0 := ⟨_, rfl⟩
  rw [hM0] at hm0 hms0
  have HMS0 := Lib.hid hms0
  clear hM0 hms0
  obtain ⟨n, hrn⟩ : ∃ n, rs.length = n := ⟨_, rfl⟩
  have HRN := Lib.hid hrn
  rw [hrn] at hn ⊢
  simp only [hrn] at hQ
  clear hrn
  go_wp2_with fail
  go_loopw [173] (fun v V => ∃ i : Nat, v = .int .i64 i ∧ i ≤ n ∧ KW w0 p q rs A c V) (fun v _ => n - (intOf v).toNat)
  case atStart => exact ⟨0, rfl, Nat.zero_le _, HK.out⟩
  case round =>
    obtain ⟨i, rfl, hi, hK⟩ := hrel
    by_cases hin : i < n
    · obtain ⟨st, hK⟩ := hK
      have hrow := hK.row
      obtain ⟨g, off, rfl, hgl, hcell⟩ := hrow.rd (by rw [List.length_map]; have := HRN.out; omega)
      have hil : i < rs.length := by have := HRN.out; omega
      have hci := hcell i (by rw [List.length_map]; exact hil)
      simp only [List.getElem_map, sv] at hci
      obtain ⟨x, hx⟩ : ∃ x, rs[i] = x := ⟨_, rfl⟩
      have hget : rs[i]? = some x := by rw [List.getElem?_eq_getElem hil, hx]
      rw [hx] at hci
      have hkept := HRS.out x (List.mem_of_getElem? hget)
      have hxl := hkept.len
      have hat := hK.At i x (by rw [show ((jof 1048576 rs).brk st).rs = rs from rfl]; exact hget) (by omega) (by rw [show ((jof 1048576 rs).brk st).rs = rs from rfl]; have := HRN.out; omega)
      have HAT := Lib.hid hat
      have HKEPT := Lib.hid hkept
      clear hcell hx hget hrow hat hkept hK HK
      go_wp2_with fail
      refine HAT.out.mono ?_
      rintro e W7 ⟨A7, c7, rfl, hR7, hK7⟩
      obtain ⟨k, n1, n2, n3, n4, n5, id, data, ids, hb, hk, hok, hid, hd, hids, hie⟩ := HKEPT.out
      have hcap := hR7.row.cap
      rw [List.length_map] at hcap
      have hread := pk_read W7 k n1 n2 n3 n4 n5 id data ids A7 c7 hk hok hid (by omega) hids hie (by rw [← hb]; exact hR7.row.rd) (by rw [← hb]; exact hcap)
      rw [← hb] at hread
      have hq := Rd.str c7 hR7.row.rd
      have HREAD := Lib.hid hread
      have HK7 := Lib.hid hK7
      clear hread hR7 hK7 hb hcap HAT
      generalize x.length = xl at *
      go_wp2_with fail
      refine HREAD.out.mono ?_
      rintro e W8 ⟨⟨X, rfl, hX, hX1⟩, hN8⟩
      have HX1 := Lib.hid hX1
      have HXS := Lib.hid (show im.size = X.size by rw [hm1, hX])
      have HXZ := Lib.hid (show M0.size = X.size by rw [HMS0.out, hX])
      have HK8 := Lib.hid ((HK7.out.new hN8).new (Fr.alloc _ W8 (.cells X 64)))
      clear hX hX1 hN8 HREAD hq hci
      go_wp2_with (first
        | (refine x_value (x_alloc (T := 64) rfl him hm0) (by simp [go_sem, Region.wanted, yielded]) ?_)
        | (refine x_skip (exec_store_new (T := 64) (X := X) (Z := M0) rfl rfl rfl rfl him HXS.out HX1.out HXZ.out) rfl ?_))
      go_roundw
      case rel => exact ⟨i + 1, by go_num, by omega, st, HK8.out⟩
      case measure => simp [intOf]; omega
    · obtain rfl : i = n := by omega
      have HKE := Lib.hid hK
      clear hK HK
      go_wp2_with fail
      exact hQ.out _ _ _ _ _ _ _ _ _ _ _ _ _ _ _ _ _ _ _ _ _ _ _ _ _ _ _ _ _ _ _ _ _ _ _ HKE.out
end Go.Proofs.Ytefalfalapnllaa
