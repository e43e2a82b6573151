/- WholeFiled: a round walked. (Printed by gen_filec2.py.) -/
import Derived.Test.YtefalfalapnllaaFiledC
namespace Go.Proofs.Ytefalfalapnllaa
open Go.RowKit Go.Shelf
set_option linter.unusedVariables false
set_option maxHeartbeats 16000000 in
set_option maxRecDepth 100000 in
theorem wf_round {c0 : Code} (hc : c0 = fblk 1 ((Try.f8.body).getD .skip)) (w : World) (p q i n nb : Nat) (rs : List (List UInt8)) (A2 : Option Addr) (c2 : Nat) (ms : List MsgD) (A : Option Addr) (cA : Nat) (B : Option Addr) (cB : Nat) (cs : List (Int × Int)) (wr : World)
    (HL : Hid (MsgsIn w A ms)) (HC : Hid (CutsIn w B cs)) (HN : Hid (ms.length = n)) (HNB : Hid (cs.length = nb)) (hrs : ∀ d ∈ rs, Kept d) (hK : KW w p q rs A2 c2 wr) (hin : i < n) (hri : rs.length ≤ i) (hn16 : n ≤ 16)
    (t0 t2 t3 t4 t6 t8 t10 t11 t12 t13 t14 t15 t16 t17 t18 t19 t20 t21 t22 t23 t24 t25 t26 t27 t28 t29 t30 t31 t32 t33 t34 t35 t36 t37 t38 t39 t40 t41 t42 t43 t44 t45 t46 t50 t51 t52 t53 t54 t55 t56 t57 t58 t59 t60 t61 t62 t63 t64 t65 t66 t67 t68 t69 t70 t71 t72 t73 t74 t75 t76 t77 t78 t79 t80 t81 t82 t83 t84 t85 t86 t87 t88 t89 t90 t91 t92 t93 t94 t95 t96 t97 t98 t99 t100 t101 t102 t103 t104 t105 t106 t107 t108 t109 t110 t111 t112 t113 t114 t115 t116 t117 t118 t119 t120 t121 t122 t123 t124 t125 t126 t127 t128 t129 t130 t131 t132 t133 t134 t135 t136 t137 t138 t139 t140 t141 t142 t143 t144 t145 t146 t147 t148 t149 t150 t151 t152 t153 t154 t155 t156 t157 t158 t159 t160 t161 t162 t163 t164 t165 t166 t167 t168 t169 t170 t171 t172 t173 t174 t175 t176 t177 t178 t179 t180 t181 t182 t183 t184 t185 t186 t187 t188 t189 t190 t191 t192 t193 t194 t195 t196 t197 t198 t199 t200 t201 t202 t203 t204 t205 : Value) (Q : Exit → Act → World → Prop) (hQ : Hid (∀ (u4 u7 u8 u9 u10 u11 u12 u13 u14 u15 u16 u17 u18 u19 u20 u21 u51 u52 u53 u54 u55 u56 u57 u58 u59 u60 u61 u62 u63 u64 u65 u66 u67 u68 u69 u70 u71 u72 u73 u74 u75 u76 u77 u78 u79 u80 u81 u82 u83 u84 u85 u86 u87 u88 u89 u90 u91 u92 u93 u94 u95 u96 u97 u98 u99 u100 u101 u102 u103 u104 u105 u106 u107 u108 u109 u110 u111 u112 u113 u114 u115 u116 u117 u118 u119 u120 u121 u122 u123 u124 u125 u126 u127 u128 u129 u130 u131 u132 u133 u134 u135 u136 u137 u138 u139 u140 u141 u142 u143 u144 u145 u146 u147 u148 u149 u150 u151 u152 u153 u154 u155 u156 u157 u158 u159 u160 u161 u162 u163 u164 u165 u166 u167 u168 u169 u170 u171 u172 u173 u174 u175 u176 u177 u178 u179 u180 u181 u182 u183 u184 u185 u186 u187 u188 u189 u190 u191 u192 u193 u194 u195 u196 u197 u198 u199 : Value) W', Nx w p i u7 u9 W' → Q .normal { tmps := #[t0, .slice B nb cB, t2, t3, u4, .pointer (some ⟨p, 0, none⟩), t6, u7, u8, u9, u10, u11, u12, u13, u14, u15, u16, u17, u18, u19, u20, u21, t22, t23, t24, t25, t26, t27, t28, t29, t30, t31, t32, t33, t34, t35, t36, t37, t38, t39, t40, t41, t42, t43, t44, t45, t46, .slice A n cA, .int .i64 n, .int .i64 i, t50, u51, u52, u53, u54, u55, u56, u57, u58, u59, u60, u61, u62, u63, u64, u65, u66, u67, u68, u69, u70, u71, u72, u73, u74, u75, u76, u77, u78, u79, u80, u81, u82, u83, u84, u85, u86, u87, u88, u89, u90, u91, u92, u93, u94, u95, u96, u97, u98, u99, u100, u101, u102, u103, u104, u105, u106, u107, u108, u109, u110, u111, u112, u113, u114, u115, u116, u117, u118, u119, u120, u121, u122, u123, u124, u125, u126, u127, u128, u129, u130, u131, u132, u133, u134, u135, u136, u137, u138, u139, u140, u141, u142, u143, u144, u145, u146, u147, u148, u149, u150, u151, u152, u153, u154, u155, u156, u157, u158, u159, u160, u161, u162, u163, u164, u165, u166, u167, u168, u169, u170, u171, u172, u173, u174, u175, u176, u177, u178, u179, u180, u181, u182, u183, u184, u185, u186, u187, u188, u189, u190, u191, u192, u193, u194, u195, u196, u197, u198, u199, t200, t201, t202, t203, t204, t205], defers := [] } W')) (hQr : Hid (∀ (u7 u8 u9 u10 u11 u12 u13 u14 u15 u16 u17 u18 u19 u20 u21 u51 u52 u53 u54 u55 u56 u57 u58 u59 u60 u61 u62 u63 u64 u65 u66 u67 u68 u69 u70 u71 u72 u73 u74 u75 u76 u77 u78 u79 u80 u81 u82 u83 u84 u85 u86 u87 u88 u89 u90 u91 u92 u93 u94 u95 u96 u97 u98 u99 u100 u101 u102 u103 u104 u105 u106 u107 u108 u109 u110 u111 u112 u113 u114 u115 u116 u117 u118 u119 u120 u121 u122 u123 u124 u125 u126 u127 u128 u129 u130 u131 u132 u133 u134 u135 u136 u137 u138 u139 u140 u141 u142 u143 u144 u145 u146 u147 u148 u149 u150 u151 u152 u153 u154 u155 u156 u157 u158 u159 u160 u161 u162 u163 u164 u165 u166 u167 u168 u169 u170 u171 u172 u173 u174 u175 u176 u177 u178 u179 u180 u181 u182 u183 u184 u185 u186 u187 u188 u189 u190 u191 u192 u193 u194 u195 u196 u197 u198 u199 : Value) W', New w W' → Q .ret { tmps := #[t0, .slice B nb cB, t2, t3, .bool true, .pointer (some ⟨p, 0, none⟩), t6, u7, u8, u9, u10, u11, u12, u13, u14, u15, u16, u17, u18, u19, u20, u21, t22, t23, t24, t25, t26, t27, t28, t29, t30, t31, t32, t33, t34, t35, t36, t37, t38, t39, t40, t41, t42, t43, t44, t45, t46, .slice A n cA, .int .i64 n, .int .i64 i, t50, u51, u52, u53, u54, u55, u56, u57, u58, u59, u60, u61, u62, u63, u64, u65, u66, u67, u68, u69, u70, u71, u72, u73, u74, u75, u76, u77, u78, u79, u80, u81, u82, u83, u84, u85, u86, u87, u88, u89, u90, u91, u92, u93, u94, u95, u96, u97, u98, u99, u100, u101, u102, u103, u104, u105, u106, u107, u108, u109, u110, u111, u112, u113, u114, u115, u116, u117, u118, u119, u120, u121, u122, u123, u124, u125, u126, u127, u128, u129, u130, u131, u132, u133, u134, u135, u136, u137, u138, u139, u140, u141, u142, u143, u144, u145, u146, u147, u148, u149, u150, u151, u152, u153, u154, u155, u156, u157, u158, u159, u160, u161, u162, u163, u164, u165, u166, u167, u168, u169, u170, u171, u172, u173, u174, u175, u176, u177, u178, u179, u180, u181, u182, u183, u184, u185, u186, u187, u188, u189, u190, u191, u192, u193, u194, u195, u196, u197, u198, u199, t200, t201, t202, t203, t204, t205], defers := [] } W')) :
    Code.wp Try.prog c0 Q { tmps := #[t0, .slice B nb cB, t2, t3, t4, .pointer (some ⟨p, 0, none⟩), t6, .pointer (some ⟨q, 0, none⟩), t8, .slice A2 rs.length c2, t10, t11, t12, t13, t14, t15, t16, t17, t18, t19, t20, t21, t22, t23, t24, t25, t26, t27, t28, t29, t30, t31, t32, t33, t34, t35, t36, t37, t38, t39, t40, t41, t42, t43, t44, t45, t46, .slice A n cA, .int .i64 n, .int .i64 i, t50, t51, t52, t53, t54, t55, t56, t57, t58, t59, t60, t61, t62, t63, t64, t65, t66, t67, t68, t69, t70, t71, t72, t73, t74, t75, t76, t77, t78, t79, t80, t81, t82, t83, t84, t85, t86, t87, t88, t89, t90, t91, t92, t93, t94, t95, t96, t97, t98, t99, t100, t101, t102, t103, t104, t105, t106, t107, t108, t109, t110, t111, t112, t113, t114, t115, t116, t117, t118, t119, t120, t121, t122, t123, t124, t125, t126, t127, t128, t129, t130, t131, t132, t133, t134, t135, t136, t137, t138, t139, t140, t141, t142, t143, t144, t145, t146, t147, t148, t149, t150, t151, t152, t153, t154, t155, t156, t157, t158, t159, t160, t161, t162, t163, t164, t165, t166, t167, t168, t169, t170, t171, t172, t173, t174, t175, t176, t177, t178, t179, t180, t181, t182, t183, t184, t185, t186, t187, t188, t189, t190, t191, t192, t193, t194, t195, t196, t197, t198, t199, t200, t201, t202, t203, t204, t205], defers := [] } wr := by
  subst hc
  conv => arg 2; whnf
  obtain ⟨im, him, hm0, hm1, hm2⟩ := info_parts infoMsg
  have hms0 : (mc 0 0 0 0 0 0 z32 none 0 0 none 0 0 none 0 0).size = 41 := rfl
  obtain ⟨M0, hM0⟩ : ∃ M0, mc 0 0 0 0 0 0 z32 none 0 0 none 0 0 none 0 0 = M0 := ⟨_, rfl⟩
  rw [hM0] at hm0 hms0
  have HMS0 := Lib.hid hms0
  clear hM0 hms0
  obtain ⟨st, hK⟩ := hK
  have hNw := hK.frm
  have hil : i < ms.length := by have := HN.out; omega
  obtain ⟨b0, off, rfl, hb0, hcell⟩ := HL.out.1 (by omega)
  have hAt0 := (hcell i hil).fr hb0 hNw (fun h => h)
  have hmi := (HL.out.2 _ (List.getElem_mem hil)).new hNw
  generalize ms[i] = m at *
  obtain ⟨k, n1, n2, n3, n4, n5, id, data, ids, Ad, cd, Ai, ci, Al, nl, cl⟩ := m
  obtain ⟨hid, hRdD, hIds, hie⟩ := hmi
  simp only [MsgD.X] at hAt0
  dsimp only at hid hRdD hIds hie
  have hB5 := Blk.new wr 64 (mc k n1 n2 n3 n4 n5 id Ad data.length cd Ai ids.length ci Al nl cl)
  obtain ⟨-, x38, x39, x40⟩ := mc_cells hB5 hid
  have hN5 : New wr (wr.alloc (.cells (mc k n1 n2 n3 n4 n5 id Ad data.length cd Ai ids.length ci Al nl cl) 64)) := Fr.alloc _ wr _
  have hNF := hNw.trans hN5 (fun _ h => h.elim)
  have hone := @mc_one k n1 n2 n3 n4 n5 id Ad Ai Al data.length cd ids.length ci nl cl
  have hxs : im.size = (mc k n1 n2 n3 n4 n5 id Ad data.length cd Ai ids.length ci Al nl cl).size := by rw [mc_size hid, hm1]
  have hwr := fun (hn0 : nl = 0) (hd : data.length ≤ 131072) (hi : ids.length ≤ 64) => pk_write (wr.alloc (.cells (mc k n1 n2 n3 n4 n5 id Ad data.length cd Ai ids.length ci Al nl cl) 64)) k n1 n2 n3 n4 n5 id Ad cd data Ai ci ids Al cl hid (hRdD.fr hN5 (fun _ _ => (fun h => h))) hd (hIds.fr hN5 (fun _ _ _ => (fun h => h))) hi hie
  have hwr' : ∀ (hn0 : nl = 0) (hd : data.length ≤ 131072) (hi : ids.length ≤ 64), Calls Try.prog 33 #[.agg (mc k n1 n2 n3 n4 n5 id Ad data.length cd Ai ids.length ci Al nl cl)] (wr.alloc (.cells (mc k n1 n2 n3 n4 n5 id Ad data.length cd Ai ids.length ci Al nl cl) 64)) (fun e w' => (∃ code : Int, code ≠ 0 ∧ e = .returned (.tuple #[.slice none 0 0, .int .i64 code]) ∧ New (wr.alloc (.cells (mc k n1 n2 n3 n4 n5 id Ad data.length cd Ai ids.length ci Al nl cl) 64)) w') ∨ (((1 ≤ k ∧ k ≤ 31) ∧ okN n1 ∧ okN n2 ∧ okN n3 ∧ okN n4 ∧ okN n5) ∧ ∃ A c, e = .returned (.tuple #[.slice A (Pk.msgB ⟨k, [n1, n2, n3, n4, n5], id, data, ids⟩).length c, .int .i64 0]) ∧ RowN (wr.alloc (.cells (mc k n1 n2 n3 n4 n5 id Ad data.length cd Ai ids.length ci Al nl cl) 64)) w' A c (Pk.msgB ⟨k, [n1, n2, n3, n4, n5], id, data, ids⟩))) := fun hn0 hd hi => by
    have := hwr hn0 hd hi
    subst hn0
    exact this
  have HK5 := Lib.hid (hK.new hN5)
  have HAT0 := Lib.hid hAt0
  have HAT5 := Lib.hid hB5.at'
  have HWR := Lib.hid hwr'
  have HX1 := Lib.hid hone
  have HXS := Lib.hid hxs
  have HXZ := Lib.hid (show M0.size = (mc k n1 n2 n3 n4 n5 id Ad data.length cd Ai ids.length ci Al nl cl).size by rw [mc_size hid, HMS0.out])
  have HNF := Lib.hid hNF
  have HRS := Lib.hid hrs
  have HIE := Lib.hid hie
  obtain ⟨X, hX⟩ : ∃ X, mc k n1 n2 n3 n4 n5 id Ad data.length cd Ai ids.length ci Al nl cl = X := ⟨_, rfl⟩
  simp only [hX] at *
  clear hX hAt0 hB5 hN5 hNF hone hxs hwr hwr' hK hrs hcell hRdD hIds hNw hie
  obtain ⟨dl, hdl⟩ : ∃ dl, data.length = dl := ⟨_, rfl⟩
  obtain ⟨il, hil2⟩ : ∃ il, ids.length = il := ⟨_, rfl⟩
  have HDL := Lib.hid hdl
  have HIL := Lib.hid hil2
  rw [hdl] at x38
  rw [hil2] at x39
  clear hdl hil2
  by_cases h1 : 2000 < dl
  · go_wp2_with (first
          | (refine x_value (exec_load (T := 64) (X := X) (g := b0) (off := off + i * 41) rfl rfl Try.underlying64 rfl him HXS.out HAT0.out) (by simp [go_sem, Region.wanted, yielded]) ?_)
          | (refine x_value (exec_load (T := 64) (X := X) (g := wr.heap.size) (off := 0) rfl rfl Try.underlying64 rfl him HXS.out HAT5.out) (by simp [go_sem, Region.wanted, yielded]) ?_)
          | (refine x_value (x_alloc (T := 64) rfl him hm0) (by simp [go_sem, Region.wanted, yielded]) ?_)
          | (refine x_skip (exec_store_new (T := 64) (X := X) (Z := M0) rfl rfl rfl rfl him HXS.out HX1.out HXZ.out) rfl ?_))
    exact hQr.out _ _ _ _ _ _ _ _ _ _ _ _ _ _ _ _ _ _ _ _ _ _ _ _ _ _ _ _ _ _ _ _ _ _ _ _ _ _ _ _ _ _ _ _ _ _ _ _ _ _ _ _ _ _ _ _ _ _ _ _ _ _ _ _ _ _ _ _ _ _ _ _ _ _ _ _ _ _ _ _ _ _ _ _ _ _ _ _ _ _ _ _ _ _ _ _ _ _ _ _ _ _ _ _ _ _ _ _ _ _ _ _ _ _ _ _ _ _ _ _ _ _ _ _ _ _ _ _ _ _ _ _ _ _ _ _ _ _ _ _ _ _ _ _ _ _ _ _ _ _ _ _ _ _ _ _ _ _ _ _ _ _ _ _ _ HNF.out
  by_cases h2 : 64 < il
  · go_wp2_with (first
          | (refine x_value (exec_load (T := 64) (X := X) (g := b0) (off := off + i * 41) rfl rfl Try.underlying64 rfl him HXS.out HAT0.out) (by simp [go_sem, Region.wanted, yielded]) ?_)
          | (refine x_value (exec_load (T := 64) (X := X) (g := wr.heap.size) (off := 0) rfl rfl Try.underlying64 rfl him HXS.out HAT5.out) (by simp [go_sem, Region.wanted, yielded]) ?_)
          | (refine x_value (x_alloc (T := 64) rfl him hm0) (by simp [go_sem, Region.wanted, yielded]) ?_)
          | (refine x_skip (exec_store_new (T := 64) (X := X) (Z := M0) rfl rfl rfl rfl him HXS.out HX1.out HXZ.out) rfl ?_))
    exact hQr.out _ _ _ _ _ _ _ _ _ _ _ _ _ _ _ _ _ _ _ _ _ _ _ _ _ _ _ _ _ _ _ _ _ _ _ _ _ _ _ _ _ _ _ _ _ _ _ _ _ _ _ _ _ _ _ _ _ _ _ _ _ _ _ _ _ _ _ _ _ _ _ _ _ _ _ _ _ _ _ _ _ _ _ _ _ _ _ _ _ _ _ _ _ _ _ _ _ _ _ _ _ _ _ _ _ _ _ _ _ _ _ _ _ _ _ _ _ _ _ _ _ _ _ _ _ _ _ _ _ _ _ _ _ _ _ _ _ _ _ _ _ _ _ _ _ _ _ _ _ _ _ _ _ _ _ _ _ _ _ _ _ _ _ _ _ HNF.out
  by_cases h3 : 0 < nl
  · go_wp2_with (first
          | (refine x_value (exec_load (T := 64) (X := X) (g := b0) (off := off + i * 41) rfl rfl Try.underlying64 rfl him HXS.out HAT0.out) (by simp [go_sem, Region.wanted, yielded]) ?_)
          | (refine x_value (exec_load (T := 64) (X := X) (g := wr.heap.size) (off := 0) rfl rfl Try.underlying64 rfl him HXS.out HAT5.out) (by simp [go_sem, Region.wanted, yielded]) ?_)
          | (refine x_value (x_alloc (T := 64) rfl him hm0) (by simp [go_sem, Region.wanted, yielded]) ?_)
          | (refine x_skip (exec_store_new (T := 64) (X := X) (Z := M0) rfl rfl rfl rfl him HXS.out HX1.out HXZ.out) rfl ?_))
    exact hQr.out _ _ _ _ _ _ _ _ _ _ _ _ _ _ _ _ _ _ _ _ _ _ _ _ _ _ _ _ _ _ _ _ _ _ _ _ _ _ _ _ _ _ _ _ _ _ _ _ _ _ _ _ _ _ _ _ _ _ _ _ _ _ _ _ _ _ _ _ _ _ _ _ _ _ _ _ _ _ _ _ _ _ _ _ _ _ _ _ _ _ _ _ _ _ _ _ _ _ _ _ _ _ _ _ _ _ _ _ _ _ _ _ _ _ _ _ _ _ _ _ _ _ _ _ _ _ _ _ _ _ _ _ _ _ _ _ _ _ _ _ _ _ _ _ _ _ _ _ _ _ _ _ _ _ _ _ _ _ _ _ _ _ _ _ _ HNF.out
  have h30 : nl = 0 := by omega
  have HW := Lib.hid (HWR.out h30 (by have := HDL.out; omega) (by have := HIL.out; omega))
  subst h30
  clear HWR
  go_wp2_with (first
          | (refine x_value (exec_load (T := 64) (X := X) (g := b0) (off := off + i * 41) rfl rfl Try.underlying64 rfl him HXS.out HAT0.out) (by simp [go_sem, Region.wanted, yielded]) ?_)
          | (refine x_value (exec_load (T := 64) (X := X) (g := wr.heap.size) (off := 0) rfl rfl Try.underlying64 rfl him HXS.out HAT5.out) (by simp [go_sem, Region.wanted, yielded]) ?_)
          | (refine x_value (x_alloc (T := 64) rfl him hm0) (by simp [go_sem, Region.wanted, yielded]) ?_)
          | (refine x_skip (exec_store_new (T := 64) (X := X) (Z := M0) rfl rfl rfl rfl him HXS.out HX1.out HXZ.out) rfl ?_))
  refine HW.out.mono ?_
  clear HW
  rintro e w6 (⟨code, hc0, rfl, hN6⟩ | ⟨⟨hk, hok⟩, A6, c6, rfl, hR6⟩)
  · have hcb : (code != 0) = true := bne_iff_ne.2 hc0
    have hcb2 : (code == 0) = false := beq_false_of_ne hc0
    have HK6 := Lib.hid (HK5.out.new hN6)
    clear hN6
    go_wp2_with fail
    exact hQ.out _ _ _ _ _ _ _ _ _ _ _ _ _ _ _ _ _ _ _ _ _ _ _ _ _ _ _ _ _ _ _ _ _ _ _ _ _ _ _ _ _ _ _ _ _ _ _ _ _ _ _ _ _ _ _ _ _ _ _ _ _ _ _ _ _ _ _ _ _ _ _ _ _ _ _ _ _ _ _ _ _ _ _ _ _ _ _ _ _ _ _ _ _ _ _ _ _ _ _ _ _ _ _ _ _ _ _ _ _ _ _ _ _ _ _ _ _ _ _ _ _ _ _ _ _ _ _ _ _ _ _ _ _ _ _ _ _ _ _ _ _ _ _ _ _ _ _ _ _ _ _ _ _ _ _ _ _ _ _ _ _ _ _ _ _ _ ⟨q, rs, A2, c2, rfl, rfl, by omega, HRS.out, st, HK6.out⟩
  · have hkept : Kept (Pk.msgB ⟨k, [n1, n2, n3, n4, n5], id, data, ids⟩) := ⟨k, n1, n2, n3, n4, n5, id, data, ids, rfl, hk, hok, hid, by have := HDL.out; omega, by have := HIL.out; omega, HIE.out⟩
    have hbl := hkept.len
    have HK6 := Lib.hid (HK5.out.got hR6)
    have HKEPT := Lib.hid hkept
    clear hR6 HK5 hkept hk hok HAT0 HAT5 HX1 HXS HXZ x38 x39 x40 HNF
    generalize Pk.msgB ⟨k, [n1, n2, n3, n4, n5], id, data, ids⟩ = bs at *
    go_upto_region 17 with fail
    go_cut [88] from 77 to 88 (fun v W => ((∃ h : i < cs.length, 0 ≤ (cs[i]).1 ∧ v = .bool true) ∨ v = .bool false) ∧ W = w6)
    case first =>
      by_cases hic : i < nb
      · obtain ⟨bB, oB, rfl, hbB, hcc⟩ := HC.out.1 (by have := HNB.out; omega)
        have hcl : i < cs.length := by have := HNB.out; omega
        have y0 := (HK6.out.frm.cell (p := ⟨bB, oB + i * 2, none⟩) hbB (fun h => h)).trans (hcc i hcl).1
        clear hcc
        obtain ⟨ca, hcae⟩ : ∃ ca, (cs[i]).1 = ca := ⟨_, rfl⟩
        rw [hcae] at y0
        by_cases hca : 0 ≤ ca
        · go_wp2_with fail
          go_meet
          exact ⟨.inl ⟨hcl, hcae ▸ hca, rfl⟩, rfl⟩
        · go_wp2_with fail
          go_meet
          exact ⟨.inr rfl, rfl⟩
      · go_wp2_with fail
        go_meet
        exact ⟨.inr rfl, rfl⟩
    obtain ⟨hv, rfl⟩ := hcut
    go_upto_if 88 with fail
    go_cut [88] from 89 to 95 (fun v W => ∃ st2, KS w p q ((jof 1048576 rs).brk st2) A2 c2 rs A6 bs W)
    case first =>
      rcases hv with ⟨hcl, hca, rfl⟩ | rfl
      · obtain ⟨bB, oB, rfl, hbB, hcc⟩ := HC.out.1 (by omega)
        have hmax := HC.out.2 _ (List.getElem_mem hcl)
        have hic : i < nb := by have := HNB.out; omega
        have y0 := (HK6.out.frm.cell (p := ⟨bB, oB + i * 2, none⟩) hbB (fun h => h)).trans (hcc i hcl).1
        clear hcc
        generalize (cs[i]).1 = ca at *
        go_wp2_with fail
        refine (HK6.out.Break ca hmax).mono ?_
        rintro e w7 ⟨rfl, hK7⟩
        have HK7 := Lib.hid hK7
        clear hK7
        go_wp2_with fail
        go_meet
        exact ⟨ca, HK7.out⟩
      · go_wp2_with fail
        go_meet
        exact ⟨st, HK6.out⟩
    case rest =>
      clear HK6
      obtain ⟨st2, hK8⟩ := hcut
      have HK8 := Lib.hid hK8
      have hrl : ((jof 1048576 rs).brk st2).rs.length = rs.length := rfl
      clear hK8
      go_wp2_with fail
      refine (HK8.out.Write c6 (by omega) (by rw [hrl]; omega)).mono ?_
      rintro e w9 ⟨rfl, hK9⟩
      have hstr := Rd.str c6 hK9.rd
      have hcut0 : ∀ i' (h : i' < cs.length) W, New w W → ∃ bB oB, B = some ⟨bB, oB, none⟩ ∧ W.cell? ⟨bB, oB + i' * 2, none⟩ = some (.int .i64 (cs[i']).1) ∧ W.cell? ⟨bB, oB + i' * 2 + 1, none⟩ = some (.int .i64 (cs[i']).2) := fun i' h W hW => by
        obtain ⟨bB, oB, rfl, hbB, hcc⟩ := HC.out.1 (by omega)
        exact ⟨bB, oB, rfl, (hW.cell (p := ⟨bB, oB + i' * 2, none⟩) hbB (fun h => h)).trans (hcc i' h).1, (hW.cell (p := ⟨bB, oB + i' * 2 + 1, none⟩) hbB (fun h => h)).trans (hcc i' h).2⟩
      have HCUT := Lib.hid hcut0
      have hsum : ((Jrn.all Jrn.zero rs).length + 35 + bs.length : Nat) ≤ 1048576 := by have := kept_all rs HRS.out Jrn.zero; omega
      have hrsn : ∀ d ∈ rs ++ [bs], Kept d := fun d hd => by
        rcases List.mem_append.1 hd with h | h
        · exact HRS.out d h
        · simp at h; subst h; exact HKEPT.out
      have HRSN := Lib.hid hrsn
      have hsmall : ∀ d ∈ rs ++ [bs], d.length < 16777216 := fun d hd => by have := (hrsn d hd).len; omega
      have HSM := Lib.hid hsmall
      have hlen1 : (rs ++ [bs]).length = rs.length + 1 := by simp
      have HLEN1 := Lib.hid hlen1
      rcases fil_write 1048576 rs bs st2 (fun d hd => by have := (HRS.out d hd).len; omega) (by omega) (by omega) with ⟨st3, hw⟩ | ⟨h90, hcr⟩
      · rw [hw] at hK9 ⊢
        obtain ⟨A3, c3, w10, hrun, hK10⟩ := hK9.more (by omega) bs
        have hrun' : (Builtin.append_ #[58, 58] 58 #[.slice A2 rs.length c2, .slice (some ⟨w9.heap.size, 0, none⟩) 1 1]).run Try.prog (w9.alloc (.cells #[.string ⟨bs.toArray⟩] 9)) = .ok (.slice A3 (rs.length + 1) c3) w10 := hrun
        have HK10 := Lib.hid hK10
        clear hK9 hK10 hrun hw HK8 hcut0 hsum hrsn hsmall hlen1
        generalize bs.length = bl at *
        generalize rs.length = rl at *
        go_upto_region 24 with (at_builtin; refine wpList_append_run hrun' rfl rfl _ _ rfl rfl rfl ?_)
        clear hstr hrun'
        go_cut [127] from 112 to 127 (fun v W => ((∃ h : i < cs.length, 0 < (cs[i]).2 ∧ v = .bool true) ∨ v = .bool false) ∧ W = w10)
        case first =>
          by_cases hic : i < nb
          · have hcl : i < cs.length := by have := HNB.out; omega
            obtain ⟨bB, oB, rfl, -, y1⟩ := HCUT.out i hcl w10 HK10.out.frm
            obtain ⟨cb, hcbe⟩ : ∃ cb, (cs[i]).2 = cb := ⟨_, rfl⟩
            rw [hcbe] at y1
            by_cases hcb : 0 < cb
            · go_wp2_with fail
              go_meet
              exact ⟨.inl ⟨hcl, hcbe ▸ hcb, rfl⟩, rfl⟩
            · go_wp2_with fail
              go_meet
              exact ⟨.inr rfl, rfl⟩
          · go_wp2_with fail
            go_meet
            exact ⟨.inr rfl, rfl⟩
        obtain ⟨hv, rfl⟩ := hcut
        go_upto_if 127 with fail
        go_cut [4, 7, 8, 9, 15] from 128 to 165 (fun _ jv _ sv _ W => Nx w p i jv sv W)
        case first =>
          rcases hv with ⟨hcl, hcb, rfl⟩ | rfl
          · refine wf_crash_ok (c0 := _) ?hcA w p q i nb (rs ++ [bs]) A3 c3 A6 bs st3 B cB cs _ HK10 HC HNB HRSN (by rw [HLEN1.out]; omega) hcl _ (Lib.hid HLEN1.out.symm) _ _ _ _ _ _ _ _ _ _ _ _ _ _ _ _ _ _ _ _ _ _ _ _ _ _ _ _ _ _ _ _ _ _ _ _ _ _ _ _ _ _ _ _ _ _ _ _ _ _ _ _ _ _ _ _ _ _ _ _ _ _ _ _ _ _ _ _ _ _ _ _ _ _ _ _ _ _ _ _ _ _ _ _ _ _ _ _ _ _ _ _ _ _ _ _ _ _ _ _ _ _ _ _ _ _ _ _ _ _ _ _ _ _ _ _ _ _ _ _ _ _ _ _ _ _ _ _ _ _ _ _ _ _ _ _ _ _ _ _ _ _ _ _ _ _ _ _ _ _ _ _ _ _ _ _ _ _ _ _ _ _ _ _ _ _ _ _ _ _ _ _ _ _ _ _ _ _ _ _ _ _ _ _ _ _ _ _ _ _ _ _ _ _ _ _ _ _ _ _ _ (Lib.hid fun _ _ _ _ _ _ _ _ _ _ _ _ _ _ _ _ _ _ _ _ _ _ _ _ _ _ _ _ _ _ _ _ _ _ _ _ _ _ _ _ _ _ _ W' hNx => ?_)
            case hcA => kernel_rfl
            go_wp2_with fail
            go_meet
            exact hNx
          · go_wp2_with fail
            go_meet
            exact ⟨q, rs ++ [bs], A3, c3, rfl, by rw [HLEN1.out], by rw [HLEN1.out]; omega, HRSN.out, st3, HK10.out.bare⟩
        case rest =>
          clear HK10 HSM HRSN HCUT HKEPT HRS HLEN1
          obtain ⟨q2, rs2, A3, c3, rfl, rfl, hl2, hk2, hK2⟩ := hcut
          have hlen : Calls Try.prog 35 #[.pointer (some ⟨q2, 0, none⟩)] wc fun e w' => e = .returned (.int .i64 (rs2.length : Int)) ∧ wc = w' := by
            obtain ⟨st, h⟩ := hK2
            exact h.Len
          have HLEN := Lib.hid hlen
          have HK2 := Lib.hid hK2
          have HRS2 := Lib.hid hk2
          clear hlen hK2 hk2
          go_upto_block 2 with (go_at_call 35; refine HLEN.out.mono ?_; rintro e _ ⟨rfl, rfl⟩)
          refine wf_check (c0 := _) ?hc w p q2 rs2 A3 c3 _ HK2 HRS2 (by omega) _ _ _ _ _ _ _ _ _ _ _ _ _ _ _ _ _ _ _ _ _ _ _ _ _ _ _ _ _ _ _ _ _ _ _ _ _ _ _ _ _ _ _ _ _ _ _ _ _ _ _ _ _ _ _ _ _ _ _ _ _ _ _ _ _ _ _ _ _ _ _ _ _ _ _ _ _ _ _ _ _ _ _ _ _ _ _ _ _ _ _ _ _ _ _ _ _ _ _ _ _ _ _ _ _ _ _ _ _ _ _ _ _ _ _ _ _ _ _ _ _ _ _ _ _ _ _ _ _ _ _ _ _ _ _ _ _ _ _ _ _ _ _ _ _ _ _ _ _ _ _ _ _ _ _ _ _ _ _ _ _ _ _ _ _ _ _ _ _ _ _ _ _ _ _ _ _ _ _ _ _ _ _ _ _ _ _ _ _ _ _ _ _ _ _ _ _ _ _ _ _ _ (Lib.hid fun _ _ _ _ _ _ _ _ _ _ _ _ _ _ _ _ _ _ _ _ _ _ _ _ _ _ _ _ _ _ _ _ _ _ W' hK' => ?_)
          case hc => kernel_rfl
          have HKE := Lib.hid hK'
          clear hK' HK2 HLEN
          go_wp2_with fail
          exact hQ.out _ _ _ _ _ _ _ _ _ _ _ _ _ _ _ _ _ _ _ _ _ _ _ _ _ _ _ _ _ _ _ _ _ _ _ _ _ _ _ _ _ _ _ _ _ _ _ _ _ _ _ _ _ _ _ _ _ _ _ _ _ _ _ _ _ _ _ _ _ _ _ _ _ _ _ _ _ _ _ _ _ _ _ _ _ _ _ _ _ _ _ _ _ _ _ _ _ _ _ _ _ _ _ _ _ _ _ _ _ _ _ _ _ _ _ _ _ _ _ _ _ _ _ _ _ _ _ _ _ _ _ _ _ _ _ _ _ _ _ _ _ _ _ _ _ _ _ _ _ _ _ _ _ _ _ _ _ _ _ _ _ _ _ _ _ _ ⟨q2, rs2, A3, c3, rfl, rfl, hl2, HRS2.out, HKE.out⟩
      · rw [h90]
        generalize (((jof 1048576 rs).brk st2).write bs).1 = jd at *
        have HK9 := Lib.hid hK9
        have HCR := Lib.hid hcr
        have hrl9 : (((rs.length : Nat) : Int) == ((rs.length : Nat) : Int) + 1) = false := beq_false_of_ne (by omega)
        clear hK9 HK8 hcut0 hsum hrsn hsmall hlen1 hcr h90 hstr
        go_upto_if 127 with fail
        go_cut [4, 7, 8, 9, 15] from 128 to 165 (fun _ jv _ sv _ W => Nx w p i jv sv W)
        case first =>
          refine wf_crash_90 (c0 := _) ?hcB w p q i nb rs A2 c2 A6 c6 bs jd B cB cs w9 HK9 HC HNB HRS HKEPT HCR hri (by omega) _ _ _ _ _ _ _ _ _ _ _ _ _ _ _ _ _ _ _ _ _ _ _ _ _ _ _ _ _ _ _ _ _ _ _ _ _ _ _ _ _ _ _ _ _ _ _ _ _ _ _ _ _ _ _ _ _ _ _ _ _ _ _ _ _ _ _ _ _ _ _ _ _ _ _ _ _ _ _ _ _ _ _ _ _ _ _ _ _ _ _ _ _ _ _ _ _ _ _ _ _ _ _ _ _ _ _ _ _ _ _ _ _ _ _ _ _ _ _ _ _ _ _ _ _ _ _ _ _ _ _ _ _ _ _ _ _ _ _ _ _ _ _ _ _ _ _ _ _ _ _ _ _ _ _ _ _ _ _ _ _ _ _ _ _ _ _ _ _ _ _ _ _ _ _ _ _ _ _ _ _ _ _ _ _ _ _ _ _ _ _ _ _ _ _ _ _ _ _ (Lib.hid fun _ _ _ _ _ _ _ _ _ _ _ _ _ _ _ _ _ _ _ _ _ _ _ _ _ _ _ _ _ _ _ _ _ _ _ _ _ _ _ _ _ _ _ W' hNx => ?_)
          case hcB => kernel_rfl
          go_wp2_with fail
          go_meet
          exact hNx
        case rest =>
          clear HK9 HSM HRSN HCUT HKEPT HRS HLEN1 HCR
          obtain ⟨q2, rs2, A3, c3, rfl, rfl, hl2, hk2, hK2⟩ := hcut
          have hlen : Calls Try.prog 35 #[.pointer (some ⟨q2, 0, none⟩)] wc fun e w' => e = .returned (.int .i64 (rs2.length : Int)) ∧ wc = w' := by
            obtain ⟨st, h⟩ := hK2
            exact h.Len
          have HLEN := Lib.hid hlen
          have HK2 := Lib.hid hK2
          have HRS2 := Lib.hid hk2
          clear hlen hK2 hk2
          go_upto_block 2 with (go_at_call 35; refine HLEN.out.mono ?_; rintro e _ ⟨rfl, rfl⟩)
          refine wf_check (c0 := _) ?hc w p q2 rs2 A3 c3 _ HK2 HRS2 (by omega) _ _ _ _ _ _ _ _ _ _ _ _ _ _ _ _ _ _ _ _ _ _ _ _ _ _ _ _ _ _ _ _ _ _ _ _ _ _ _ _ _ _ _ _ _ _ _ _ _ _ _ _ _ _ _ _ _ _ _ _ _ _ _ _ _ _ _ _ _ _ _ _ _ _ _ _ _ _ _ _ _ _ _ _ _ _ _ _ _ _ _ _ _ _ _ _ _ _ _ _ _ _ _ _ _ _ _ _ _ _ _ _ _ _ _ _ _ _ _ _ _ _ _ _ _ _ _ _ _ _ _ _ _ _ _ _ _ _ _ _ _ _ _ _ _ _ _ _ _ _ _ _ _ _ _ _ _ _ _ _ _ _ _ _ _ _ _ _ _ _ _ _ _ _ _ _ _ _ _ _ _ _ _ _ _ _ _ _ _ _ _ _ _ _ _ _ _ _ _ _ _ _ (Lib.hid fun _ _ _ _ _ _ _ _ _ _ _ _ _ _ _ _ _ _ _ _ _ _ _ _ _ _ _ _ _ _ _ _ _ _ W' hK' => ?_)
          case hc => kernel_rfl
          have HKE := Lib.hid hK'
          clear hK' HK2 HLEN
          go_wp2_with fail
          exact hQ.out _ _ _ _ _ _ _ _ _ _ _ _ _ _ _ _ _ _ _ _ _ _ _ _ _ _ _ _ _ _ _ _ _ _ _ _ _ _ _ _ _ _ _ _ _ _ _ _ _ _ _ _ _ _ _ _ _ _ _ _ _ _ _ _ _ _ _ _ _ _ _ _ _ _ _ _ _ _ _ _ _ _ _ _ _ _ _ _ _ _ _ _ _ _ _ _ _ _ _ _ _ _ _ _ _ _ _ _ _ _ _ _ _ _ _ _ _ _ _ _ _ _ _ _ _ _ _ _ _ _ _ _ _ _ _ _ _ _ _ _ _ _ _ _ _ _ _ _ _ _ _ _ _ _ _ _ _ _ _ _ _ _ _ _ _ _ ⟨q2, rs2, A3, c3, rfl, rfl, hl2, HRS2.out, HKE.out⟩
end Go.Proofs.Ytefalfalapnllaa
