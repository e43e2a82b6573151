/- WholeFiled walked. (Printed by gen_filec.py.) -/
import Derived.Test.YtefalfalapnllaaFiledB
import Derived.WalkMore
namespace Go.Proofs.Ytefalfalapnllaa
open Go.RowKit Go.Shelf
set_option linter.unusedVariables false
/-- a message in memory -/
structure MsgD where
  k : Int
  n1 : Int
  n2 : Int
  n3 : Int
  n4 : Int
  n5 : Int
  id : List UInt8
  data : List UInt8
  ids : List (List UInt8)
  Ad : Option Addr
  cd : Nat
  Ai : Option Addr
  ci : Nat
  Al : Option Addr
  nl : Nat
  cl : Nat
def MsgD.X (m : MsgD) : Array Value := mc m.k m.n1 m.n2 m.n3 m.n4 m.n5 m.id m.Ad m.data.length m.cd m.Ai m.ids.length m.ci m.Al m.nl m.cl
def MsgIn (w : World) (m : MsgD) : Prop := m.id.length = 32 ∧ Rd w m.Ad (m.data.map bv) ∧ IdsL w m.Ai m.ids ∧ ∀ x ∈ m.ids, x.length = 32
def MsgsIn (w : World) (A : Option Addr) (ms : List MsgD) : Prop :=
  (0 < ms.length → ∃ b off, A = some ⟨b, off, none⟩ ∧ b < w.heap.size ∧ ∀ i (h : i < ms.length), At w b (off + i * 41) (ms[i]).X) ∧ ∀ m ∈ ms, MsgIn w m
def CutsIn (w : World) (A : Option Addr) (cs : List (Int × Int)) : Prop :=
  (0 < cs.length → ∃ b off, A = some ⟨b, off, none⟩ ∧ b < w.heap.size ∧ ∀ i (h : i < cs.length), w.cell? ⟨b, off + i * 2, none⟩ = some (.int .i64 (cs[i]).1) ∧ w.cell? ⟨b, off + i * 2 + 1, none⟩ = some (.int .i64 (cs[i]).2)) ∧ ∀ x ∈ cs, x.1 ≤ 9223372036854775807
theorem MsgIn.new {w w' : World} {m : MsgD} (h : MsgIn w m) (f : New w w') : MsgIn w' m := ⟨h.1, h.2.1.fr f (fun _ _ => id), h.2.2.1.fr f (fun _ _ _ => id), h.2.2.2⟩
theorem mc_one {k n1 n2 n3 n4 n5 : Int} {id : List UInt8} {Ad Ai Al : Option Addr} {nd cd ni ci nl cl : Nat} : ∀ v ∈ (mc k n1 n2 n3 n4 n5 id Ad nd cd Ai ni ci Al nl cl).toList, v.oneCell' = true := by
  intro v hv
  unfold mc at hv
  simp at hv
  rcases hv with rfl | rfl | rfl | rfl | rfl | rfl | ⟨a, _, rfl⟩ | rfl | rfl | rfl <;> rfl
/-- what stands behind a round's writing -/
def Nx (w : World) (p i : Nat) (jv sv : Value) (W : World) : Prop :=
  ∃ (q2 : Nat) (rs2 : List (List UInt8)) (A3 : Option Addr) (c3 : Nat), jv = .pointer (some ⟨q2, 0, none⟩) ∧ sv = .slice A3 rs2.length c3 ∧ rs2.length ≤ i + 1 ∧ (∀ d ∈ rs2, Kept d) ∧ KW w p q2 rs2 A3 c3 W
/-- the first 'if' on a slot -/
def fcond (n : Nat) : Code → Code
  | .cond (.tmp m) a b => if m = n then .cond (.tmp m) a b else match fcond n a with
    | .skip => fcond n b
    | c => c
  | .seq a b => match fcond n a with
    | .skip => fcond n b
    | c => c
  | .block _ b => fcond n b
  | .loop b => fcond n b
  | _ => .skip
theorem cuts_at {w W : World} {B : Option Addr} {cs : List (Int × Int)} (hC : CutsIn w B cs) (i : Nat) (h : i < cs.length) (hW : New w W) : ∃ bB oB, B = some ⟨bB, oB, none⟩ ∧ W.cell? ⟨bB, oB + i * 2, none⟩ = some (.int .i64 (cs[i]).1) ∧ W.cell? ⟨bB, oB + i * 2 + 1, none⟩ = some (.int .i64 (cs[i]).2) := by
  obtain ⟨bB, oB, rfl, hbB, hcc⟩ := hC.1 (by omega)
  exact ⟨bB, oB, rfl, (hW.cell (p := ⟨bB, oB + i * 2, none⟩) hbB (fun h => h)).trans (hcc i h).1, (hW.cell (p := ⟨bB, oB + i * 2 + 1, none⟩) hbB (fun h => h)).trans (hcc i h).2⟩
set_option maxHeartbeats 16000000 in
set_option maxRecDepth 100000 in
/-- a crash behind a record that is sure -/
theorem wf_crash_ok {c0 : Code} (hc : c0 = fcond 127 ((Try.f8.body).getD .skip)) (w : World) (p q i nb : Nat) (rs2 : List (List UInt8)) (A3 : Option Addr) (c3 : Nat) (A6 : Option Addr) (bs : List UInt8) (st3 : Int) (B : Option Addr) (cB : Nat) (cs : List (Int × Int)) (wc : World)
    (HK10 : Hid (KS w p q ((jof 1048576 rs2).brk st3) A3 c3 rs2 A6 bs wc)) (HC : Hid (CutsIn w B cs)) (HNB : Hid (cs.length = nb)) (HRSN : Hid (∀ d ∈ rs2, Kept d)) (hl2 : rs2.length ≤ i + 1) (hcl : i < cs.length) (n3 : Nat) (HN3 : Hid (n3 = rs2.length))
    (t0 t2 t3 t4 t6 t7 t8 t11 t12 t13 t15 t16 t17 t18 t19 t20 t21 t22 t23 t24 t25 t26 t27 t28 t29 t30 t31 t32 t33 t34 t35 t36 t37 t38 t39 t40 t41 t42 t43 t44 t45 t46 t47 t48 t49 t50 t51 t52 t53 t54 t55 t56 t57 t58 t59 t60 t61 t62 t63 t64 t65 t66 t67 t68 t69 t70 t71 t72 t73 t74 t75 t76 t77 t78 t79 t80 t81 t82 t83 t84 t85 t86 t87 t88 t89 t90 t91 t92 t93 t94 t95 t96 t97 t98 t99 t100 t101 t102 t103 t104 t105 t106 t107 t108 t109 t110 t111 t112 t113 t114 t115 t116 t117 t118 t119 t120 t121 t122 t123 t124 t125 t126 t128 t129 t130 t131 t132 t133 t134 t135 t136 t137 t138 t139 t140 t141 t142 t143 t144 t145 t146 t147 t148 t149 t150 t151 t152 t153 t154 t155 t156 t157 t158 t159 t160 t161 t162 t163 t164 t165 t166 t167 t168 t169 t170 t171 t172 t173 t174 t175 t176 t177 t178 t179 t180 t181 t182 t183 t184 t185 t186 t187 t188 t189 t190 t191 t192 t193 t194 t195 t196 t197 t198 t199 t200 t201 t202 t203 t204 t205 : Value) (Q : Exit → Act → World → Prop) (hQ : Hid (∀ (u4 u7 u8 u9 u15 u128 u129 u130 u131 u132 u133 u134 u135 u136 u137 u138 u139 u140 u141 u142 u143 u144 u145 u146 u147 u148 u149 u150 u151 u152 u153 u154 u155 u156 u157 u158 u159 u160 u161 u162 u163 u164 u165 : Value) W', Nx w p i u7 u9 W' → Q .normal { tmps := #[t0, .slice B nb cB, t2, t3, u4, .pointer (some ⟨p, 0, none⟩), t6, u7, u8, u9, .int .i64 i, t11, t12, t13, .int .i64 0, u15, t16, t17, t18, t19, t20, t21, t22, t23, t24, t25, t26, t27, t28, t29, t30, t31, t32, t33, t34, t35, t36, t37, t38, t39, t40, t41, t42, t43, t44, t45, t46, t47, t48, t49, t50, t51, t52, t53, t54, t55, t56, t57, t58, t59, t60, t61, t62, t63, t64, t65, t66, t67, t68, t69, t70, t71, t72, t73, t74, t75, t76, t77, t78, t79, t80, t81, t82, t83, t84, t85, t86, t87, t88, t89, t90, t91, t92, t93, t94, t95, t96, t97, t98, t99, t100, t101, t102, t103, t104, t105, t106, t107, t108, t109, t110, t111, t112, t113, t114, t115, t116, t117, t118, t119, t120, t121, t122, t123, t124, t125, t126, .bool true, u128, u129, u130, u131, u132, u133, u134, u135, u136, u137, u138, u139, u140, u141, u142, u143, u144, u145, u146, u147, u148, u149, u150, u151, u152, u153, u154, u155, u156, u157, u158, u159, u160, u161, u162, u163, u164, u165, t166, t167, t168, t169, t170, t171, t172, t173, t174, t175, t176, t177, t178, t179, t180, t181, t182, t183, t184, t185, t186, t187, t188, t189, t190, t191, t192, t193, t194, t195, t196, t197, t198, t199, t200, t201, t202, t203, t204, t205], defers := [] } W')) :
    Code.wp Try.prog c0 Q { tmps := #[t0, .slice B nb cB, t2, t3, t4, .pointer (some ⟨p, 0, none⟩), t6, t7, t8, .slice A3 n3 c3, .int .i64 i, t11, t12, t13, .int .i64 0, t15, t16, t17, t18, t19, t20, t21, t22, t23, t24, t25, t26, t27, t28, t29, t30, t31, t32, t33, t34, t35, t36, t37, t38, t39, t40, t41, t42, t43, t44, t45, t46, t47, t48, t49, t50, t51, t52, t53, t54, t55, t56, t57, t58, t59, t60, t61, t62, t63, t64, t65, t66, t67, t68, t69, t70, t71, t72, t73, t74, t75, t76, t77, t78, t79, t80, t81, t82, t83, t84, t85, t86, t87, t88, t89, t90, t91, t92, t93, t94, t95, t96, t97, t98, t99, t100, t101, t102, t103, t104, t105, t106, t107, t108, t109, t110, t111, t112, t113, t114, t115, t116, t117, t118, t119, t120, t121, t122, t123, t124, t125, t126, .bool true, t128, t129, t130, t131, t132, t133, t134, t135, t136, t137, t138, t139, t140, t141, t142, t143, t144, t145, t146, t147, t148, t149, t150, t151, t152, t153, t154, t155, t156, t157, t158, t159, t160, t161, t162, t163, t164, t165, t166, t167, t168, t169, t170, t171, t172, t173, t174, t175, t176, t177, t178, t179, t180, t181, t182, t183, t184, t185, t186, t187, t188, t189, t190, t191, t192, t193, t194, t195, t196, t197, t198, t199, t200, t201, t202, t203, t204, t205], defers := [] } wc := by
  subst hc
  conv => arg 2; whnf
  have hic : i < nb := by have := HNB.out; omega
  obtain ⟨bB, oB, rfl, -, y1⟩ := cuts_at HC.out i hcl HK10.out.frm
  have HSM := Lib.hid (show ∀ d ∈ rs2, d.length < 16777216 from fun d hd => by have := (HRSN.out d hd).len; omega)
  generalize (cs[i]).2 = cb at *
  clear HC HNB hcl
  go_wp2_with fail
  refine (HK10.out.Crash cb).mono ?_
  rintro e w11 ⟨rfl, hK11⟩
  have HK11 := Lib.hid hK11
  clear hK11 y1
  go_wp2_with fail
  refine (HK11.out.Open (crash_all 1048576 rs2 st3 cb HSM.out)).mono ?_
  rintro e w12 ⟨q2, rfl, hK12⟩
  have HK12 := Lib.hid hK12
  clear hK12
  go_wp2_with fail
  refine hQ.out _ _ _ _ _ _ _ _ _ _ _ _ _ _ _ _ _ _ _ _ _ _ _ _ _ _ _ _ _ _ _ _ _ _ _ _ _ _ _ _ _ _ _ _ ⟨q2, rs2, A3, c3, rfl, by rw [HN3.out], hl2, HRSN.out, -1, by rw [brk_id]; exact HK12.out.bare⟩
set_option maxHeartbeats 16000000 in
set_option maxRecDepth 100000 in
/-- a crash behind a record that is not sure -/
theorem wf_crash_90 {c0 : Code} (hc : c0 = fcond 127 ((Try.f8.body).getD .skip)) (w : World) (p q i nb : Nat) (rs : List (List UInt8)) (A2 : Option Addr) (c2 : Nat) (A6 : Option Addr) (c6 : Nat) (bs : List UInt8) (jd : JS) (B : Option Addr) (cB : Nat) (cs : List (Int × Int)) (w9 : World)
    (HK9 : Hid (KS w p q jd A2 c2 rs A6 bs w9)) (HC : Hid (CutsIn w B cs)) (HNB : Hid (cs.length = nb)) (HRS : Hid (∀ d ∈ rs, Kept d)) (HKEPT : Hid (Kept bs)) (HCR : Hid (∀ keep, ∃ rs'', openOf (jd.s.crash keep) = (some (jof 1048576 rs''), 0) ∧ (rs'' = rs ++ [bs] ∨ rs'' = rs))) (hri : rs.length ≤ i) (hi16 : i ≤ 16)
    (t0 t2 t3 t4 t6 t8 t11 t13 t15 t16 t17 t18 t19 t20 t21 t22 t23 t24 t25 t26 t27 t28 t29 t30 t31 t32 t33 t34 t35 t36 t37 t38 t39 t40 t41 t42 t43 t44 t45 t46 t47 t48 t49 t50 t51 t52 t53 t54 t55 t56 t57 t58 t59 t60 t61 t62 t63 t64 t65 t66 t67 t68 t69 t70 t71 t72 t73 t74 t75 t76 t77 t78 t79 t80 t81 t82 t83 t84 t85 t86 t87 t88 t89 t90 t91 t92 t93 t94 t95 t96 t97 t98 t99 t100 t101 t102 t103 t104 t105 t106 t107 t108 t109 t110 t111 t112 t113 t114 t115 t116 t117 t118 t119 t120 t121 t122 t123 t124 t125 t126 t128 t129 t130 t131 t132 t133 t134 t135 t136 t137 t138 t139 t140 t141 t142 t143 t144 t145 t146 t147 t148 t149 t150 t151 t152 t153 t154 t155 t156 t157 t158 t159 t160 t161 t162 t163 t164 t165 t166 t167 t168 t169 t170 t171 t172 t173 t174 t175 t176 t177 t178 t179 t180 t181 t182 t183 t184 t185 t186 t187 t188 t189 t190 t191 t192 t193 t194 t195 t196 t197 t198 t199 t200 t201 t202 t203 t204 t205 : Value) (Q : Exit → Act → World → Prop) (hQ : Hid (∀ (u4 u7 u8 u9 u15 u128 u129 u130 u131 u132 u133 u134 u135 u136 u137 u138 u139 u140 u141 u142 u143 u144 u145 u146 u147 u148 u149 u150 u151 u152 u153 u154 u155 u156 u157 u158 u159 u160 u161 u162 u163 u164 u165 : Value) W', Nx w p i u7 u9 W' → Q .normal { tmps := #[t0, .slice B nb cB, t2, t3, u4, .pointer (some ⟨p, 0, none⟩), t6, u7, u8, u9, .int .i64 i, t11, .slice A6 bs.length c6, t13, .int .i64 90, u15, t16, t17, t18, t19, t20, t21, t22, t23, t24, t25, t26, t27, t28, t29, t30, t31, t32, t33, t34, t35, t36, t37, t38, t39, t40, t41, t42, t43, t44, t45, t46, t47, t48, t49, t50, t51, t52, t53, t54, t55, t56, t57, t58, t59, t60, t61, t62, t63, t64, t65, t66, t67, t68, t69, t70, t71, t72, t73, t74, t75, t76, t77, t78, t79, t80, t81, t82, t83, t84, t85, t86, t87, t88, t89, t90, t91, t92, t93, t94, t95, t96, t97, t98, t99, t100, t101, t102, t103, t104, t105, t106, t107, t108, t109, t110, t111, t112, t113, t114, t115, t116, t117, t118, t119, t120, t121, t122, t123, t124, t125, t126, .bool true, u128, u129, u130, u131, u132, u133, u134, u135, u136, u137, u138, u139, u140, u141, u142, u143, u144, u145, u146, u147, u148, u149, u150, u151, u152, u153, u154, u155, u156, u157, u158, u159, u160, u161, u162, u163, u164, u165, t166, t167, t168, t169, t170, t171, t172, t173, t174, t175, t176, t177, t178, t179, t180, t181, t182, t183, t184, t185, t186, t187, t188, t189, t190, t191, t192, t193, t194, t195, t196, t197, t198, t199, t200, t201, t202, t203, t204, t205], defers := [] } W')) :
    Code.wp Try.prog c0 Q { tmps := #[t0, .slice B nb cB, t2, t3, t4, .pointer (some ⟨p, 0, none⟩), t6, .pointer (some ⟨q, 0, none⟩), t8, .slice A2 rs.length c2, .int .i64 i, t11, .slice A6 bs.length c6, t13, .int .i64 90, t15, t16, t17, t18, t19, t20, t21, t22, t23, t24, t25, t26, t27, t28, t29, t30, t31, t32, t33, t34, t35, t36, t37, t38, t39, t40, t41, t42, t43, t44, t45, t46, t47, t48, t49, t50, t51, t52, t53, t54, t55, t56, t57, t58, t59, t60, t61, t62, t63, t64, t65, t66, t67, t68, t69, t70, t71, t72, t73, t74, t75, t76, t77, t78, t79, t80, t81, t82, t83, t84, t85, t86, t87, t88, t89, t90, t91, t92, t93, t94, t95, t96, t97, t98, t99, t100, t101, t102, t103, t104, t105, t106, t107, t108, t109, t110, t111, t112, t113, t114, t115, t116, t117, t118, t119, t120, t121, t122, t123, t124, t125, t126, .bool true, t128, t129, t130, t131, t132, t133, t134, t135, t136, t137, t138, t139, t140, t141, t142, t143, t144, t145, t146, t147, t148, t149, t150, t151, t152, t153, t154, t155, t156, t157, t158, t159, t160, t161, t162, t163, t164, t165, t166, t167, t168, t169, t170, t171, t172, t173, t174, t175, t176, t177, t178, t179, t180, t181, t182, t183, t184, t185, t186, t187, t188, t189, t190, t191, t192, t193, t194, t195, t196, t197, t198, t199, t200, t201, t202, t203, t204, t205], defers := [] } w9 := by
  subst hc
  conv => arg 2; whnf
  have hrl9 : (((rs.length : Nat) : Int) == ((rs.length : Nat) : Int) + 1) = false := beq_false_of_ne (by omega)
  have hlen1 : (rs ++ [bs]).length = rs.length + 1 := by simp
  have HLEN1 := Lib.hid hlen1
  have hrsn : ∀ d ∈ rs ++ [bs], Kept d := fun d hd => by
    rcases List.mem_append.1 hd with h | h
    · exact HRS.out d h
    · simp at h; subst h; exact HKEPT.out
  have HRSN := Lib.hid hrsn
  clear hlen1 hrsn
  by_cases hic : i < nb
  · have hcl : i < cs.length := by have := HNB.out; omega
    obtain ⟨bB, oB, rfl, -, y1⟩ := cuts_at HC.out i hcl HK9.out.frm
    generalize (cs[i]).2 = cb at *
    clear HC hcl
    go_wp2_with fail
    refine (HK9.out.Crash cb).mono ?_
    rintro e w11 ⟨rfl, hK11⟩
    have HK11 := Lib.hid hK11
    clear hK11 y1
    obtain ⟨rs2, ho, hor⟩ := HCR.out cb
    clear HCR
    go_wp2_with fail
    refine (HK11.out.Open ho).mono ?_
    rintro e w12 ⟨q2, rfl, hK12⟩
    have hlen12 := hK12.Len
    have HK12 := Lib.hid hK12
    have hs12 := Rd.str c6 hK12.rd
    clear ho HK11 HK9
    rcases hor with rfl | rfl
    · obtain ⟨A3, c3, w13, hrun, hK13⟩ := hK12.more (by omega) bs
      have hrun' : (Builtin.append_ #[58, 58] 58 #[.slice A2 rs.length c2, .slice (some ⟨w12.heap.size, 0, none⟩) 1 1]).run Try.prog (w12.alloc (.cells #[.string ⟨bs.toArray⟩] 9)) = .ok (.slice A3 (rs.length + 1) c3) w13 := hrun
      have HLEN12 := Lib.hid (show Calls Try.prog 35 #[.pointer (some ⟨q2, 0, none⟩)] w12 fun e w' => e = .returned (.int .i64 ((rs.length : Int) + 1)) ∧ w12 = w' by
        have := hlen12
        rw [jof_rs, HLEN1.out] at this
        exact this)
      have HK13 := Lib.hid hK13
      clear hK12 hK13 hrun hlen12 HK12
      go_wp2_with (first
        | (go_at_call 35; refine HLEN12.out.mono ?_; rintro e _ ⟨rfl, rfl⟩)
        | (at_builtin; refine wpList_append_run hrun' rfl rfl _ _ rfl rfl rfl ?_))
      refine hQ.out _ _ _ _ _ _ _ _ _ _ _ _ _ _ _ _ _ _ _ _ _ _ _ _ _ _ _ _ _ _ _ _ _ _ _ _ _ _ _ _ _ _ _ _ ⟨q2, rs ++ [bs], A3, c3, rfl, by rw [HLEN1.out], by rw [HLEN1.out]; omega, HRSN.out, -1, by rw [brk_id]; exact HK13.out.bare⟩
    · have HLEN12 := Lib.hid (show Calls Try.prog 35 #[.pointer (some ⟨q2, 0, none⟩)] w12 fun e w' => e = .returned (.int .i64 (rs2.length : Int)) ∧ w12 = w' from hlen12)
      clear hK12 hlen12 hs12
      go_wp2_with (go_at_call 35; refine HLEN12.out.mono ?_; rintro e _ ⟨rfl, rfl⟩)
      refine hQ.out _ _ _ _ _ _ _ _ _ _ _ _ _ _ _ _ _ _ _ _ _ _ _ _ _ _ _ _ _ _ _ _ _ _ _ _ _ _ _ _ _ _ _ _ ⟨q2, rs2, A2, c2, rfl, rfl, by omega, HRS.out, -1, by rw [brk_id]; exact HK12.out.bare⟩
  · clear HC
    go_wp2_with fail
    refine (HK9.out.Crash 0).mono ?_
    rintro e w11 ⟨rfl, hK11⟩
    have HK11 := Lib.hid hK11
    clear hK11
    obtain ⟨rs2, ho, hor⟩ := HCR.out 0
    clear HCR
    go_wp2_with fail
    refine (HK11.out.Open ho).mono ?_
    rintro e w12 ⟨q2, rfl, hK12⟩
    have hlen12 := hK12.Len
    have HK12 := Lib.hid hK12
    have hs12 := Rd.str c6 hK12.rd
    clear ho HK11 HK9
    rcases hor with rfl | rfl
    · obtain ⟨A3, c3, w13, hrun, hK13⟩ := hK12.more (by omega) bs
      have hrun' : (Builtin.append_ #[58, 58] 58 #[.slice A2 rs.length c2, .slice (some ⟨w12.heap.size, 0, none⟩) 1 1]).run Try.prog (w12.alloc (.cells #[.string ⟨bs.toArray⟩] 9)) = .ok (.slice A3 (rs.length + 1) c3) w13 := hrun
      have HLEN12 := Lib.hid (show Calls Try.prog 35 #[.pointer (some ⟨q2, 0, none⟩)] w12 fun e w' => e = .returned (.int .i64 ((rs.length : Int) + 1)) ∧ w12 = w' by
        have := hlen12
        rw [jof_rs, HLEN1.out] at this
        exact this)
      have HK13 := Lib.hid hK13
      clear hK12 hK13 hrun hlen12 HK12
      go_wp2_with (first
        | (go_at_call 35; refine HLEN12.out.mono ?_; rintro e _ ⟨rfl, rfl⟩)
        | (at_builtin; refine wpList_append_run hrun' rfl rfl _ _ rfl rfl rfl ?_))
      refine hQ.out _ _ _ _ _ _ _ _ _ _ _ _ _ _ _ _ _ _ _ _ _ _ _ _ _ _ _ _ _ _ _ _ _ _ _ _ _ _ _ _ _ _ _ _ ⟨q2, rs ++ [bs], A3, c3, rfl, by rw [HLEN1.out], by rw [HLEN1.out]; omega, HRSN.out, -1, by rw [brk_id]; exact HK13.out.bare⟩
    · have HLEN12 := Lib.hid (show Calls Try.prog 35 #[.pointer (some ⟨q2, 0, none⟩)] w12 fun e w' => e = .returned (.int .i64 (rs2.length : Int)) ∧ w12 = w' from hlen12)
      clear hK12 hlen12 hs12
      go_wp2_with (go_at_call 35; refine HLEN12.out.mono ?_; rintro e _ ⟨rfl, rfl⟩)
      refine hQ.out _ _ _ _ _ _ _ _ _ _ _ _ _ _ _ _ _ _ _ _ _ _ _ _ _ _ _ _ _ _ _ _ _ _ _ _ _ _ _ _ _ _ _ _ ⟨q2, rs2, A2, c2, rfl, rfl, by omega, HRS.out, -1, by rw [brk_id]; exact HK12.out.bare⟩
end Go.Proofs.Ytefalfalapnllaa
