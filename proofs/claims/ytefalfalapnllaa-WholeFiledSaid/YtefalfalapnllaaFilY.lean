/- Package pack: the rounds of Read's loop: the ID, the data. -/
import Derived.Test.YtefalfalapnllaaFilX
namespace Go.Proofs.Ytefalfalapnllaa
open Go.RowKit Go.Shelf
set_option linter.unusedVariables false
attribute [local go_sem] Oper.semAt_some
theorem at_of_rd {W : World} {g off : Nat} {l : List UInt8} (h : Rd W (some ⟨g, off, none⟩) (l.map bv)) : At W g off (ida l) := fun j hj => by
  rw [ida_size] at hj
  obtain ⟨g', o', e, _, hc⟩ := h (by rw [List.length_map]; omega)
  cases e
  rw [hc j (by rw [List.length_map]; exact hj)]
  simp [ida]
theorem mc_setid {k n1 n2 n3 n4 n5 : Int} {id d : List UInt8} {Ad Ai Al : Option Addr} {nd cd ni ci nl cl : Nat} (hid : id.length = 32) (hd : d.length = 32) :
    ((mc k n1 n2 n3 n4 n5 id Ad nd cd Ai ni ci Al nl cl).toList.take 6 ++ (ida d).toList ++ (mc k n1 n2 n3 n4 n5 id Ad nd cd Ai ni ci Al nl cl).toList.drop (6 + (ida d).size)).toArray = mc k n1 n2 n3 n4 n5 d Ad nd cd Ai ni ci Al nl cl := by
  have e : (ida d).size = 32 := by rw [ida_size]; exact hd
  have e2 : (mc k n1 n2 n3 n4 n5 id Ad nd cd Ai ni ci Al nl cl).toList.drop 38 = [.slice Ad nd cd, .slice Ai ni ci, .slice Al nl cl] := by
    unfold mc
    show ((id.map bv) ++ _).drop 32 = _
    rw [List.drop_left' (by rw [List.length_map]; exact hid)]
  rw [e, show 6 + 32 = 38 from rfl, e2]
  simp [mc, ida]
set_option maxHeartbeats 8000000 in
set_option maxRecDepth 100000 in
theorem rd_id {c : Code} (hc : c = rfBody ((Try.f37.body).getD .skip)) (l mb r rb nb g o cd : Nat) (d : List UInt8) (k : Int) (A : Option Addr) (an ac : Nat) (W : World) (HM : Hid (MsgOk k A an ac mb W)) (HC : Hid (RdW mb r rb nb W)) (hd : d.length = 32) (hdz : d ≠ z32) (hRd : Rd W (some ⟨g, o, none⟩) (d.map bv)) (hgm : g ≠ mb)
    (t0 t1 t2 t3 t9 t10 t11 t12 t13 t14 t15 t16 t17 t18 t19 t20 t21 t22 t23 t24 t25 t26 t27 t28 t29 t30 t31 t32 t33 t34 t35 t36 t37 t38 t39 t40 t41 t42 t43 t44 t45 t46 t47 t48 t49 t50 t51 t52 t53 t54 t55 t56 t57 t58 t59 t60 t61 t62 t63 t64 t65 t66 t67 t68 t69 t70 t71 t72 t73 t74 t75 t76 t77 t78 t79 t80 t81 t82 t83 t84 t85 t86 t87 t88 t89 t90 t91 t92 t93 t94 t95 t96 t97 t98 t99 t100 t101 t102 t103 t104 t105 t106 t107 t108 t109 t110 t111 t112 t113 t114 t115 t116 t117 t118 t119 t120 t121 t122 t123 t124 t125 t126 t127 t128 t129 t130 t131 t132 t133 t134 t135 t136 t137 t138 t139 t140 t141 t142 t143 t144 t145 t146 t147 t148 t149 t150 t151 t152 t153 t154 t155 t156 t157 t158 t159 t160 t161 t162 t163 t164 t165 t166 t167 t168 t169 t170 t171 t172 : Value) (Q : Exit → Act → World → Prop) (hQ : Hid (∀ tmps W', MsgOk k A an ac mb W' → Fr (fun j => j = mb) W W' → Q .normal { tmps := tmps, defers := [] } W')) :
    Code.wpIn (Fence.wide.inRound l) 4 Try.prog c Q { tmps := #[t0, t1, t2, t3, .pointer (some ⟨mb, 0, none⟩), .pointer (some ⟨rb, 0, none⟩), .pointer (some ⟨nb, 0, none⟩), .int .u8 6, .slice (some ⟨g, o, none⟩) 32 cd, t9, t10, t11, t12, t13, t14, t15, t16, t17, t18, t19, t20, t21, t22, t23, t24, t25, t26, t27, t28, t29, t30, t31, t32, t33, t34, t35, t36, t37, t38, t39, t40, t41, t42, t43, t44, t45, t46, t47, t48, t49, t50, t51, t52, t53, t54, t55, t56, t57, t58, t59, t60, t61, t62, t63, t64, t65, t66, t67, t68, t69, t70, t71, t72, t73, t74, t75, t76, t77, t78, t79, t80, t81, t82, t83, t84, t85, t86, t87, t88, t89, t90, t91, t92, t93, t94, t95, t96, t97, t98, t99, t100, t101, t102, t103, t104, t105, t106, t107, t108, t109, t110, t111, t112, t113, t114, t115, t116, t117, t118, t119, t120, t121, t122, t123, t124, t125, t126, t127, t128, t129, t130, t131, t132, t133, t134, t135, t136, t137, t138, t139, t140, t141, t142, t143, t144, t145, t146, t147, t148, t149, t150, t151, t152, t153, t154, t155, t156, t157, t158, t159, t160, t161, t162, t163, t164, t165, t166, t167, t168, t169, t170, t171, t172], defers := [] } W := by
  subst hc
  conv => arg 4; whnf
  obtain ⟨n1, n2, n3, n4, n5, id, Ad, nd, cdd, hB, hok, hid, hnd⟩ := HM.out
  obtain ⟨hrb, ⟨v, hr⟩, hnb, hrbm, hrm, hnbm⟩ := HC.out
  obtain ⟨ii, hii, hi0, hi1, hi2⟩ := info_parts infoID
  have HAT := Lib.hid (at_of_rd hRd)
  have HDS := Lib.hid (hi1.trans (show 32 = (ida d).size by rw [ida_size]; exact hd.symm))
  have HZ := Lib.hid (show z32.length = 32 from rfl)
  have HD := Lib.hid hd
  have hne : (d == z32) = false := beq_false_of_ne hdz
  have HOK := Lib.hid hok
  have HID := Lib.hid hid
  have HR := Lib.hid (show 6 + (ida d).size ≤ (mc k n1 n2 n3 n4 n5 id Ad nd cdd A an ac none 0 0).size by rw [ida_size, hd, mc_size hid]; decide)
  have HSET := Lib.hid (mc_setid (k := k) (n1 := n1) (n2 := n2) (n3 := n3) (n4 := n4) (n5 := n5) (Ad := Ad) (nd := nd) (cd := cdd) (Ai := A) (ni := an) (ci := ac) (Al := none) (nl := 0) (cl := 0) hid hd)
  have hFW : Fr (fun j => j = mb) W (W.setRow mb (mc k n1 n2 n3 n4 n5 d Ad nd cdd A an ac none 0 0)) := (Fr.refl (fun j => j = mb) W).setRow (g := mb) rfl _
  have HFW := Lib.hid hFW
  have HBW := Lib.hid (hB.setRow (mc k n1 n2 n3 n4 n5 d Ad nd cdd A an ac none 0 0))
  have HB := Lib.hid hB
  have d5 := hrb.cell 0
  have dr := hr.cell 1
  have e5 := (hrb.fr hFW hrbm).cell 0
  have er := (hr.fr hFW hrm).cell 1
  simp at d5 dr e5 er
  clear hdz hRd hd hid hok hB hFW
  gi_wp2_with (first
    | (refine x_value_in (exec_s2a rfl rfl (by decide)) (fun _ h => by cases h) (fun _ h => by cases h) (by simp [go_sem, Region.wanted, yielded]) ?_)
    | (refine x_value_in (exec_load (T := 60) (X := ida d) (g := g) (off := o) rfl rfl underID rfl hii HDS.out HAT.out) (fun _ h => by cases h) (fun _ h => by cases h) (by simp [go_sem, Region.wanted, yielded]) ?_)
    | (refine x_value_in (x_build0 (T := 60) rfl hii hi0 underID (s := 1) (fun w => by kernel_rfl)) (fun _ h => by cases h) (fun _ h => by cases h) (by simp [go_sem, Region.wanted, yielded]) ?_)
    | (refine x_value_in (exec_eql (T := 60) (a := d) (b := z32) rfl rfl rfl underID (by kernel_rfl) (fun w => by kernel_rfl) HD.out HZ.out (by kernel_rfl)) (fun _ h => by cases h) (fun _ h => by cases h) (by simp [go_sem, Region.wanted, yielded]) ?_)
    | (refine x_skip_in (exec_store (T := 60) (X := ida d) (g := mb) (off := 6) (cs := mc k n1 n2 n3 n4 n5 id Ad nd cdd A an ac none 0 0) rfl rfl rfl hii HDS.out (ida_one _) HB.out HR.out) (fun _ h => by cases h) (fun _ h => by cases h) rfl ?_; rw [HSET.out]))
  exact hQ.out _ _ ⟨_, _, _, _, _, d, Ad, nd, cdd, HBW.out, HOK.out, HD.out, hnd⟩ HFW.out
theorem mc_setdata {k n1 n2 n3 n4 n5 : Int} {id : List UInt8} {Ad Ai Al A2 : Option Addr} {nd cd ni ci nl cl n2' c2 : Nat} (hid : id.length = 32) :
    (mc k n1 n2 n3 n4 n5 id Ad nd cd Ai ni ci Al nl cl).setIfInBounds 38 (.slice A2 n2' c2) = mc k n1 n2 n3 n4 n5 id A2 n2' c2 Ai ni ci Al nl cl := by
  unfold mc
  simp [List.set_append, hid]
theorem mc_setids {k n1 n2 n3 n4 n5 : Int} {id : List UInt8} {Ad Ai Al A2 : Option Addr} {nd cd ni ci nl cl n2' c2 : Nat} (hid : id.length = 32) :
    (mc k n1 n2 n3 n4 n5 id Ad nd cd Ai ni ci Al nl cl).setIfInBounds 39 (.slice A2 n2' c2) = mc k n1 n2 n3 n4 n5 id Ad nd cd A2 n2' c2 Al nl cl := by
  unfold mc
  simp [List.set_append, hid]
set_option maxHeartbeats 8000000 in
set_option maxRecDepth 100000 in
theorem rd_data {c : Code} (hc : c = rfBody ((Try.f37.body).getD .skip)) (l mb r rb nb g o cd : Nat) (d : List UInt8) (k : Int) (A : Option Addr) (an ac : Nat) (W : World) (HM : Hid (MsgOk k A an ac mb W)) (HC : Hid (RdW mb r rb nb W)) (hd : d.length ≤ 131072) (hd0 : d ≠ []) (hRd : Rd W (some ⟨g, o, none⟩) (d.map bv)) (hgm : g ≠ mb)
    (t0 t1 t2 t3 t9 t10 t11 t12 t13 t14 t15 t16 t17 t18 t19 t20 t21 t22 t23 t24 t25 t26 t27 t28 t29 t30 t31 t32 t33 t34 t35 t36 t37 t38 t39 t40 t41 t42 t43 t44 t45 t46 t47 t48 t49 t50 t51 t52 t53 t54 t55 t56 t57 t58 t59 t60 t61 t62 t63 t64 t65 t66 t67 t68 t69 t70 t71 t72 t73 t74 t75 t76 t77 t78 t79 t80 t81 t82 t83 t84 t85 t86 t87 t88 t89 t90 t91 t92 t93 t94 t95 t96 t97 t98 t99 t100 t101 t102 t103 t104 t105 t106 t107 t108 t109 t110 t111 t112 t113 t114 t115 t116 t117 t118 t119 t120 t121 t122 t123 t124 t125 t126 t127 t128 t129 t130 t131 t132 t133 t134 t135 t136 t137 t138 t139 t140 t141 t142 t143 t144 t145 t146 t147 t148 t149 t150 t151 t152 t153 t154 t155 t156 t157 t158 t159 t160 t161 t162 t163 t164 t165 t166 t167 t168 t169 t170 t171 t172 : Value) (Q : Exit → Act → World → Prop) (hQ : Hid (∀ tmps W', MsgOk k A an ac mb W' → Fr (fun j => j = mb) W W' → Q .normal { tmps := tmps, defers := [] } W')) :
    Code.wpIn (Fence.wide.inRound l) 4 Try.prog c Q { tmps := #[t0, t1, t2, t3, .pointer (some ⟨mb, 0, none⟩), .pointer (some ⟨rb, 0, none⟩), .pointer (some ⟨nb, 0, none⟩), .int .u8 7, .slice (some ⟨g, o, none⟩) d.length cd, t9, t10, t11, t12, t13, t14, t15, t16, t17, t18, t19, t20, t21, t22, t23, t24, t25, t26, t27, t28, t29, t30, t31, t32, t33, t34, t35, t36, t37, t38, t39, t40, t41, t42, t43, t44, t45, t46, t47, t48, t49, t50, t51, t52, t53, t54, t55, t56, t57, t58, t59, t60, t61, t62, t63, t64, t65, t66, t67, t68, t69, t70, t71, t72, t73, t74, t75, t76, t77, t78, t79, t80, t81, t82, t83, t84, t85, t86, t87, t88, t89, t90, t91, t92, t93, t94, t95, t96, t97, t98, t99, t100, t101, t102, t103, t104, t105, t106, t107, t108, t109, t110, t111, t112, t113, t114, t115, t116, t117, t118, t119, t120, t121, t122, t123, t124, t125, t126, t127, t128, t129, t130, t131, t132, t133, t134, t135, t136, t137, t138, t139, t140, t141, t142, t143, t144, t145, t146, t147, t148, t149, t150, t151, t152, t153, t154, t155, t156, t157, t158, t159, t160, t161, t162, t163, t164, t165, t166, t167, t168, t169, t170, t171, t172], defers := [] } W := by
  subst hc
  conv => arg 4; whnf
  obtain ⟨n1, n2, n3, n4, n5, id, Ad, nd, cdd, hB, hok, hid, hnd⟩ := HM.out
  obtain ⟨hrb, ⟨v, hr⟩, hnb, hrbm, hrm, hnbm⟩ := HC.out
  obtain ⟨i8, hi8, hy0, hy1, hy2⟩ := info_parts infoByte
  have hrow0 : Row (w := W.alloc (.cells #[] 5)) (t := 5) (A := some ⟨W.heap.size, 0, none⟩) (c := 0) (xs := []) := Row.lits W [] (by simp)
  obtain ⟨A2, c2, W2, hrun, hrow, hfr, hA2⟩ := run_append_rd (P := Try.prog) (W.alloc (.cells #[] 5)) 22 22 5 i8 (.int .u8 0) 1 Try.underlying22 hi8 hy0 hy1 hy2 rfl _ 0 [] hrow0 (some ⟨g, o, none⟩) cd (d.map bv) (hRd.alloc _) (by simp [bv_one]) (by simp [maxLen]; omega) (by simp; omega)
  simp only [List.length_nil, List.length_map, Nat.zero_add] at hrun
  have hN2 : Fr (fun j => j = mb) W W2 := (Fr.alloc (fun j => j = mb) W _).trans hfr (fun j hj => .inr (by simp [ab] at hj; omega))
  have hne2 : ¬ ab A2 = some mb := fun e => by
    have := hB.lt
    rcases hA2 mb e with h | h
    · simp [ab] at h; omega
    · rw [World.size_alloc] at h; omega
  have hB2 : Blk W2 mb 64 (mc k n1 n2 n3 n4 n5 id Ad nd cdd A an ac none 0 0) := (hB.alloc _).fr hfr (fun e => by have := hB.lt; simp [ab] at e; omega)
  have hset := hB2.set 38 (.slice A2 d.length c2)
  rw [mc_setdata hid] at hset
  have hFW : Fr (fun j => j = mb) W (W2.setCell ⟨mb, 38, none⟩ (.slice A2 d.length c2)) := hN2.then_set (p := ⟨mb, 38, none⟩) rfl _
  have hl0 : ((d.length : Int) == 0) = false := beq_false_of_ne (by have := List.length_pos_iff.2 hd0; omega)
  have d5 := hrb.cell 0
  have dr := hr.cell 1
  have e5 := (hrb.fr hFW hrbm).cell 0
  have er := (hr.fr hFW hrm).cell 1
  have hc38 : W2.cell? ⟨mb, 38, none⟩ = some (.slice Ad nd cdd) := by rw [hB2.cell]; simp [mc, hid]
  have hf38 := hB2.frozen 38
  simp at d5 dr e5 er
  have HFW := Lib.hid hFW
  have HBW := Lib.hid hset
  have HOK := Lib.hid hok
  clear hRd hok hB hFW hset hrow0 hrow hfr hA2 hN2 hne2 hB2 hd0
  generalize hn : d.length = n at *
  clear hn
  gi_wp2_with (first
    | (gi_at_builtin; refine wpListIn_append_run hrun rfl rfl _ _ rfl rfl rfl ?_))
  exact hQ.out _ _ ⟨_, _, _, _, _, id, A2, n, c2, HBW.out, HOK.out, hid, hd⟩ HFW.out
end Go.Proofs.Ytefalfalapnllaa
