/- Package pack: the rounds of Read's loop. -/
import Derived.Test.YtefalfalapnllaaFilG
namespace Go.Proofs.Ytefalfalapnllaa
open Go.RowKit Go.Shelf
set_option linter.unusedVariables false
attribute [local go_sem] Oper.semAt_some
attribute [local irreducible] opHeld
/-- the body of the first range over a function -/
def rfBody : Code → Code
  | .rangeFunc _ _ _ b => b
  | .block _ b => rfBody b
  | .scope b => rfBody b
  | .loop b => rfBody b
  | .seq a b => match rfBody a with
    | .skip => rfBody b
    | c => c
  | .cond _ a b => match rfBody a with
    | .skip => rfBody b
    | c => c
  | _ => .skip
/-- the message that is read, so far -/
def MsgOk (k : Int) (A : Option Addr) (n c : Nat) (mb : Nat) (W : World) : Prop :=
  ∃ (n1 n2 n3 n4 n5 : Int) (id : List UInt8) (Ad : Option Addr) (nd cd : Nat), Blk W mb 64 (mc k n1 n2 n3 n4 n5 id Ad nd cd A n c none 0 0) ∧ (okN n1 ∧ okN n2 ∧ okN n3 ∧ okN n4 ∧ okN n5) ∧ id.length = 32 ∧ nd ≤ 131072
/-- what the rounds lean on -/
def RdW (mb r rb nb : Nat) (W : World) : Prop :=
  Blk W rb 104 #[.pointer (some ⟨r, 0, none⟩)] ∧ (∃ v, Blk W r 106 #[v, .int .i64 0]) ∧ Blk W nb 108 #[.pointer (some ⟨mb, 1, none⟩), .pointer (some ⟨mb, 2, none⟩), .pointer (some ⟨mb, 3, none⟩), .pointer (some ⟨mb, 4, none⟩), .pointer (some ⟨mb, 5, none⟩)] ∧ rb ≠ mb ∧ r ≠ mb ∧ nb ≠ mb
theorem RdW.fr {mb r rb nb : Nat} {W V : World} (h : RdW mb r rb nb W) (f : Fr (fun j => j = mb) W V) : RdW mb r rb nb V := by
  obtain ⟨h1, ⟨v, h2⟩, h3, h4, h5, h6⟩ := h
  exact ⟨h1.fr f h4, ⟨v, h2.fr f h5⟩, h3.fr f h6, h4, h5, h6⟩
set_option maxHeartbeats 8000000 in
set_option maxRecDepth 100000 in
theorem rd_num {c : Code} (hc : c = rfBody ((Try.f37.body).getD .skip)) (l mb r rb nb g o cd i m : Nat) (k : Int) (A : Option Addr) (an ac : Nat) (W : World) (HM : Hid (MsgOk k A an ac mb W)) (HC : Hid (RdW mb r rb nb W)) (hi : i < 5) (hm0 : m ≠ 0) (hm : m ≤ 1099511627776) (hRd : Rd W (some ⟨g, o, none⟩) ((Pk.numB m).map bv)) (hgm : g ≠ mb) (tag : Int) (htag : tag = i + 1)
    (t0 t1 t2 t3 t9 t10 t11 t12 t13 t14 t15 t16 t17 t18 t19 t20 t21 t22 t23 t24 t25 t26 t27 t28 t29 t30 t31 t32 t33 t34 t35 t36 t37 t38 t39 t40 t41 t42 t43 t44 t45 t46 t47 t48 t49 t50 t51 t52 t53 t54 t55 t56 t57 t58 t59 t60 t61 t62 t63 t64 t65 t66 t67 t68 t69 t70 t71 t72 t73 t74 t75 t76 t77 t78 t79 t80 t81 t82 t83 t84 t85 t86 t87 t88 t89 t90 t91 t92 t93 t94 t95 t96 t97 t98 t99 t100 t101 t102 t103 t104 t105 t106 t107 t108 t109 t110 t111 t112 t113 t114 t115 t116 t117 t118 t119 t120 t121 t122 t123 t124 t125 t126 t127 t128 t129 t130 t131 t132 t133 t134 t135 t136 t137 t138 t139 t140 t141 t142 t143 t144 t145 t146 t147 t148 t149 t150 t151 t152 t153 t154 t155 t156 t157 t158 t159 t160 t161 t162 t163 t164 t165 t166 t167 t168 t169 t170 t171 t172 : Value) (Q : Exit → Act → World → Prop) (hQ : Hid (∀ tmps W', MsgOk k A an ac mb W' → Fr (fun j => j = mb) W W' → Q .normal { tmps := tmps, defers := [] } W')) :
    Code.wpIn (Fence.wide.inRound l) 4 Try.prog c Q { tmps := #[t0, t1, t2, t3, .pointer (some ⟨mb, 0, none⟩), .pointer (some ⟨rb, 0, none⟩), .pointer (some ⟨nb, 0, none⟩), .int .u8 tag, .slice (some ⟨g, o, none⟩) (Pk.numB m).length cd, t9, t10, t11, t12, t13, t14, t15, t16, t17, t18, t19, t20, t21, t22, t23, t24, t25, t26, t27, t28, t29, t30, t31, t32, t33, t34, t35, t36, t37, t38, t39, t40, t41, t42, t43, t44, t45, t46, t47, t48, t49, t50, t51, t52, t53, t54, t55, t56, t57, t58, t59, t60, t61, t62, t63, t64, t65, t66, t67, t68, t69, t70, t71, t72, t73, t74, t75, t76, t77, t78, t79, t80, t81, t82, t83, t84, t85, t86, t87, t88, t89, t90, t91, t92, t93, t94, t95, t96, t97, t98, t99, t100, t101, t102, t103, t104, t105, t106, t107, t108, t109, t110, t111, t112, t113, t114, t115, t116, t117, t118, t119, t120, t121, t122, t123, t124, t125, t126, t127, t128, t129, t130, t131, t132, t133, t134, t135, t136, t137, t138, t139, t140, t141, t142, t143, t144, t145, t146, t147, t148, t149, t150, t151, t152, t153, t154, t155, t156, t157, t158, t159, t160, t161, t162, t163, t164, t165, t166, t167, t168, t169, t170, t171, t172], defers := [] } W := by
  subst hc
  conv => arg 4; whnf
  obtain ⟨n1, n2, n3, n4, n5, id, Ad, nd, cdd, hB, hok, hid, hnd⟩ := HM.out
  obtain ⟨hrb, ⟨v, hr⟩, hnb, hrbm, hrm, hnbm⟩ := HC.out
  have hpos : (Pk.numB m).length ≠ 0 := by have := Pk.numB_ne m hm0; simpa using this
  have hnum := fun V (hV : Fr (fun j => j = mb) W V) => r_number V (.pointer (some ⟨r, 0, none⟩)) (some ⟨g, o, none⟩) cd m (hRd.fr hV (fun j hj e => by simp [ab] at hj; exact hgm (hj.trans e))) hm0 hm
  have hokm : okN (m : Int) := by unfold okN; omega
  clear hRd
  generalize (Pk.numB m).length = q at *
  have hl0 : ((q : Int) == 0) = false := beq_false_of_ne (by omega)
  have HB := Lib.hid hB
  have HOK := Lib.hid hok
  have HN := Lib.hid hnum
  clear hok hnum
  have hw0 : ∀ j, W.drew.cell? ⟨mb, j, none⟩ = (mc k n1 n2 n3 n4 n5 id Ad nd cdd A an ac none 0 0)[j]? := fun j => hB.cell j
  have hfz : ∀ j, W.drew.frozen? ⟨mb, j, none⟩ = false := fun j => hB.frozen j
  have d5 : W.drew.cell? ⟨rb, 0, none⟩ = some (.pointer (some ⟨r, 0, none⟩)) := hrb.cell 0
  have dr : W.cell? ⟨r, 1, none⟩ = some (.int .i64 0) := hr.cell 1
  have dn := fun j => (show W.drew.cell? ⟨nb, j, none⟩ = _ from hnb.cell j)
  have hBd : Blk W.drew mb 64 (mc k n1 n2 n3 n4 n5 id Ad nd cdd A an ac none 0 0) := hB
  clear hB
  obtain rfl | rfl | rfl | rfl | rfl : i = 0 ∨ i = 1 ∨ i = 2 ∨ i = 3 ∨ i = 4 := by omega
  · subst htag
    have dn0 := dn 0
    have hw1 := hw0 1
    have hf1 := hfz 1
    simp [mc] at dn0 hw1
    clear dn hw0 hfz
    have hBW := hBd.set 1 (.int .i64 m)
    have hFW : Fr (fun j => j = mb) W (W.drew.setCell ⟨mb, 1, none⟩ (.int .i64 m)) := (Fr.drew (fun j => j = mb) W).trans (Fr.setCell (S := fun j => j = mb) _ rfl _) (fun k h => .inl h)
    have HBW := Lib.hid hBW
    have HFW := Lib.hid hFW
    clear hBW hFW hBd
    simp only [Int.ofNat_zero, Int.natCast_zero, Int.zero_add, Int.reduceAdd]
    gi_upto_region 14 with fail
    generalize hWE : W.drew.setCell ⟨mb, 1, none⟩ (.int .i64 m) = WE at *
    refine wpIn_region_all (fun _ => trivial) rfl (by kernel_rfl) (by kernel_rfl) [.int .u8 1, .int .u8 0, .pointer (some ⟨nb, 0, none⟩), .pointer (some ⟨mb, 1, none⟩), .pointer (some ⟨r, 0, none⟩), .slice (some ⟨g, o, none⟩) q cd, .int .i64 m, .pointer (some ⟨mb, 1, none⟩), undef] (by kernel_rfl) (chS 8 [0, 1, 2, 3, 4, 5, 6, 7] WE W.drew []) _ (by simp [putAll, Act.put]; rfl) (chS.zero 9) ?hops ?after
    case hops =>
      refine ⟨?_, ?_, ?_, ?_, ?_, ?_, ?_, ?_, ?_, trivial⟩
      all_goals
        rintro L W' hz hd hn HS
        refine held_plain rfl ?_
      iterate 6
        · have H2 := HS.keep (by rw [hz]; decide) (by decide) hn (by simp)
          obtain ⟨_, hk0, e⟩ := HS.at (HS.need (by rw [hz]; decide) (by decide) hn)
          obtain rfl := Nat.le_zero.1 hk0
          obtain rfl : W' = W.drew := e
          clear hd hn hz HS hWE hk0
          unfold opHeld
          go_simp
          try rfl
      · have H2 := HS.keep (by rw [hz]; decide) (by decide) hn (by simp)
        obtain ⟨_, hk0, e⟩ := HS.at (HS.need (by rw [hz]; decide) (by decide) hn)
        obtain rfl := Nat.le_zero.1 hk0
        obtain rfl : W' = W.drew := e
        have hc := HN.out W.drew (Fr.drew _ W)
        clear hd hn hz HS hWE hk0
        unfold opHeld
        go_simp
        refine (show CallsIn Fence.wide 3 _ _ _ _ _ from (callsIn_wide.2 hc).mono ?_)
        rintro e w'' ⟨rfl, rfl⟩
        exact ⟨rfl, H2⟩
      · have H2 := HS.keep (by rw [hz]; decide) (by decide) hn (by simp)
        obtain ⟨_, hk0, e⟩ := HS.at (HS.need (by rw [hz]; decide) (by decide) hn)
        obtain rfl := Nat.le_zero.1 hk0
        obtain rfl : W' = W.drew := e
        clear hd hn hz HS hWE hk0
        unfold opHeld
        go_simp
      · have hall : ∀ i ∈ [0, 1, 2, 3, 4, 5, 6, 7], L.getD i true = true := by
          intro i hi
          simp only [List.mem_cons, List.not_mem_nil, or_false] at hi
          obtain rfl | rfl | rfl | rfl | rfl | rfl | rfl | rfl := hi
          iterate 7 exact getD_of_both (hd ⟨_, .phase⟩ (by simp) rfl)
          exact getD_of_both (hd ⟨7, .data⟩ (by simp) rfl)
        obtain ⟨e, H2⟩ := HS.last (by rw [hz]; decide) hn hall (by simp)
        obtain rfl : W' = W.drew := e
        clear hd hn hz HS hall
        unfold opHeld
        go_simp
    case after =>
      intro L w' hz hall HS
      obtain rfl := HS.end (by rw [hz]; decide) hall
      have e5 := (hrb.fr HFW.out hrbm).cell 0
      have er := (hr.fr HFW.out hrm).cell 1
      simp at e5 er
      clear HS hall hz hWE d5 dr dn0 hw1 hf1
      gi_wp2_with fail
      refine hQ.out _ _ ⟨_, _, _, _, _, id, Ad, nd, cdd, HBW.out, ⟨hokm, HOK.out.2.1, HOK.out.2.2.1, HOK.out.2.2.2.1, HOK.out.2.2.2.2⟩, hid, hnd⟩ HFW.out
  · subst htag
    have dn0 := dn 1
    have hw1 := hw0 2
    have hf1 := hfz 2
    simp [mc] at dn0 hw1
    clear dn hw0 hfz
    have hBW := hBd.set 2 (.int .i64 m)
    have hFW : Fr (fun j => j = mb) W (W.drew.setCell ⟨mb, 2, none⟩ (.int .i64 m)) := (Fr.drew (fun j => j = mb) W).trans (Fr.setCell (S := fun j => j = mb) _ rfl _) (fun k h => .inl h)
    have HBW := Lib.hid hBW
    have HFW := Lib.hid hFW
    clear hBW hFW hBd
    simp only [Int.ofNat_zero, Int.natCast_zero, Int.zero_add, Int.reduceAdd]
    gi_upto_region 14 with fail
    generalize hWE : W.drew.setCell ⟨mb, 2, none⟩ (.int .i64 m) = WE at *
    refine wpIn_region_all (fun _ => trivial) rfl (by kernel_rfl) (by kernel_rfl) [.int .u8 2, .int .u8 1, .pointer (some ⟨nb, 1, none⟩), .pointer (some ⟨mb, 2, none⟩), .pointer (some ⟨r, 0, none⟩), .slice (some ⟨g, o, none⟩) q cd, .int .i64 m, .pointer (some ⟨mb, 2, none⟩), undef] (by kernel_rfl) (chS 8 [0, 1, 2, 3, 4, 5, 6, 7] WE W.drew []) _ (by simp [putAll, Act.put]; rfl) (chS.zero 9) ?hops ?after
    case hops =>
      refine ⟨?_, ?_, ?_, ?_, ?_, ?_, ?_, ?_, ?_, trivial⟩
      all_goals
        rintro L W' hz hd hn HS
        refine held_plain rfl ?_
      iterate 6
        · have H2 := HS.keep (by rw [hz]; decide) (by decide) hn (by simp)
          obtain ⟨_, hk0, e⟩ := HS.at (HS.need (by rw [hz]; decide) (by decide) hn)
          obtain rfl := Nat.le_zero.1 hk0
          obtain rfl : W' = W.drew := e
          clear hd hn hz HS hWE hk0
          unfold opHeld
          go_simp
          try rfl
      · have H2 := HS.keep (by rw [hz]; decide) (by decide) hn (by simp)
        obtain ⟨_, hk0, e⟩ := HS.at (HS.need (by rw [hz]; decide) (by decide) hn)
        obtain rfl := Nat.le_zero.1 hk0
        obtain rfl : W' = W.drew := e
        have hc := HN.out W.drew (Fr.drew _ W)
        clear hd hn hz HS hWE hk0
        unfold opHeld
        go_simp
        refine (show CallsIn Fence.wide 3 _ _ _ _ _ from (callsIn_wide.2 hc).mono ?_)
        rintro e w'' ⟨rfl, rfl⟩
        exact ⟨rfl, H2⟩
      · have H2 := HS.keep (by rw [hz]; decide) (by decide) hn (by simp)
        obtain ⟨_, hk0, e⟩ := HS.at (HS.need (by rw [hz]; decide) (by decide) hn)
        obtain rfl := Nat.le_zero.1 hk0
        obtain rfl : W' = W.drew := e
        clear hd hn hz HS hWE hk0
        unfold opHeld
        go_simp
      · have hall : ∀ i ∈ [0, 1, 2, 3, 4, 5, 6, 7], L.getD i true = true := by
          intro i hi
          simp only [List.mem_cons, List.not_mem_nil, or_false] at hi
          obtain rfl | rfl | rfl | rfl | rfl | rfl | rfl | rfl := hi
          iterate 7 exact getD_of_both (hd ⟨_, .phase⟩ (by simp) rfl)
          exact getD_of_both (hd ⟨7, .data⟩ (by simp) rfl)
        obtain ⟨e, H2⟩ := HS.last (by rw [hz]; decide) hn hall (by simp)
        obtain rfl : W' = W.drew := e
        clear hd hn hz HS hall
        unfold opHeld
        go_simp
    case after =>
      intro L w' hz hall HS
      obtain rfl := HS.end (by rw [hz]; decide) hall
      have e5 := (hrb.fr HFW.out hrbm).cell 0
      have er := (hr.fr HFW.out hrm).cell 1
      simp at e5 er
      clear HS hall hz hWE d5 dr dn0 hw1 hf1
      gi_wp2_with fail
      refine hQ.out _ _ ⟨_, _, _, _, _, id, Ad, nd, cdd, HBW.out, ⟨HOK.out.1, hokm, HOK.out.2.2.1, HOK.out.2.2.2.1, HOK.out.2.2.2.2⟩, hid, hnd⟩ HFW.out
  · subst htag
    have dn0 := dn 2
    have hw1 := hw0 3
    have hf1 := hfz 3
    simp [mc] at dn0 hw1
    clear dn hw0 hfz
    have hBW := hBd.set 3 (.int .i64 m)
    have hFW : Fr (fun j => j = mb) W (W.drew.setCell ⟨mb, 3, none⟩ (.int .i64 m)) := (Fr.drew (fun j => j = mb) W).trans (Fr.setCell (S := fun j => j = mb) _ rfl _) (fun k h => .inl h)
    have HBW := Lib.hid hBW
    have HFW := Lib.hid hFW
    clear hBW hFW hBd
    simp only [Int.ofNat_zero, Int.natCast_zero, Int.zero_add, Int.reduceAdd]
    gi_upto_region 14 with fail
    generalize hWE : W.drew.setCell ⟨mb, 3, none⟩ (.int .i64 m) = WE at *
    refine wpIn_region_all (fun _ => trivial) rfl (by kernel_rfl) (by kernel_rfl) [.int .u8 3, .int .u8 2, .pointer (some ⟨nb, 2, none⟩), .pointer (some ⟨mb, 3, none⟩), .pointer (some ⟨r, 0, none⟩), .slice (some ⟨g, o, none⟩) q cd, .int .i64 m, .pointer (some ⟨mb, 3, none⟩), undef] (by kernel_rfl) (chS 8 [0, 1, 2, 3, 4, 5, 6, 7] WE W.drew []) _ (by simp [putAll, Act.put]; rfl) (chS.zero 9) ?hops ?after
    case hops =>
      refine ⟨?_, ?_, ?_, ?_, ?_, ?_, ?_, ?_, ?_, trivial⟩
      all_goals
        rintro L W' hz hd hn HS
        refine held_plain rfl ?_
      iterate 6
        · have H2 := HS.keep (by rw [hz]; decide) (by decide) hn (by simp)
          obtain ⟨_, hk0, e⟩ := HS.at (HS.need (by rw [hz]; decide) (by decide) hn)
          obtain rfl := Nat.le_zero.1 hk0
          obtain rfl : W' = W.drew := e
          clear hd hn hz HS hWE hk0
          unfold opHeld
          go_simp
          try rfl
      · have H2 := HS.keep (by rw [hz]; decide) (by decide) hn (by simp)
        obtain ⟨_, hk0, e⟩ := HS.at (HS.need (by rw [hz]; decide) (by decide) hn)
        obtain rfl := Nat.le_zero.1 hk0
        obtain rfl : W' = W.drew := e
        have hc := HN.out W.drew (Fr.drew _ W)
        clear hd hn hz HS hWE hk0
        unfold opHeld
        go_simp
        refine (show CallsIn Fence.wide 3 _ _ _ _ _ from (callsIn_wide.2 hc).mono ?_)
        rintro e w'' ⟨rfl, rfl⟩
        exact ⟨rfl, H2⟩
      · have H2 := HS.keep (by rw [hz]; decide) (by decide) hn (by simp)
        obtain ⟨_, hk0, e⟩ := HS.at (HS.need (by rw [hz]; decide) (by decide) hn)
        obtain rfl := Nat.le_zero.1 hk0
        obtain rfl : W' = W.drew := e
        clear hd hn hz HS hWE hk0
        unfold opHeld
        go_simp
      · have hall : ∀ i ∈ [0, 1, 2, 3, 4, 5, 6, 7], L.getD i true = true := by
          intro i hi
          simp only [List.mem_cons, List.not_mem_nil, or_false] at hi
          obtain rfl | rfl | rfl | rfl | rfl | rfl | rfl | rfl := hi
          iterate 7 exact getD_of_both (hd ⟨_, .phase⟩ (by simp) rfl)
          exact getD_of_both (hd ⟨7, .data⟩ (by simp) rfl)
        obtain ⟨e, H2⟩ := HS.last (by rw [hz]; decide) hn hall (by simp)
        obtain rfl : W' = W.drew := e
        clear hd hn hz HS hall
        unfold opHeld
        go_simp
    case after =>
      intro L w' hz hall HS
      obtain rfl := HS.end (by rw [hz]; decide) hall
      have e5 := (hrb.fr HFW.out hrbm).cell 0
      have er := (hr.fr HFW.out hrm).cell 1
      simp at e5 er
      clear HS hall hz hWE d5 dr dn0 hw1 hf1
      gi_wp2_with fail
      refine hQ.out _ _ ⟨_, _, _, _, _, id, Ad, nd, cdd, HBW.out, ⟨HOK.out.1, HOK.out.2.1, hokm, HOK.out.2.2.2.1, HOK.out.2.2.2.2⟩, hid, hnd⟩ HFW.out
  · subst htag
    have dn0 := dn 3
    have hw1 := hw0 4
    have hf1 := hfz 4
    simp [mc] at dn0 hw1
    clear dn hw0 hfz
    have hBW := hBd.set 4 (.int .i64 m)
    have hFW : Fr (fun j => j = mb) W (W.drew.setCell ⟨mb, 4, none⟩ (.int .i64 m)) := (Fr.drew (fun j => j = mb) W).trans (Fr.setCell (S := fun j => j = mb) _ rfl _) (fun k h => .inl h)
    have HBW := Lib.hid hBW
    have HFW := Lib.hid hFW
    clear hBW hFW hBd
    simp only [Int.ofNat_zero, Int.natCast_zero, Int.zero_add, Int.reduceAdd]
    gi_upto_region 14 with fail
    generalize hWE : W.drew.setCell ⟨mb, 4, none⟩ (.int .i64 m) = WE at *
    refine wpIn_region_all (fun _ => trivial) rfl (by kernel_rfl) (by kernel_rfl) [.int .u8 4, .int .u8 3, .pointer (some ⟨nb, 3, none⟩), .pointer (some ⟨mb, 4, none⟩), .pointer (some ⟨r, 0, none⟩), .slice (some ⟨g, o, none⟩) q cd, .int .i64 m, .pointer (some ⟨mb, 4, none⟩), undef] (by kernel_rfl) (chS 8 [0, 1, 2, 3, 4, 5, 6, 7] WE W.drew []) _ (by simp [putAll, Act.put]; rfl) (chS.zero 9) ?hops ?after
    case hops =>
      refine ⟨?_, ?_, ?_, ?_, ?_, ?_, ?_, ?_, ?_, trivial⟩
      all_goals
        rintro L W' hz hd hn HS
        refine held_plain rfl ?_
      iterate 6
        · have H2 := HS.keep (by rw [hz]; decide) (by decide) hn (by simp)
          obtain ⟨_, hk0, e⟩ := HS.at (HS.need (by rw [hz]; decide) (by decide) hn)
          obtain rfl := Nat.le_zero.1 hk0
          obtain rfl : W' = W.drew := e
          clear hd hn hz HS hWE hk0
          unfold opHeld
          go_simp
          try rfl
      · have H2 := HS.keep (by rw [hz]; decide) (by decide) hn (by simp)
        obtain ⟨_, hk0, e⟩ := HS.at (HS.need (by rw [hz]; decide) (by decide) hn)
        obtain rfl := Nat.le_zero.1 hk0
        obtain rfl : W' = W.drew := e
        have hc := HN.out W.drew (Fr.drew _ W)
        clear hd hn hz HS hWE hk0
        unfold opHeld
        go_simp
        refine (show CallsIn Fence.wide 3 _ _ _ _ _ from (callsIn_wide.2 hc).mono ?_)
        rintro e w'' ⟨rfl, rfl⟩
        exact ⟨rfl, H2⟩
      · have H2 := HS.keep (by rw [hz]; decide) (by decide) hn (by simp)
        obtain ⟨_, hk0, e⟩ := HS.at (HS.need (by rw [hz]; decide) (by decide) hn)
        obtain rfl := Nat.le_zero.1 hk0
        obtain rfl : W' = W.drew := e
        clear hd hn hz HS hWE hk0
        unfold opHeld
        go_simp
      · have hall : ∀ i ∈ [0, 1, 2, 3, 4, 5, 6, 7], L.getD i true = true := by
          intro i hi
          simp only [List.mem_cons, List.not_mem_nil, or_false] at hi
          obtain rfl | rfl | rfl | rfl | rfl | rfl | rfl | rfl := hi
          iterate 7 exact getD_of_both (hd ⟨_, .phase⟩ (by simp) rfl)
          exact getD_of_both (hd ⟨7, .data⟩ (by simp) rfl)
        obtain ⟨e, H2⟩ := HS.last (by rw [hz]; decide) hn hall (by simp)
        obtain rfl : W' = W.drew := e
        clear hd hn hz HS hall
        unfold opHeld
        go_simp
    case after =>
      intro L w' hz hall HS
      obtain rfl := HS.end (by rw [hz]; decide) hall
      have e5 := (hrb.fr HFW.out hrbm).cell 0
      have er := (hr.fr HFW.out hrm).cell 1
      simp at e5 er
      clear HS hall hz hWE d5 dr dn0 hw1 hf1
      gi_wp2_with fail
      refine hQ.out _ _ ⟨_, _, _, _, _, id, Ad, nd, cdd, HBW.out, ⟨HOK.out.1, HOK.out.2.1, HOK.out.2.2.1, hokm, HOK.out.2.2.2.2⟩, hid, hnd⟩ HFW.out
  · subst htag
    have dn0 := dn 4
    have hw1 := hw0 5
    have hf1 := hfz 5
    simp [mc] at dn0 hw1
    clear dn hw0 hfz
    have hBW := hBd.set 5 (.int .i64 m)
    have hFW : Fr (fun j => j = mb) W (W.drew.setCell ⟨mb, 5, none⟩ (.int .i64 m)) := (Fr.drew (fun j => j = mb) W).trans (Fr.setCell (S := fun j => j = mb) _ rfl _) (fun k h => .inl h)
    have HBW := Lib.hid hBW
    have HFW := Lib.hid hFW
    clear hBW hFW hBd
    simp only [Int.ofNat_zero, Int.natCast_zero, Int.zero_add, Int.reduceAdd]
    gi_upto_region 14 with fail
    generalize hWE : W.drew.setCell ⟨mb, 5, none⟩ (.int .i64 m) = WE at *
    refine wpIn_region_all (fun _ => trivial) rfl (by kernel_rfl) (by kernel_rfl) [.int .u8 5, .int .u8 4, .pointer (some ⟨nb, 4, none⟩), .pointer (some ⟨mb, 5, none⟩), .pointer (some ⟨r, 0, none⟩), .slice (some ⟨g, o, none⟩) q cd, .int .i64 m, .pointer (some ⟨mb, 5, none⟩), undef] (by kernel_rfl) (chS 8 [0, 1, 2, 3, 4, 5, 6, 7] WE W.drew []) _ (by simp [putAll, Act.put]; rfl) (chS.zero 9) ?hops ?after
    case hops =>
      refine ⟨?_, ?_, ?_, ?_, ?_, ?_, ?_, ?_, ?_, trivial⟩
      all_goals
        rintro L W' hz hd hn HS
        refine held_plain rfl ?_
      iterate 6
        · have H2 := HS.keep (by rw [hz]; decide) (by decide) hn (by simp)
          obtain ⟨_, hk0, e⟩ := HS.at (HS.need (by rw [hz]; decide) (by decide) hn)
          obtain rfl := Nat.le_zero.1 hk0
          obtain rfl : W' = W.drew := e
          clear hd hn hz HS hWE hk0
          unfold opHeld
          go_simp
          try rfl
      · have H2 := HS.keep (by rw [hz]; decide) (by decide) hn (by simp)
        obtain ⟨_, hk0, e⟩ := HS.at (HS.need (by rw [hz]; decide) (by decide) hn)
        obtain rfl := Nat.le_zero.1 hk0
        obtain rfl : W' = W.drew := e
        have hc := HN.out W.drew (Fr.drew _ W)
        clear hd hn hz HS hWE hk0
        unfold opHeld
        go_simp
        refine (show CallsIn Fence.wide 3 _ _ _ _ _ from (callsIn_wide.2 hc).mono ?_)
        rintro e w'' ⟨rfl, rfl⟩
        exact ⟨rfl, H2⟩
      · have H2 := HS.keep (by rw [hz]; decide) (by decide) hn (by simp)
        obtain ⟨_, hk0, e⟩ := HS.at (HS.need (by rw [hz]; decide) (by decide) hn)
        obtain rfl := Nat.le_zero.1 hk0
        obtain rfl : W' = W.drew := e
        clear hd hn hz HS hWE hk0
        unfold opHeld
        go_simp
      · have hall : ∀ i ∈ [0, 1, 2, 3, 4, 5, 6, 7], L.getD i true = true := by
          intro i hi
          simp only [List.mem_cons, List.not_mem_nil, or_false] at hi
          obtain rfl | rfl | rfl | rfl | rfl | rfl | rfl | rfl := hi
          iterate 7 exact getD_of_both (hd ⟨_, .phase⟩ (by simp) rfl)
          exact getD_of_both (hd ⟨7, .data⟩ (by simp) rfl)
        obtain ⟨e, H2⟩ := HS.last (by rw [hz]; decide) hn hall (by simp)
        obtain rfl : W' = W.drew := e
        clear hd hn hz HS hall
        unfold opHeld
        go_simp
    case after =>
      intro L w' hz hall HS
      obtain rfl := HS.end (by rw [hz]; decide) hall
      have e5 := (hrb.fr HFW.out hrbm).cell 0
      have er := (hr.fr HFW.out hrm).cell 1
      simp at e5 er
      clear HS hall hz hWE d5 dr dn0 hw1 hf1
      gi_wp2_with fail
      refine hQ.out _ _ ⟨_, _, _, _, _, id, Ad, nd, cdd, HBW.out, ⟨HOK.out.1, HOK.out.2.1, HOK.out.2.2.1, HOK.out.2.2.2.1, hokm⟩, hid, hnd⟩ HFW.out
end Go.Proofs.Ytefalfalapnllaa
