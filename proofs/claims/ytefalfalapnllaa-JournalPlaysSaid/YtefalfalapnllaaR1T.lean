/- The contracts of the document's Text and For. -/
import Derived.Test.YtefalfalapnllaaR1O
import Derived.Test.YtefalfalapnllaaGen
import Derived.Test.YtefalfalapnllaaLast
import Derived.Test.YtefalfalapnllaaOnceP
namespace Go.Proofs.Ytefalfalapnllaa
open Go.RowKit Go.Shelf
set_option linter.unusedVariables false
theorem ba_append (l m : List UInt8) : (⟨l.toArray⟩ : ByteArray) ++ ⟨m.toArray⟩ = ⟨(l ++ m).toArray⟩ := by
  apply ByteArray.ext
  simp
attribute [local go_sem] ba_append
set_option maxHeartbeats 1000000 in
set_option maxRecDepth 20000 in
theorem text_any (w : World) (x : List UInt8) (hx : x.length = 32) :
    Calls Try.prog 55 #[.agg (ida x)] w fun e w' => e = .returned (.string ⟨x.toArray⟩) ∧ New w w' := by
  have HX := Lib.hid hx
  clear hx
  go_enter Try.func55, Try.ntmps55
  go_wp2_with (refine x_value (exec_box (T := 60) rfl rfl) (by simp [go_sem, Region.wanted, yielded]) ?_)
  have hN0 : New w (w.alloc (.cells (ida x) 60)) := Fr.alloc _ w _
  have hB0 := Blk.new w 60 (ida x)
  generalize w.alloc (.cells (ida x) 60) = w1 at *
  generalize hib : w.heap.size = ib at *
  go_loopw [3, 4] (fun s n W => ∃ k : Nat, s = .string ⟨(x.take k).toArray⟩ ∧ n = .int .i64 k ∧ k ≤ 32 ∧ New w1 W) (fun _ n _ => 32 - (intOf n).toNat)
  case atStart => exact ⟨0, rfl, rfl, by omega, Fr.refl _ _⟩
  case round =>
    obtain ⟨k, rfl, rfl, hk, hN⟩ := hrel
    by_cases hlt : k < 32
    · have hc := ida_cell (hB0.fr hN id) (j := k) (by rw [HX.out]; exact hlt)
      have hlt' : (k : Int) < 32 := by omega
      have htk : x.take (k + 1) = x.take k ++ [x.getD k 0] := by
        rw [List.take_succ_eq_append_getElem (by rw [HX.out]; exact hlt), List.getD_eq_getElem?_getD, List.getElem?_eq_getElem (by rw [HX.out]; exact hlt)]
        rfl
      generalize x.getD k 0 = b at *
      have hstr := run_str_rd (P := Try.prog) (wr.alloc (.cells #[.int .u8 (b.toNat : Int)] 5)) 22 5 Try.underlying22 Try.underlying5 (some ⟨wr.heap.size, 0, none⟩) 1 [b] (lit_rd wr [bv b] 5) 9 Try.underlying9
      have HS := Lib.hid (show (convert 22 9 (.slice (some ⟨wr.heap.size, 0, none⟩) 1 1)).run Try.prog (wr.alloc (.cells #[.int .u8 (b.toNat : Int)] 5)) = .ok (.string ⟨[b].toArray⟩) (wr.alloc (.cells #[.int .u8 (b.toNat : Int)] 5)) from hstr)
      have HT := Lib.hid htk
      have HN := Lib.hid (hN.then_alloc (.cells #[.int .u8 (b.toNat : Int)] 5))
      clear hstr htk hN hB0
      have hstr := HS.out
      go_wp2_with fail
      refine ⟨⟨k + 1, by rw [HT.out], by go_num, by omega, HN.out⟩, ?_⟩
      simp [intOf]
      omega
    · obtain rfl : k = 32 := by omega
      have hall : x.take 32 = x := List.take_of_length_le (by rw [HX.out]; exact Nat.le_refl _)
      rw [hall]
      have HN := Lib.hid (hN0.trans hN fun _ h => h.elim)
      clear hall hN hN0 hB0 hlt hk
      go_wp2_with fail
      go_ret
      exact ⟨rfl, HN.out⟩
/-- a row of texts -/
def tv (ps : List (List UInt8)) : List Value := ps.map fun p => .string ⟨p.toArray⟩
/-- the parts, each with its length ahead -/
def midB (ps : List (List UInt8)) : List UInt8 := ps.flatMap fun p => Once.len4 p.length ++ p
theorem midB_succ (ps : List (List UInt8)) (k : Nat) (h : k < ps.length) : midB (ps.take (k + 1)) = midB (ps.take k) ++ (Once.len4 ps[k].length ++ ps[k]) := by
  unfold midB
  rw [List.take_succ_eq_append_getElem h, List.flatMap_append]
  simp
theorem midB_cnt (ps : List (List UInt8)) : 4 * ps.length ≤ (midB ps).length := by
  induction ps with
  | nil => simp [midB]
  | cons p ps ih =>
    unfold midB at ih ⊢
    rw [List.flatMap_cons, List.length_append, List.length_append, Once.len4_length, List.length_cons]
    omega
theorem midB_len (ps : List (List UInt8)) (k : Nat) (h : k < ps.length) : ps[k].length ≤ (midB ps).length := by
  have e : midB ps = midB (ps.take (k + 1)) ++ midB (ps.drop (k + 1)) := by
    unfold midB
    rw [← List.flatMap_append, List.take_append_drop]
  rw [e, midB_succ ps k h]
  simp
  omega
/-- where the four bytes are made -/
def FourAt (W2 : World) (n : Nat) (four : List UInt8) (L : Array Bool) (W' : World) : Prop :=
  New W2 W' ∧ (L.getD 16 false = false → W'.heap.size = n) ∧ (L.getD 16 false = true → Rd W' (some ⟨n, 0, none⟩) (four.map bv))
theorem FourAt.list {W2 : World} {n : Nat} {four : List UInt8} {L : Array Bool} {W' : World} (h : FourAt W2 n four L W') (i : Nat) (h1 : i ≠ 16) : FourAt W2 n four (L.setIfInBounds i true) W' := by
  unfold FourAt at h ⊢
  rw [getD_set_ne false h1]
  exact h
theorem FourAt.made {W2 : World} {n : Nat} {four : List UInt8} {L : Array Bool} {W' : World} (h : FourAt W2 n four L W') (hs : 16 < L.size) (h0 : L.getD 16 false = false) (t : TypeId) :
    FourAt W2 n four (L.setIfInBounds 16 true) (W'.alloc (.cells (four.map bv).toArray t)) := by
  obtain ⟨q1, q2, q3⟩ := h
  refine ⟨q1.then_alloc _, (fun h => by rw [getD_set_self hs] at h; cases h), fun _ => ?_⟩
  have := lit_rd W' (four.map bv) t
  rwa [q2 h0] at this
set_option maxHeartbeats 2000000 in
set_option maxRecDepth 20000 in
theorem r1for_any (w : World) (pu : List UInt8) (A : Option Addr) (cap : Nat) (ps : List (List UInt8)) (hP : Rd w A (tv ps)) (hlen : (Once.forB pu ps).length ≤ 140737488355000) :
    Calls Try.prog 54 #[.string ⟨pu.toArray⟩, .slice A ps.length cap] w fun e w' => e = .returned (.agg (ida (Once.sumFor pu ps))) ∧ New w w' := by
  obtain ⟨ii, hii, hz0, hz1, hz2⟩ := info_parts infoID
  have HLEN := Lib.hid hlen
  have HP := Lib.hid hP
  have hfb : Once.forB pu ps = pu ++ [0] ++ midB (ps.take ps.length) := by
    unfold Once.forB midB
    rw [List.take_length]
    simp
  have HFB := Lib.hid hfb
  have hpl : pu.length + 1 ≤ (Once.forB pu ps).length := by rw [hfb]; simp
  have hno : ¬ 9223372036854775807 < pu.length + 1 := by omega
  have HCN := Lib.hid (show ps.length < 140737488355000 by
    have h1 := midB_cnt ps
    rw [hfb, List.take_length] at hlen
    simp only [List.length_append] at hlen
    omega)
  clear hlen hP hfb hpl
  go_enter Try.func54, Try.ntmps54
  go_wp2_with (refine x_value (x_alloc (T := 60) rfl hii hz0) (by simp [go_sem, Region.wanted, yielded]) ?_)
  have hB0 := Blk.new w 60 (ida z32)
  have hN0 : New w (w.alloc (.cells (ida z32) 60)) := Fr.alloc _ w _
  generalize w.alloc (.cells (ida z32) 60) = wA at *
  have e0 : Value.string ⟨(pu ++ [0]).toArray⟩ = .string ⟨(pu ++ [0] ++ midB (ps.take 0)).toArray⟩ := by simp [midB]
  clear hno
  go_loopw [5, 6] (fun s n W => ∃ k : Nat, s = .string ⟨(pu ++ [0] ++ midB (ps.take k)).toArray⟩ ∧ n = .int .i64 k ∧ k ≤ ps.length ∧ New wA W) (fun _ n _ => ps.length - (intOf n).toNat)
  case atStart => exact ⟨0, e0, rfl, by omega, Fr.refl _ _⟩
  case round =>
    obtain ⟨k, rfl, rfl, hk, hN⟩ := hrel
    clear e0
    by_cases hlt : k < ps.length
    · have hPk := (HP.out.fr hN0 (fun _ _ => id)).fr hN (fun _ _ => id)
      obtain ⟨ab0, ao, rfl, hab, hac⟩ := hPk (by simp [tv]; omega)
      have hck := hac k (by simpa [tv] using hlt)
      have e1 : (tv ps)[k]'(by simpa [tv] using hlt) = .string ⟨ps[k].toArray⟩ := by simp [tv]
      rw [e1] at hck
      have hsu := midB_succ ps k hlt
      have hpl := midB_len ps k hlt
      have hln := HLEN.out
      rw [HFB.out, List.take_length, List.length_append] at hln
      have hmid : (pu ++ [0] ++ midB (ps.take (k + 1))).length ≤ 140737488355000 := by
        have e : midB ps = midB (ps.take (k + 1)) ++ midB (ps.drop (k + 1)) := by
          unfold midB
          rw [← List.flatMap_append, List.take_append_drop]
        rw [e] at hln
        simp only [List.length_append] at hln ⊢
        omega
      clear hac e1 hPk
      generalize ps[k] = p at *
      have hbl : (p.length : Int) < 140737488355328 := by omega
      have hlt' : decide ((k : Int) < (ps.length : Int)) = true := by rw [decide_eq_true_eq]; omega
      have hlt2 : (k : Int) < (ps.length : Int) := by omega
      have HSU := Lib.hid hsu
      have HM := Lib.hid hmid
      have HN := Lib.hid hN
      clear hsu hpl hln hmid hN
      obtain ⟨T0, hT0⟩ : ∃ T0, T0 = pu ++ [0] ++ midB (ps.take k) := ⟨_, rfl⟩
      have hl4 : (Once.len4 p.length).length = 4 := rfl
      have hT1 : T0 ++ (Once.len4 p.length ++ p) = pu ++ [0] ++ midB (ps.take (k + 1)) := by rw [hT0, HSU.out]; simp
      have hT2 : (T0 ++ (Once.len4 p.length ++ p)).length ≤ 140737488355000 := by rw [hT1]; exact HM.out
      have hn1 : ¬ 9223372036854775807 < (Once.len4 p.length).length + p.length := by simp only [List.length_append] at hT2; omega
      have hn2 : ¬ 9223372036854775807 < T0.length + ((Once.len4 p.length).length + p.length) := by simp only [List.length_append] at hT2; omega
      have hn1' : ¬ 9223372036854775807 < 4 + p.length := by rw [hl4] at hn1; exact hn1
      have hn2' : ¬ 9223372036854775807 < T0.length + (4 + p.length) := by rw [hl4] at hn2; exact hn2
      have HT1 := Lib.hid hT1
      rw [← hT0]
      clear hT0 hT1 hT2
      go_upto_region 6 with fail
      have hck2 : wr.drew.cell? ⟨ab0, ao + k, none⟩ = some (.string ⟨p.toArray⟩) := hck
      have h0 : FourAt wr.drew wr.heap.size (Once.len4 p.length) (Array.replicate 25 false) wr.drew := ⟨Fr.refl _ _, fun _ => rfl, fun h => by simp at h⟩
      refine wp_region_lastK (by kernel_rfl) 24 (by kernel_rfl) [.string ⟨T0.toArray⟩, .int .i64 (p.length : Int), .int .i64 ((p.length : Int) / 16777216), .int .i64 ((p.length : Int) / 16777216 % 256), .int .u8 ((p.length : Int) / 16777216 % 256), .int .i64 (p.length : Int), .int .i64 ((p.length : Int) / 65536), .int .i64 ((p.length : Int) / 65536 % 256), .int .u8 ((p.length : Int) / 65536 % 256), .int .i64 (p.length : Int), .int .i64 ((p.length : Int) / 256), .int .i64 ((p.length : Int) / 256 % 256), .int .u8 ((p.length : Int) / 256 % 256), .int .i64 (p.length : Int), .int .i64 ((p.length : Int) % 256), .int .u8 ((p.length : Int) % 256), .slice (some ⟨wr.heap.size, 0, none⟩) 4 4, .string ⟨(Once.len4 p.length).toArray⟩, .slice (some ⟨ab0, ao, none⟩) ps.length cap, .int .i64 (k : Int), .pointer (some ⟨ab0, ao + k, none⟩), .string ⟨p.toArray⟩, .string ⟨(Once.len4 p.length ++ p).toArray⟩, .string ⟨(T0 ++ (Once.len4 p.length ++ p)).toArray⟩]
        rfl (by kernel_rfl) (FourAt wr.drew wr.heap.size (Once.len4 p.length)) _ (by simp [putAll, Act.put]; rfl) h0 ?hops ?last
      case hops =>
        refine ⟨?_, ?_, ?_, ?_, ?_, ?_, ?_, ?_, ?_, ?_, ?_, ?_, ?_, ?_, ?_, ?_, ?_, ?_, ?_, ?_, ?_, ?_, ?_, ?_, trivial⟩
        all_goals
          rintro L W' hs hd hn HS
          refine held_plain rfl ?_
        · have H2 := HS.list 0 (by decide)
          clear HS hd hn hs
          unfold opHeld
          go_simp
        · have H2 := HS.list 1 (by decide)
          clear HS hd hn hs
          unfold opHeld
          go_simp
        · have H2 := HS.list 2 (by decide)
          clear HS hd hn hs
          unfold opHeld
          go_simp
          first
            | exact IntWalk.i64_in _ (by omega)
            | exact Int.tmod_eq_emod_of_nonneg (by omega)
            | (rw [IntKind.wrap_u8]; omega)
        · have H2 := HS.list 3 (by decide)
          clear HS hd hn hs
          unfold opHeld
          go_simp
          first
            | exact IntWalk.i64_in _ (by omega)
            | exact Int.tmod_eq_emod_of_nonneg (by omega)
            | (rw [IntKind.wrap_u8]; omega)
        · have H2 := HS.list 4 (by decide)
          clear HS hd hn hs
          unfold opHeld
          go_simp
          first
            | exact IntWalk.i64_in _ (by omega)
            | exact Int.tmod_eq_emod_of_nonneg (by omega)
            | (rw [IntKind.wrap_u8]; omega)
        · have H2 := HS.list 5 (by decide)
          clear HS hd hn hs
          unfold opHeld
          go_simp
        · have H2 := HS.list 6 (by decide)
          clear HS hd hn hs
          unfold opHeld
          go_simp
          first
            | exact IntWalk.i64_in _ (by omega)
            | exact Int.tmod_eq_emod_of_nonneg (by omega)
            | (rw [IntKind.wrap_u8]; omega)
        · have H2 := HS.list 7 (by decide)
          clear HS hd hn hs
          unfold opHeld
          go_simp
          first
            | exact IntWalk.i64_in _ (by omega)
            | exact Int.tmod_eq_emod_of_nonneg (by omega)
            | (rw [IntKind.wrap_u8]; omega)
        · have H2 := HS.list 8 (by decide)
          clear HS hd hn hs
          unfold opHeld
          go_simp
          first
            | exact IntWalk.i64_in _ (by omega)
            | exact Int.tmod_eq_emod_of_nonneg (by omega)
            | (rw [IntKind.wrap_u8]; omega)
        · have H2 := HS.list 9 (by decide)
          clear HS hd hn hs
          unfold opHeld
          go_simp
        · have H2 := HS.list 10 (by decide)
          clear HS hd hn hs
          unfold opHeld
          go_simp
          first
            | exact IntWalk.i64_in _ (by omega)
            | exact Int.tmod_eq_emod_of_nonneg (by omega)
            | (rw [IntKind.wrap_u8]; omega)
        · have H2 := HS.list 11 (by decide)
          clear HS hd hn hs
          unfold opHeld
          go_simp
          first
            | exact IntWalk.i64_in _ (by omega)
            | exact Int.tmod_eq_emod_of_nonneg (by omega)
            | (rw [IntKind.wrap_u8]; omega)
        · have H2 := HS.list 12 (by decide)
          clear HS hd hn hs
          unfold opHeld
          go_simp
          first
            | exact IntWalk.i64_in _ (by omega)
            | exact Int.tmod_eq_emod_of_nonneg (by omega)
            | (rw [IntKind.wrap_u8]; omega)
        · have H2 := HS.list 13 (by decide)
          clear HS hd hn hs
          unfold opHeld
          go_simp
        · have H2 := HS.list 14 (by decide)
          clear HS hd hn hs
          unfold opHeld
          go_simp
          first
            | exact IntWalk.i64_in _ (by omega)
            | exact Int.tmod_eq_emod_of_nonneg (by omega)
            | (rw [IntKind.wrap_u8]; omega)
        · have H2 := HS.list 15 (by decide)
          clear HS hd hn hs
          unfold opHeld
          go_simp
          first
            | exact IntWalk.i64_in _ (by omega)
            | exact Int.tmod_eq_emod_of_nonneg (by omega)
            | (rw [IntKind.wrap_u8]; omega)
        · have h16 := getD_no (i := 16) (by rw [hs]; decide) hn
          have H2 := HS.made (by rw [hs]; decide) h16 5
          rw [← l4_eq] at H2
          have hsz := HS.2.1 h16
          unfold l4 at H2
          clear HS hd hn hs
          unfold opHeld
          go_simp
        · have h16 : L.getD 16 false = true := hd ⟨16, .data⟩ (by simp) rfl
          have hstr := run_str_rd (P := Try.prog) W' 22 5 Try.underlying22 Try.underlying5 (some ⟨wr.heap.size, 0, none⟩) 4 (Once.len4 p.length) (HS.2.2 h16) 9 Try.underlying9
          have hstr2 : (convert 22 9 (.slice (some ⟨wr.heap.size, 0, none⟩) 4 4)).run Try.prog W' = .ok (.string ⟨(Once.len4 p.length).toArray⟩) W' := hstr
          have H2 := HS.list 17 (by decide)
          clear HS hd hn hs hstr
          unfold opHeld
          go_simp
        · have H2 := HS.list 18 (by decide)
          clear HS hd hn hs
          unfold opHeld
          go_simp
        · have H2 := HS.list 19 (by decide)
          clear HS hd hn hs
          unfold opHeld
          go_simp
        · have H2 := HS.list 20 (by decide)
          clear HS hd hn hs
          unfold opHeld
          go_simp
        · have hcW : W'.cell? ⟨ab0, ao + k, none⟩ = some (.string ⟨p.toArray⟩) := (HS.1.cell (p := ⟨ab0, ao + k, none⟩) hab id).trans hck2
          have H2 := HS.list 21 (by decide)
          clear HS hd hn hs
          unfold opHeld
          go_simp
        · have H2 := HS.list 22 (by decide)
          clear HS hd hn hs
          unfold opHeld
          go_simp
        · have H2 := HS.list 23 (by decide)
          clear HS hd hn hs
          unfold opHeld
          go_simp
      case last =>
        rintro o ho L W' hs hal HS
        have hN' := HN.out.trans ((Fr.refl (fun _ => False) wr).then_drew.trans HS.1 fun _ h => h.elim) fun _ h => h.elim
        clear HS hal hs h0 hck hck2
        simp at ho
        subst ho
        unfold opGhost
        go_simp
        have hk1 : wrap64 ((k : Int) + 1) = ((k + 1 : Nat) : Int) := by
          have := HCN.out
          unfold wrap64
          omega
        go_wp2_with fail
        refine ⟨⟨k + 1, by rw [HT1.out], by rw [hk1], by omega, hN'⟩, ?_⟩
        rw [hk1]
        simp only [intOf]
        omega
    · obtain rfl : k = ps.length := by omega
      have d1 : decide ((ps.length : Int) < (ps.length : Int)) = false := by simp
      rw [← HFB.out]
      have hof := r1of_any wr (Once.forB pu ps) HLEN.out
      have hid : Sha.sum (Once.forB pu ps) = Once.sumFor pu ps := rfl
      rw [hid] at hof
      have hB : Blk wr w.heap.size 60 (ida z32) := hB0.fr hN id
      have HFR := Lib.hid (hN0.trans hN fun _ h => h.elim)
      have HOF := Lib.hid hof
      have HSL := Lib.hid (Once.sumFor_length pu ps)
      have HSS := Lib.hid (show 32 = (ida (Once.sumFor pu ps)).size by rw [ida_size]; exact HSL.out.symm)
      have HZS := Lib.hid (show (ida z32).size = (ida (Once.sumFor pu ps)).size by rw [ida_size, ida_size]; exact HSL.out.symm)
      clear hid hof hN hN0 hB0
      generalize hS : Once.sumFor pu ps = S at *
      have HE := Lib.hid hS
      clear hS
      generalize Once.forB pu ps = T at *
      go_wp2_with (first
        | (go_at_call 62; refine HOF.out.mono ?_; rintro e w4 ⟨rfl, hN4⟩; have hB4 := hB.fr hN4 id; clear hB)
        | (refine x_skip (exec_store_all (T := 60) (X := ida S) (g := w.heap.size) (cs := ida z32) rfl rfl rfl hii (hz1.trans HSS.out) (ida_one _) hB4 HZS.out) rfl ?_))
      refine bodyPost_ret (x_results rfl HSL.out rfl (hB4.setRow _)) rfl ⟨by rw [HE.out], ?_⟩
      exact (HFR.out.trans hN4 (fun _ h => h.elim)).trans ((Fr.refl (fun k => k = w.heap.size) w4).setRow (g := w.heap.size) rfl _) (fun j hj => .inr (by omega))
end Go.Proofs.Ytefalfalapnllaa
