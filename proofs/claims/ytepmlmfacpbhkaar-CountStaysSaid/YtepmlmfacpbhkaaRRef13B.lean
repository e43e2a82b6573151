/- The document's answer for votes: All, For. (Printed by gen_ref13b.py.) -/
import Derived.Test.YtepmlmfacpbhkaaRRef13A
namespace Go.Proofs.YtepmlmfacpbhkaaR
open Go.RowKit Go.Shelf
set_option linter.unusedVariables false

theorem held_want {ops : Array Oper} {fin : Act} {o : Oper} {p E : Prop} (hw : Region.wanted o (yielded ops fin.tmps) = true) (h : p) : if Region.wanted o (yielded ops fin.tmps) = true then p else E := by
  rw [if_pos hw]
  exact h
theorem held_not {ops : Array Oper} {fin : Act} {o : Oper} {p E : Prop} (hw : Region.wanted o (yielded ops fin.tmps) = false) (h : E) : if Region.wanted o (yielded ops fin.tmps) = true then p else E := by
  rw [if_neg (by rw [hw]; exact Bool.false_ne_true)]
  exact h
theorem rall_snoc (l : List Cnt.Vote) (r k : Int) (j : Nat) (h : j < l.length) : Cnt.rall (l.take (j + 1)) r k = Cnt.rall (l.take j) r k + if l[j].r == r && l[j].k == k then 1 else 0 := by
  unfold Cnt.rall
  rw [List.take_succ_eq_append_getElem h, List.filter_append, List.length_append]
  congr 1
  by_cases hc : (l[j].r == r && l[j].k == k) = true <;> simp [List.filter_cons, hc]
theorem rfor_snoc (l : List Cnt.Vote) (r k : Int) (x : Cnt.Vid) (j : Nat) (h : j < l.length) : Cnt.rfor (l.take (j + 1)) r k x = Cnt.rfor (l.take j) r k x + if l[j].r == r && l[j].k == k && l[j].id == x then 1 else 0 := by
  unfold Cnt.rfor
  rw [List.take_succ_eq_append_getElem h, List.filter_append, List.length_append]
  congr 1
  by_cases hc : (l[j].r == r && l[j].k == k && l[j].id == x) = true <;> simp [List.filter_cons, hc]
theorem rall_le (l : List Cnt.Vote) (r k : Int) (j : Nat) : Cnt.rall (l.take j) r k ≤ j := Nat.le_trans (List.length_filter_le _ _) (by simp; omega)
theorem rfor_le (l : List Cnt.Vote) (r k : Int) (x : Cnt.Vid) (j : Nat) : Cnt.rfor (l.take j) r k x ≤ j := Nat.le_trans (List.length_filter_le _ _) (by simp; omega)

set_option maxHeartbeats 1000000 in
set_option maxRecDepth 20000 in
theorem rall_any (w : World) (A : Option Addr) (c : Nat) (l : List Cnt.Vote) (r k : Int) (h : VotesAt w A l) (hm : l.length ≤ maxLen) :
    Calls Try.prog 24 #[.slice A l.length c, .int .i64 r, .int .i64 k] w fun e w' => e = .returned (.int .i64 (Cnt.rall l r k : Nat)) ∧ w = w' := by
  unfold maxLen at hm
  go_enter Try.func24, Try.ntmps24
  go_wp2
  go_loop [7, 8] (fun n0 i0 => ∃ j : Nat, n0 = .int .i64 (Cnt.rall (l.take j) r k : Nat) ∧ i0 = .int .i64 j ∧ j ≤ l.length) (fun _ i0 => l.length - (intOf i0).toNat)
  case atStart => exact ⟨0, rfl, rfl, by omega⟩
  case round =>
    obtain ⟨j, rfl, rfl, hj⟩ := hrel
    by_cases hlt : j < l.length
    · obtain ⟨b, off, rfl, hb, hc⟩ := h.rd (by omega)
      obtain ⟨k0, k1, k2, hA⟩ := voteAt (hc j hlt)
      have hsn := rall_snoc l r k j hlt
      have hle := rall_le l r k j
      have hlt' : (j : Int) < (l.length : Int) := by omega
      generalize l[j] = v at *
      have HF := Lib.hid hsn
      clear hsn hc
      by_cases q1 : v.r = r
      · by_cases q2 : v.k = k
        · have S1 := Lib.hid (show Cnt.rall (l.take (j + 1)) r k = Cnt.rall (l.take j) r k + 1 by rw [HF.out]; simp [q1, q2])
          subst q1 q2
          go_wp2
          go_round
          case rel => exact ⟨j + 1, by rw [S1.out]; go_num, by go_num, by omega⟩
          case measure => simp [intOf]; omega
        · have d2 : (v.k == k) = false := by simpa using q2
          have S1 := Lib.hid (show Cnt.rall (l.take (j + 1)) r k = Cnt.rall (l.take j) r k by rw [HF.out, d2]; simp)
          subst q1
          go_wp2
          go_round
          case rel => exact ⟨j + 1, by rw [S1.out], by go_num, by omega⟩
          case measure => simp [intOf]; omega
      · have d1 : (v.r == r) = false := by simpa using q1
        have S1 := Lib.hid (show Cnt.rall (l.take (j + 1)) r k = Cnt.rall (l.take j) r k by rw [HF.out, d1]; simp)
        go_wp2
        go_round
        case rel => exact ⟨j + 1, by rw [S1.out], by go_num, by omega⟩
        case measure => simp [intOf]; omega
    · obtain rfl : j = l.length := by omega
      have d1 : decide ((l.length : Int) < (l.length : Int)) = false := by simp
      go_wp2
      go_ret
      exact ⟨rfl, rfl⟩

set_option maxHeartbeats 4000000 in
set_option maxRecDepth 20000 in
theorem rfor_any (w : World) (A : Option Addr) (c : Nat) (l : List Cnt.Vote) (r k : Int) (x : Cnt.Vid) (hx : x.length = 32) (h : VotesAt w A l) (hm : l.length ≤ maxLen) :
    Calls Try.prog 26 #[.slice A l.length c, .int .i64 r, .int .i64 k, .agg (ida x)] w fun e w' => e = .returned (.int .i64 (Cnt.rfor l r k x : Nat)) ∧ New w w' := by
  obtain ⟨ii, hii, hz0, hz1, hz2⟩ := info_parts infoI
  unfold maxLen at hm
  have hN : New w (w.alloc (.cells (ida x) 32)) := Fr.alloc _ w _
  have h1 := h.fr hN (fun _ h => h.elim)
  have hXA := (Blk.new w 32 (ida x)).at0
  have HX := Lib.hid (show 32 = (ida x).size by rw [ida_size]; exact hx.symm)
  go_enter Try.func26, Try.ntmps26
  go_wp2
  obtain ⟨W1, hW1⟩ : ∃ W1, w.alloc (.cells (ida x) 32) = W1 := ⟨_, rfl⟩
  obtain ⟨xb, hxb⟩ : ∃ xb, w.heap.size = xb := ⟨_, rfl⟩
  rw [hW1] at hN h1 hXA
  rw [hxb] at hXA
  rw [hW1, hxb]
  clear hW1 hxb
  go_loopw [9, 10] (fun n0 i0 W => ∃ (j : Nat) (q : Nat), n0 = .int .i64 (Cnt.rfor (l.take j) r k x : Nat) ∧ i0 = .int .i64 j ∧ j ≤ l.length ∧ W = W1.drewN q) (fun _ i0 _ => l.length - (intOf i0).toNat)
  case atStart => exact ⟨0, 0, rfl, rfl, by omega, rfl⟩
  case round =>
    obtain ⟨j, q0, rfl, rfl, hj, rfl⟩ := hrel
    by_cases hlt : j < l.length
    · obtain ⟨b, off, rfl, hb, hc⟩ := h1.rd (by omega)
      obtain ⟨k0, k1, k2, hA⟩ := voteAt (hc j hlt)
      have hsn := rfor_snoc l r k x j hlt
      have hle := rfor_le l r k x j
      have hlt' : (j : Int) < (l.length : Int) := by omega
      have hl := h.len _ (List.getElem_mem hlt)
      generalize l[j] = v at *
      have HF := Lib.hid hsn
      have HL := Lib.hid hl
      have HV := Lib.hid (show 32 = (ida v.id).size by rw [ida_size]; exact hl.symm)
      clear hsn hc hl k2
      by_cases q1 : v.r = r
      · have d1 : (v.r == r) = true := by simpa using q1
        by_cases q2 : v.k = k
        · have d2 : (v.k == k) = true := by simpa using q2
          have S1 := Lib.hid (show Cnt.rfor (l.take (j + 1)) r k x = Cnt.rfor (l.take j) r k x + if v.id == x then 1 else 0 by rw [HF.out, d1, d2]; simp)
          clear q1 q2
          go_wp2
          refine wp_region_all (by kernel_rfl) (by kernel_rfl) [.slice (some ⟨b, off, none⟩) l.length c, .int .i64 (j : Int), .pointer (some ⟨b, off + j * 35, none⟩), .pointer (some ⟨b, off + j * 35, none⟩), .int .i64 v.r, .int .i64 r, .bool true, .bool true, .slice (some ⟨b, off, none⟩) l.length c, .int .i64 (j : Int), .pointer (some ⟨b, off + j * 35, none⟩), .pointer (some ⟨b, off + j * 35 + 1, none⟩), .int .i64 v.k, .int .i64 k, .bool true, .bool true, .bool true, .slice (some ⟨b, off, none⟩) l.length c, .int .i64 (j : Int), .pointer (some ⟨b, off + j * 35, none⟩), .pointer (some ⟨b, off + j * 35 + 3, none⟩), .agg (ida v.id), .agg (ida x), .bool (v.id == x), .bool (v.id == x)] (by kernel_rfl) (fun _ W' => ∃ q, W' = W1.drewN q) _ (by simp [putAll, Act.put]; rfl) ⟨q0 + 1, rfl⟩ ?hops ?after
          case hops =>
            refine ⟨?_, ?_, ?_, ?_, ?_, ?_, ?_, ?_, ?_, ?_, ?_, ?_, ?_, ?_, ?_, ?_, ?_, ?_, ?_, ?_, ?_, ?_, ?_, ?_, ?_, trivial⟩
            all_goals
              rintro L W' hs hd hn ⟨q, rfl⟩
              have HSS : ∃ q', W1.drewN q = W1.drewN q' := ⟨q, rfl⟩
              have hA' : At (W1.drewN q) b (off + j * 35 + 3) (ida v.id) := hA
              have hX' : At (W1.drewN q) xb 0 (ida x) := hXA
              first
                | exact held_not rfl ⟨rfl, HSS⟩
                | exact held_want rfl (held_value (exec_load (T := 32) (X := ida v.id) rfl rfl underI rfl hii (hz1.trans HV.out) hA') HSS)
                | exact held_want rfl (held_value (exec_load (T := 32) (X := ida x) rfl rfl underI rfl hii (hz1.trans HX.out) hX') HSS)
                | exact held_want rfl (held_value (exec_eql (T := 32) (a := v.id) (b := x) rfl rfl rfl underI (by kernel_rfl) (fun w => by kernel_rfl) HL.out hx (by kernel_rfl)) HSS)
                | (refine held_want rfl ?_; unfold opHeld; go_simp; first | done | exact HSS | exact ⟨rfl, HSS⟩)
          case after =>
            rintro L W' hs hal ⟨q, rfl⟩
            go_wp2
            · have e : (v.id == x) = true := by assumption
              have S2 := Lib.hid (show Cnt.rfor (l.take (j + 1)) r k x = Cnt.rfor (l.take j) r k x + 1 by rw [S1.out, e]; simp)
              go_roundw
              case rel => exact ⟨j + 1, q, by rw [S2.out]; go_num, by go_num, by omega, rfl⟩
              case measure => simp [intOf]; omega
            · have e : (v.id == x) = false := by assumption
              have S2 := Lib.hid (show Cnt.rfor (l.take (j + 1)) r k x = Cnt.rfor (l.take j) r k x by rw [S1.out, e]; simp)
              go_roundw
              case rel => exact ⟨j + 1, q, by rw [S2.out], by go_num, by omega, rfl⟩
              case measure => simp [intOf]; omega
        · have d2 : (v.k == k) = false := by simpa using q2
          have S1 := Lib.hid (show Cnt.rfor (l.take (j + 1)) r k x = Cnt.rfor (l.take j) r k x by rw [HF.out, d2]; simp)
          clear q1 q2
          go_wp2
          refine wp_region_all (by kernel_rfl) (by kernel_rfl) [.slice (some ⟨b, off, none⟩) l.length c, .int .i64 (j : Int), .pointer (some ⟨b, off + j * 35, none⟩), .pointer (some ⟨b, off + j * 35, none⟩), .int .i64 v.r, .int .i64 r, .bool true, .bool true, .slice (some ⟨b, off, none⟩) l.length c, .int .i64 (j : Int), .pointer (some ⟨b, off + j * 35, none⟩), .pointer (some ⟨b, off + j * 35 + 1, none⟩), .int .i64 v.k, .int .i64 k, .bool false, .bool false, .bool false, undef, undef, undef, undef, undef, undef, undef, .bool false] (by kernel_rfl) (fun _ W' => ∃ q, W' = W1.drewN q) _ (by simp [putAll, Act.put]; rfl) ⟨q0 + 1, rfl⟩ ?hops ?after
          case hops =>
            refine ⟨?_, ?_, ?_, ?_, ?_, ?_, ?_, ?_, ?_, ?_, ?_, ?_, ?_, ?_, ?_, ?_, ?_, ?_, ?_, ?_, ?_, ?_, ?_, ?_, ?_, trivial⟩
            all_goals
              rintro L W' hs hd hn ⟨q, rfl⟩
              have HSS : ∃ q', W1.drewN q = W1.drewN q' := ⟨q, rfl⟩
              have hA' : At (W1.drewN q) b (off + j * 35 + 3) (ida v.id) := hA
              have hX' : At (W1.drewN q) xb 0 (ida x) := hXA
              first
                | exact held_not rfl ⟨rfl, HSS⟩
                | exact held_want rfl (held_value (exec_load (T := 32) (X := ida v.id) rfl rfl underI rfl hii (hz1.trans HV.out) hA') HSS)
                | exact held_want rfl (held_value (exec_load (T := 32) (X := ida x) rfl rfl underI rfl hii (hz1.trans HX.out) hX') HSS)
                | exact held_want rfl (held_value (exec_eql (T := 32) (a := v.id) (b := x) rfl rfl rfl underI (by kernel_rfl) (fun w => by kernel_rfl) HL.out hx (by kernel_rfl)) HSS)
                | (refine held_want rfl ?_; unfold opHeld; go_simp; first | done | exact HSS | exact ⟨rfl, HSS⟩)
          case after =>
            rintro L W' hs hal ⟨q, rfl⟩
            go_wp2
            go_roundw
            case rel => exact ⟨j + 1, q, by rw [S1.out], by go_num, by omega, rfl⟩
            case measure => simp [intOf]; omega
      · have d1 : (v.r == r) = false := by simpa using q1
        have S1 := Lib.hid (show Cnt.rfor (l.take (j + 1)) r k x = Cnt.rfor (l.take j) r k x by rw [HF.out, d1]; simp)
        clear q1
        go_wp2
        refine wp_region_all (by kernel_rfl) (by kernel_rfl) [.slice (some ⟨b, off, none⟩) l.length c, .int .i64 (j : Int), .pointer (some ⟨b, off + j * 35, none⟩), .pointer (some ⟨b, off + j * 35, none⟩), .int .i64 v.r, .int .i64 r, .bool false, .bool false, undef, undef, undef, undef, undef, undef, undef, .bool false, .bool false, undef, undef, undef, undef, undef, undef, undef, .bool false] (by kernel_rfl) (fun _ W' => ∃ q, W' = W1.drewN q) _ (by simp [putAll, Act.put]; rfl) ⟨q0 + 1, rfl⟩ ?hops ?after
        case hops =>
          refine ⟨?_, ?_, ?_, ?_, ?_, ?_, ?_, ?_, ?_, ?_, ?_, ?_, ?_, ?_, ?_, ?_, ?_, ?_, ?_, ?_, ?_, ?_, ?_, ?_, ?_, trivial⟩
          all_goals
            rintro L W' hs hd hn ⟨q, rfl⟩
            have HSS : ∃ q', W1.drewN q = W1.drewN q' := ⟨q, rfl⟩
            have hA' : At (W1.drewN q) b (off + j * 35 + 3) (ida v.id) := hA
            have hX' : At (W1.drewN q) xb 0 (ida x) := hXA
            first
              | exact held_not rfl ⟨rfl, HSS⟩
              | exact held_want rfl (held_value (exec_load (T := 32) (X := ida v.id) rfl rfl underI rfl hii (hz1.trans HV.out) hA') HSS)
              | exact held_want rfl (held_value (exec_load (T := 32) (X := ida x) rfl rfl underI rfl hii (hz1.trans HX.out) hX') HSS)
              | exact held_want rfl (held_value (exec_eql (T := 32) (a := v.id) (b := x) rfl rfl rfl underI (by kernel_rfl) (fun w => by kernel_rfl) HL.out hx (by kernel_rfl)) HSS)
              | (refine held_want rfl ?_; unfold opHeld; go_simp; first | done | exact HSS | exact ⟨rfl, HSS⟩)
        case after =>
          rintro L W' hs hal ⟨q, rfl⟩
          go_wp2
          go_roundw
          case rel => exact ⟨j + 1, q, by rw [S1.out], by go_num, by omega, rfl⟩
          case measure => simp [intOf]; omega
    · obtain rfl : j = l.length := by omega
      have d1 : decide ((l.length : Int) < (l.length : Int)) = false := by simp
      go_wp2
      go_ret
      exact ⟨by simp [List.take_length], (hN.then_drewN _)⟩
end Go.Proofs.YtepmlmfacpbhkaaR
