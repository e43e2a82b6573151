/- The document's answer for votes: Put, walked. -/
import Derived.Test.YtepmlmfacpbhkaaRRef13E
namespace Go.Proofs.YtepmlmfacpbhkaaR
open Go.RowKit Go.Shelf
set_option linter.unusedVariables false

theorem exec_neq_is {P : Program} {o : Oper} {ev : Operand → Value} {w : World} {T e : TypeId} {m : Nat} {x y : Operand} {ty : TypeId} {a b : List UInt8} {c : Bool} (hc : (a != b) = c) (ho : o.op = .binOp .neq T x y ty) (hx : ev x = .agg (ida a)) (hy : ev y = .agg (ida b))
    (ht : P.underlying T = some (.array m e)) (he : P.underlying e = some (.int .u8)) (hsz : ∀ w, (sizeOf e).run P w = .ok 1 w) (ha : a.length = m) (hb : b.length = m) (hg : P.eqGuardType P.depth T = false) :
    (execOp ev o).run P w = .ok (.value (.bool c)) w := hc ▸ exec_neq ho hx hy ht he hsz ha hb hg
/-- what Put hands back -/
def PutBack (w : World) (A : Option Addr) (l : List Cnt.Vote) (code : Int) (e : Ending) (w' : World) : Prop :=
  ∃ A' c', e = .returned (.tuple #[.slice A' l.length c', .int .i64 code]) ∧ VotesAt w' A' l ∧ New w w' ∧ (A' = A ∨ ∀ a, A' = some a → w.heap.size ≤ a.block)
set_option maxHeartbeats 4000000 in
set_option maxRecDepth 20000 in
theorem rput_any (w : World) (A : Option Addr) (c n : Nat) (l : List Cnt.Vote) (v : Cnt.Vote) (hv : v.id.length = 32) (h : VotesAt w A l) (hm : l.length ≤ 999) :
    Calls Try.prog 22 #[.int .i64 n, .slice A l.length c, .agg (voteC v).toArray] w (PutBack w A (Cnt.rput n l v).1 (Cnt.rput n l v).2) := by
  obtain ⟨ii, hii, hz0, hz1, hz2⟩ := info_parts infoI
  obtain ⟨iv, hiv, hv0, hv1, hv2⟩ := info_parts infoVo
  have hN : New w (w.alloc (.cells (voteC v).toArray 40)) := Fr.alloc _ w _
  have h1 := Lib.hid (h.fr hN (fun _ h => h.elim))
  have hB := Blk.new w 40 (voteC v).toArray
  have hX := voteAt hB.at0
  simp only [Nat.zero_add] at hX
  obtain ⟨k0, k1, k2, hA⟩ := hX
  have HV := Lib.hid (show 32 = (ida v.id).size by rw [ida_size]; exact hv.symm)
  have HL := Lib.hid hv
  have HB := Lib.hid hB
  have hmx : l.length ≤ maxLen := by simp only [maxLen]; omega
  have HMX := Lib.hid hmx
  clear hB hv hmx
  by_cases q1 : Cnt.right n v.r v.k v.w = true
  · by_cases q2 : v.id = Cnt.z
    · have e : Cnt.rput n l v = (l, 1) := by unfold Cnt.rput; rw [if_pos (.inr q2)]
      rw [e]
      have p1 : (!Cnt.right n v.r v.k v.w) = false := by rw [q1]; rfl
      have p2 : (v.id == Cnt.z) = true := by rw [q2]; exact beq_self_eq_true _
      clear e q2
      go_enter Try.func22, Try.ntmps22
      go_wp2_with (first
        | (go_at_call 44; refine (rright_any _ n _ _ _).mono ?_; rintro e w' ⟨rfl, rfl⟩)
        | (refine wpList_value_w (exec_load (T := 32) (X := ida v.id) rfl rfl underI rfl hii (hz1.trans HV.out) hA) (by simp [go_sem, Region.wanted, yielded]) ?_)
        | (refine wpList_value_w (exec_build0 (T := 32) rfl hii hz0 underI (s := 1) (fun w => by kernel_rfl)) (by simp [go_sem, Region.wanted, yielded]) ?_)
        | (refine wpList_value_w (exec_eql (T := 32) (a := v.id) (b := Cnt.z) rfl rfl rfl underI (by kernel_rfl) (fun w => by kernel_rfl) HL.out rfl (by kernel_rfl)) (by simp [go_sem, Region.wanted, yielded]) ?_))
      go_ret2
      exact ⟨A, c, rfl, h1.out, hN, .inl rfl⟩
    · have p1 : (!Cnt.right n v.r v.k v.w) = false := by rw [q1]; rfl
      have p2 : (v.id == Cnt.z) = false := by rw [beq_eq_false_iff_ne]; exact q2
      by_cases q3 : Cnt.rget l v.r v.k v.w = Cnt.z
      · have e : Cnt.rput n l v = (l ++ [v], 0) := by unfold Cnt.rput; rw [if_neg (by rw [q1]; simp [q2]), if_neg (by simp [q3])]
        rw [e]
        have p3 : (Cnt.rget l v.r v.k v.w != Cnt.z) = false := by simp [q3]
        have HG := Lib.hid (rget_len h v.r v.k v.w)
        clear e q2 q3
        go_enter Try.func22, Try.ntmps22
        go_wp2_with (first
          | (go_at_call 44; refine (rright_any _ n _ _ _).mono ?_; rintro e w' ⟨rfl, rfl⟩)
          | (go_at_call 30; refine (rget_any _ A c l v.r v.k v.w h1.out HMX.out).mono ?_; rintro e w2 ⟨rfl, hN2⟩; obtain ⟨v1, w3, hr1, ho1, hn1⟩ := run_copy_votes w2 A c l (h1.out.fr hN2 (fun _ h => h.elim)) (by omega); have hA3 := ((HB.out.fr hN2 id).fr hn1 id).at0; have HN3 := Lib.hid (hN2.trans hn1 (fun _ h => h.elim)); obtain ⟨v2, w4, hr2, ho2, hn2⟩ := run_more_vote w2 w3 v1 l v HL.out (by omega) ho1 hn1; have HO2 := Lib.hid ho2; have HN4 := Lib.hid (hN2.trans hn2 (fun _ h => h.elim)); have HW2 := Lib.hid hN2.size; clear ho1 hn1 ho2 hn2 hN2)
          | (refine wpList_append_run hr1 rfl rfl _ _ rfl rfl rfl ?_)
          | (refine wpList_append_run hr2 rfl rfl _ _ rfl rfl rfl ?_)
          | (refine wpList_value_w (exec_load (T := 32) (X := ida v.id) rfl rfl underI rfl hii (hz1.trans HV.out) hA) (by simp [go_sem, Region.wanted, yielded]) ?_)
          | (refine wpList_value_w (exec_load (T := 40) (X := (voteC v).toArray) rfl rfl Try.underlying40 rfl hiv (hv1.trans (voteC_length v HL.out).symm) hA3) (by simp [go_sem, Region.wanted, yielded]) ?_)
          | (refine wpList_value_w (exec_slice1 HL.out rfl rfl) (by simp [go_sem, Region.wanted, yielded]) ?_)
          | (refine wpList_value_w (exec_build0 (T := 32) rfl hii hz0 underI (s := 1) (fun w => by kernel_rfl)) (by simp [go_sem, Region.wanted, yielded]) ?_)
          | (refine wpList_value_w (exec_neq_is (T := 32) (a := Cnt.rget l v.r v.k v.w) (b := Cnt.z) p3 rfl rfl rfl underI (by kernel_rfl) (fun w => by kernel_rfl) HG.out rfl (by kernel_rfl)) (by simp [go_sem, Region.wanted, yielded]) ?_)
          | (refine wpList_value_w (exec_eql (T := 32) (a := v.id) (b := Cnt.z) rfl rfl rfl underI (by kernel_rfl) (fun w => by kernel_rfl) HL.out rfl (by kernel_rfl)) (by simp [go_sem, Region.wanted, yielded]) ?_))
        obtain ⟨A', c', rfl, hV, hAb⟩ := votes_of_own (fun u hu => by rcases List.mem_append.1 hu with hu | hu; exact h.len u hu; rw [List.mem_singleton.1 hu]; exact HL.out) HO2.out
        go_ret2
        exact ⟨A', c', rfl, hV, hN.trans HN4.out (fun _ h => h.elim), .inr fun a e => Nat.le_trans (Nat.le_trans hN.size HW2.out) (hAb a e)⟩
      · have e : Cnt.rput n l v = (l, 5) := by unfold Cnt.rput; rw [if_neg (by rw [q1]; simp [q2]), if_pos q3]
        rw [e]
        have p3 : (Cnt.rget l v.r v.k v.w != Cnt.z) = true := by simp [q3]
        have HG := Lib.hid (rget_len h v.r v.k v.w)
        clear e q2 q3
        go_enter Try.func22, Try.ntmps22
        go_wp2_with (first
          | (go_at_call 44; refine (rright_any _ n _ _ _).mono ?_; rintro e w' ⟨rfl, rfl⟩)
          | (go_at_call 30; refine (rget_any _ A c l v.r v.k v.w h1.out HMX.out).mono ?_; rintro e w2 ⟨rfl, hN2⟩; have HN2 := Lib.hid hN2; clear hN2)
          | (refine wpList_value_w (exec_load (T := 32) (X := ida v.id) rfl rfl underI rfl hii (hz1.trans HV.out) hA) (by simp [go_sem, Region.wanted, yielded]) ?_)
          | (refine wpList_value_w (exec_build0 (T := 32) rfl hii hz0 underI (s := 1) (fun w => by kernel_rfl)) (by simp [go_sem, Region.wanted, yielded]) ?_)
          | (refine wpList_value_w (exec_neq_is (T := 32) (a := Cnt.rget l v.r v.k v.w) (b := Cnt.z) p3 rfl rfl rfl underI (by kernel_rfl) (fun w => by kernel_rfl) HG.out rfl (by kernel_rfl)) (by simp [go_sem, Region.wanted, yielded]) ?_)
          | (refine wpList_value_w (exec_eql (T := 32) (a := v.id) (b := Cnt.z) rfl rfl rfl underI (by kernel_rfl) (fun w => by kernel_rfl) HL.out rfl (by kernel_rfl)) (by simp [go_sem, Region.wanted, yielded]) ?_))
        go_ret2
        exact ⟨A, c, rfl, h1.out.fr HN2.out (fun _ h => h.elim), hN.trans HN2.out (fun _ h => h.elim), .inl rfl⟩
  · have q1' : Cnt.right n v.r v.k v.w = false := by simpa using q1
    have e : Cnt.rput n l v = (l, 1) := by unfold Cnt.rput; rw [if_pos (.inl q1')]
    rw [e]
    have p1 : (!Cnt.right n v.r v.k v.w) = true := by rw [q1']; rfl
    clear e q1
    go_enter Try.func22, Try.ntmps22
    go_wp2_with (go_at_call 44; refine (rright_any _ n _ _ _).mono ?_; rintro e w' ⟨rfl, rfl⟩)
    go_ret2
    exact ⟨A, c, rfl, h1.out, hN, .inl rfl⟩
end Go.Proofs.YtepmlmfacpbhkaaR
