/- The document's answer for votes: what lies where, right, Get. -/
import Derived.Test.YtepmlmfacpbhkaaRRef13P
import Derived.Test.YtepmlmfacpbhkaaRCntOneW
namespace Go.Proofs.YtepmlmfacpbhkaaR
open Go.RowKit Go.Shelf
set_option linter.unusedVariables false

/-- a vote as cells -/
def voteC (v : Cnt.Vote) : List Value := .int .i64 v.r :: .int .i64 v.k :: .int .i64 v.w :: v.id.map bv
theorem voteC_length (v : Cnt.Vote) (h : v.id.length = 32) : (voteC v).length = 35 := by simp [voteC, h]
/-- a slice of votes -/
structure VotesAt (w : World) (A : Option Addr) (l : List Cnt.Vote) : Prop where
  rd : 0 < l.length → ∃ b off, A = some ⟨b, off, none⟩ ∧ b < w.heap.size ∧ ∀ j (h : j < l.length), At w b (off + j * 35) (voteC l[j]).toArray
  len : ∀ v ∈ l, v.id.length = 32
theorem VotesAt.fr {S : Nat → Prop} {w w' : World} {A : Option Addr} {l : List Cnt.Vote} (h : VotesAt w A l) (f : Fr S w w') (hS : ∀ j, S j → w.heap.size ≤ j) : VotesAt w' A l :=
  ⟨fun h0 => by
    obtain ⟨b, off, e, hb, hc⟩ := h.rd h0
    exact ⟨b, off, e, Nat.lt_of_lt_of_le hb f.size, fun j hj => (hc j hj).fr f hb (fun s => by have := hS _ s; omega)⟩, h.len⟩
theorem VotesAt.nil {w : World} {A : Option Addr} : VotesAt w A [] := ⟨fun h => by simp at h, fun v hv => by simp at hv⟩
/-- the cells of one vote -/
theorem voteAt {w : World} {b off : Nat} {v : Cnt.Vote} (h : At w b off (voteC v).toArray) :
    w.cell? ⟨b, off, none⟩ = some (.int .i64 v.r) ∧ w.cell? ⟨b, off + 1, none⟩ = some (.int .i64 v.k) ∧ w.cell? ⟨b, off + 2, none⟩ = some (.int .i64 v.w) ∧ At w b (off + 3) (ida v.id) := by
  refine ⟨h 0 (by simp [voteC]), h 1 (by simp [voteC]), h 2 (by simp [voteC]), fun j hj => ?_⟩
  have hj' : j < v.id.length := by simpa [ida] using hj
  have := h (3 + j) (by simp [voteC]; omega)
  rw [Nat.add_assoc, this]
  simp [voteC, ida, Nat.add_comm 3 j]

set_option maxHeartbeats 1000000 in
theorem rright_any (w : World) (n : Nat) (r k i : Int) :
    Calls Try.prog 44 #[.int .i64 n, .int .i64 r, .int .i64 k, .int .i64 i] w fun e w' => e = .returned (.bool (Cnt.right n r k i)) ∧ w = w' := by
  by_cases h1 : 0 ≤ r
  · by_cases h2 : r < 12
    · by_cases h3 : 0 ≤ k
      · by_cases h4 : k < 2
        · by_cases h5 : 0 ≤ i
          · by_cases h6 : i < n
            · have e : Cnt.right n r k i = true := by simp [Cnt.right]; omega
              rw [e]; clear e
              go_enter Try.func44, Try.ntmps44
              go_wp2
              go_ret
              exact ⟨rfl, rfl⟩
            · have e : Cnt.right n r k i = false := by simp [Cnt.right]; omega
              rw [e]; clear e
              have d6 : decide (i < (n : Int)) = false := by simpa using h6
              go_enter Try.func44, Try.ntmps44
              go_wp2
              go_ret
              exact ⟨rfl, rfl⟩
          · have e : Cnt.right n r k i = false := by simp [Cnt.right]; omega
            rw [e]; clear e
            have d5 : decide (0 ≤ i) = false := by simpa using h5
            go_enter Try.func44, Try.ntmps44
            go_wp2
            go_ret
            exact ⟨rfl, rfl⟩
        · have e : Cnt.right n r k i = false := by simp [Cnt.right]; omega
          rw [e]; clear e
          have d4 : decide (k < 2) = false := by simpa using h4
          go_enter Try.func44, Try.ntmps44
          go_wp2
          go_ret
          exact ⟨rfl, rfl⟩
      · have e : Cnt.right n r k i = false := by simp [Cnt.right]; omega
        rw [e]; clear e
        have d3 : decide (0 ≤ k) = false := by simpa using h3
        go_enter Try.func44, Try.ntmps44
        go_wp2
        go_ret
        exact ⟨rfl, rfl⟩
    · have e : Cnt.right n r k i = false := by simp [Cnt.right]; omega
      rw [e]; clear e
      have d2 : decide (r < 12) = false := by simpa using h2
      go_enter Try.func44, Try.ntmps44
      go_wp2
      go_ret
      exact ⟨rfl, rfl⟩
  · have e : Cnt.right n r k i = false := by simp [Cnt.right]; omega
    rw [e]; clear e
    have d1 : decide (0 ≤ r) = false := by simpa using h1
    go_enter Try.func44, Try.ntmps44
    go_wp2
    go_ret
    exact ⟨rfl, rfl⟩
set_option maxHeartbeats 1000000 in
set_option maxRecDepth 20000 in
theorem rget_any (w : World) (A : Option Addr) (c : Nat) (l : List Cnt.Vote) (r k i : Int) (h : VotesAt w A l) (hm : l.length ≤ maxLen) :
    Calls Try.prog 30 #[.slice A l.length c, .int .i64 r, .int .i64 k, .int .i64 i] w fun e w' =>
      e = .returned (.agg (ida (Cnt.rget l r k i))) ∧ New w w' := by
  obtain ⟨ii, hii, hz0, hz1, hz2⟩ := info_parts infoI
  unfold maxLen at hm
  have hN : New w (w.alloc (.cells (ida Cnt.z) 32)) := Fr.alloc _ w _
  have h1 := h.fr hN (fun _ h => h.elim)
  go_enter Try.func30, Try.ntmps30
  go_wp2_with (refine wpList_value_w (exec_alloc_agg (T := 32) rfl hii hz0) (by simp [go_sem, Region.wanted, yielded]) ?_)
  have hB := Lib.hid (Blk.new w 32 (ida Cnt.z))
  go_loop [9] (fun i0 => ∃ j : Nat, i0 = .int .i64 j ∧ j ≤ l.length ∧ Cnt.rfind l r k i = Cnt.rfind (l.drop j) r k i) (fun i0 => l.length - (intOf i0).toNat)
  case atStart => exact ⟨0, rfl, by omega, by simp⟩
  case round =>
    obtain ⟨j, rfl, hj, hf⟩ := hrel
    by_cases hlt : j < l.length
    · obtain ⟨b, off, rfl, hb, hc⟩ := h1.rd (by omega)
      have hd : Cnt.rfind (l.drop j) r k i = if l[j].r == r && l[j].k == k && l[j].w == i then some l[j] else Cnt.rfind (l.drop (j + 1)) r k i := by
        rw [List.drop_eq_getElem_cons hlt]
        unfold Cnt.rfind
        rw [List.find?_cons]
        split <;> simp_all
      obtain ⟨k0, k1, k2, hA⟩ := voteAt (hc j hlt)
      have hl := h.len _ (List.getElem_mem hlt)
      have hlt' : (j : Int) < (l.length : Int) := by omega
      generalize l[j] = v at *
      have HF := Lib.hid (hf.trans hd)
      have HX := Lib.hid (show 32 = (ida v.id).size by rw [ida_size]; exact hl.symm)
      have HZ := Lib.hid (show (ida Cnt.z).size = (ida v.id).size by rw [ida_size, ida_size, hl]; rfl)
      have HL := Lib.hid hl
      clear hf hd hl hc
      have skip : (v.r == r && v.k == k && v.w == i) = false → Cnt.rfind l r k i = Cnt.rfind (l.drop (j + 1)) r k i := fun e => by rw [HF.out, e]; rfl
      have SK := Lib.hid skip
      clear skip
      by_cases q1 : v.r = r
      · by_cases q2 : v.k = k
        · by_cases q3 : v.w = i
          · subst q1 q2 q3
            have HE := Lib.hid (show Cnt.rget l v.r v.k v.w = v.id by unfold Cnt.rget; rw [HF.out]; simp)
            have hBx := Lib.hid (Blk.new w 32 (ida v.id))
            have hNx : New w (w.alloc (.cells (ida v.id) 32)) := Fr.alloc _ w _
            go_wp2_with (first
              | (refine wpList_value_w (exec_load (T := 32) (X := ida v.id) rfl rfl underI rfl hii (hz1.trans HX.out) hA) (by simp [go_sem, Region.wanted, yielded]) ?_)
              | (refine wpList_skip_w (exec_store_new (T := 32) (X := ida v.id) rfl rfl rfl rfl hii (hz1.trans HX.out) (ida_one _) HZ.out) rfl ?_))
            exact bodyPost_ret (id_results rfl HL.out rfl hBx.out) rfl ⟨by rw [HE.out], hNx⟩
          · have d3 : (v.w == i) = false := by simpa using q3
            have S1 := Lib.hid (SK.out (by rw [d3]; simp))
            subst q1 q2
            go_wp2
            go_round
            case rel => exact ⟨j + 1, by go_num, by omega, S1.out⟩
            case measure => simp [intOf]; omega
        · have d2 : (v.k == k) = false := by simpa using q2
          have S1 := Lib.hid (SK.out (by rw [d2]; simp))
          subst q1
          go_wp2
          go_round
          case rel => exact ⟨j + 1, by go_num, by omega, S1.out⟩
          case measure => simp [intOf]; omega
      · have d1 : (v.r == r) = false := by simpa using q1
        have S1 := Lib.hid (SK.out (by rw [d1]; simp))
        go_wp2
        go_round
        case rel => exact ⟨j + 1, by go_num, by omega, S1.out⟩
        case measure => simp [intOf]; omega
    · obtain rfl : j = l.length := by omega
      have HE := Lib.hid (show Cnt.rget l r k i = Cnt.z by unfold Cnt.rget; rw [hf]; simp [Cnt.rfind])
      have d1 : decide ((l.length : Int) < (l.length : Int)) = false := by simp
      clear hf
      go_wp2_with (first
        | (refine wpList_value_w (exec_build0 (T := 32) rfl hii hz0 underI (s := 1) (fun w => by kernel_rfl)) (by simp [go_sem, Region.wanted, yielded]) ?_)
        | (refine wpList_skip_w (exec_store_new (T := 32) (X := ida Cnt.z) rfl rfl rfl rfl hii hz1 (ida_one _) rfl) rfl ?_))
      exact bodyPost_ret (id_results rfl rfl rfl hB.out) rfl ⟨by rw [HE.out], hN⟩
end Go.Proofs.YtepmlmfacpbhkaaR
