/- New: a count without votes. -/
import Derived.Test.YtepmlmfacpbhkaaRCntB
namespace Go.Proofs.YtepmlmfacpbhkaaR
open Go.RowKit Go.Shelf
set_option linter.unusedVariables false

theorem new_bad (w : World) (n : Int) (h : Cnt.faults n < 0) :
    Calls Try.prog 16 #[.int .i64 n] w fun e w' => e = .returned (.tuple #[.pointer none, .int .i64 1]) ∧ w = w' := by
  go_enter Try.func16, Try.ntmps16
  go_wp2_with (go_at_call 19; refine (faults_any _ _).mono ?_; rintro e w' ⟨rfl, rfl⟩)
  go_ret2
  exact ⟨rfl, rfl⟩
def nov (n : Nat) : Array Value := (vrow n (fun _ => none)).toArray
theorem run_mk_votes (w : World) (n : Nat) (h : n = 1 ∨ n = 4 ∨ n = 7) :
    (Instr.makeSlice 83 (.int .i64 n) (.int .i64 n)).run Try.prog w = .ok (.slice (some ⟨w.heap.size, 0, none⟩) n n) (w.alloc (.cells (nov n) 90)) := by
  rcases h with rfl | rfl | rfl <;> kernel_rfl
theorem step_value {P : Program} {ops : Array Oper} {o : Oper} {a : Act} {w w' : World} {K : Act → World → Prop} {Q : Exit → Act → World → Prop} {E : Prop} {v : Value} (hr : (execOp a.eval o).run P w = .ok (.value v) w')
    (hgd : o.guard = none) (hK : K (a.put o.dst v) w') : if Region.wanted o (yielded ops a.tmps) = true then Oper.wp P o a w K Q else E := by
  have hw : Region.wanted o (yielded ops a.tmps) = true := by simp [Region.wanted, hgd]
  rw [if_pos hw]
  unfold Oper.wp
  rw [hr]
  exact hK
structure NewAt (w : World) (n m : Nat) (W : World) : Prop where
  size : W.heap.size = w.heap.size + 1 + m
  fr : New w W
  cs : ∃ cs : Array Value, cs.size = 25 ∧ Blk W w.heap.size 87 cs ∧ cs[0]? = some (.int .i64 n) ∧ ∀ j, j < m → cs[1 + j]? = some (.slice (some ⟨w.heap.size + 1 + j, 0, none⟩) n n) ∧ Blk W (w.heap.size + 1 + j) 90 (nov n)
theorem NewAt.drew {w : World} {n m : Nat} {W : World} (h : NewAt w n m W) : NewAt w n m W.drew := ⟨h.size, h.fr.then_drew, h.cs⟩
theorem NewAt.more {w : World} {n m : Nat} {W : World} (h : NewAt w n m W) (hm : m < 24) :
    NewAt w n (m + 1) ((W.alloc (.cells (nov n) 90)).setCell ⟨w.heap.size, 1 + m, none⟩ (.slice (some ⟨W.heap.size, 0, none⟩) n n)) := by
  obtain ⟨cs, hc, hB, h0, hj⟩ := h.cs
  refine ⟨by simp [h.size]; omega, ?_, cs.setIfInBounds (1 + m) (.slice (some ⟨W.heap.size, 0, none⟩) n n), by simp [hc], (hB.alloc _).set _ _, by rw [Array.getElem?_setIfInBounds_ne (by omega)]; exact h0, fun j hjm => ?_⟩
  · exact (h.fr.then_alloc _).setCell_new (Nat.le_refl _) _
  · by_cases he : j = m
    · subst he
      refine ⟨by rw [Array.getElem?_setIfInBounds_self_of_lt (by omega), h.size], ?_⟩
      have := (Blk.new W 90 (nov n)).far (p := ⟨w.heap.size, 1 + j, none⟩) (by simp [h.size]; omega) (.slice (some ⟨W.heap.size, 0, none⟩) n n)
      rw [h.size] at this ⊢
      exact this
    · have := hj j (by omega)
      exact ⟨by rw [Array.getElem?_setIfInBounds_ne (by omega)]; exact this.1, ((this.2.alloc _).far (by simp; omega) _)⟩
theorem NewAt.done {w : World} {n : Nat} {W : World} (h : NewAt w n 24 W) (hn : n = 1 ∨ n = 4 ∨ n = 7) : CntAt W w.heap.size (fun r k => w.heap.size + 1 + (r * 2 + k)) n Cnt.empty := by
  obtain ⟨cs, hc, hB, h0, hj⟩ := h.cs
  refine ⟨by rw [hB.cell]; exact h0, fun r k hr hk => ?_, fun r k hr hk => (hj (r * 2 + k) (by omega)).2, fun r k r' k' _ _ _ _ e => ⟨(by omega), (by omega)⟩, (fun r k _ _ => (by omega)), (fun r k v x e => (by cases e)), hn⟩
  rw [hB.cell, Nat.add_assoc]
  exact (hj (r * 2 + k) (by omega)).1
def mkVotes (n : Nat) : Sem Value := Instr.makeSlice 83 (.int .i64 n) (.int .i64 n)
theorem mkVotes_eq (n : Nat) : Instr.makeSlice 83 (.int .i64 (n : Int)) (.int .i64 (n : Int)) = mkVotes n := rfl
theorem run_mkVotes (w : World) (n : Nat) (h : n = 1 ∨ n = 4 ∨ n = 7) : (mkVotes n).run Try.prog w = .ok (.slice (some ⟨w.heap.size, 0, none⟩) n n) (w.alloc (.cells (nov n) 90)) := run_mk_votes w n h
attribute [local go_sem high] mkVotes_eq
attribute [local go_sem] run_mkVotes
theorem NewAt.cell {w : World} {n m : Nat} {W : World} (h : NewAt w n m W) {j : Nat} (hj : j < 25) (o : Obj) : (∃ v, (W.alloc o).cell? ⟨w.heap.size, j, none⟩ = some v) ∧ (W.alloc o).frozen? ⟨w.heap.size, j, none⟩ = false := by
  obtain ⟨cs, hc, hB, _⟩ := h.cs
  exact ⟨⟨cs[j]'(by omega), by rw [(hB.alloc o).cell, Array.getElem?_eq_getElem]⟩, (hB.alloc o).frozen j⟩
set_option maxRecDepth 20000 in
theorem new_any (w : World) (n : Nat) (h : n = 1 ∨ n = 4 ∨ n = 7) :
    Calls Try.prog 16 #[.int .i64 n] w fun e w' =>
      e = .returned (.tuple #[.pointer (some ⟨w.heap.size, 0, none⟩), .int .i64 0]) ∧ CntAt w' w.heap.size (fun r k => w.heap.size + 1 + (r * 2 + k)) n Cnt.empty ∧ New w w' := by
  have hf : decide (Cnt.faults n < 0) = false := by unfold Cnt.faults; rw [decide_eq_false_iff_not]; omega
  go_enter Try.func16, Try.ntmps16
  go_wp2_with (go_at_call 19; refine (faults_any _ _).mono ?_; rintro e w' ⟨rfl, rfl⟩)
  have H0 : NewAt w n 0 (w.alloc (.cells #[.int .i64 n, .slice none 0 0, .slice none 0 0, .slice none 0 0, .slice none 0 0, .slice none 0 0, .slice none 0 0, .slice none 0 0, .slice none 0 0, .slice none 0 0, .slice none 0 0, .slice none 0 0, .slice none 0 0, .slice none 0 0, .slice none 0 0, .slice none 0 0, .slice none 0 0, .slice none 0 0, .slice none 0 0, .slice none 0 0, .slice none 0 0, .slice none 0 0, .slice none 0 0, .slice none 0 0, .slice none 0 0] 87)) :=
    ⟨by simp, Fr.alloc _ _ _, _, rfl, Blk.new _ _ _, rfl, fun j hj => by omega⟩
  generalize w.alloc _ = W0 at *
  go_loopw [13] (fun i W => ∃ r : Nat, i = .int .i64 r ∧ r ≤ 12 ∧ NewAt w n (r * 2) W) (fun i _ => 12 - (intOf i).toNat)
  case atStart => exact ⟨0, rfl, by omega, H0⟩
  case round =>
    obtain ⟨r, rfl, hr, HA⟩ := hrel
    by_cases hlt : r < 12
    · go_wp2
      go_loopw [16] (fun i W => ∃ k : Nat, i = .int .i64 k ∧ k ≤ 2 ∧ NewAt w n (r * 2 + k) W) (fun i _ => 2 - (intOf i).toNat)
      case atStart => exact ⟨0, rfl, by omega, HA⟩
      case round =>
        obtain ⟨k, rfl, hk, HB⟩ := hrel
        by_cases hlk : k < 2
        · have hr12' : (r : Int) < 12 := by omega
          have hk2' : (k : Int) < 2 := by omega
          obtain ⟨⟨v0, hc0⟩, hf0⟩ := HB.cell (j := 1 + r * 2 + k) (by omega) (.cells (nov n) 90)
          have HM := (HB.more (by omega)).drew
          rw [← Nat.add_assoc] at HM
          go_wp2
          go_region
          clear hc0 hf0
          generalize (World.setCell _ _ _).drew = W3 at *
          go_wp2
          go_roundw
          case rel => exact ⟨k + 1, by go_num, by omega, HM⟩
          case measure => simp [intOf]; omega
        · have h2 : k = 2 := by omega
          subst h2
          have HM : NewAt w n ((r + 1) * 2) wr := by
            have : (r + 1) * 2 = r * 2 + 2 := by omega
            rw [this]; exact HB
          have q2 : decide (((2 : Nat) : Int) < 2) = false := by decide
          go_wp2
          go_roundw
          case rel => exact ⟨r + 1, by go_num, by omega, HM⟩
          case measure => simp [intOf]; omega
    · have h12 : r = 12 := by omega
      subst h12
      have HD := HA.done h
      have HF := HA.fr
      go_wp2
      go_ret2
      exact ⟨rfl, HD, HF⟩
end Go.Proofs.YtepmlmfacpbhkaaR
