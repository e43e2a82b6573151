/- Get, and the small head of the statements of count. -/
import Derived.Test.YtepmlmfacpbhkaaRCntH
namespace Go.Proofs.YtepmlmfacpbhkaaR
open Go.RowKit Go.Shelf
set_option linter.unusedVariables false

namespace Cnt
def get (n : Nat) (V : Tab) (r k i : Int) : Vid := if right n r k i then (V r.toNat k.toNat i.toNat).getD z else z
end Cnt
theorem vcells_id (o : Option Cnt.Vid) : vcells o = .bool o.isSome :: (o.getD Cnt.z).map bv := by cases o <;> rfl
theorem CntAt.idAt {w : World} {g : Nat} {B : Nat → Nat → Nat} {n : Nat} {V : Cnt.Tab} (h : CntAt w g B n V) {r k i : Nat} (hr : r < 12) (hk : k < 2) (hi : i < n) : At w (B r k) (i * 33 + 1) (ida ((V r k i).getD Cnt.z)) := by
  intro j hj
  have h1 := h.at hr hk hi (1 + j) (by rw [vcells_id]; simp [ida] at hj ⊢; omega)
  have e : i * 33 + 1 + j = i * 33 + (1 + j) := by omega
  rw [e, h1]
  simp [vcells_id, ida, Nat.add_comm 1 j]
theorem CntAt.getLen {w : World} {g : Nat} {B : Nat → Nat → Nat} {n : Nat} {V : Cnt.Tab} (h : CntAt w g B n V) (r k i : Nat) : ((V r k i).getD Cnt.z).length = 32 := by
  cases hv : V r k i with
  | none => rfl
  | some x => exact (h.len r k i x hv).1

set_option maxHeartbeats 1000000 in
set_option maxRecDepth 20000 in
theorem get_any (w : World) (g : Nat) (B : Nat → Nat → Nat) (n : Nat) (V : Cnt.Tab) (r k i : Int) (h : CntAt w g B n V) :
    Calls Try.prog 29 #[.pointer (some ⟨g, 0, none⟩), .int .i64 r, .int .i64 k, .int .i64 i] w fun e w' =>
      e = .returned (.agg (ida (Cnt.get n V r k i))) ∧ New w w' := by
  obtain ⟨ii, hii, hz0, hz1, hz2⟩ := info_parts infoI
  have hN : New w (w.alloc (.cells (ida Cnt.z) 32)) := Fr.alloc _ w _
  have h1 := h.fr hN id (fun _ _ _ _ => id)
  have hv1 := h1.voters
  by_cases hr : Cnt.right n r k i = true
  · have hb : 0 ≤ r ∧ r < 12 ∧ (k = 0 ∨ k = 1) ∧ 0 ≤ i ∧ i < n := by simpa [Cnt.right] using hr
    obtain ⟨r, rfl⟩ : ∃ r' : Nat, r = r' := ⟨r.toNat, by omega⟩
    obtain ⟨k, rfl⟩ : ∃ k' : Nat, k = k' := ⟨k.toNat, by omega⟩
    obtain ⟨i, rfl⟩ : ∃ i' : Nat, i = i' := ⟨i.toNat, by omega⟩
    have hr12 : r < 12 := by omega
    have hk2 : k < 2 := by omega
    have hin : i < n := by omega
    have hq : (!Cnt.right n r k i) = false := by rw [hr]; rfl
    have hsl := h1.slot r k hr12 hk2
    have hA := h1.idAt hr12 hk2 hin
    have hl := h.getLen r k i
    have HE := Lib.hid (show Cnt.get n V r k i = (V r k i).getD Cnt.z by unfold Cnt.get; rw [if_pos hr]; rfl)
    have HL := Lib.hid (show 32 = (ida ((V r k i).getD Cnt.z)).size by rw [ida_size]; exact hl.symm)
    have HZ := Lib.hid (show (ida Cnt.z).size = (ida ((V r k i).getD Cnt.z)).size by rw [ida_size, ida_size, hl]; rfl)
    have hl' := Lib.hid hl
    clear hb hl
    generalize (V r k i).getD Cnt.z = x at *
    have hB := Lib.hid (Blk.new w 32 (ida x))
    have hNx : New w (w.alloc (.cells (ida x) 32)) := Fr.alloc _ w _
    go_enter Try.func29, Try.ntmps29
    go_wp2_with (first
      | (go_at_call 42; refine (right_any _ g n _ _ _ hv1).mono ?_; rintro e w' ⟨rfl, rfl⟩)
      | (refine wpList_value_w (exec_alloc_agg (T := 32) rfl hii hz0) (by simp [go_sem, Region.wanted, yielded]) ?_)
      | (refine wpList_value_w (exec_load (T := 32) (X := ida x) rfl rfl underI rfl hii (hz1.trans HL.out) hA) (by simp [go_sem, Region.wanted, yielded]) ?_)
      | (refine wpList_skip_w (exec_store_new (T := 32) (X := ida x) rfl rfl rfl rfl hii (hz1.trans HL.out) (ida_one _) HZ.out) rfl ?_))
    exact bodyPost_ret (id_results rfl hl'.out rfl hB.out) rfl ⟨by rw [HE.out], hNx⟩
  · have hr' : Cnt.right n r k i = false := by simpa using hr
    have hq : (!Cnt.right n r k i) = true := by rw [hr']; rfl
    have HE := Lib.hid (show Cnt.get n V r k i = Cnt.z by unfold Cnt.get; rw [if_neg hr])
    go_enter Try.func29, Try.ntmps29
    go_wp2_with (first
      | (go_at_call 42; refine (right_any _ g n _ _ _ hv1).mono ?_; rintro e w' ⟨rfl, rfl⟩)
      | (refine wpList_value_w (exec_alloc_agg (T := 32) rfl hii hz0) (by simp [go_sem, Region.wanted, yielded]) ?_)
      | (refine wpList_value_w (exec_build0 (T := 32) rfl hii hz0 underI (s := 1) (fun w => by kernel_rfl)) (by simp [go_sem, Region.wanted, yielded]) ?_)
      | (refine wpList_skip_w (exec_store_new (T := 32) (X := ida Cnt.z) rfl rfl rfl rfl hii hz1 (ida_one _) rfl) rfl ?_))
    exact bodyPost_ret (id_results rfl rfl rfl (Blk.new w 32 (ida Cnt.z))) rfl ⟨by rw [HE.out], hN⟩
theorem RowsOf.new {j m : Nat} (h : RowsOf (fun r k => m + 1 + (r * 2 + k)) j) : m ≤ j := by
  obtain ⟨r, k, _, _, rfl⟩ := h
  show m ≤ m + 1 + (r * 2 + k)
  omega
theorem put7_any (w : World) (g : Nat) (B : Nat → Nat → Nat) (j : Nat) (hj : j < 3) (h : CntAt w g B 4 (Cnt.tab7 j)) :
    Calls Try.prog 17 #[.pointer (some ⟨g, 0, none⟩), .int .i64 2, .int .i64 1, .int .i64 j, .agg (ida Cnt.id7)] w fun e w' =>
      e = .returned (.int .i64 0) ∧ CntAt w' g B 4 (Cnt.tab7 (j + 1)) ∧ Fr (RowsOf B) w w' := by
  have := put_any w g B 4 (Cnt.tab7 j) 2 1 j Cnt.id7 rfl h
  rw [Cnt.put7 j hj] at this
  exact this
theorem sure7_any (w : World) (g : Nat) (B : Nat → Nat → Nat) (h : CntAt w g B 4 (Cnt.tab7 3)) :
    Calls Try.prog 18 #[.pointer (some ⟨g, 0, none⟩), .int .i64 2, .int .i64 1] w fun e w' => e = .returned (.tuple #[.agg (ida Cnt.id7), .bool true]) ∧ New w w' := by
  have := sure_any w g B 4 (Cnt.tab7 3) 2 1 h
  rw [Cnt.sure7] at this
  exact this
theorem ahead7_any (w : World) (g : Nat) (B : Nat → Nat → Nat) (h : CntAt w g B 4 (Cnt.tab7 3)) :
    Calls Try.prog 27 #[.pointer (some ⟨g, 0, none⟩), .int .i64 0] w fun e w' => e = .returned (.tuple #[.int .i64 2, .bool true]) ∧ w = w' := by
  have := ahead_any w g B 4 (Cnt.tab7 3) 0 h
  rw [Cnt.ahead7] at this
  exact this
theorem twice7_any (w : World) (g : Nat) (B : Nat → Nat → Nat) (h : CntAt w g B 4 (Cnt.tab7 3)) :
    Calls Try.prog 17 #[.pointer (some ⟨g, 0, none⟩), .int .i64 2, .int .i64 1, .int .i64 0, .agg (ida Cnt.id8)] w fun e w' =>
      e = .returned (.int .i64 5) ∧ Fr (RowsOf B) w w' := by
  have := put_any w g B 4 (Cnt.tab7 3) 2 1 0 Cnt.id8 rfl h
  rw [Cnt.twice7] at this
  exact this.mono fun e w' ⟨a, _, c⟩ => ⟨a, c⟩
theorem need7_any (w : World) : Calls Try.prog 20 #[.int .i64 7] w fun e w' => e = .returned (.int .i64 5) ∧ w = w' := need_any 7 w
set_option maxHeartbeats 1000000 in
set_option maxRecDepth 20000 in
theorem counts_any (w : World) : Calls Try.prog 14 #[] w fun e w' => e = .returned (.bool true) ∧ New w w' := by
  obtain ⟨ii, hii, hz0, hz1, hz2⟩ := info_parts infoI
  go_enter Try.func14, Try.ntmps14
  go_wp2_with (first
    | (go_at_call 16; refine (new_any _ 4 (by decide)).mono ?_; rintro e w1 ⟨rfl, hC, hN⟩))
  rw [← Cnt.tab7_0] at hC
  generalize hB : (fun r k => w.heap.size + 1 + (r * 2 + k)) = B at *
  have hBn : ∀ j, RowsOf B j → w.heap.size ≤ j := fun j hj => by rw [← hB] at hj; exact hj.new
  clear hB
  generalize hg : w.heap.size = g at *
  go_loopw [3] (fun i W => ∃ j : Nat, i = .int .i64 j ∧ j ≤ 3 ∧ CntAt W g B 4 (Cnt.tab7 j) ∧ New w W) (fun i _ => 3 - (intOf i).toNat)
  case atStart => exact ⟨0, rfl, by omega, hC, hN⟩
  case round =>
    obtain ⟨j, rfl, hj, hC, hN⟩ := hrel
    by_cases hlt : j < 3
    · go_wp2_with (first
        | (refine wpList_value_w (exec_build7 rfl) (by simp [go_sem, Region.wanted, yielded]) ?_)
        | (go_at_call 17; refine (put7_any _ g B j hlt hC).mono ?_; rintro e w2 ⟨rfl, hC2, hF2⟩))
      go_roundw
      case rel => exact ⟨j + 1, by go_num, by omega, hC2, hN.trans hF2 (fun j hj => .inr (by have := hBn _ hj; omega))⟩
      case measure => simp [intOf]; omega
    · obtain rfl : j = 3 := by omega
      have q3 : decide (((3 : Nat) : Int) < 3) = false := by decide
      clear hlt
      go_wp2_with (first
        | (go_at_call 18; refine (sure7_any _ g B hC).mono ?_; rintro e w3 ⟨rfl, hN3⟩; have hC4 := (hC.fr hN3 id (fun _ _ _ _ => id)).fr (Fr.alloc (fun _ => False) w3 (.cells (ida Cnt.id7) 32)) id (fun _ _ _ _ => id); have hA4 := (Blk.new w3 32 (ida Cnt.id7)).at0; have hN4 := hN.trans (hN3.then_alloc (.cells (ida Cnt.id7) 32)) (fun _ h => h.elim))
        | (go_at_call 27; refine (ahead7_any _ g B hC4).mono ?_; rintro e w4 ⟨rfl, rfl⟩)
        | (go_at_call 17; refine (twice7_any _ g B hC4).mono ?_; rintro e w5 ⟨rfl, hF5⟩)
        | (go_at_call 20; refine (need7_any _).mono ?_; rintro e w6 ⟨rfl, rfl⟩)
        | (go_at_call 40; refine (nil_any _).mono ?_; rintro e w7 ⟨rfl, hN7⟩)
        | (go_at_call 41; refine (rnil_any _).mono ?_; rintro e w8 ⟨rfl, hN8⟩)
        | (refine wpList_value_w (exec_build7 rfl) (by simp [go_sem, Region.wanted, yielded]) ?_)
        | (refine wpList_value_w (exec_build8 rfl) (by simp [go_sem, Region.wanted, yielded]) ?_)
        | (refine wpList_value_w (exec_load (T := 32) (X := ida Cnt.id7) rfl rfl underI rfl hii hz1 hA4) (by simp [go_sem, Region.wanted, yielded]) ?_)
        | (refine wpList_value_w (exec_eql (T := 32) (a := Cnt.id7) (b := Cnt.id7) rfl rfl rfl underI (by kernel_rfl) (fun w => by kernel_rfl) rfl rfl (by kernel_rfl)) (by simp [go_sem, Region.wanted, yielded]) ?_)
        | (refine wpList_value_w (exec_eql (T := 32) (a := Cnt.nilId) (b := Cnt.nilId) rfl rfl rfl underI (by kernel_rfl) (fun w => by kernel_rfl) rfl rfl (by kernel_rfl)) (by simp [go_sem, Region.wanted, yielded]) ?_)
        | (refine wpList_value_w (exec_alloc_agg (T := 32) rfl hii hz0) (by simp [go_sem, Region.wanted, yielded]) ?_)
        | (refine wpList_skip_w (exec_store_new (T := 32) (X := ida Cnt.id7) rfl rfl rfl rfl hii hz1 (ida_one _) rfl) rfl ?_))
      go_ret
      exact ⟨rfl, ((hN4.trans hF5 (fun j hj => .inr (by have := hBn _ hj; omega))).trans hN7 (fun _ h => h.elim)).trans hN8 (fun _ h => h.elim)⟩
end Go.Proofs.YtepmlmfacpbhkaaR
