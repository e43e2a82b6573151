/- The contract of the document's Side: one bit of a text's sum. -/
import Derived.Test.YtepmlmfacpbhkaaRR3S
namespace Go.Proofs.YtepmlmfacpbhkaaR
open Go.RowKit Go.Shelf
set_option linter.unusedVariables false
set_option maxHeartbeats 2000000 in
set_option maxRecDepth 20000 in
theorem r3side_any (w : World) (t : List UInt8) (k : Nat) (hk : k < 64) (hl : t.length ≤ 140737488354000) :
    Calls Try.prog 37 #[.string ⟨t.toArray⟩, .int .i64 k] w fun e w' => e = .returned (.int .i64 ((Once.side t k : Nat) : Int)) ∧ New w w' := by
  obtain ⟨ii, hii, hz0, hz1, hz2⟩ := info_parts infoID
  have hfor := r1for_any (w.alloc (.cells #[.string ⟨t.toArray⟩] 9)) Once.pText (some ⟨w.heap.size, 0, none⟩) 1 [t] (lit_rd w (tv [t]) 9) (by simp [Once.forB, Once.len4, Once.pText]; omega)
  have HS := Lib.hid (Once.sumFor_length Once.pText [t])
  have HIS := Lib.hid (show 32 = (ida (Once.sumFor Once.pText [t])).size by rw [ida_size]; exact HS.out.symm)
  have HZS := Lib.hid (show (ida z32).size = (ida (Once.sumFor Once.pText [t])).size by rw [ida_size, ida_size]; exact HS.out.symm)
  have HF := Lib.hid hfor
  have HV := Lib.hid (show Once.side t k = Once.bitOf (Once.sumFor Once.pText [t]) k from rfl)
  clear hfor
  generalize Once.sumFor Once.pText [t] = S at *
  go_enter Try.func37, Try.ntmps37
  go_wp2_with fail
  refine Calls.mono (show Calls Try.prog 51 #[.string ⟨Once.pText.toArray⟩, .slice (some ⟨w.heap.size, 0, none⟩) 1 1] (w.alloc (.cells #[.string ⟨t.toArray⟩] 9)) _ from HF.out) ?_
  rintro e w4 ⟨rfl, hN4⟩
  clear HF
  have hN : New w w4 := (Fr.alloc _ w _).trans hN4 fun _ h => h.elim
  have hI := Blk.new w4 32 (ida S)
  have hN5 := hN.then_alloc (.cells (ida S) 32)
  obtain ⟨a, b, hka, ha, hb⟩ : ∃ a b : Nat, k = 8 * a + b ∧ a < 32 ∧ b < 8 := ⟨k / 8, k % 8, by omega, by omega, by omega⟩
  have hq : ((k : Int) / 8) = (a : Int) := by omega
  have hm : ((k : Int) % 8) = (b : Int) := by omega
  have hc := ida_cell hI (j := a) (by rw [HS.out]; exact ha)
  have ha' : (a : Int) < 32 := by omega
  have hk' : (k : Int) < 64 := by omega
  have hbo : Once.side t k = (S.getD a 0).toNat / 2 ^ (7 - b) % 2 := by
    rw [HV.out]
    unfold Once.bitOf
    rw [show k / 8 = a by omega, show k % 8 = b by omega]
  have hxl := UInt8.toNat_lt (S.getD a 0)
  generalize S.getD a 0 = x at *
  have hx2 : (x.toNat : Int) < 256 := by omega
  have HBO := Lib.hid hbo
  have HKA := Lib.hid hka
  have HN5 := Lib.hid hN5
  clear hN hN4 hbo hka hI hN5
  go_wp2_with (first
    | (refine x_value (x_alloc (T := 32) rfl hii hz0) (by simp [go_sem, Region.wanted]) ?_)
    | (refine x_skip (exec_store_new (T := 32) (X := ida S) (Z := ida z32) rfl rfl rfl rfl hii (hz1.trans HIS.out) (ida_one _) HZS.out) rfl ?_))
  generalize w4.alloc (.cells (ida S) 32) = w5 at *
  go_loopw [6, 7] (fun y j W => ∃ m : Nat, y = .int .i64 ((x.toNat / 2 ^ m : Nat) : Int) ∧ j = .int .i64 m ∧ m ≤ 7 - b ∧ W = w5) (fun _ j _ => 8 - (intOf j).toNat)
  case atStart => exact ⟨0, by simp, rfl, by omega, rfl⟩
  case round =>
    obtain ⟨m, rfl, rfl, hm2, rfl⟩ := hrel
    by_cases hmb : m < 7 - b
    · have hd : (m : Int) < 7 - (b : Int) := by omega
      have hdv : ((x.toNat / 2 ^ m : Nat) : Int) / 2 = ((x.toNat / 2 ^ (m + 1) : Nat) : Int) := by
        rw [Nat.pow_succ, ← Nat.div_div_eq_div_mul]
        generalize x.toNat / 2 ^ m = z
        omega
      have hml : (m : Int) < 8 := by omega
      have hy : x.toNat / 2 ^ m < 256 := Nat.lt_of_le_of_lt (Nat.div_le_self _ _) (by omega)
      generalize x.toNat / 2 ^ m = y at *
      generalize hy2 : x.toNat / 2 ^ (m + 1) = y2 at *
      have HY := Lib.hid hy2
      have hy' : (y : Int) < 256 := by omega
      clear hy2
      go_wp2_with fail
      refine ⟨⟨m + 1, by rw [HY.out], by go_num, by omega, trivial⟩, ?_⟩
      simp only [intOf]
      omega
    · obtain rfl : m = 7 - b := by omega
      have hd : decide (((7 - b : Nat) : Int) < 7 - (b : Int)) = false := by rw [decide_eq_false_iff_not]; omega
      have hmd : ((x.toNat / 2 ^ (7 - b) : Nat) : Int) % 2 = ((Once.side t k : Nat) : Int) := by
        rw [HBO.out]
        rfl
      generalize x.toNat / 2 ^ (7 - b) = y at *
      generalize hq2 : Once.side t k = q at *
      have HQ := Lib.hid hq2
      clear hq2
      have HM := Lib.hid hmd
      clear hmd
      go_wp2_with fail
      go_ret
      refine ⟨?_, HN5.out⟩
      rw [HQ.out]
      exact congrArg (fun z => Ending.returned (.int .i64 z)) HM.out
end Go.Proofs.YtepmlmfacpbhkaaR
