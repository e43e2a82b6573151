/- WholeFiled walked. (Printed by gen_filec2.py.) -/
import Derived.Test.YtefalfalapnllaaFiledD
namespace Go.Proofs.Ytefalfalapnllaa
open Go.RowKit Go.Shelf
set_option linter.unusedVariables false
set_option maxHeartbeats 16000000 in
set_option maxRecDepth 100000 in
theorem wf_in (A : Option Addr) (cA : Nat) (ms : List MsgD) (B : Option Addr) (cB : Nat) (cs : List (Int × Int)) (w : World) (hL : MsgsIn w A ms) (hC : CutsIn w B cs) :
    Calls Try.prog 8 #[.slice A ms.length cA, .slice B cs.length cB] w fun e w' => e = .returned (.bool true) ∧ New w w' := by
  obtain ⟨im, him, hm0, hm1, hm2⟩ := info_parts infoMsg
  have hms0 : (mc 0 0 0 0 0 0 z32 none 0 0 none 0 0 none 0 0).size = 41 := rfl
  obtain ⟨M0, hM0⟩ : ∃ M0, mc 0 0 0 0 0 0 z32 none 0 0 none 0 0 none 0 0 = M0 := ⟨_, rfl⟩
  rw [hM0] at hm0 hms0
  have HMS0 := Lib.hid hms0
  clear hM0 hms0
  have HL := Lib.hid hL
  have HC := Lib.hid hC
  obtain ⟨n, hn⟩ : ∃ n, ms.length = n := ⟨_, rfl⟩
  obtain ⟨nb, hnb⟩ : ∃ nb, cs.length = nb := ⟨_, rfl⟩
  have HN := Lib.hid hn
  have HNB := Lib.hid hnb
  rw [hn, hnb]
  clear hn hnb hL hC
  go_enter Try.func8, Try.ntmps8
  go_wp2_with fail
  refine (slab_New 1048576 (by omega) (by omega)).mono ?_
  rintro e w1 ⟨rfl, hS1, hN1⟩
  go_wp2_with fail
  refine (jb_Open hS1 (jof_open 1048576 [] (by simp))).mono ?_
  rintro e w2 ⟨q, H, rfl, hB2, hH2, hf2⟩
  have hN2 : New w w2 := hN1.trans hf2 (fun k hk => .inr (by omega))
  have hK2 : KW w w.heap.size q [] none 0 w2 := ⟨-1, H, by rw [brk_id]; exact hB2, fun k hk => ⟨by have := hN1.size; rcases hH2 k hk with h | h <;> omega, by simp [ab], by simp [ab]⟩, Row.nil _ _, fun k hk => by simp [ab] at hk, Rd.nil, fun k hk => by simp [ab] at hk, hN2⟩
  have HK2 := Lib.hid hK2
  clear hB2 hH2 hf2 hN1 hS1 hK2
  by_cases hbig : 16 < n
  · go_wp2_with fail
    go_ret
    exact ⟨rfl, hN2⟩
  by_cases hbig2 : 16 < nb
  · go_wp2_with fail
    go_ret
    exact ⟨rfl, hN2⟩
  clear hN2
  generalize w.heap.size = p at HK2
  go_wp2_with fail
  go_loopw [49, 7, 9] (fun iv jv sv W => ∃ (i q : Nat) (rs : List (List UInt8)) (A2 : Option Addr) (c2 : Nat), iv = .int .i64 i ∧ jv = .pointer (some ⟨q, 0, none⟩) ∧ sv = .slice A2 rs.length c2 ∧ i ≤ n ∧ rs.length ≤ i ∧ (∀ d ∈ rs, Kept d) ∧ KW w p q rs A2 c2 W) (fun iv _ _ _ => n - (intOf iv).toNat)
  case atStart => exact ⟨0, q, [], none, 0, rfl, rfl, rfl, Nat.zero_le _, Nat.zero_le _, by simp, HK2.out⟩
  case round =>
    clear HK2
    obtain ⟨i, q, rs, A2, c2, rfl, rfl, rfl, hi, hri, hrs, hK⟩ := hrel
    by_cases hin : i < n
    · go_upto_block 1 with fail
      refine wf_round (c0 := _) ?hc w p q i n nb rs A2 c2 ms A cA B cB cs wr HL HC HN HNB hrs hK hin hri (by omega) _ _ _ _ _ _ _ _ _ _ _ _ _ _ _ _ _ _ _ _ _ _ _ _ _ _ _ _ _ _ _ _ _ _ _ _ _ _ _ _ _ _ _ _ _ _ _ _ _ _ _ _ _ _ _ _ _ _ _ _ _ _ _ _ _ _ _ _ _ _ _ _ _ _ _ _ _ _ _ _ _ _ _ _ _ _ _ _ _ _ _ _ _ _ _ _ _ _ _ _ _ _ _ _ _ _ _ _ _ _ _ _ _ _ _ _ _ _ _ _ _ _ _ _ _ _ _ _ _ _ _ _ _ _ _ _ _ _ _ _ _ _ _ _ _ _ _ _ _ _ _ _ _ _ _ _ _ _ _ _ _ _ _ _ _ _ _ _ _ _ _ _ _ _ _ _ _ _ _ _ _ _ _ _ _ _ _ _ _ _ _ _ _ _ _ _ _ _ _ _ (Lib.hid fun _ _ _ _ _ _ _ _ _ _ _ _ _ _ _ _ _ _ _ _ _ _ _ _ _ _ _ _ _ _ _ _ _ _ _ _ _ _ _ _ _ _ _ _ _ _ _ _ _ _ _ _ _ _ _ _ _ _ _ _ _ _ _ _ _ _ _ _ _ _ _ _ _ _ _ _ _ _ _ _ _ _ _ _ _ _ _ _ _ _ _ _ _ _ _ _ _ _ _ _ _ _ _ _ _ _ _ _ _ _ _ _ _ _ _ _ _ _ _ _ _ _ _ _ _ _ _ _ _ _ _ _ _ _ _ _ _ _ _ _ _ _ _ _ _ _ _ _ _ _ _ _ _ _ _ _ _ _ _ _ _ _ _ _ _ W' hNx => ?_) (Lib.hid fun _ _ _ _ _ _ _ _ _ _ _ _ _ _ _ _ _ _ _ _ _ _ _ _ _ _ _ _ _ _ _ _ _ _ _ _ _ _ _ _ _ _ _ _ _ _ _ _ _ _ _ _ _ _ _ _ _ _ _ _ _ _ _ _ _ _ _ _ _ _ _ _ _ _ _ _ _ _ _ _ _ _ _ _ _ _ _ _ _ _ _ _ _ _ _ _ _ _ _ _ _ _ _ _ _ _ _ _ _ _ _ _ _ _ _ _ _ _ _ _ _ _ _ _ _ _ _ _ _ _ _ _ _ _ _ _ _ _ _ _ _ _ _ _ _ _ _ _ _ _ _ _ _ _ _ _ _ _ _ _ _ _ _ _ W' hN => ?_)
      case hc => kernel_rfl
      · obtain ⟨q2, rs2, A3, c3, rfl, rfl, hl2, hk2, hK2⟩ := hNx
        have HK2 := Lib.hid hK2
        have HR2 := Lib.hid hk2
        clear hK2 hk2 hK hrs
        go_wp2_with fail
        go_roundw
        case rel => exact ⟨i + 1, q2, rs2, A3, c3, by go_num, rfl, rfl, by omega, by omega, HR2.out, HK2.out⟩
        case measure => simp [intOf]; omega
      · have HNE := Lib.hid hN
        clear hN hK hrs
        go_wp2_with fail
        go_ret
        exact ⟨rfl, HNE.out⟩
    · obtain rfl : i = n := by omega
      obtain ⟨st, hK⟩ := hK
      have hlen := hK.Len
      have HLEN := Lib.hid (show Calls Try.prog 35 #[.pointer (some ⟨q, 0, none⟩)] wr fun e w' => e = .returned (.int .i64 (rs.length : Int)) ∧ wr = w' from hlen)
      have hNE := hK.frm
      clear hK hlen
      go_wp2_with (go_at_call 35; refine HLEN.out.mono ?_; rintro e _ ⟨rfl, rfl⟩)
      go_ret
      exact ⟨rfl, hNE⟩
end Go.Proofs.Ytefalfalapnllaa
