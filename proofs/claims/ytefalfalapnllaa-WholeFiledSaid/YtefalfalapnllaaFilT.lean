/- Package pack: the reader's number. -/
import Derived.Test.YtefalfalapnllaaFilS
namespace Go.Proofs.Ytefalfalapnllaa
open Go.RowKit Go.Shelf
set_option linter.unusedVariables false
theorem dec_lt : ∀ (b : List UInt8) (a : Nat), Pk.dec a b < (a + 1) * 256 ^ b.length
  | [], a => by simp [Pk.dec]
  | x :: b, a => by
    have ih := dec_lt b (a * 256 + x.toNat)
    have hx := UInt8.toNat_lt x
    have e : Pk.dec a (x :: b) = Pk.dec (a * 256 + x.toNat) b := rfl
    rw [e, List.length_cons, Nat.pow_succ]
    have h2 : (a * 256 + x.toNat + 1) * 256 ^ b.length ≤ ((a + 1) * 256) * 256 ^ b.length := Nat.mul_le_mul_right _ (by omega)
    have h3 : ((a + 1) * 256) * 256 ^ b.length = (a + 1) * (256 ^ b.length * 256) := by rw [Nat.mul_assoc, Nat.mul_comm 256]
    omega
theorem orb (a : Nat) (x : UInt8) (ha : a < 1099511627776) : bits .or .i64 ((a : Int) * 256) (x.toNat : Int) = ((a * 256 + x.toNat : Nat) : Int) := by
  have hx := UInt8.toNat_lt x
  have e : a * 256 ||| x.toNat = a * 256 + x.toNat := by
    have := Nat.shiftLeft_add_eq_or_of_lt (i := 8) (b := x.toNat) (by omega) a
    rw [Nat.shiftLeft_eq] at this
    exact this.symm
  have h1 : ((a : Int) * 256) = ((a * 256 : Nat) : Int) := by omega
  rw [h1, i64_or_nat _ _ (by omega) (by omega), e]
set_option maxHeartbeats 2000000 in
set_option maxRecDepth 20000 in
theorem r_number (w : World) (rp : Value) (A : Option Addr) (c n : Nat) (hR : Rd w A ((Pk.numB n).map bv)) (h0 : n ≠ 0) (hn : n ≤ 1099511627776) :
    Calls Try.prog 52 #[rp, .slice A (Pk.numB n).length c] w fun e w' => e = .returned (.int .i64 n) ∧ w' = w := by
  have hl : (Pk.numB n).length ≤ 6 := Pk.numB_length 6 n (by omega)
  have hpos : 0 < (Pk.numB n).length := List.length_pos_iff.2 (Pk.numB_ne n h0)
  obtain ⟨g, o, rfl, hgl, hcell⟩ := hR (by simpa using hpos)
  have hhead := Pk.numB_head n h0
  have hd := Pk.dec_numB n
  generalize Pk.numB n = b at *
  obtain ⟨m, hm⟩ : ∃ m, b.length = m := ⟨_, rfl⟩
  have hc0 : w.cell? ⟨g, o, none⟩ = some (.int .u8 ((b.getD 0 0).toNat : Int)) := by
    have := hcell 0 (by simpa using hpos)
    rw [Nat.add_zero] at this
    rw [this]
    simp [bv, hpos]
  have hz : ¬ (b.getD 0 0).toNat = 0 := fun e => hhead (by
    apply UInt8.toNat_inj.1
    rw [e]; rfl)
  generalize (b.getD 0 0).toNat = z at *
  have HC := Lib.hid hcell
  have HD := Lib.hid hd
  rw [hm] at hl hpos ⊢
  have hpos' : (0 : Int) < (m : Int) := by omega
  have hz' : ¬ (z : Int) = 0 := by omega
  have hm6 : decide ((6 : Int) < (m : Int)) = false := decide_eq_false (by omega)
  have hm0 : ((m : Int) == 0) = false := beq_false_of_ne (by omega)
  have hnb : decide ((1099511627776 : Int) < (n : Int)) = false := decide_eq_false (by omega)
  clear hcell hd hhead hR
  go_enter Try.func52, Try.ntmps52
  go_wp2_with fail
  go_loopw [5, 10] (fun nv iv W => ∃ k : Nat, nv = .int .i64 (Pk.dec 0 (b.take k)) ∧ iv = .int .i64 k ∧ k ≤ m ∧ W = w) (fun _ iv _ => m - (intOf iv).toNat)
  case atStart => exact ⟨0, rfl, rfl, by omega, rfl⟩
  case round =>
    obtain ⟨k, rfl, rfl, hk, rfl⟩ := hrel
    by_cases hkm : k < m
    · have hx := HC.out k (by simp; omega)
      simp only [List.getElem_map, bv] at hx
      have hdn : Pk.dec 0 (b.take (k + 1)) = Pk.dec 0 (b.take k) * 256 + (b[k]'(by omega)).toNat := by
        rw [List.take_succ_eq_append_getElem (by omega), Pk.dec_append]; rfl
      have hdl : Pk.dec 0 (b.take k) < 1099511627776 := by
        have h1 := dec_lt (b.take k) 0
        have h2 : (b.take k).length ≤ 5 := by rw [List.length_take]; omega
        have h3 : 256 ^ (b.take k).length ≤ 256 ^ 5 := Nat.pow_le_pow_right (by decide) h2
        omega
      have HDN := Lib.hid hdn
      have hob := orb _ (b[k]'(by omega)) hdl
      rw [← hdn] at hob
      have hxl := UInt8.toNat_lt (b[k]'(by omega))
      clear hdn
      generalize Pk.dec 0 (b.take k) = a at *
      generalize hA' : Pk.dec 0 (b.take (k + 1)) = a' at *
      have HA := Lib.hid hA'
      clear hA'
      generalize (b[k]'(by omega)).toNat = x at *
      have hk5 : decide ((5 : Int) < (k : Int)) = false := decide_eq_false (by omega)
      have hkm' : (k : Int) < (m : Int) := by omega
      go_wp2_with fail
      refine ⟨⟨k + 1, by rw [HA.out], by go_num, by omega, trivial⟩, ?_⟩
      simp [intOf]
      omega
    · obtain rfl : k = m := by omega
      have htk : Pk.dec 0 (b.take k) = n := by rw [List.take_of_length_le (by omega)]; exact HD.out
      rw [htk]
      go_wp2_with fail
      go_ret
      exact ⟨rfl, rfl⟩
end Go.Proofs.Ytefalfalapnllaa
