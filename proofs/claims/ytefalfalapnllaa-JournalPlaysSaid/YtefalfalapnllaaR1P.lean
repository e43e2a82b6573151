/- The document's sum: its words are uint64 that hold 32 bits; rules for them, and its turn at each count. (Printed by gen_r1.py.) -/
import Derived.Test.YtefalfalapnllaaArm
import Derived.Test.YtefalfalapnllaaRot
import Derived.BigQuiet
namespace Go.Proofs.Ytefalfalapnllaa
open Go.RowKit
set_option linter.unusedVariables false
namespace Sha
/-- a word, each bit turned -/
def nt (a : W) : W := ~~~a
theorem choose_eq (e f g : W) : or (and e f) (and (nt e) g) = xor g (and e (xor f g)) := by
  unfold or and xor nt
  apply BitVec.eq_of_getLsbD_eq
  intro i hi
  simp only [BitVec.getLsbD_or, BitVec.getLsbD_and, BitVec.getLsbD_xor, BitVec.getLsbD_not, hi, decide_true, Bool.true_and]
  cases e.getLsbD i <;> cases f.getLsbD i <;> cases g.getLsbD i <;> rfl
theorem most_eq (a b c : W) : or (or (and a b) (and a c)) (and b c) = or (and a b) (and c (or a b)) := by
  unfold or and
  apply BitVec.eq_of_getLsbD_eq
  intro i hi
  simp only [BitVec.getLsbD_or, BitVec.getLsbD_and]
  cases a.getLsbD i <;> cases b.getLsbD i <;> cases c.getLsbD i <;> rfl
/-- sums of words that are not brought under 32 bits yet -/
def s2 (a b : W) : Nat := a.toNat + b.toNat
def s3 (a b c : W) : Nat := s2 a b + c.toNat
def s4 (a b c d : W) : Nat := s3 a b c + d.toNat
def s5 (a b c d e : W) : Nat := s4 a b c d + e.toNat
def s6 (d : W) (n : Nat) : Nat := d.toNat + n
def s7 (n m : Nat) : Nat := n + m
end Sha
section
open Sha
variable (a b c d e f g : Sha.W)
theorem s2_lt : s2 a b < 8589934592 := by unfold s2; have := a.isLt; have := b.isLt; omega
theorem s3_lt : s3 a b c < 12884901888 := by unfold s3; have := s2_lt a b; have := c.isLt; omega
theorem s4_lt : s4 a b c d < 17179869184 := by unfold s4; have := s3_lt a b c; have := d.isLt; omega
theorem s5_lt : s5 a b c d e < 21474836480 := by unfold s5; have := s4_lt a b c d; have := e.isLt; omega
theorem q_xor : bits .xor .u64 (a.toNat : Int) (b.toNat : Int) = ((Sha.xor a b).toNat : Int) := by unfold Sha.xor; rw [u64_xor_nat _ _ (by have := a.isLt; omega) (by have := b.isLt; omega), BitVec.toNat_xor]
theorem q_and : bits .and .u64 (a.toNat : Int) (b.toNat : Int) = ((Sha.and a b).toNat : Int) := by unfold Sha.and; rw [u64_and_nat _ _ (by have := a.isLt; omega) (by have := b.isLt; omega), BitVec.toNat_and]
theorem q_or : bits .or .u64 (a.toNat : Int) (b.toNat : Int) = ((Sha.or a b).toNat : Int) := by unfold Sha.or; rw [u64_or_nat _ _ (by have := a.isLt; omega) (by have := b.isLt; omega), BitVec.toNat_or]
theorem q_not : (4294967295 - (a.toNat : Int)) % 18446744073709551616 = ((nt a).toNat : Int) := by unfold nt; rw [BitVec.toNat_not]; have := a.isLt; omega
theorem q_s2 : ((a.toNat : Int) + (b.toNat : Int)) % 18446744073709551616 = (s2 a b : Int) := by have := s2_lt a b; unfold s2 at this ⊢; omega
theorem q_s3 : ((s2 a b : Int) + (c.toNat : Int)) % 18446744073709551616 = (s3 a b c : Int) := by have := s3_lt a b c; unfold s3 at this ⊢; omega
theorem q_s4 : ((s3 a b c : Int) + (d.toNat : Int)) % 18446744073709551616 = (s4 a b c d : Int) := by have := s4_lt a b c d; unfold s4 at this ⊢; omega
theorem q_s5 : ((s4 a b c d : Int) + (e.toNat : Int)) % 18446744073709551616 = (s5 a b c d e : Int) := by have := s5_lt a b c d e; unfold s5 at this ⊢; omega
theorem q_s6 : ((f.toNat : Int) + (s5 a b c d e : Int)) % 18446744073709551616 = (s6 f (s5 a b c d e) : Int) := by have := s5_lt a b c d e; have := f.isLt; unfold s6; omega
theorem q_s7 : ((s5 a b c d e : Int) + (s2 f g : Int)) % 18446744073709551616 = (s7 (s5 a b c d e) (s2 f g) : Int) := by have := s5_lt a b c d e; have := s2_lt f g; unfold s7; omega
theorem q_m2 : (s2 a b : Int).tmod 4294967296 = ((add a b).toNat : Int) := by rw [Int.tmod_eq_emod_of_nonneg (by omega)]; unfold s2 add; rw [BitVec.toNat_add]; omega
theorem q_m4 : (s4 a b c d : Int).tmod 4294967296 = ((add (add (add a b) c) d).toNat : Int) := by rw [Int.tmod_eq_emod_of_nonneg (by omega)]; unfold s4 s3 s2 add; rw [BitVec.toNat_add, BitVec.toNat_add, BitVec.toNat_add]; omega
theorem q_m6 : (s6 f (s5 a b c d e) : Int).tmod 4294967296 = ((add f (add (add (add (add a b) c) d) e)).toNat : Int) := by rw [Int.tmod_eq_emod_of_nonneg (by omega)]; unfold s6 s5 s4 s3 s2 add; rw [BitVec.toNat_add, BitVec.toNat_add, BitVec.toNat_add, BitVec.toNat_add, BitVec.toNat_add]; omega
theorem q_m7 : (s7 (s5 a b c d e) (s2 f g) : Int).tmod 4294967296 = ((add (add (add (add (add a b) c) d) e) (add f g)).toNat : Int) := by rw [Int.tmod_eq_emod_of_nonneg (by omega)]; unfold s7 s5 s4 s3 s2 add; simp only [BitVec.toNat_add]; omega
theorem q_turn {r : Nat} (x : Sha.W) (hr : 0 < r) (hr2 : r < 32) (q p : Nat) (hq : q = 2 ^ r) (hp : p = 2 ^ (32 - r)) :
    (bits .or .u64 ((x.toNat : Int) / (q : Int)) ((x.toNat : Int) * (p : Int))).tmod 4294967296 = ((Sha.rotr r x).toNat : Int) := by
  have hx := x.isLt
  have h1 : (x.toNat : Int) / (q : Int) = ((x.toNat >>> r : Nat) : Int) := by rw [Nat.shiftRight_eq_div_pow, hq]; omega
  have h2 : (x.toNat : Int) * (p : Int) = ((x.toNat <<< (32 - r) : Nat) : Int) := by rw [Nat.shiftLeft_eq, hp]; omega
  have hp31 : 2 ^ (32 - r) ≤ 2147483648 := Nat.pow_le_pow_right (n := 2) (by decide) (show 32 - r ≤ 31 by omega)
  have hl : x.toNat <<< (32 - r) < 18446744073709551616 := by
    rw [Nat.shiftLeft_eq]
    have := Nat.mul_le_mul (show x.toNat ≤ 4294967296 by omega) hp31
    omega
  have hs : x.toNat >>> r < 18446744073709551616 := by
    rw [Nat.shiftRight_eq_div_pow]
    have := Nat.div_le_self x.toNat (2 ^ r)
    omega
  rw [h1, h2, u64_or_nat _ _ hs hl, Int.tmod_eq_emod_of_nonneg (by omega)]
  unfold Sha.rotr Sha.or Sha.shl Sha.shr
  rw [BitVec.toNat_or, BitVec.toNat_shiftLeft, BitVec.toNat_ushiftRight, Nat.or_comm]
  have hm := Nat.or_mod_two_pow (a := x.toNat <<< (32 - r)) (b := x.toNat >>> r) (n := 32)
  have hsm : (x.toNat >>> r) % 2 ^ 32 = x.toNat >>> r := Nat.mod_eq_of_lt (by
    rw [Nat.shiftRight_eq_div_pow]
    have := Nat.div_le_self x.toNat (2 ^ r)
    omega)
  rw [hsm] at hm
  rw [← hm]
  omega
end
theorem turn_7 (w : World) (x : Sha.W) :
    Calls Try.prog 68 #[.int .u64 x.toNat, .int .i64 7] w fun e w' => e = .returned (.int .u64 (Sha.rotr 7 x).toNat) ∧ ∃ m, w' = w.drewN m := by
  have hr : (bits .or .u64 ((x.toNat : Int) / 128) ((x.toNat : Int) * 33554432)).tmod 4294967296 = ((Sha.rotr 7 x).toNat : Int) := q_turn (r := 7) x (by decide) (by decide) 128 33554432 rfl rfl
  have hx' : (x.toNat : Int) < 4294967296 := by have := x.isLt; omega
  have hx0 : (0 : Int) ≤ (x.toNat : Int) := by omega
  have hw : ((x.toNat : Int) * 33554432) % 18446744073709551616 = (x.toNat : Int) * 33554432 := by omega
  go_enter Try.func68, Try.ntmps68
  go_upto_region 1 with fail
  go_quiet (fail)
  go_wp2_with fail
  go_ret
  exact ⟨rfl, _, rfl⟩
theorem turn_18 (w : World) (x : Sha.W) :
    Calls Try.prog 68 #[.int .u64 x.toNat, .int .i64 18] w fun e w' => e = .returned (.int .u64 (Sha.rotr 18 x).toNat) ∧ ∃ m, w' = w.drewN m := by
  have hr : (bits .or .u64 ((x.toNat : Int) / 262144) ((x.toNat : Int) * 16384)).tmod 4294967296 = ((Sha.rotr 18 x).toNat : Int) := q_turn (r := 18) x (by decide) (by decide) 262144 16384 rfl rfl
  have hx' : (x.toNat : Int) < 4294967296 := by have := x.isLt; omega
  have hx0 : (0 : Int) ≤ (x.toNat : Int) := by omega
  have hw : ((x.toNat : Int) * 16384) % 18446744073709551616 = (x.toNat : Int) * 16384 := by omega
  go_enter Try.func68, Try.ntmps68
  go_upto_region 1 with fail
  go_quiet (fail)
  go_wp2_with fail
  go_ret
  exact ⟨rfl, _, rfl⟩
theorem turn_17 (w : World) (x : Sha.W) :
    Calls Try.prog 68 #[.int .u64 x.toNat, .int .i64 17] w fun e w' => e = .returned (.int .u64 (Sha.rotr 17 x).toNat) ∧ ∃ m, w' = w.drewN m := by
  have hr : (bits .or .u64 ((x.toNat : Int) / 131072) ((x.toNat : Int) * 32768)).tmod 4294967296 = ((Sha.rotr 17 x).toNat : Int) := q_turn (r := 17) x (by decide) (by decide) 131072 32768 rfl rfl
  have hx' : (x.toNat : Int) < 4294967296 := by have := x.isLt; omega
  have hx0 : (0 : Int) ≤ (x.toNat : Int) := by omega
  have hw : ((x.toNat : Int) * 32768) % 18446744073709551616 = (x.toNat : Int) * 32768 := by omega
  go_enter Try.func68, Try.ntmps68
  go_upto_region 1 with fail
  go_quiet (fail)
  go_wp2_with fail
  go_ret
  exact ⟨rfl, _, rfl⟩
theorem turn_19 (w : World) (x : Sha.W) :
    Calls Try.prog 68 #[.int .u64 x.toNat, .int .i64 19] w fun e w' => e = .returned (.int .u64 (Sha.rotr 19 x).toNat) ∧ ∃ m, w' = w.drewN m := by
  have hr : (bits .or .u64 ((x.toNat : Int) / 524288) ((x.toNat : Int) * 8192)).tmod 4294967296 = ((Sha.rotr 19 x).toNat : Int) := q_turn (r := 19) x (by decide) (by decide) 524288 8192 rfl rfl
  have hx' : (x.toNat : Int) < 4294967296 := by have := x.isLt; omega
  have hx0 : (0 : Int) ≤ (x.toNat : Int) := by omega
  have hw : ((x.toNat : Int) * 8192) % 18446744073709551616 = (x.toNat : Int) * 8192 := by omega
  go_enter Try.func68, Try.ntmps68
  go_upto_region 1 with fail
  go_quiet (fail)
  go_wp2_with fail
  go_ret
  exact ⟨rfl, _, rfl⟩
theorem turn_6 (w : World) (x : Sha.W) :
    Calls Try.prog 68 #[.int .u64 x.toNat, .int .i64 6] w fun e w' => e = .returned (.int .u64 (Sha.rotr 6 x).toNat) ∧ ∃ m, w' = w.drewN m := by
  have hr : (bits .or .u64 ((x.toNat : Int) / 64) ((x.toNat : Int) * 67108864)).tmod 4294967296 = ((Sha.rotr 6 x).toNat : Int) := q_turn (r := 6) x (by decide) (by decide) 64 67108864 rfl rfl
  have hx' : (x.toNat : Int) < 4294967296 := by have := x.isLt; omega
  have hx0 : (0 : Int) ≤ (x.toNat : Int) := by omega
  have hw : ((x.toNat : Int) * 67108864) % 18446744073709551616 = (x.toNat : Int) * 67108864 := by omega
  go_enter Try.func68, Try.ntmps68
  go_upto_region 1 with fail
  go_quiet (fail)
  go_wp2_with fail
  go_ret
  exact ⟨rfl, _, rfl⟩
theorem turn_11 (w : World) (x : Sha.W) :
    Calls Try.prog 68 #[.int .u64 x.toNat, .int .i64 11] w fun e w' => e = .returned (.int .u64 (Sha.rotr 11 x).toNat) ∧ ∃ m, w' = w.drewN m := by
  have hr : (bits .or .u64 ((x.toNat : Int) / 2048) ((x.toNat : Int) * 2097152)).tmod 4294967296 = ((Sha.rotr 11 x).toNat : Int) := q_turn (r := 11) x (by decide) (by decide) 2048 2097152 rfl rfl
  have hx' : (x.toNat : Int) < 4294967296 := by have := x.isLt; omega
  have hx0 : (0 : Int) ≤ (x.toNat : Int) := by omega
  have hw : ((x.toNat : Int) * 2097152) % 18446744073709551616 = (x.toNat : Int) * 2097152 := by omega
  go_enter Try.func68, Try.ntmps68
  go_upto_region 1 with fail
  go_quiet (fail)
  go_wp2_with fail
  go_ret
  exact ⟨rfl, _, rfl⟩
theorem turn_25 (w : World) (x : Sha.W) :
    Calls Try.prog 68 #[.int .u64 x.toNat, .int .i64 25] w fun e w' => e = .returned (.int .u64 (Sha.rotr 25 x).toNat) ∧ ∃ m, w' = w.drewN m := by
  have hr : (bits .or .u64 ((x.toNat : Int) / 33554432) ((x.toNat : Int) * 128)).tmod 4294967296 = ((Sha.rotr 25 x).toNat : Int) := q_turn (r := 25) x (by decide) (by decide) 33554432 128 rfl rfl
  have hx' : (x.toNat : Int) < 4294967296 := by have := x.isLt; omega
  have hx0 : (0 : Int) ≤ (x.toNat : Int) := by omega
  have hw : ((x.toNat : Int) * 128) % 18446744073709551616 = (x.toNat : Int) * 128 := by omega
  go_enter Try.func68, Try.ntmps68
  go_upto_region 1 with fail
  go_quiet (fail)
  go_wp2_with fail
  go_ret
  exact ⟨rfl, _, rfl⟩
theorem turn_2 (w : World) (x : Sha.W) :
    Calls Try.prog 68 #[.int .u64 x.toNat, .int .i64 2] w fun e w' => e = .returned (.int .u64 (Sha.rotr 2 x).toNat) ∧ ∃ m, w' = w.drewN m := by
  have hr : (bits .or .u64 ((x.toNat : Int) / 4) ((x.toNat : Int) * 1073741824)).tmod 4294967296 = ((Sha.rotr 2 x).toNat : Int) := q_turn (r := 2) x (by decide) (by decide) 4 1073741824 rfl rfl
  have hx' : (x.toNat : Int) < 4294967296 := by have := x.isLt; omega
  have hx0 : (0 : Int) ≤ (x.toNat : Int) := by omega
  have hw : ((x.toNat : Int) * 1073741824) % 18446744073709551616 = (x.toNat : Int) * 1073741824 := by omega
  go_enter Try.func68, Try.ntmps68
  go_upto_region 1 with fail
  go_quiet (fail)
  go_wp2_with fail
  go_ret
  exact ⟨rfl, _, rfl⟩
theorem turn_13 (w : World) (x : Sha.W) :
    Calls Try.prog 68 #[.int .u64 x.toNat, .int .i64 13] w fun e w' => e = .returned (.int .u64 (Sha.rotr 13 x).toNat) ∧ ∃ m, w' = w.drewN m := by
  have hr : (bits .or .u64 ((x.toNat : Int) / 8192) ((x.toNat : Int) * 524288)).tmod 4294967296 = ((Sha.rotr 13 x).toNat : Int) := q_turn (r := 13) x (by decide) (by decide) 8192 524288 rfl rfl
  have hx' : (x.toNat : Int) < 4294967296 := by have := x.isLt; omega
  have hx0 : (0 : Int) ≤ (x.toNat : Int) := by omega
  have hw : ((x.toNat : Int) * 524288) % 18446744073709551616 = (x.toNat : Int) * 524288 := by omega
  go_enter Try.func68, Try.ntmps68
  go_upto_region 1 with fail
  go_quiet (fail)
  go_wp2_with fail
  go_ret
  exact ⟨rfl, _, rfl⟩
theorem turn_22 (w : World) (x : Sha.W) :
    Calls Try.prog 68 #[.int .u64 x.toNat, .int .i64 22] w fun e w' => e = .returned (.int .u64 (Sha.rotr 22 x).toNat) ∧ ∃ m, w' = w.drewN m := by
  have hr : (bits .or .u64 ((x.toNat : Int) / 4194304) ((x.toNat : Int) * 1024)).tmod 4294967296 = ((Sha.rotr 22 x).toNat : Int) := q_turn (r := 22) x (by decide) (by decide) 4194304 1024 rfl rfl
  have hx' : (x.toNat : Int) < 4294967296 := by have := x.isLt; omega
  have hx0 : (0 : Int) ≤ (x.toNat : Int) := by omega
  have hw : ((x.toNat : Int) * 1024) % 18446744073709551616 = (x.toNat : Int) * 1024 := by omega
  go_enter Try.func68, Try.ntmps68
  go_upto_region 1 with fail
  go_quiet (fail)
  go_wp2_with fail
  go_ret
  exact ⟨rfl, _, rfl⟩
end Go.Proofs.Ytefalfalapnllaa
