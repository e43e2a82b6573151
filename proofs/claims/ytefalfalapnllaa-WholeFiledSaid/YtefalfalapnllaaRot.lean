/- RotateLeft32 at each count that the program asks for; words as numbers of the program. (Printed by gen_sha.py.) -/
import Derived.Test.YtefalfalapnllaaBase
import Derived.Test.YtefalfalapnllaaSha
namespace Go.Proofs.Ytefalfalapnllaa
open Go.RowKit
set_option linter.unusedVariables false
section
variable (a b : Sha.W)
theorem w_lt : a.toNat < 4294967296 := a.isLt
theorem w_xor : bits .xor .u32 (a.toNat : Int) (b.toNat : Int) = ((Sha.xor a b).toNat : Int) := by unfold Sha.xor; rw [u32_xor_nat _ _ a.isLt b.isLt, BitVec.toNat_xor]
theorem w_and : bits .and .u32 (a.toNat : Int) (b.toNat : Int) = ((Sha.and a b).toNat : Int) := by unfold Sha.and; rw [u32_and_nat _ _ a.isLt b.isLt, BitVec.toNat_and]
theorem w_or : bits .or .u32 (a.toNat : Int) (b.toNat : Int) = ((Sha.or a b).toNat : Int) := by unfold Sha.or; rw [u32_or_nat _ _ a.isLt b.isLt, BitVec.toNat_or]
theorem w_add : ((a.toNat : Int) + (b.toNat : Int)) % 4294967296 = ((Sha.add a b).toNat : Int) := by unfold Sha.add; rw [BitVec.toNat_add]; omega
theorem w_wrap_add : IntKind.u32.wrap ((a.toNat : Int) + (b.toNat : Int)) = ((Sha.add a b).toNat : Int) := by rw [IntKind.wrap_u32', w_add]
theorem w_mod : (a.toNat : Int) % 4294967296 = (a.toNat : Int) := by have := a.isLt; omega
theorem w_wrap : IntKind.u32.wrap (a.toNat : Int) = (a.toNat : Int) := by rw [IntKind.wrap_u32', w_mod]
theorem w_shr (r : Nat) (q : Nat) (hq : q = 2 ^ r) : (a.toNat : Int) / (q : Int) = ((Sha.shr r a).toNat : Int) := by
  subst hq
  unfold Sha.shr
  rw [BitVec.toNat_ushiftRight, Nat.shiftRight_eq_div_pow]
  omega
theorem w_shl (r : Nat) (q : Nat) (hq : q = 2 ^ r) : (a.toNat : Int) * (q : Int) % 4294967296 = ((Sha.shl r a).toNat : Int) := by
  subst hq
  unfold Sha.shl
  rw [BitVec.toNat_shiftLeft, Nat.shiftLeft_eq]
  omega
theorem w_shr3 : (a.toNat : Int) / 8 = ((Sha.shr 3 a).toNat : Int) := w_shr a 3 8 rfl
theorem w_shr10 : (a.toNat : Int) / 1024 = ((Sha.shr 10 a).toNat : Int) := w_shr a 10 1024 rfl
theorem w_shl24 : (a.toNat : Int) * 16777216 % 4294967296 = ((Sha.shl 24 a).toNat : Int) := w_shl a 24 16777216 rfl
theorem w_shl16 : (a.toNat : Int) * 65536 % 4294967296 = ((Sha.shl 16 a).toNat : Int) := w_shl a 16 65536 rfl
theorem w_wrap_shl24 : IntKind.u32.wrap ((a.toNat : Int) * 16777216) = ((Sha.shl 24 a).toNat : Int) := by rw [IntKind.wrap_u32', w_shl24]
theorem w_wrap_shl16 : IntKind.u32.wrap ((a.toNat : Int) * 65536) = ((Sha.shl 16 a).toNat : Int) := by rw [IntKind.wrap_u32', w_shl16]
theorem w_shl8 : (a.toNat : Int) * 256 % 4294967296 = ((Sha.shl 8 a).toNat : Int) := w_shl a 8 256 rfl
theorem w_wrap_shl8 : IntKind.u32.wrap ((a.toNat : Int) * 256) = ((Sha.shl 8 a).toNat : Int) := by rw [IntKind.wrap_u32', w_shl8]
end
theorem rot_7 (w : World) (x : Sha.W) :
    Calls Try.prog 70 #[.int .u32 x.toNat, .int .i64 (-7)] w fun e w' => e = .returned (.int .u32 (Sha.rotr 7 x).toNat) ∧ w = w' := by
  have hk : bits .and .u64 (IntKind.u64.wrap (-7)) 31 = 25 := by decide +kernel
  have h1 : (x.toNat : Int) * (33554432 : Int) % (4294967296 : Int) = ((Sha.shl 25 x).toNat : Int) := w_shl x 25 33554432 rfl
  have h2 : (x.toNat : Int) / (128 : Int) = ((Sha.shr 7 x).toNat : Int) := w_shr x 7 128 rfl
  have hr : bits .or .u32 ((x.toNat : Int) * 33554432 % 4294967296) ((x.toNat : Int) / 128) = ((Sha.rotr 7 x).toNat : Int) := by rw [h1, h2, w_or]; rfl
  clear h1 h2
  have hx' : (x.toNat : Int) < 4294967296 := by have := x.isLt; omega
  go_enter Try.func70, Try.ntmps70
  go_wp2
  go_ret
  exact ⟨rfl, rfl⟩
theorem rot_18 (w : World) (x : Sha.W) :
    Calls Try.prog 70 #[.int .u32 x.toNat, .int .i64 (-18)] w fun e w' => e = .returned (.int .u32 (Sha.rotr 18 x).toNat) ∧ w = w' := by
  have hk : bits .and .u64 (IntKind.u64.wrap (-18)) 31 = 14 := by decide +kernel
  have h1 : (x.toNat : Int) * (16384 : Int) % (4294967296 : Int) = ((Sha.shl 14 x).toNat : Int) := w_shl x 14 16384 rfl
  have h2 : (x.toNat : Int) / (262144 : Int) = ((Sha.shr 18 x).toNat : Int) := w_shr x 18 262144 rfl
  have hr : bits .or .u32 ((x.toNat : Int) * 16384 % 4294967296) ((x.toNat : Int) / 262144) = ((Sha.rotr 18 x).toNat : Int) := by rw [h1, h2, w_or]; rfl
  clear h1 h2
  have hx' : (x.toNat : Int) < 4294967296 := by have := x.isLt; omega
  go_enter Try.func70, Try.ntmps70
  go_wp2
  go_ret
  exact ⟨rfl, rfl⟩
theorem rot_17 (w : World) (x : Sha.W) :
    Calls Try.prog 70 #[.int .u32 x.toNat, .int .i64 (-17)] w fun e w' => e = .returned (.int .u32 (Sha.rotr 17 x).toNat) ∧ w = w' := by
  have hk : bits .and .u64 (IntKind.u64.wrap (-17)) 31 = 15 := by decide +kernel
  have h1 : (x.toNat : Int) * (32768 : Int) % (4294967296 : Int) = ((Sha.shl 15 x).toNat : Int) := w_shl x 15 32768 rfl
  have h2 : (x.toNat : Int) / (131072 : Int) = ((Sha.shr 17 x).toNat : Int) := w_shr x 17 131072 rfl
  have hr : bits .or .u32 ((x.toNat : Int) * 32768 % 4294967296) ((x.toNat : Int) / 131072) = ((Sha.rotr 17 x).toNat : Int) := by rw [h1, h2, w_or]; rfl
  clear h1 h2
  have hx' : (x.toNat : Int) < 4294967296 := by have := x.isLt; omega
  go_enter Try.func70, Try.ntmps70
  go_wp2
  go_ret
  exact ⟨rfl, rfl⟩
theorem rot_19 (w : World) (x : Sha.W) :
    Calls Try.prog 70 #[.int .u32 x.toNat, .int .i64 (-19)] w fun e w' => e = .returned (.int .u32 (Sha.rotr 19 x).toNat) ∧ w = w' := by
  have hk : bits .and .u64 (IntKind.u64.wrap (-19)) 31 = 13 := by decide +kernel
  have h1 : (x.toNat : Int) * (8192 : Int) % (4294967296 : Int) = ((Sha.shl 13 x).toNat : Int) := w_shl x 13 8192 rfl
  have h2 : (x.toNat : Int) / (524288 : Int) = ((Sha.shr 19 x).toNat : Int) := w_shr x 19 524288 rfl
  have hr : bits .or .u32 ((x.toNat : Int) * 8192 % 4294967296) ((x.toNat : Int) / 524288) = ((Sha.rotr 19 x).toNat : Int) := by rw [h1, h2, w_or]; rfl
  clear h1 h2
  have hx' : (x.toNat : Int) < 4294967296 := by have := x.isLt; omega
  go_enter Try.func70, Try.ntmps70
  go_wp2
  go_ret
  exact ⟨rfl, rfl⟩
theorem rot_6 (w : World) (x : Sha.W) :
    Calls Try.prog 70 #[.int .u32 x.toNat, .int .i64 (-6)] w fun e w' => e = .returned (.int .u32 (Sha.rotr 6 x).toNat) ∧ w = w' := by
  have hk : bits .and .u64 (IntKind.u64.wrap (-6)) 31 = 26 := by decide +kernel
  have h1 : (x.toNat : Int) * (67108864 : Int) % (4294967296 : Int) = ((Sha.shl 26 x).toNat : Int) := w_shl x 26 67108864 rfl
  have h2 : (x.toNat : Int) / (64 : Int) = ((Sha.shr 6 x).toNat : Int) := w_shr x 6 64 rfl
  have hr : bits .or .u32 ((x.toNat : Int) * 67108864 % 4294967296) ((x.toNat : Int) / 64) = ((Sha.rotr 6 x).toNat : Int) := by rw [h1, h2, w_or]; rfl
  clear h1 h2
  have hx' : (x.toNat : Int) < 4294967296 := by have := x.isLt; omega
  go_enter Try.func70, Try.ntmps70
  go_wp2
  go_ret
  exact ⟨rfl, rfl⟩
theorem rot_11 (w : World) (x : Sha.W) :
    Calls Try.prog 70 #[.int .u32 x.toNat, .int .i64 (-11)] w fun e w' => e = .returned (.int .u32 (Sha.rotr 11 x).toNat) ∧ w = w' := by
  have hk : bits .and .u64 (IntKind.u64.wrap (-11)) 31 = 21 := by decide +kernel
  have h1 : (x.toNat : Int) * (2097152 : Int) % (4294967296 : Int) = ((Sha.shl 21 x).toNat : Int) := w_shl x 21 2097152 rfl
  have h2 : (x.toNat : Int) / (2048 : Int) = ((Sha.shr 11 x).toNat : Int) := w_shr x 11 2048 rfl
  have hr : bits .or .u32 ((x.toNat : Int) * 2097152 % 4294967296) ((x.toNat : Int) / 2048) = ((Sha.rotr 11 x).toNat : Int) := by rw [h1, h2, w_or]; rfl
  clear h1 h2
  have hx' : (x.toNat : Int) < 4294967296 := by have := x.isLt; omega
  go_enter Try.func70, Try.ntmps70
  go_wp2
  go_ret
  exact ⟨rfl, rfl⟩
theorem rot_25 (w : World) (x : Sha.W) :
    Calls Try.prog 70 #[.int .u32 x.toNat, .int .i64 (-25)] w fun e w' => e = .returned (.int .u32 (Sha.rotr 25 x).toNat) ∧ w = w' := by
  have hk : bits .and .u64 (IntKind.u64.wrap (-25)) 31 = 7 := by decide +kernel
  have h1 : (x.toNat : Int) * (128 : Int) % (4294967296 : Int) = ((Sha.shl 7 x).toNat : Int) := w_shl x 7 128 rfl
  have h2 : (x.toNat : Int) / (33554432 : Int) = ((Sha.shr 25 x).toNat : Int) := w_shr x 25 33554432 rfl
  have hr : bits .or .u32 ((x.toNat : Int) * 128 % 4294967296) ((x.toNat : Int) / 33554432) = ((Sha.rotr 25 x).toNat : Int) := by rw [h1, h2, w_or]; rfl
  clear h1 h2
  have hx' : (x.toNat : Int) < 4294967296 := by have := x.isLt; omega
  go_enter Try.func70, Try.ntmps70
  go_wp2
  go_ret
  exact ⟨rfl, rfl⟩
theorem rot_2 (w : World) (x : Sha.W) :
    Calls Try.prog 70 #[.int .u32 x.toNat, .int .i64 (-2)] w fun e w' => e = .returned (.int .u32 (Sha.rotr 2 x).toNat) ∧ w = w' := by
  have hk : bits .and .u64 (IntKind.u64.wrap (-2)) 31 = 30 := by decide +kernel
  have h1 : (x.toNat : Int) * (1073741824 : Int) % (4294967296 : Int) = ((Sha.shl 30 x).toNat : Int) := w_shl x 30 1073741824 rfl
  have h2 : (x.toNat : Int) / (4 : Int) = ((Sha.shr 2 x).toNat : Int) := w_shr x 2 4 rfl
  have hr : bits .or .u32 ((x.toNat : Int) * 1073741824 % 4294967296) ((x.toNat : Int) / 4) = ((Sha.rotr 2 x).toNat : Int) := by rw [h1, h2, w_or]; rfl
  clear h1 h2
  have hx' : (x.toNat : Int) < 4294967296 := by have := x.isLt; omega
  go_enter Try.func70, Try.ntmps70
  go_wp2
  go_ret
  exact ⟨rfl, rfl⟩
theorem rot_13 (w : World) (x : Sha.W) :
    Calls Try.prog 70 #[.int .u32 x.toNat, .int .i64 (-13)] w fun e w' => e = .returned (.int .u32 (Sha.rotr 13 x).toNat) ∧ w = w' := by
  have hk : bits .and .u64 (IntKind.u64.wrap (-13)) 31 = 19 := by decide +kernel
  have h1 : (x.toNat : Int) * (524288 : Int) % (4294967296 : Int) = ((Sha.shl 19 x).toNat : Int) := w_shl x 19 524288 rfl
  have h2 : (x.toNat : Int) / (8192 : Int) = ((Sha.shr 13 x).toNat : Int) := w_shr x 13 8192 rfl
  have hr : bits .or .u32 ((x.toNat : Int) * 524288 % 4294967296) ((x.toNat : Int) / 8192) = ((Sha.rotr 13 x).toNat : Int) := by rw [h1, h2, w_or]; rfl
  clear h1 h2
  have hx' : (x.toNat : Int) < 4294967296 := by have := x.isLt; omega
  go_enter Try.func70, Try.ntmps70
  go_wp2
  go_ret
  exact ⟨rfl, rfl⟩
theorem rot_22 (w : World) (x : Sha.W) :
    Calls Try.prog 70 #[.int .u32 x.toNat, .int .i64 (-22)] w fun e w' => e = .returned (.int .u32 (Sha.rotr 22 x).toNat) ∧ w = w' := by
  have hk : bits .and .u64 (IntKind.u64.wrap (-22)) 31 = 10 := by decide +kernel
  have h1 : (x.toNat : Int) * (1024 : Int) % (4294967296 : Int) = ((Sha.shl 10 x).toNat : Int) := w_shl x 10 1024 rfl
  have h2 : (x.toNat : Int) / (4194304 : Int) = ((Sha.shr 22 x).toNat : Int) := w_shr x 22 4194304 rfl
  have hr : bits .or .u32 ((x.toNat : Int) * 1024 % 4294967296) ((x.toNat : Int) / 4194304) = ((Sha.rotr 22 x).toNat : Int) := by rw [h1, h2, w_or]; rfl
  clear h1 h2
  have hx' : (x.toNat : Int) < 4294967296 := by have := x.isLt; omega
  go_enter Try.func70, Try.ntmps70
  go_wp2
  go_ret
  exact ⟨rfl, rfl⟩
end Go.Proofs.Ytefalfalapnllaa
