/- The contracts of once's sides: the bits of a text's sum, one after the other. -/
import Derived.Test.YtepmlmfacpbhkaaROnceA
import Derived.Test.YtepmlmfacpbhkaaRCut
namespace Go.Proofs.YtepmlmfacpbhkaaR
open Go.RowKit Go.Shelf
set_option linter.unusedVariables false

theorem and_bit (x : UInt8) (d : Nat) (hd : 0 < d) : bits .and .u8 ((x.toNat : Int) / (d : Int)) 1 = ((x.toNat / d % 2 : Nat) : Int) := by
  have hx := UInt8.toNat_lt x
  have := u8_and_nat (x.toNat / d) 1 (Nat.lt_of_le_of_lt (Nat.div_le_self _ _) hx) (by decide)
  rw [Nat.and_one_is_mod] at this
  rw [← this]
  congr 1
/-- all bits, each with its number -/
def bitsOf (id : List UInt8) : List (Nat × Nat) := (List.range 64).map fun i => (i, Once.bitOf id i)
theorem bitsOf_get (id : List UInt8) (k : Nat) (h : k < 64) : (bitsOf id)[k]? = some (k, Once.bitOf id k) := by
  unfold bitsOf
  rw [List.getElem?_map, List.getElem?_range h]
  rfl
theorem bitsOf_length (id : List UInt8) : (bitsOf id).length = 64 := by simp [bitsOf]
def encB (p : Nat × Nat) : Array Value := #[.int .i64 p.1, .int .i64 p.2]
attribute [local go_sem] Oper.semAt_some
set_option maxHeartbeats 1000000 in
set_option maxRecDepth 20000 in
theorem sidesIt_any (n0 : Nat) (hn0 : 1 ≤ n0) (idb : Nat) (id : List UInt8) (hid : id.length = 32) :
    SeqCut Fence.wide n0 Try.prog 57 #[.pointer (some ⟨idb, 0, none⟩)] encB (bitsOf id) (fun T W => Blk W idb 32 (ida id) ∧ ¬ T idb) := by
  rintro l T J Jx W ⟨hB, hTb⟩ hT hJ hJx hY h0
  refine callsIn_of_wp Try.func57 rfl trivial ?_ rfl
  simp only [Try.ntmps57, List.size_toArray, List.length_cons, List.length_nil, Nat.reduceAdd, Nat.reduceSub, Array.replicate_succ, Array.replicate_zero, List.push_toArray, List.append_toArray, List.nil_append, List.cons_append]
  have HID := Lib.hid hid
  clear hid
  gi_wp2_with fail
  gi_loopw [4] (fun i V => ∃ k : Nat, i = .int .i64 k ∧ k ≤ 64 ∧ J k V ∧ Fr (fun q => T q ∨ W.heap.size ≤ q) W V) (fun i _ => 64 - (intOf i).toNat)
  case atStart => exact ⟨0, rfl, by omega, h0, Fr.refl _ _⟩
  case round =>
    obtain ⟨k, rfl, hk, hJk, hFk⟩ := hrel
    by_cases hlt : k < 64
    · have hBk : Blk wr idb 32 (ida id) := hB.fr hFk (fun h => h.elim hTb (fun h => by have := hB.lt; omega))
      obtain ⟨a, b, hka, ha, hb⟩ : ∃ a b : Nat, k = 8 * a + b ∧ a < 32 ∧ b < 8 := ⟨k / 8, k % 8, by omega, by omega, by omega⟩
      have hq : ((k : Int) / 8) = (a : Int) := by omega
      have hm : ((k : Int) % 8) = (b : Int) := by omega
      have hc := ida_cell hBk (j := a) (by rw [HID.out]; exact ha)
      have hbo : Once.bitOf id k = (id.getD a 0).toNat / 2 ^ (7 - b) % 2 := by
        unfold Once.bitOf
        rw [show k / 8 = a by omega, show k % 8 = b by omega]
      have hxl := UInt8.toNat_lt (id.getD a 0)
      generalize id.getD a 0 = x at *
      have hb2 := Once.bitOf_lt id k
      obtain ⟨fn, tmps, assign, body, hy, hR⟩ := hY k _ wr (bitsOf_get id k hlt) hJk hFk.size
      change (Instr.yield l #[.int .i64 k, .int .i64 (Once.bitOf id k : Nat)]).run _ _ = _ at hy
      have hand : ∀ d : Nat, d = 2 ^ (7 - b) → bits .and .u8 ((x.toNat : Int) / (d : Int)) 1 = ((Once.bitOf id k : Nat) : Int) := fun d hd => by
        rw [hbo, ← hd]
        exact and_bit x d (by rw [hd]; exact Nat.two_pow_pos _)
      clear hbo
      have HA := Lib.hid hand
      clear hand
      generalize Once.bitOf id k = q at *
      have hq2 : (q : Int) < 2 := by omega
      have hx2 : (x.toNat : Int) < 256 := by omega
      clear hb2 hxl hB hBk
      obtain rfl | rfl | rfl | rfl | rfl | rfl | rfl | rfl : b = 0 ∨ b = 1 ∨ b = 2 ∨ b = 3 ∨ b = 4 ∨ b = 5 ∨ b = 6 ∨ b = 7 := by omega
      · have hand : bits .and .u8 ((x.toNat : Int) / 128) 1 = (q : Int) := HA.out 128 (by decide)
        clear hb hka
        gi_wp2_with fail
        refine hR.mono ?_
        clear hy hR
        rintro e W3 (⟨rfl, hJ3, hf3⟩ | ⟨rfl, hJx3⟩)
        · gi_wp2_with fail
          go_roundw
          case rel => exact ⟨k + 1, by go_num, by omega, hJ3, hFk.trans hf3 (fun _ h => .inl (.inl h))⟩
          case measure => simp [intOf]; omega
        · gi_wp2_with fail
          refine bodyPost_ret (results_none rfl _ _ _) rfl ?_
          exact ⟨⟨_, rfl⟩, .inr ⟨k, by rw [bitsOf_length]; exact hlt, hJx3⟩⟩
      · have hand : bits .and .u8 ((x.toNat : Int) / 64) 1 = (q : Int) := HA.out 64 (by decide)
        clear hb hka
        gi_wp2_with fail
        refine hR.mono ?_
        clear hy hR
        rintro e W3 (⟨rfl, hJ3, hf3⟩ | ⟨rfl, hJx3⟩)
        · gi_wp2_with fail
          go_roundw
          case rel => exact ⟨k + 1, by go_num, by omega, hJ3, hFk.trans hf3 (fun _ h => .inl (.inl h))⟩
          case measure => simp [intOf]; omega
        · gi_wp2_with fail
          refine bodyPost_ret (results_none rfl _ _ _) rfl ?_
          exact ⟨⟨_, rfl⟩, .inr ⟨k, by rw [bitsOf_length]; exact hlt, hJx3⟩⟩
      · have hand : bits .and .u8 ((x.toNat : Int) / 32) 1 = (q : Int) := HA.out 32 (by decide)
        clear hb hka
        gi_wp2_with fail
        refine hR.mono ?_
        clear hy hR
        rintro e W3 (⟨rfl, hJ3, hf3⟩ | ⟨rfl, hJx3⟩)
        · gi_wp2_with fail
          go_roundw
          case rel => exact ⟨k + 1, by go_num, by omega, hJ3, hFk.trans hf3 (fun _ h => .inl (.inl h))⟩
          case measure => simp [intOf]; omega
        · gi_wp2_with fail
          refine bodyPost_ret (results_none rfl _ _ _) rfl ?_
          exact ⟨⟨_, rfl⟩, .inr ⟨k, by rw [bitsOf_length]; exact hlt, hJx3⟩⟩
      · have hand : bits .and .u8 ((x.toNat : Int) / 16) 1 = (q : Int) := HA.out 16 (by decide)
        clear hb hka
        gi_wp2_with fail
        refine hR.mono ?_
        clear hy hR
        rintro e W3 (⟨rfl, hJ3, hf3⟩ | ⟨rfl, hJx3⟩)
        · gi_wp2_with fail
          go_roundw
          case rel => exact ⟨k + 1, by go_num, by omega, hJ3, hFk.trans hf3 (fun _ h => .inl (.inl h))⟩
          case measure => simp [intOf]; omega
        · gi_wp2_with fail
          refine bodyPost_ret (results_none rfl _ _ _) rfl ?_
          exact ⟨⟨_, rfl⟩, .inr ⟨k, by rw [bitsOf_length]; exact hlt, hJx3⟩⟩
      · have hand : bits .and .u8 ((x.toNat : Int) / 8) 1 = (q : Int) := HA.out 8 (by decide)
        clear hb hka
        gi_wp2_with fail
        refine hR.mono ?_
        clear hy hR
        rintro e W3 (⟨rfl, hJ3, hf3⟩ | ⟨rfl, hJx3⟩)
        · gi_wp2_with fail
          go_roundw
          case rel => exact ⟨k + 1, by go_num, by omega, hJ3, hFk.trans hf3 (fun _ h => .inl (.inl h))⟩
          case measure => simp [intOf]; omega
        · gi_wp2_with fail
          refine bodyPost_ret (results_none rfl _ _ _) rfl ?_
          exact ⟨⟨_, rfl⟩, .inr ⟨k, by rw [bitsOf_length]; exact hlt, hJx3⟩⟩
      · have hand : bits .and .u8 ((x.toNat : Int) / 4) 1 = (q : Int) := HA.out 4 (by decide)
        clear hb hka
        gi_wp2_with fail
        refine hR.mono ?_
        clear hy hR
        rintro e W3 (⟨rfl, hJ3, hf3⟩ | ⟨rfl, hJx3⟩)
        · gi_wp2_with fail
          go_roundw
          case rel => exact ⟨k + 1, by go_num, by omega, hJ3, hFk.trans hf3 (fun _ h => .inl (.inl h))⟩
          case measure => simp [intOf]; omega
        · gi_wp2_with fail
          refine bodyPost_ret (results_none rfl _ _ _) rfl ?_
          exact ⟨⟨_, rfl⟩, .inr ⟨k, by rw [bitsOf_length]; exact hlt, hJx3⟩⟩
      · have hand : bits .and .u8 ((x.toNat : Int) / 2) 1 = (q : Int) := HA.out 2 (by decide)
        clear hb hka
        gi_wp2_with fail
        refine hR.mono ?_
        clear hy hR
        rintro e W3 (⟨rfl, hJ3, hf3⟩ | ⟨rfl, hJx3⟩)
        · gi_wp2_with fail
          go_roundw
          case rel => exact ⟨k + 1, by go_num, by omega, hJ3, hFk.trans hf3 (fun _ h => .inl (.inl h))⟩
          case measure => simp [intOf]; omega
        · gi_wp2_with fail
          refine bodyPost_ret (results_none rfl _ _ _) rfl ?_
          exact ⟨⟨_, rfl⟩, .inr ⟨k, by rw [bitsOf_length]; exact hlt, hJx3⟩⟩
      · have hand : bits .and .u8 (x.toNat : Int) 1 = (q : Int) := by
          have := HA.out 1 (by decide)
          rwa [show ((1 : Nat) : Int) = 1 from rfl, Int.ediv_one] at this
        clear hb hka
        gi_wp2_with fail
        refine hR.mono ?_
        clear hy hR
        rintro e W3 (⟨rfl, hJ3, hf3⟩ | ⟨rfl, hJx3⟩)
        · gi_wp2_with fail
          go_roundw
          case rel => exact ⟨k + 1, by go_num, by omega, hJ3, hFk.trans hf3 (fun _ h => .inl (.inl h))⟩
          case measure => simp [intOf]; omega
        · gi_wp2_with fail
          refine bodyPost_ret (results_none rfl _ _ _) rfl ?_
          exact ⟨⟨_, rfl⟩, .inr ⟨k, by rw [bitsOf_length]; exact hlt, hJx3⟩⟩
    · obtain rfl : k = 64 := by omega
      have hk64 : J (bitsOf id).length wr := by rw [bitsOf_length]; exact hJk
      clear hk hlt hJk
      gi_wp2_with fail
      go_end0
      exact ⟨⟨_, rfl⟩, .inl hk64⟩
/-- what sides hands back: an iterator over the bits of the text's sum -/
def SidesRet (w : World) (t : List UInt8) (e : Ending) (w' : World) : Prop := ∃ idb, e = .returned (.func (.func 57) #[] #[.pointer (some ⟨idb, 0, none⟩)]) ∧ Blk w' idb 32 (ida (Once.sumFor Once.pText [t])) ∧ w.heap.size ≤ idb ∧ New w w'
set_option maxHeartbeats 1000000 in
set_option maxRecDepth 20000 in
theorem sides_any (w : World) (A : Option Addr) (c : Nat) (t : List UInt8) (ht : Rd w A (t.map bv)) (hl : t.length < 1000000000000000000) :
    Calls Try.prog 52 #[.slice A t.length c] w (SidesRet w t) := by
  obtain ⟨ii, hii, hz0, hz1, hz2⟩ := info_parts infoID
  have hP : PartsAt (w.alloc (.cells #[.slice A t.length c] 66)) (some ⟨w.heap.size, 0, none⟩) [⟨A, c, t⟩] :=
    ⟨lit_rd w [.slice A t.length c] 66, fun p hp => by simp at hp; subst hp; exact ht.alloc _⟩
  have hfor := sumFor_any _ Once.pText (some ⟨w.heap.size, 0, none⟩) 1 _ hP (by simp [Once.forB, Once.len4, Once.pText]; omega) (by simp)
  have hid : Once.sumFor Once.pText (([⟨A, c, t⟩] : List Part).map (·.b)) = Once.sumFor Once.pText [t] := rfl
  rw [hid] at hfor
  have HS := Lib.hid (Once.sumFor_length Once.pText [t])
  have HIS := Lib.hid (show 32 = (ida (Once.sumFor Once.pText [t])).size by rw [ida_size]; exact HS.out.symm)
  have HZS := Lib.hid (show (ida z32).size = (ida (Once.sumFor Once.pText [t])).size by rw [ida_size, ida_size]; exact HS.out.symm)
  have HF := Lib.hid hfor
  clear hid hfor hP ht
  unfold SidesRet
  generalize hS : Once.sumFor Once.pText [t] = S at *
  have HE := Lib.hid hS
  clear hS
  go_enter Try.func52, Try.ntmps52
  go_wp2_with fail
  refine Calls.mono (show Calls Try.prog 53 #[.string ⟨Once.pText.toArray⟩, .slice (some ⟨w.heap.size, 0, none⟩) 1 1] (w.alloc (.cells #[.slice A t.length c] 66)) _ from HF.out) ?_
  rintro e w4 ⟨rfl, hN4⟩
  clear HF
  have hN : New w w4 := (Fr.alloc _ w _).trans hN4 fun _ h => h.elim
  have hsz := hN.size
  clear hN4
  go_wp2_with (first
    | (refine x_value (x_alloc (T := 32) rfl hii hz0) (by simp [go_sem, Region.wanted]) ?_)
    | (refine x_skip (exec_store_new (T := 32) (X := ida S) (Z := ida z32) rfl rfl rfl rfl hii (hz1.trans HIS.out) (ida_one _) HZS.out) rfl ?_))
  go_ret
  exact ⟨_, rfl, Blk.new _ _ _, hsz, hN.then_alloc _⟩
end Go.Proofs.YtepmlmfacpbhkaaR
