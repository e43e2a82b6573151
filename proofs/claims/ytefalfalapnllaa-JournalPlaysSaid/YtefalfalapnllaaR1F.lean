/- The contract of the document's Filled: a text filled up to whole blocks. -/
import Derived.Test.YtefalfalapnllaaRowM
import Derived.Test.YtefalfalapnllaaR1P
namespace Go.Proofs.Ytefalfalapnllaa
open Go.RowKit Go.Shelf
set_option linter.unusedVariables false
namespace Sha
/-- how many zeros -/
def padN (n : Nat) : Nat := (119 - n % 64) % 64
def filled (c : List UInt8) : List UInt8 := c ++ 128 :: zeros (padN c.length) ++ lenB c.length
theorem padN_lt (n : Nat) : padN n < 64 := Nat.mod_lt _ (by decide)
theorem padN_first (n j : Nat) (h : j < padN n) : (n + 1 + j) % 64 ≠ 56 := by unfold padN at h; omega
theorem padN_last (n : Nat) : (n + 1 + padN n) % 64 = 56 := by unfold padN; omega
theorem filled_length (c : List UInt8) : (filled c).length = c.length + 9 + padN c.length := by
  unfold filled
  simp [zeros, lenB_length]
  omega
end Sha
/-- bytes of the call's own -/
structure OwnB (w0 W : World) (A : Option Addr) (c : Nat) (bs : List UInt8) : Prop where
  row : RowM W 5 A c (bs.map bv)
  fr : New w0 W
  new : ∀ k, ab A = some k → w0.heap.size ≤ k
theorem infoU8 : (Try.prog.info? 5).map (fun i => (i.zero, i.size, i.bytes)) = some (some (.int .u8 0), 1, 1) := by kernel_rfl
theorem OwnB.more {w0 W : World} {A : Option Addr} {c : Nat} {bs : List UInt8} (h : OwnB w0 W A c bs) {W' : World} (hN : New W W') {a' : Addr} {c' : Nat} {ys : List UInt8} (hy : Rd W' (some a') (ys.map bv)) (hp : 0 < ys.length) (hl : bs.length + ys.length ≤ 140737488355328) :
    ∃ A2 c2 w', (Builtin.append_ #[22, 22] 22 #[.slice A bs.length c, .slice (some a') ys.length c']).run Try.prog W' = .ok (.slice A2 (bs ++ ys).length c2) w' ∧ OwnB w0 w' A2 c2 (bs ++ ys) ∧ Fr (fun k => some k = ab A) W' w' := by
  obtain ⟨ie, hie, he0, he1, he2⟩ := info_parts infoU8
  obtain ⟨A2, c2, w', hrun, hrow, hfr, hA2⟩ := run_append_m (P := Try.prog) W' 22 22 5 ie _ Try.underlying22 hie he0 he1 he2 rfl A c (bs.map bv) (h.row.fr hN (fun _ _ => id)) a' c' (ys.map bv) hy
    (fun u hu => by obtain ⟨b, _, rfl⟩ := List.mem_map.1 hu; rfl) (by simpa using hp) (by simpa using hl)
  have hs := hN.size
  have hs0 := h.fr.size
  refine ⟨A2, c2, w', by simpa using hrun, ⟨by rw [List.map_append]; exact hrow, (h.fr.trans hN (fun _ h => h.elim)).trans hfr (fun k hk => .inr (h.new k hk.symm)), fun k hk => ?_⟩, hfr⟩
  rcases hA2 k hk with h1 | h1
  · exact h.new k h1
  · omega
def slLen : Value → Nat
  | .slice _ n _ => n
  | _ => 0
/-- the count's bytes, as far as they are written (from the last on) -/
def cntAt (n m : Nat) : List UInt8 := List.replicate (8 - m) 0 ++ (Sha.lenB n).drop (8 - m)
theorem cntAt_length (n m : Nat) (h : m ≤ 8) : (cntAt n m).length = 8 := by
  unfold cntAt
  simp [Sha.lenB_length]
  try omega
theorem lenB_getElem (n j : Nat) (h : j < 8) : (Sha.lenB n)[j]? = some (UInt8.ofNat (n * 8 / 256 ^ (7 - j) % 256)) := by
  unfold Sha.lenB
  rw [List.getElem?_map, List.getElem?_range h]
  simp only [Option.map_some, Option.some.injEq]
  rw [show (256 : Nat) = 2 ^ 8 by decide, ← Nat.pow_mul]
theorem cntAt_set (n m : Nat) (h : m < 8) : (cntAt n m).set (7 - m) (UInt8.ofNat (n * 8 / 256 ^ m % 256)) = cntAt n (m + 1) := by
  have hg := lenB_getElem n (7 - m) (by omega)
  rw [show 7 - (7 - m) = m by omega] at hg
  have hl := Sha.lenB_length n
  unfold cntAt
  rw [show 8 - (m + 1) = 7 - m by omega, show 8 - m = (7 - m) + 1 by omega]
  obtain ⟨hlt, he⟩ := List.getElem?_eq_some_iff.1 hg
  rw [List.drop_eq_getElem_cons hlt, he, List.set_append_left _ _ (by simp), List.replicate_succ', List.set_append_right _ _ (by simp)]
  simp
theorem cntAt_all (n : Nat) : cntAt n 8 = Sha.lenB n := by unfold cntAt; simp
theorem ida_set' {w : World} {g : Nat} {t : TypeId} {l : List UInt8} (h : Blk w g t (ida l)) (j : Nat) (x : UInt8) : Blk (w.setCell ⟨g, j, none⟩ (bv x)) g t (ida (l.set j x)) := by
  have := h.set j (bv x)
  have e : (ida l).setIfInBounds j (bv x) = ida (l.set j x) := by simp [ida, List.map_set]
  rwa [e] at this
theorem tmod_byte (x : Nat) : (x : Int).tmod 256 = ((UInt8.ofNat (x % 256)).toNat : Int) := by
  rw [Int.tmod_eq_emod_of_nonneg (by omega), UInt8.toNat_ofNat']
  omega
theorem once_lt' {w : World} {g : Nat} {t : TypeId} {X : List UInt8} (h : Blk w g t (ida X)) : Rd w (some ⟨g, 0, none⟩) (X.map bv) := fun h0 =>
  ⟨g, 0, rfl, h.lt, fun j hj => by rw [Nat.zero_add, h.cell, ida, List.getElem?_toArray, List.getElem?_eq_getElem hj]⟩
theorem run_make8 (w : World) : (Instr.makeSlice 22 (.int .i64 8) (.int .i64 8)).run Try.prog w = .ok (.slice (some ⟨w.heap.size, 0, none⟩) 8 8) (w.alloc (.cells (ida (List.replicate 8 0)) 5)) := by kernel_rfl
attribute [local go_sem] run_make8
set_option maxHeartbeats 2000000 in
set_option maxRecDepth 20000 in
theorem filled_any (w : World) (s : List UInt8) (hl : s.length ≤ 140737488355000) :
    Calls Try.prog 66 #[.string ⟨s.toArray⟩] w fun e w' => e = .returned (.string ⟨(Sha.filled s).toArray⟩) ∧ New w w' := by
  obtain ⟨c, hcv, hrow, hN⟩ := conv_row w s (by omega)
  have hO : OwnB w (Lib.bytesWorld w 5 ⟨s.toArray⟩) (some ⟨w.heap.size, 0, none⟩) c s := ⟨hrow, hN, fun k hk => by simp [ab] at hk; omega⟩
  generalize Lib.bytesWorld w 5 ⟨s.toArray⟩ = W1 at *
  clear hrow hN
  have hrd := Rd.lit W1 [.int .u8 128] 5 (0, 0)
  obtain ⟨A2, c2, w2, hrun2, hO2, hfr2⟩ := hO.more (ys := [128]) (c' := 1) (Fr.alloc _ W1 (.cells #[.int .u8 128] 5)) hrd (by decide) (by simp; omega)
  have hrun2' : (Builtin.append_ #[22, 22] 22 #[.slice (some ⟨w.heap.size, 0, none⟩) s.length c, .slice (some ⟨W1.heap.size, 0, none⟩) 1 1]).run Try.prog (W1.alloc (.cells #[.int .u8 128] 5)) = .ok (.slice A2 (s ++ [128]).length c2) w2 := hrun2
  have HO2 := Lib.hid hO2
  have HL := Lib.hid hl
  clear hO hO2 hrd hrun2 hfr2 hl
  go_enter Try.func66, Try.ntmps66
  go_wp2_with (first | (at_builtin; refine wpList_append_run hrun2' rfl rfl _ _ rfl rfl rfl ?_))
  clear hrun2' hcv
  go_loopw [3] (fun v W => ∃ (A : Option Addr) (c j : Nat), v = .slice A (s.length + 1 + j) c ∧ j ≤ Sha.padN s.length ∧ OwnB w W A c (s ++ 128 :: Sha.zeros j)) (fun v _ => s.length + 1 + Sha.padN s.length - slLen v)
  case atStart => exact ⟨A2, c2, 0, by simp, by omega, HO2.out⟩
  case round =>
    obtain ⟨A, c1, j, rfl, hj, hB⟩ := hrel
    clear HO2
    have hL := HL.out
    have hpl := Sha.padN_lt s.length
    by_cases hj2 : j < Sha.padN s.length
    · have hne : ((s.length + 1 + j : Nat) : Int) % 64 ≠ 56 := by
        have := Sha.padN_first s.length j hj2
        omega
      have hne2 : (((s.length + 1 + j : Nat) : Int) % 64 != 56) = true := by simpa using hne
      have hlen : (s ++ 128 :: Sha.zeros j).length = s.length + 1 + j := by simp [Sha.zeros]; omega
      have hrd := Rd.lit wr [.int .u8 0] 5 (0, 0)
      obtain ⟨A3, c3, w3, hrun3, hO3, hfr3⟩ := hB.more (ys := [0]) (c' := 1) (Fr.alloc _ wr (.cells #[.int .u8 0] 5)) hrd (by decide) (by rw [hlen]; simp; omega)
      rw [hlen] at hrun3
      have hrun3' : (Builtin.append_ #[22, 22] 22 #[.slice A (s.length + 1 + j) c1, .slice (some ⟨wr.heap.size, 0, none⟩) 1 1]).run Try.prog (wr.alloc (.cells #[.int .u8 0] 5)) = .ok (.slice A3 (s ++ 128 :: Sha.zeros j ++ [0]).length c3) w3 := hrun3
      have hzl : (s ++ 128 :: Sha.zeros j ++ [0]).length = s.length + 1 + (j + 1) := by rw [List.length_append, hlen]; simp; omega
      rw [hzl] at hrun3'
      have HO3 := Lib.hid hO3
      clear hzl hB hrd hrun3 hO3 hfr3 hne
      generalize hq : s.length + 1 + j = q at *
      generalize hq2 : s.length + 1 + (j + 1) = q2 at *
      go_wp2_with (first | (at_builtin; refine wpList_append_run hrun3' rfl rfl _ _ rfl rfl rfl ?_))
      go_roundw
      case rel =>
        have hz : s ++ 128 :: Sha.zeros (j + 1) = s ++ 128 :: Sha.zeros j ++ [0] := by simp [Sha.zeros, List.replicate_succ']
        exact ⟨A3, c3, j + 1, by rw [hq2], by omega, by rw [hz]; exact HO3.out⟩
      case measure => simp only [slLen]; omega
    · obtain rfl : j = Sha.padN s.length := by omega
      have heq : ((s.length + 1 + Sha.padN s.length : Nat) : Int) % 64 = 56 := by
        have := Sha.padN_last s.length
        omega
      have heq2 : (((s.length + 1 + Sha.padN s.length : Nat) : Int) % 64 != 56) = false := by rw [heq]; rfl
      have hn8 : ((s.length : Int) * 8) % 18446744073709551616 = (s.length : Int) * 8 := by omega
      have hnw : (s.length : Int) % 18446744073709551616 = (s.length : Int) := by omega
      have HB := Lib.hid hB
      clear hB heq hj2 hj
      generalize hq : s.length + 1 + Sha.padN s.length = q at *
      generalize hsl : s.length = n at *
      go_wp2_with fail
      obtain ⟨wo, rfl⟩ : ∃ x, x = wr := ⟨_, rfl⟩
      have hC0 : Blk (wo.alloc (.cells (ida (List.replicate 8 0)) 5)) wo.heap.size 5 (ida (cntAt n 0)) := Blk.new wo 5 _
      go_loopw [6, 5] (fun i v W => ∃ m : Nat, i = .int .i64 (7 - (m : Int)) ∧ m ≤ 8 ∧ v = .int .u64 ((n * 8 / 256 ^ m : Nat) : Int) ∧ Blk W wo.heap.size 5 (ida (cntAt n m)) ∧ Fr (fun j => j = wo.heap.size) (wo.alloc (.cells (ida (List.replicate 8 0)) 5)) W) (fun i _ _ => (intOf i + 1).toNat)
      case atStart => exact ⟨0, by simp, by omega, by rw [Nat.pow_zero, Nat.div_one]; go_num, hC0, Fr.refl _ _⟩
      case round =>
        obtain ⟨m, rfl, hm, rfl, hC, hF⟩ := hrel
        clear hC0
        by_cases hm2 : m < 8
        · obtain ⟨p, hp⟩ : ∃ p : Nat, p = 7 - m := ⟨_, rfl⟩
          have e : (7 - (m : Int)) = (p : Int) := by omega
          have hcell := ida_cell hC (j := p) (by rw [cntAt_length n m hm]; omega)
          have hfz := hC.frozen p
          have hset := ida_set' hC p (UInt8.ofNat (n * 8 / 256 ^ m % 256))
          rw [show (cntAt n m).set p (UInt8.ofNat (n * 8 / 256 ^ m % 256)) = cntAt n (m + 1) by rw [hp]; exact cntAt_set n m hm2] at hset
          have hft := hF.then_set (p := ⟨wo.heap.size, p, none⟩) rfl (bv (UInt8.ofNat (n * 8 / 256 ^ m % 256)))
          have hdv : (((n * 8 / 256 ^ m : Nat) : Int)) / 256 = ((n * 8 / 256 ^ (m + 1) : Nat) : Int) := by
            rw [Nat.pow_succ, ← Nat.div_div_eq_div_mul]
            generalize n * 8 / 256 ^ m = a
            omega
          have hxl : n * 8 / 256 ^ m < 18446744073709551616 := Nat.lt_of_le_of_lt (Nat.div_le_self _ _) (by omega)
          have hxm := tmod_byte (n * 8 / 256 ^ m)
          rw [show bv (UInt8.ofNat (n * 8 / 256 ^ m % 256)) = .int .u8 ((UInt8.ofNat (n * 8 / 256 ^ m % 256)).toNat : Int) from rfl] at hset hft
          have hbw : ((UInt8.ofNat (n * 8 / 256 ^ m % 256)).toNat : Int) % 256 = ((UInt8.ofNat (n * 8 / 256 ^ m % 256)).toNat : Int) := by have := UInt8.toNat_lt (UInt8.ofNat (n * 8 / 256 ^ m % 256)); omega
          generalize UInt8.ofNat (n * 8 / 256 ^ m % 256) = b at *
          have hx2 : n * 8 / 256 ^ (m + 1) < 18446744073709551616 := Nat.lt_of_le_of_lt (Nat.div_le_self _ _) (by omega)
          generalize n * 8 / 256 ^ m = x at *
          generalize hx1 : n * 8 / 256 ^ (m + 1) = x1 at *
          have hxw : (x1 : Int) % 18446744073709551616 = (x1 : Int) := by omega
          have HX1 := Lib.hid hx1
          have hp8 : (p : Int) < 8 := by omega
          have hp0 : (0 : Int) ≤ (p : Int) := by omega
          rw [e]
          have HN := Lib.hid (show Blk (wr.setCell ⟨wo.heap.size, p, none⟩ (.int .u8 (b.toNat : Int))) wo.heap.size 5 (ida (cntAt n (m + 1))) ∧ Fr (fun j => j = wo.heap.size) (wo.alloc (.cells (ida (List.replicate 8 0)) 5)) (wr.setCell ⟨wo.heap.size, p, none⟩ (.int .u8 (b.toNat : Int))) from ⟨hset, hft⟩)
          have HE := Lib.hid hp
          clear hC hF hset hft e hp hx1 hxl hx2
          go_wp2_with fail
          refine ⟨⟨m + 1, ?_, by omega, by rw [HX1.out], HN.out.1, HN.out.2⟩, ?_⟩
          · have := HE.out
            congr 1
            omega
          · simp only [intOf]
            have := HE.out
            omega
        · obtain rfl : m = 8 := by omega
          rw [cntAt_all] at hC
          have hno : ((7 : Int) - ((8 : Nat) : Int)) = -1 := rfl
          rw [hno]
          have hNo : New wo wr := (Fr.alloc (fun _ => False) wo (.cells (ida (List.replicate 8 0)) 5)).trans hF (fun j hj => .inr (by omega))
          have hlen : (s ++ 128 :: Sha.zeros (Sha.padN n)).length = q := by simp [Sha.zeros]; omega
          obtain ⟨A3, c3, w3, hrun3, hO3, hfr3⟩ := HB.out.more hNo (c' := 8) (once_lt' hC) (by rw [Sha.lenB_length]; decide) (by rw [Sha.lenB_length, hlen]; omega)
          rw [hlen, Sha.lenB_length] at hrun3
          have e : s ++ 128 :: Sha.zeros (Sha.padN n) ++ Sha.lenB n = Sha.filled s := by unfold Sha.filled; rw [hsl]
          rw [e] at hrun3 hO3
          have hstr := run_str_rd w3 22 5 Try.underlying22 Try.underlying5 A3 c3 (Sha.filled s) hO3.row.rd
          have HO3 := Lib.hid hO3
          clear hC hF hO3 hno
          generalize hZ : Sha.filled s = Z at *
          have HZ := Lib.hid hZ
          clear hZ
          generalize hz : Z.length = z at *
          go_wp2_with (first | (at_builtin; refine wpList_append_run hrun3 rfl rfl _ _ rfl rfl rfl ?_))
          go_ret
          exact ⟨congrArg (fun l => Ending.returned (.string ⟨List.toArray l⟩)) HZ.out.symm, HO3.out.fr⟩
end Go.Proofs.Ytefalfalapnllaa
