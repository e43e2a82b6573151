/- The contracts of the document's sides and Forged. -/
import Derived.Test.YtepmlmfacpbhkaaRR1T
import Derived.Test.YtepmlmfacpbhkaaROnceJ
namespace Go.Proofs.YtepmlmfacpbhkaaR
open Go.RowKit Go.Shelf
set_option linter.unusedVariables false
/-- the first bits of a sum, as cells -/
def bitV (id : List UInt8) (k : Nat) : List Value := (List.range k).map fun i => .int .i64 ((Once.bitOf id i : Nat) : Int)
theorem bitV_length (id : List UInt8) (k : Nat) : (bitV id k).length = k := by simp [bitV]
theorem bitV_succ (id : List UInt8) (k : Nat) : bitV id (k + 1) = bitV id k ++ [.int .i64 ((Once.bitOf id k : Nat) : Int)] := by
  unfold bitV
  rw [List.range_succ, List.map_append]
  rfl
/-- the row of bits, so far -/
structure BitsAt (w0 W : World) (A : Option Addr) (c : Nat) (id : List UInt8) (k : Nat) : Prop where
  row : Row W 3 A c (bitV id k)
  new : ∀ b, ab A = some b → w0.heap.size ≤ b
  fr : New w0 W
theorem BitsAt.more {w0 W : World} {A : Option Addr} {c : Nat} {id : List UInt8} {k : Nat} (h : BitsAt w0 W A c id k) (hk : k < 64) :
    ∃ A2 c2 w', (Builtin.append_ #[109, 109] 109 #[.slice A k c, .slice (some ⟨W.heap.size, 0, none⟩) 1 1]).run Try.prog (W.alloc (.cells #[.int .i64 ((Once.bitOf id k : Nat) : Int)] 3)) = .ok (.slice A2 (k + 1) c2) w' ∧
      BitsAt w0 w' A2 c2 id (k + 1) := by
  obtain ⟨ie, hie, he0, he1, he2⟩ := info_parts (show (Try.prog.info? 3).map (fun i => (i.zero, i.size, i.bytes)) = some (some (.int .i64 0), 1, 8) by kernel_rfl)
  have f1 : New W (W.alloc (.cells #[.int .i64 ((Once.bitOf id k : Nat) : Int)] 3)) := Fr.alloc _ _ _
  have hrd := lit_rd W [.int .i64 ((Once.bitOf id k : Nat) : Int)] 3
  have hw := h.fr.size
  obtain ⟨A2, c2, w', hrun, hrow, hfr, hA2⟩ := run_append_rd (P := Try.prog) (W.alloc (.cells #[.int .i64 ((Once.bitOf id k : Nat) : Int)] 3)) 109 109 3 ie _ 8 Try.underlying109 hie he0 he1 he2 rfl A c (bitV id k)
    (h.row.fr f1 (fun _ _ h => h)) (some ⟨W.heap.size, 0, none⟩) 1 _ hrd (fun u hu => by simp at hu; subst hu; rfl) (by simp [bitV_length, maxLen]; omega) (by simp [bitV_length]; omega)
  rw [bitV_length] at hrun
  refine ⟨A2, c2, w', hrun, by rw [bitV_succ]; exact hrow, fun b hb => ?_, (h.fr.trans f1 fun _ h => h.elim).trans hfr fun b hb => .inr (h.new b hb.symm)⟩
  rcases hA2 b hb with h1 | h1
  · exact h.new b h1
  · rw [World.size_alloc] at h1
    omega
set_option maxHeartbeats 2000000 in
set_option maxRecDepth 20000 in
theorem r3sides_any (w : World) (t : List UInt8) (hl : t.length ≤ 140737488354000) :
    Calls Try.prog 54 #[.string ⟨t.toArray⟩] w fun e w' => ∃ A c, e = .returned (.slice A 64 c) ∧ Rd w' A ((List.range 64).map fun i => .int .i64 ((Once.side t i : Nat) : Int)) ∧ New w w' := by
  obtain ⟨ii, hii, hz0, hz1, hz2⟩ := info_parts infoID
  have hfor := r1for_any (w.alloc (.cells #[.string ⟨t.toArray⟩] 9)) Once.pText (some ⟨w.heap.size, 0, none⟩) 1 [t] (lit_rd w (tv [t]) 9) (by simp [Once.forB, Once.len4, Once.pText]; omega)
  have HS := Lib.hid (Once.sumFor_length Once.pText [t])
  have HIS := Lib.hid (show 32 = (ida (Once.sumFor Once.pText [t])).size by rw [ida_size]; exact HS.out.symm)
  have HZS := Lib.hid (show (ida z32).size = (ida (Once.sumFor Once.pText [t])).size by rw [ida_size, ida_size]; exact HS.out.symm)
  have HF := Lib.hid hfor
  have HV := Lib.hid (show ((List.range 64).map fun i => Value.int .i64 ((Once.side t i : Nat) : Int)) = bitV (Once.sumFor Once.pText [t]) 64 from rfl)
  clear hfor
  generalize Once.sumFor Once.pText [t] = S at *
  go_enter Try.func54, Try.ntmps54
  go_wp2_with fail
  refine Calls.mono (show Calls Try.prog 51 #[.string ⟨Once.pText.toArray⟩, .slice (some ⟨w.heap.size, 0, none⟩) 1 1] (w.alloc (.cells #[.string ⟨t.toArray⟩] 9)) _ from HF.out) ?_
  rintro e w4 ⟨rfl, hN4⟩
  clear HF
  have hN : New w w4 := (Fr.alloc _ w _).trans hN4 fun _ h => h.elim
  have hsz := hN.size
  clear hN4
  go_wp2_with (first
    | (refine x_value (x_alloc (T := 32) rfl hii hz0) (by simp [go_sem, Region.wanted]) ?_)
    | (refine x_skip (exec_store_new (T := 32) (X := ida S) (Z := ida z32) rfl rfl rfl rfl hii (hz1.trans HIS.out) (ida_one _) HZS.out) rfl ?_))
  have hI := Blk.new w4 32 (ida S)
  have hN5 := hN.then_alloc (.cells (ida S) 32)
  clear hN hsz
  generalize w4.alloc (.cells (ida S) 32) = w5 at *
  generalize w4.heap.size = ib at *
  go_loopw [4, 5] (fun s n W => ∃ (k : Nat) (A : Option Addr) (c : Nat), s = .slice A k c ∧ n = .int .i64 k ∧ k ≤ 64 ∧ BitsAt w5 W A c S k) (fun _ n _ => 64 - (intOf n).toNat)
  case atStart => exact ⟨0, none, 0, rfl, rfl, by omega, Row.nil _ _, fun b hb => by simp [ab] at hb, Fr.refl _ _⟩
  case round =>
    obtain ⟨k, A, c, rfl, rfl, hk, hB⟩ := hrel
    by_cases hlt : k < 64
    · have hlt' : (k : Int) < 64 := by omega
      obtain ⟨a, b, hka, ha, hb⟩ : ∃ a b : Nat, k = 8 * a + b ∧ a < 32 ∧ b < 8 := ⟨k / 8, k % 8, by omega, by omega, by omega⟩
      have hq : ((k : Int) / 8) = (a : Int) := by omega
      have hm : ((k : Int) % 8) = (b : Int) := by omega
      have hc := ida_cell (hI.fr hB.fr id) (j := a) (by rw [HS.out]; exact ha)
      have ha' : (a : Int) < 32 := by omega
      have hbo : Once.bitOf S k = (S.getD a 0).toNat / 2 ^ (7 - b) % 2 := by
        unfold Once.bitOf
        rw [show k / 8 = a by omega, show k % 8 = b by omega]
      have hxl := UInt8.toNat_lt (S.getD a 0)
      generalize S.getD a 0 = x at *
      have hx2 : (x.toNat : Int) < 256 := by omega
      have HBO := Lib.hid hbo
      have HB := Lib.hid hB
      have HKA := Lib.hid hka
      clear hbo hB hka hI
      obtain ⟨A2, c2, w6, hrun, hB2⟩ := HB.out.more hlt
      have HB2 := Lib.hid hB2
      clear hB2
      obtain ⟨wo, rfl⟩ : ∃ y, y = wr := ⟨_, rfl⟩
      go_wp2_with fail
      go_loopw [6, 7] (fun y j W => ∃ m : Nat, y = .int .i64 ((x.toNat / 2 ^ m : Nat) : Int) ∧ j = .int .i64 m ∧ m ≤ 7 - b ∧ W = wo) (fun _ j _ => 8 - (intOf j).toNat)
      case atStart => exact ⟨0, by simp, rfl, by omega, rfl⟩
      case round =>
        obtain ⟨m, rfl, rfl, hm2, rfl⟩ := hrel
        by_cases hmb : m < 7 - b
        · have hd : (m : Int) < 7 - (b : Int) := by omega
          have hdv : ((x.toNat / 2 ^ m : Nat) : Int) / 2 = ((x.toNat / 2 ^ (m + 1) : Nat) : Int) := by
            rw [Nat.pow_succ, ← Nat.div_div_eq_div_mul]
            generalize x.toNat / 2 ^ m = z
            omega
          have hml : (m : Int) < 8 := by omega
          have hy : x.toNat / 2 ^ m < 256 := Nat.lt_of_le_of_lt (Nat.div_le_self _ _) (by omega)
          generalize x.toNat / 2 ^ m = y at *
          generalize hy2 : x.toNat / 2 ^ (m + 1) = y2 at *
          have HY := Lib.hid hy2
          have hy' : (y : Int) < 256 := by omega
          clear hy2 hrun
          go_wp2_with fail
          refine ⟨⟨m + 1, by rw [HY.out], by go_num, by omega, trivial⟩, ?_⟩
          simp only [intOf]
          omega
        · obtain rfl : m = 7 - b := by omega
          have hd : decide (((7 - b : Nat) : Int) < 7 - (b : Int)) = false := by rw [decide_eq_false_iff_not]; omega
          have hmd : ((x.toNat / 2 ^ (7 - b) : Nat) : Int) % 2 = ((Once.bitOf S k : Nat) : Int) := by
            rw [HBO.out]
            rfl
          generalize x.toNat / 2 ^ (7 - b) = y at *
          generalize Once.bitOf S k = q at *
          go_wp2_with (first | (at_builtin; refine wpList_append_run hrun rfl rfl _ _ rfl rfl rfl ?_))
          refine ⟨⟨k + 1, A2, c2, rfl, by go_num, by omega, HB2.out⟩, ?_⟩
          simp only [intOf]
          omega
    · obtain rfl : k = 64 := by omega
      have HB := Lib.hid hB
      clear hB hlt hk hI
      go_wp2_with fail
      go_ret
      exact ⟨A, c, rfl, by rw [HV.out]; exact HB.out.row.rd, hN5.trans HB.out.fr fun _ h => h.elim⟩
set_option maxHeartbeats 2000000 in
set_option maxRecDepth 20000 in
theorem r3forged_any (w : World) (a b : List UInt8) (hla : a.length ≤ 140737488354000) (hlb : b.length ≤ 140737488354000) :
    Calls Try.prog 39 #[.string ⟨a.toArray⟩, .string ⟨b.toArray⟩] w fun e w' => e = .returned (forgedV (firstBit (Once.side a) (Once.side b))) ∧ New w w' := by
  go_enter Try.func39, Try.ntmps39
  go_wp2_with fail
  refine (r3sides_any _ a hla).mono ?_
  rintro e w1 ⟨A1, c1, rfl, hR1, hN1⟩
  go_wp2_with fail
  refine (r3sides_any _ b hlb).mono ?_
  rintro e w2 ⟨A2, c2, rfl, hR2, hN2⟩
  have hN3 := hN1.trans hN2 fun _ h => h.elim
  have hR3 := hR1.fr hN2 (fun _ _ => id)
  obtain ⟨b1, o1, rfl, hb1, hc1⟩ := hR3 (by simp)
  obtain ⟨b2, o2, rfl, hb2, hc2⟩ := hR2 (by simp)
  have hd1 : ∀ k, k < 64 → w2.cell? ⟨b1, o1 + k, none⟩ = some (.int .i64 ((Once.side a k : Nat) : Int)) := fun k hk => by
    rw [hc1 k (by simpa using hk)]
    simp
  have hd2 : ∀ k, k < 64 → w2.cell? ⟨b2, o2 + k, none⟩ = some (.int .i64 ((Once.side b k : Nat) : Int)) := fun k hk => by
    rw [hc2 k (by simpa using hk)]
    simp
  have HD1 := Lib.hid hd1
  have HD2 := Lib.hid hd2
  clear hN1 hN2 hR1 hR2 hR3 hc1 hc2 hd1 hd2
  go_wp2_with fail
  go_loopw [8] (fun n W => ∃ k : Nat, n = .int .i64 k ∧ k ≤ 64 ∧ Hid (∀ j, j < k → Once.side a j = Once.side b j) ∧ ∃ m, W = w2.drewN m) (fun n _ => 64 - (intOf n).toNat)
  case atStart => exact ⟨0, rfl, by omega, Lib.hid fun j hj => by omega, 0, rfl⟩
  case round =>
    obtain ⟨k, rfl, hk, hS, m, rfl⟩ := hrel
    by_cases hlt : k < 64
    · have hlt' : (k : Int) < 64 := by omega
      have e1 : (w2.drewN m).cell? ⟨b1, o1 + k, none⟩ = some (.int .i64 ((Once.side a k : Nat) : Int)) := HD1.out k hlt
      have e2 : (w2.drewN m).cell? ⟨b2, o2 + k, none⟩ = some (.int .i64 ((Once.side b k : Nat) : Int)) := HD2.out k hlt
      have HN := Lib.hid (show New w (w2.drewN m) from hN3.then_drewN m)
      have HW := Lib.hid (show ∀ n, (w2.drewN m).drewN n = w2.drewN (m + n) from fun n => by simp only [World.drewN, Nat.add_assoc])
      generalize w2.drewN m = W at *
      by_cases heq : Once.side a k = Once.side b k
      · have hq : (((Once.side a k : Nat) : Int) != ((Once.side b k : Nat) : Int)) = false := by rw [heq]; simp
        have HE := Lib.hid heq
        clear heq
        generalize hq1 : Once.side a k = q1 at *
        generalize hq2 : Once.side b k = q2 at *
        have HQ1 := Lib.hid hq1
        have HQ2 := Lib.hid hq2
        clear hq1 hq2
        go_upto_region 5 with fail
        go_quiet (fail)
        go_wp2_with fail
        refine ⟨⟨k + 1, by go_num, by omega, Lib.hid fun j hj => ?_, m + nq, HW.out nq⟩, ?_⟩
        · by_cases hjk : j = k
          · rw [hjk, HQ1.out, HQ2.out]
            exact HE.out
          · exact hS.out j (by omega)
        · simp only [intOf]
          omega
      · have hq : (((Once.side a k : Nat) : Int) != ((Once.side b k : Nat) : Int)) = true := by rw [bne_iff_ne]; omega
        have HE := Lib.hid (firstDif_some (f := Once.side a) (h := Once.side b) 64 0 k (Nat.zero_le _) (by omega) (fun j _ hj => hS.out j hj) heq)
        clear heq
        generalize hq1 : Once.side a k = q1 at *
        generalize hq2 : Once.side b k = q2 at *
        have HQ1 := Lib.hid hq1
        have HQ2 := Lib.hid hq2
        clear hq1 hq2
        go_upto_region 5 with fail
        go_quiet (fail)
        go_wp2_with fail
        go_ret2
        refine ⟨?_, HN.out.then_drewN _⟩
        have : firstBit (Once.side a) (Once.side b) = some k := HE.out
        rw [this]
        rfl
    · obtain rfl : k = 64 := by omega
      have HE := Lib.hid (firstDif_none (f := Once.side a) (h := Once.side b) 64 0 fun j _ hj => hS.out j (by omega))
      clear hk hlt
      go_wp2_with fail
      go_ret2
      refine ⟨?_, hN3.then_drewN _⟩
      have : firstBit (Once.side a) (Once.side b) = none := HE.out
      rw [this]
      rfl
end Go.Proofs.YtepmlmfacpbhkaaR
