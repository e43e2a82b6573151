/- Package pack: number, run. -/
import Derived.Test.YtefalfalapnllaaFilP
import Derived.Test.YtefalfalapnllaaJrnK
import Derived.Deep.RegionWith
namespace Go.Proofs.Ytefalfalapnllaa
open Go.RowKit Go.Shelf
set_option linter.unusedVariables false
theorem Row.lits (w : World) (xs : List UInt8) (h : xs.length ≤ maxLen) : Row (w.alloc (.cells (xs.map bv).toArray 5)) 5 (some ⟨w.heap.size, 0, none⟩) xs.length (xs.map bv) := by
  have h := Row.mk (cur := (xs.map bv).toArray) (xs := xs.map bv) (Blk.new w 5 _) (by simp) (by simpa using h) (by rw [List.take_of_length_le (by simp)])
  simpa using h
/-- append what lies there onto a new row of literals -/
theorem lit_append {w : World} (xs : List UInt8) {A : Option Addr} {c : Nat} {l : List UInt8} (hR : Rd w A (l.map bv)) (hx : 0 < xs.length) (hl : xs.length + l.length ≤ 140737488355328) :
    ∃ A2 c2 w', (Builtin.append_ #[22, 22] 22 #[.slice (some ⟨w.heap.size, 0, none⟩) xs.length xs.length, .slice A l.length c]).run Try.prog (w.alloc (.cells (xs.map bv).toArray 5)) = .ok (.slice A2 (xs.length + l.length) c2) w' ∧ RowN w w' A2 c2 (xs ++ l) := by
  obtain ⟨i, hi, hz0, hz1, hz2⟩ := info_parts infoByte
  have hrow0 : Row (w.alloc (.cells (xs.map bv).toArray 5)) 5 (some ⟨w.heap.size, 0, none⟩) xs.length (xs.map bv) := Row.lits w xs (by simp [maxLen]; omega)
  obtain ⟨A2, c2, w', hrun, hrow, hf, hA⟩ := run_append_rd (P := Try.prog) (w.alloc (.cells (xs.map bv).toArray 5)) 22 22 5 i (.int .u8 0) 1 Try.underlying22 hi hz0 hz1 hz2 rfl _ xs.length (xs.map bv) hrow0 A c (l.map bv) (hR.alloc _) (by simp [bv_one]) (by simp [maxLen]; omega) (by simp; omega)
  simp only [List.length_map] at hrun
  refine ⟨A2, c2, w', hrun, by rw [List.map_append]; exact hrow, (Fr.alloc _ w _).trans hf (fun k hk => by simp [ab] at hk; omega), fun k hk => ?_⟩
  rcases hA k hk with h | h
  · simp [ab] at h; omega
  · rw [World.size_alloc] at h; omega
set_option maxHeartbeats 2000000 in
set_option maxRecDepth 20000 in
theorem pk_number (w : World) (n : Nat) (hn : n ≤ 1099511627776) :
    Calls Try.prog 60 #[.int .i64 n] w fun e w' => ∃ A c, e = .returned (.slice A (Pk.numB n).length c) ∧ RowN w w' A c (Pk.numB n) := by
  go_enter Try.func60, Try.ntmps60
  go_wp2_with fail
  go_loopw [0, 3] (fun nv ov W => ∃ (m : Nat) (A : Option Addr) (c : Nat) (out : List UInt8), nv = .int .i64 m ∧ ov = .slice A out.length c ∧ m ≤ n ∧ Pk.numB n = Pk.numB m ++ out ∧ RowN w W A c out) (fun nv _ _ => (intOf nv).toNat)
  case atStart => exact ⟨n, none, 0, [], rfl, rfl, Nat.le_refl _, by simp, ⟨Row.nil _ _, Fr.refl _ _, fun k hk => by simp [ab] at hk⟩⟩
  case round =>
    obtain ⟨m, A, c, out, rfl, rfl, hm, he, hR⟩ := hrel
    by_cases h0 : m = 0
    · subst h0
      rw [Pk.numB_zero, List.nil_append] at he
      have HE := Lib.hid he
      have HR := Lib.hid hR
      clear he hR
      go_wp2_with fail
      go_ret
      exact ⟨A, c, by rw [HE.out]; rfl, HE.out ▸ HR.out⟩
    · have hpos : (0 : Int) < (m : Int) := by omega
      have hlen : out.length ≤ 6 := by
        have h1 := congrArg List.length he
        have h2 := Pk.numB_length 6 n (by omega)
        rw [List.length_append] at h1
        omega
      have hcell : #[Value.int IntKind.u8 ((m : Int) % 256)] = ([UInt8.ofNat (m % 256)].map bv).toArray := by
        simp only [List.map_cons, List.map_nil, bv, UInt8.toNat_ofNat']
        rw [show ((m % 256 % 2 ^ 8 : Nat) : Int) = (m : Int) % 256 by omega]
      obtain ⟨A2, c2, w2, hrun, hR2⟩ := lit_append (w := wr) [UInt8.ofNat (m % 256)] hR.row.rd (by simp) (by simp; omega)
      rw [← hcell] at hrun
      have he2 : Pk.numB n = Pk.numB (m / 256) ++ ([UInt8.ofNat (m % 256)] ++ out) := by rw [he, Pk.numB_pos m h0, List.append_assoc]
      have hR2' : RowN w w2 A2 c2 ([UInt8.ofNat (m % 256)] ++ out) := ⟨hR2.row, hR.fr.trans hR2.fr (fun _ h => h.elim), fun k hk => Nat.le_trans hR.fr.size (hR2.new k hk)⟩
      have HE := Lib.hid he2
      have HR := Lib.hid hR2'
      have hl2 : ([UInt8.ofNat (m % 256)] ++ out).length = 1 + out.length := by simp; omega
      have HL := Lib.hid hl2
      have hrun' : (Builtin.append_ #[22, 22] 22 #[.slice (some ⟨wr.heap.size, 0, none⟩) 1 1, .slice A out.length c]).run Try.prog (wr.alloc (.cells #[Value.int IntKind.u8 ((m : Int) % 256)] 5)) = .ok (.slice A2 (1 + out.length) c2) w2 := hrun
      clear he he2 hR hR2 hR2' hrun hcell hl2
      go_wp2_with (at_builtin; refine wpList_append_run hrun' rfl rfl _ _ rfl rfl rfl ?_)
      go_roundw
      case rel => exact ⟨m / 256, A2, c2, [UInt8.ofNat (m % 256)] ++ out, by go_num, by rw [HL.out], by omega, HE.out, HR.out⟩
      case measure => simp [intOf]; omega
end Go.Proofs.Ytefalfalapnllaa
