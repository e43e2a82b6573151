/- Package pack: run, check. -/
import Derived.Test.YtefalfalapnllaaFilA
namespace Go.Proofs.Ytefalfalapnllaa
open Go.RowKit Go.Shelf
set_option linter.unusedVariables false
set_option maxHeartbeats 2000000 in
set_option maxRecDepth 20000 in
theorem pk_run (w : World) (A : Option Addr) (c : Nat) (b : List UInt8) (hb : Rd w A (b.map bv)) (hl : b.length < 16777216) :
    Calls Try.prog 49 #[.slice A b.length c] w fun e w' => ∃ A2 c2, e = .returned (.slice A2 (Pk.runB b).length c2) ∧ RowN w w' A2 c2 (Pk.runB b) := by
  have hdg : #[Value.int IntKind.u8 ((b.length : Int) / 65536), Value.int IntKind.u8 ((b.length : Int) / 256 % 256), Value.int IntKind.u8 ((b.length : Int) % 256)] = ((Jrn.dig b.length).map bv).toArray := by
    unfold Jrn.dig bv
    simp only [List.map_cons, List.map_nil, UInt8.toNat_ofNat']
    generalize b.length = n at *
    rw [show ((n / 65536 % 256 % 2 ^ 8 : Nat) : Int) = (n : Int) / 65536 by omega, show ((n / 256 % 256 % 2 ^ 8 : Nat) : Int) = (n : Int) / 256 % 256 by omega, show ((n % 256 % 2 ^ 8 : Nat) : Int) = (n : Int) % 256 by omega]
  obtain ⟨A2, c2, w2, hrun, hR2⟩ := lit_append (w := w) (Jrn.dig b.length) (c := c) hb (by rw [Jrn.dig_length]; omega) (by rw [Jrn.dig_length]; omega)
  rw [← hdg] at hrun
  have hrun' : (Builtin.append_ #[22, 22] 22 #[.slice (some ⟨w.heap.size, 0, none⟩) 3 3, .slice A b.length c]).run Try.prog (w.alloc (.cells #[Value.int IntKind.u8 ((b.length : Int) / 65536), Value.int IntKind.u8 ((b.length : Int) / 256 % 256), Value.int IntKind.u8 ((b.length : Int) % 256)] 5)) = .ok (.slice A2 (3 + b.length) c2) w2 := hrun
  have HR := Lib.hid hR2
  have HL := Lib.hid (Pk.runB_length b)
  clear hdg hrun hR2 hb
  go_enter Try.func49, Try.ntmps49
  go_wp2_with (at_builtin; refine wpList_append_run hrun' rfl rfl _ _ rfl rfl rfl ?_)
  go_ret
  exact ⟨A2, c2, by rw [HL.out]; rfl, HR.out⟩
/-- a message's cells -/
def mc (k n1 n2 n3 n4 n5 : Int) (id : List UInt8) (Ad : Option Addr) (nd cd : Nat) (Ai : Option Addr) (ni ci : Nat) (Al : Option Addr) (nl cl : Nat) : Array Value :=
  (Value.int .i64 k :: Value.int .i64 n1 :: Value.int .i64 n2 :: Value.int .i64 n3 :: Value.int .i64 n4 :: Value.int .i64 n5 :: (id.map bv ++ [Value.slice Ad nd cd, Value.slice Ai ni ci, Value.slice Al nl cl])).toArray
section
variable {k n1 n2 n3 n4 n5 : Int} {id : List UInt8} {Ad Ai Al : Option Addr} {nd cd ni ci nl cl : Nat} {w : World} {g : Nat}
theorem mc_size (h : id.length = 32) : (mc k n1 n2 n3 n4 n5 id Ad nd cd Ai ni ci Al nl cl).size = 41 := by simp [mc, h]
theorem mc_cells (hB : Blk w g 64 (mc k n1 n2 n3 n4 n5 id Ad nd cd Ai ni ci Al nl cl)) (h : id.length = 32) :
    (w.cell? ⟨g, 0, none⟩ = some (.int .i64 k) ∧ w.cell? ⟨g, 1, none⟩ = some (.int .i64 n1) ∧ w.cell? ⟨g, 2, none⟩ = some (.int .i64 n2) ∧ w.cell? ⟨g, 3, none⟩ = some (.int .i64 n3) ∧ w.cell? ⟨g, 4, none⟩ = some (.int .i64 n4) ∧ w.cell? ⟨g, 5, none⟩ = some (.int .i64 n5)) ∧
    w.cell? ⟨g, 38, none⟩ = some (.slice Ad nd cd) ∧ w.cell? ⟨g, 39, none⟩ = some (.slice Ai ni ci) ∧ w.cell? ⟨g, 40, none⟩ = some (.slice Al nl cl) := by
  refine ⟨⟨hB.cell 0, hB.cell 1, hB.cell 2, hB.cell 3, hB.cell 4, hB.cell 5⟩, ?_, ?_, ?_⟩
  · rw [hB.cell 38]; simp [mc, h]
  · rw [hB.cell 39]; simp [mc, h]
  · rw [hB.cell 40]; simp [mc, h]
theorem mc_at6 (hB : Blk w g 64 (mc k n1 n2 n3 n4 n5 id Ad nd cd Ai ni ci Al nl cl)) : At w g 6 (ida id) := fun j hj => by
  rw [ida_size] at hj
  rw [hB.cell (6 + j)]
  rw [show 6 + j = j + 1 + 1 + 1 + 1 + 1 + 1 by omega]
  simp only [mc, ida, List.getElem?_toArray, List.getElem?_cons_succ, List.getElem_toArray, List.getElem_map]
  rw [List.getElem?_append_left (by simpa using hj), List.getElem?_map, List.getElem?_eq_getElem hj]
  rfl
end
theorem idx5_0 (w : World) (a b c d e : Int) : (Instr.index 117 (.agg #[.int .i64 a, .int .i64 b, .int .i64 c, .int .i64 d, .int .i64 e]) (.int .i64 0)).run Try.prog w = .ok (.int .i64 a) w := by kernel_rfl
theorem idx5_1 (w : World) (a b c d e : Int) : (Instr.index 117 (.agg #[.int .i64 a, .int .i64 b, .int .i64 c, .int .i64 d, .int .i64 e]) (.int .i64 1)).run Try.prog w = .ok (.int .i64 b) w := by kernel_rfl
theorem idx5_2 (w : World) (a b c d e : Int) : (Instr.index 117 (.agg #[.int .i64 a, .int .i64 b, .int .i64 c, .int .i64 d, .int .i64 e]) (.int .i64 2)).run Try.prog w = .ok (.int .i64 c) w := by kernel_rfl
theorem idx5_3 (w : World) (a b c d e : Int) : (Instr.index 117 (.agg #[.int .i64 a, .int .i64 b, .int .i64 c, .int .i64 d, .int .i64 e]) (.int .i64 3)).run Try.prog w = .ok (.int .i64 d) w := by kernel_rfl
theorem idx5_4 (w : World) (a b c d e : Int) : (Instr.index 117 (.agg #[.int .i64 a, .int .i64 b, .int .i64 c, .int .i64 d, .int .i64 e]) (.int .i64 4)).run Try.prog w = .ok (.int .i64 e) w := by kernel_rfl
theorem exec_idx5 {o : Oper} {ev : Operand → Value} {w : World} {x y : Operand} {X : Array Value} {t : Int} {v : Value} (hr : (Instr.index 117 (.agg X) (.int .i64 t)).run Try.prog w = .ok v w) (ho : o.op = .index 117 x y) (hx : ev x = .agg X) (hy : ev y = .int .i64 t) :
    (execOp ev o).run Try.prog w = .ok (.value v) w := by
  unfold execOp
  simp [ho, hx, hy, hr]
def okN (n : Int) : Prop := 0 ≤ n ∧ n ≤ 1099511627776
set_option maxHeartbeats 4000000 in
set_option maxRecDepth 20000 in
/-- check on a message without a list -/
theorem pk_check (w : World) (k n1 n2 n3 n4 n5 : Int) (id : List UInt8) (Ad : Option Addr) (nd cd : Nat) (Ai : Option Addr) (ni ci : Nat) (Al : Option Addr) (cl : Nat) (hid : id.length = 32) (hd : nd ≤ 131072) (hi : ni ≤ 64) :
    Calls Try.prog 47 #[.agg (mc k n1 n2 n3 n4 n5 id Ad nd cd Ai ni ci Al 0 cl)] w fun e w' => ∃ code : Int, e = .returned (.int .i64 code) ∧ (code = 0 ↔ (1 ≤ k ∧ k ≤ 31) ∧ okN n1 ∧ okN n2 ∧ okN n3 ∧ okN n4 ∧ okN n5) ∧ New w w' := by
  have hB := Blk.new w 64 (mc k n1 n2 n3 n4 n5 id Ad nd cd Ai ni ci Al 0 cl)
  obtain ⟨⟨b0, b1, b2, b3, b4, b5⟩, b38, b39, b40⟩ := mc_cells hB hid
  have hN : New w (w.alloc (.cells (mc k n1 n2 n3 n4 n5 id Ad nd cd Ai ni ci Al 0 cl) 64)) := Fr.alloc _ w _
  have HN := Lib.hid hN
  clear hB hN
  go_enter Try.func47, Try.ntmps47
  by_cases hk1 : k < 1
  · go_wp2_with (refine x_value (exec_box (T := 64) rfl rfl) (by simp [go_sem, Region.wanted, yielded]) ?_)
    go_ret
    exact ⟨21, rfl, ⟨fun h => by omega, fun h => by omega⟩, HN.out⟩
  · by_cases hk2 : 31 < k
    · go_wp2_with (refine x_value (exec_box (T := 64) rfl rfl) (by simp [go_sem, Region.wanted, yielded]) ?_)
      go_ret
      exact ⟨21, rfl, ⟨fun h => by omega, fun h => by omega⟩, HN.out⟩
    · go_wp2_with (refine x_value (exec_box (T := 64) rfl rfl) (by simp [go_sem, Region.wanted, yielded]) ?_)
      have HN' := HN
      clear HN
      generalize w.alloc (.cells (mc k n1 n2 n3 n4 n5 id Ad nd cd Ai ni ci Al 0 cl) 64) = w1 at *
      have HN := HN'
      clear HN'
      go_loopw [27] (fun i W => ∃ t : Nat, i = .int .i64 t ∧ t ≤ 5 ∧ (∀ u, u < t → okN ([n1, n2, n3, n4, n5].getD u 0)) ∧ W = w1) (fun i _ => 5 - (intOf i).toNat)
      case atStart => exact ⟨0, rfl, by omega, fun u hu => by omega, rfl⟩
      case round =>
        obtain ⟨t, rfl, ht5, ht, rfl⟩ := hrel
        rcases (by omega : t = 0 ∨ t = 1 ∨ t = 2 ∨ t = 3 ∨ t = 4 ∨ t = 5) with rfl | rfl | rfl | rfl | rfl | rfl
        · by_cases hneg : n1 < 0
          · go_wp2_with (refine x_value (exec_idx5 (idx5_0 _ n1 n2 n3 n4 n5) rfl rfl rfl) (by simp [go_sem, Region.wanted, yielded]) ?_)
            go_ret
            exact ⟨1, rfl, ⟨fun h => by omega, fun h => by unfold okN at h; omega⟩, HN.out⟩
          · by_cases hbig : 1099511627776 < n1
            · go_wp2_with (refine x_value (exec_idx5 (idx5_0 _ n1 n2 n3 n4 n5) rfl rfl rfl) (by simp [go_sem, Region.wanted, yielded]) ?_)
              go_ret
              exact ⟨1, rfl, ⟨fun h => by omega, fun h => by unfold okN at h; omega⟩, HN.out⟩
            · have HT := Lib.hid ht
              clear ht
              go_wp2_with (refine x_value (exec_idx5 (idx5_0 _ n1 n2 n3 n4 n5) rfl rfl rfl) (by simp [go_sem, Region.wanted, yielded]) ?_)
              go_roundw
              case rel => exact ⟨1, by go_num, by omega, (by
                intro u hu
                by_cases hu2 : u < 0
                · exact HT.out u hu2
                · obtain rfl : u = 0 := by omega
                  show okN n1
                  unfold okN
                  omega), trivial⟩
              case measure => simp [intOf]
        · by_cases hneg : n2 < 0
          · go_wp2_with (refine x_value (exec_idx5 (idx5_1 _ n1 n2 n3 n4 n5) rfl rfl rfl) (by simp [go_sem, Region.wanted, yielded]) ?_)
            go_ret
            exact ⟨1, rfl, ⟨fun h => by omega, fun h => by unfold okN at h; omega⟩, HN.out⟩
          · by_cases hbig : 1099511627776 < n2
            · go_wp2_with (refine x_value (exec_idx5 (idx5_1 _ n1 n2 n3 n4 n5) rfl rfl rfl) (by simp [go_sem, Region.wanted, yielded]) ?_)
              go_ret
              exact ⟨1, rfl, ⟨fun h => by omega, fun h => by unfold okN at h; omega⟩, HN.out⟩
            · have HT := Lib.hid ht
              clear ht
              go_wp2_with (refine x_value (exec_idx5 (idx5_1 _ n1 n2 n3 n4 n5) rfl rfl rfl) (by simp [go_sem, Region.wanted, yielded]) ?_)
              go_roundw
              case rel => exact ⟨2, by go_num, by omega, (by
                intro u hu
                by_cases hu2 : u < 1
                · exact HT.out u hu2
                · obtain rfl : u = 1 := by omega
                  show okN n2
                  unfold okN
                  omega), trivial⟩
              case measure => simp [intOf]
        · by_cases hneg : n3 < 0
          · go_wp2_with (refine x_value (exec_idx5 (idx5_2 _ n1 n2 n3 n4 n5) rfl rfl rfl) (by simp [go_sem, Region.wanted, yielded]) ?_)
            go_ret
            exact ⟨1, rfl, ⟨fun h => by omega, fun h => by unfold okN at h; omega⟩, HN.out⟩
          · by_cases hbig : 1099511627776 < n3
            · go_wp2_with (refine x_value (exec_idx5 (idx5_2 _ n1 n2 n3 n4 n5) rfl rfl rfl) (by simp [go_sem, Region.wanted, yielded]) ?_)
              go_ret
              exact ⟨1, rfl, ⟨fun h => by omega, fun h => by unfold okN at h; omega⟩, HN.out⟩
            · have HT := Lib.hid ht
              clear ht
              go_wp2_with (refine x_value (exec_idx5 (idx5_2 _ n1 n2 n3 n4 n5) rfl rfl rfl) (by simp [go_sem, Region.wanted, yielded]) ?_)
              go_roundw
              case rel => exact ⟨3, by go_num, by omega, (by
                intro u hu
                by_cases hu2 : u < 2
                · exact HT.out u hu2
                · obtain rfl : u = 2 := by omega
                  show okN n3
                  unfold okN
                  omega), trivial⟩
              case measure => simp [intOf]
        · by_cases hneg : n4 < 0
          · go_wp2_with (refine x_value (exec_idx5 (idx5_3 _ n1 n2 n3 n4 n5) rfl rfl rfl) (by simp [go_sem, Region.wanted, yielded]) ?_)
            go_ret
            exact ⟨1, rfl, ⟨fun h => by omega, fun h => by unfold okN at h; omega⟩, HN.out⟩
          · by_cases hbig : 1099511627776 < n4
            · go_wp2_with (refine x_value (exec_idx5 (idx5_3 _ n1 n2 n3 n4 n5) rfl rfl rfl) (by simp [go_sem, Region.wanted, yielded]) ?_)
              go_ret
              exact ⟨1, rfl, ⟨fun h => by omega, fun h => by unfold okN at h; omega⟩, HN.out⟩
            · have HT := Lib.hid ht
              clear ht
              go_wp2_with (refine x_value (exec_idx5 (idx5_3 _ n1 n2 n3 n4 n5) rfl rfl rfl) (by simp [go_sem, Region.wanted, yielded]) ?_)
              go_roundw
              case rel => exact ⟨4, by go_num, by omega, (by
                intro u hu
                by_cases hu2 : u < 3
                · exact HT.out u hu2
                · obtain rfl : u = 3 := by omega
                  show okN n4
                  unfold okN
                  omega), trivial⟩
              case measure => simp [intOf]
        · by_cases hneg : n5 < 0
          · go_wp2_with (refine x_value (exec_idx5 (idx5_4 _ n1 n2 n3 n4 n5) rfl rfl rfl) (by simp [go_sem, Region.wanted, yielded]) ?_)
            go_ret
            exact ⟨1, rfl, ⟨fun h => by omega, fun h => by unfold okN at h; omega⟩, HN.out⟩
          · by_cases hbig : 1099511627776 < n5
            · go_wp2_with (refine x_value (exec_idx5 (idx5_4 _ n1 n2 n3 n4 n5) rfl rfl rfl) (by simp [go_sem, Region.wanted, yielded]) ?_)
              go_ret
              exact ⟨1, rfl, ⟨fun h => by omega, fun h => by unfold okN at h; omega⟩, HN.out⟩
            · have HT := Lib.hid ht
              clear ht
              go_wp2_with (refine x_value (exec_idx5 (idx5_4 _ n1 n2 n3 n4 n5) rfl rfl rfl) (by simp [go_sem, Region.wanted, yielded]) ?_)
              go_roundw
              case rel => exact ⟨5, by go_num, by omega, (by
                intro u hu
                by_cases hu2 : u < 4
                · exact HT.out u hu2
                · obtain rfl : u = 4 := by omega
                  show okN n5
                  unfold okN
                  omega), trivial⟩
              case measure => simp [intOf]
        · have h1 : okN n1 := ht 0 (by omega)
          have h2 : okN n2 := ht 1 (by omega)
          have h3 : okN n3 := ht 2 (by omega)
          have h4 : okN n4 := ht 3 (by omega)
          have h5 : okN n5 := ht 4 (by omega)
          have HH := Lib.hid (show (1 ≤ k ∧ k ≤ 31) ∧ okN n1 ∧ okN n2 ∧ okN n3 ∧ okN n4 ∧ okN n5 from ⟨⟨by omega, by omega⟩, h1, h2, h3, h4, h5⟩)
          have hni : (ni : Int) ≤ 64 := by omega
          have hnd : (nd : Int) ≤ 131072 := by omega
          clear ht h1 h2 h3 h4 h5
          go_wp2_with fail
          go_loopw [57] (fun i W => i = .int .i64 0 ∧ New w W) (fun _ _ => 0)
          case atStart => exact ⟨rfl, HN.out⟩
          case round =>
            obtain ⟨rfl, hN⟩ := hrel
            go_wp2_with fail
            go_ret
            exact ⟨0, rfl, ⟨fun _ => HH.out, fun _ => rfl⟩, hN⟩
end Go.Proofs.Ytefalfalapnllaa
