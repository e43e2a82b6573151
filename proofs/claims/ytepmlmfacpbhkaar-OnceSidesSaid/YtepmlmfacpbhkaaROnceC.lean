/- The contract of once's join: the sum of all hidden secrets. -/
import Derived.Test.YtepmlmfacpbhkaaROnceB
import Derived.Test.YtepmlmfacpbhkaaRLast
namespace Go.Proofs.YtepmlmfacpbhkaaR
open Go.RowKit Go.Shelf
set_option linter.unusedVariables false

theorem rd_off {w : World} {g : Nat} {t : TypeId} {X : List UInt8} (h : Blk w g t (ida X)) (off n : Nat) (hn : off + n ≤ X.length) : Rd w (some ⟨g, off, none⟩) (((X.drop off).take n).map bv) := fun h0 =>
  ⟨g, off, rfl, h.lt, fun j hj => by
    simp at hj
    rw [h.cell, ida, List.getElem?_toArray, List.getElem?_map, List.getElem_map, List.getElem_take, List.getElem_drop, List.getElem?_eq_getElem (by omega)]
    rfl⟩
theorem at_off {w : World} {g : Nat} {t : TypeId} {X : List UInt8} (h : Blk w g t (ida X)) (off n : Nat) (hn : off + n ≤ X.length) : At w g off (ida ((X.drop off).take n)) := fun j hj => by
  have hj' : j < n := by
    rw [ida_size, List.length_take] at hj
    omega
  rw [h.cell]
  simp only [ida, List.getElem?_toArray, List.getElem?_map, List.getElem_toArray, List.getElem_map, List.getElem_take, List.getElem_drop]
  rw [List.getElem?_eq_getElem (by omega)]
  rfl
theorem infoP : (Try.prog.info? 74).map (fun i => (i.zero, i.size, i.bytes)) = some (some (.agg (ida z64b)), 64, 64) := by kernel_rfl
theorem underP : Try.prog.underlying 74 = some (.array 2 32) := by kernel_rfl
/-- an append whose run is known, of a drawn region -/
theorem exec_app {P : Program} {o : Oper} {ev : Operand → Value} {w w' : World} {s x : Operand} {t : TypeId} {v1 v2 v : Value} (ho : o.op = .call { callee := .builtin .append, args := #[s, x], argTypes := #[t, t] }) (hs : ev s = v1) (hx : ev x = v2)
    (hr : (Builtin.append_ #[t, t] o.type #[v1, v2]).run P w = .ok v w') : (execOp ev o).run P w = .ok (.value v) w' := by
  unfold execOp
  simp only [ho, resolve, invoke, builtin, Sem.run_bind, Sem.run_pure, Result.andThen_ok, List.map_toArray, List.map_cons, List.map_nil, hs, hx, hr]
/-- where join's region stands -/
def JoinAt (w0 w1 w2 : World) (L : Array Bool) (W' : World) : Prop := (L.getD 6 false = true → L.getD 3 false = true) ∧ W' = (if L.getD 6 false then w2 else if L.getD 3 false then w1 else w0)
theorem JoinAt.list {w0 w1 w2 : World} {L : Array Bool} {W' : World} (h : JoinAt w0 w1 w2 L W') (i : Nat) (h1 : i ≠ 3) (h2 : i ≠ 6) : JoinAt w0 w1 w2 (L.setIfInBounds i true) W' := by
  unfold JoinAt at h ⊢
  rw [getD_set_ne false h1, getD_set_ne false h2]
  exact h
/-- the bytes that are gathered -/
structure GathAt (wA W : World) (A : Option Addr) (c : Nat) (bs : List UInt8) : Prop where
  row : Row W 5 A c (bs.map bv)
  new : ∀ k, ab A = some k → wA.heap.size ≤ k
  fr : New wA W
theorem GathAt.more {wA W : World} {A : Option Addr} {c : Nat} {bs : List UInt8} (h : GathAt wA W A c bs) {A' : Option Addr} {c' : Nat} {ys : List UInt8} (hy : Rd W A' (ys.map bv)) (hl : bs.length + ys.length ≤ 1000000) :
    ∃ A2 c2 w', (Builtin.append_ #[66, 66] 66 #[.slice A bs.length c, .slice A' ys.length c']).run Try.prog W = .ok (.slice A2 (bs ++ ys).length c2) w' ∧ GathAt wA w' A2 c2 (bs ++ ys) ∧ Fr (fun k => some k = ab A) W w' := by
  obtain ⟨ie, hie, he0, he1, he2⟩ := info_parts (show (Try.prog.info? 5).map (fun i => (i.zero, i.size, i.bytes)) = some (some (.int .u8 0), 1, 1) by kernel_rfl)
  obtain ⟨A2, c2, w', hrun, hrow, hfr, hA2⟩ := run_append_rd (P := Try.prog) W 66 66 5 ie _ 1 Try.underlying66 hie he0 he1 he2 rfl A c (bs.map bv) h.row A' c' (ys.map bv) hy
    (fun u hu => by obtain ⟨b, _, rfl⟩ := List.mem_map.1 hu; rfl) (by simp [maxLen]; omega) (by simp; omega)
  refine ⟨A2, c2, w', by simpa using hrun, ⟨by rw [List.map_append]; exact hrow, fun k hk => ?_, h.fr.trans hfr (fun k hk => .inr (h.new k hk.symm))⟩, hfr⟩
  rcases hA2 k hk with h1 | h1
  · exact h.new k h1
  · exact Nat.le_trans h.fr.size h1
theorem take_two (H : List UInt8) (k : Nat) (hk : k * 64 + 64 ≤ H.length) : H.take ((k + 1) * 64) = (H.take (k * 64) ++ (H.drop (k * 64)).take 32) ++ (H.drop (k * 64 + 32)).take 32 := by
  rw [show (k + 1) * 64 = k * 64 + 32 + 32 by omega, List.take_add, List.take_add]
theorem drop_take_take (H : List UInt8) (a : Nat) : (((H.drop a).take 64).drop 0).take 32 = (H.drop a).take 32 := by
  rw [List.drop_zero, List.take_take]
  rfl
theorem drop_take_drop (H : List UInt8) (a : Nat) : (((H.drop a).take 64).drop 32).take 32 = (H.drop (a + 32)).take 32 := by
  rw [List.drop_take, List.drop_drop, List.take_take]
  rfl
set_option maxHeartbeats 2000000 in
set_option maxRecDepth 20000 in
theorem join_any (w : World) (hb : Nat) (H : List UInt8) (hB : Blk w hb 96 (ida H)) (hH : H.length = 4096) :
    Calls Try.prog 47 #[.pointer (some ⟨hb, 0, none⟩)] w fun e w' => e = .returned (.agg (ida (Once.sumFor Once.pPublic [H]))) ∧ New w w' := by
  obtain ⟨ii, hii, hz0, hz1, hz2⟩ := info_parts infoID
  obtain ⟨ip, hip, hp0, hp1, hp2⟩ := info_parts infoP
  have HH := Lib.hid hH
  have HS := Lib.hid (Once.sumFor_length Once.pPublic [H])
  have HIS := Lib.hid (show 32 = (ida (Once.sumFor Once.pPublic [H])).size by rw [ida_size]; exact HS.out.symm)
  have HZS := Lib.hid (show (ida z32).size = (ida (Once.sumFor Once.pPublic [H])).size by rw [ida_size, ida_size]; exact HS.out.symm)
  clear hH
  go_enter Try.func47, Try.ntmps47
  go_wp2_with (refine x_value (x_alloc (T := 32) rfl hii hz0) (by simp [go_sem, Region.wanted]) ?_)
  have hG0 : GathAt (w.alloc (.cells (ida z32) 32)) (w.alloc (.cells (ida z32) 32)) none 0 (H.take (0 * 64)) := ⟨Row.nil _ _, fun k hk => by simp [ab] at hk, Fr.refl _ _⟩
  have HBA := Lib.hid (hB.alloc (.cells (ida z32) 32))
  have HRA := Lib.hid (Blk.new w 32 (ida z32))
  have HNA := Lib.hid (show New w (w.alloc (.cells (ida z32) 32)) from Fr.alloc _ w _)
  clear hB
  generalize w.alloc (.cells (ida z32) 32) = wA at *
  go_loopw [3, 8] (fun s i V => ∃ (k : Nat) (A : Option Addr) (c : Nat), s = .slice A (k * 64) c ∧ i = .int .i64 k ∧ k ≤ 64 ∧ GathAt wA V A c (H.take (k * 64))) (fun _ i _ => 64 - (intOf i).toNat)
  case atStart => exact ⟨0, none, 0, rfl, rfl, by omega, hG0⟩
  case round =>
    obtain ⟨k, A, c, rfl, rfl, hk, hG⟩ := hrel
    clear hG0
    by_cases hlt : k < 64
    · have hlt' : (k : Int) < 64 := by omega
      have hBr := HBA.out.fr hG.fr id
      have hAt := at_off hBr (k * 64) 64 (by rw [HH.out]; omega)
      have hsz : (64 : Nat) = (ida ((H.drop (k * 64)).take 64)).size := by rw [ida_size, List.length_take, List.length_drop, HH.out]; omega
      have hzz : (ida z64b).size = (ida ((H.drop (k * 64)).take 64)).size := by rw [← hsz]; rfl
      have hpl : ((H.drop (k * 64)).take 64).length = 64 := by rw [← ida_size]; exact hsz.symm
      have hG1 : GathAt wA (wr.alloc (.cells (ida ((H.drop (k * 64)).take 64)) 74)) A c (H.take (k * 64)) := ⟨hG.row.fr (Fr.alloc (fun _ => False) wr _) (fun _ _ => id), hG.new, hG.fr.then_alloc _⟩
      have hB1 := Blk.new wr 74 (ida ((H.drop (k * 64)).take 64))
      have hA64 : ∀ b, ab A = some b → b < wr.heap.size := fun b hb => hG.row.lt hb
      have HSZ := Lib.hid hsz
      have HZZ := Lib.hid hzz
      have HPL := Lib.hid hpl
      have HG1 := Lib.hid hG1
      have HB1 := Lib.hid hB1
      have HA64 := Lib.hid hA64
      clear hsz hzz hpl hG1 hB1 hA64 hBr hG
      go_wp2_with (first
        | (refine x_value (exec_load (T := 74) (X := ida ((H.drop (k * 64)).take 64)) (g := hb) (off := k * 64) rfl rfl underP rfl hip (hp1.trans HSZ.out) hAt) (by simp [go_sem, Region.wanted]) ?_)
        | (refine x_value (x_alloc (T := 74) rfl hip hp0) (by simp [go_sem, Region.wanted]) ?_)
        | (refine x_skip (exec_store_new (T := 74) (X := ida ((H.drop (k * 64)).take 64)) (Z := ida z64b) rfl rfl rfl rfl hip (hp1.trans HSZ.out) (ida_one _) HZZ.out) rfl ?_))
      have hG1 := HG1.out
      have hB1 := HB1.out
      clear HG1 HB1
      generalize wr.alloc (.cells (ida ((H.drop (k * 64)).take 64)) 74) = W1 at *
      have hG2 : GathAt wA W1.drew A c (H.take (k * 64)) := ⟨hG1.row, hG1.new, hG1.fr.then_drew⟩
      have r0 := rd_off (show Blk W1.drew wr.heap.size 74 (ida ((H.drop (k * 64)).take 64)) from hB1) 0 32 (by rw [HPL.out]; omega)
      have r1 := rd_off (show Blk W1.drew wr.heap.size 74 (ida ((H.drop (k * 64)).take 64)) from hB1) 32 32 (by rw [HPL.out]; omega)
      rw [drop_take_take] at r0
      rw [drop_take_drop] at r1
      have hl0 : ((H.drop (k * 64)).take 32).length = 32 := by rw [List.length_take, List.length_drop, HH.out]; omega
      have hl1 : ((H.drop (k * 64 + 32)).take 32).length = 32 := by rw [List.length_take, List.length_drop, HH.out]; omega
      have hlk : (H.take (k * 64)).length = k * 64 := by rw [List.length_take, HH.out]; omega
      obtain ⟨A2, c2, w2, hrun2, hG3, hf2⟩ := hG2.more (c' := 32) r0 (by rw [hl0, hlk]; omega)
      have r1' := r1.fr hf2 (fun b hb e => by
        simp [ab] at hb
        have := HA64.out b e.symm
        omega)
      obtain ⟨A3, c3, w3, hrun3, hG4, hf3⟩ := hG3.more (c' := 32) r1' (by rw [List.length_append, hl0, hl1, hlk]; omega)
      rw [← take_two H k (by rw [HH.out]; omega)] at hG4
      rw [List.length_append, hl0, hlk] at hrun2 hrun3
      rw [hl1, List.length_append, List.length_append, hl0, hlk, hl1] at hrun3
      have HG4 := Lib.hid hG4
      clear hG1 hG2 hG3 hG4 hB1 r0 r1 r1' hf2 hf3 hl0 hl1 hlk hAt
      conv => arg 3; simp [Act.put, go_sem]
      refine wp_region_lastK (by kernel_rfl) 7 (by kernel_rfl) [.slice A (k * 64) c, .pointer (some ⟨wr.heap.size, 0, none⟩), .slice (some ⟨wr.heap.size, 0, none⟩) 32 32, .slice A2 (k * 64 + 32) c2, .pointer (some ⟨wr.heap.size, 32, none⟩), .slice (some ⟨wr.heap.size, 32, none⟩) 32 32, .slice A3 (k * 64 + 32 + 32) c3]
        rfl (by kernel_rfl) (JoinAt W1.drew w2 w3) _ (by simp [putAll, Act.put]; rfl) ⟨fun h => by simp at h, by simp⟩ ?hops ?last
      case hops =>
        refine ⟨?_, ?_, ?_, ?_, ?_, ?_, ?_, trivial⟩
        all_goals
          rintro L W' hs hd hn HS
          refine held_plain rfl ?_
        · have H2 := HS.list 0 (by decide) (by decide)
          unfold opHeld
          go_simp
        · have H2 := HS.list 1 (by decide) (by decide)
          unfold opHeld
          go_simp
        · have H2 := HS.list 2 (by decide) (by decide)
          unfold opHeld
          go_simp
        · have h3 := getD_no (i := 3) (by rw [hs]; decide) hn
          have h6 : L.getD 6 false = false := by
            cases h : L.getD 6 false with
            | false => rfl
            | true => have := HS.1 h; rw [h3] at this; cases this
          obtain ⟨_, rfl⟩ : True ∧ W' = W1.drew := ⟨trivial, by have := HS.2; rw [h6, h3] at this; exact this⟩
          refine held_value (exec_app rfl rfl rfl hrun2) ⟨fun _ => getD_set_self (by rw [hs]; decide), ?_⟩
          rw [getD_set_ne false (by decide), h6, getD_set_self (by rw [hs]; decide)]
          rfl
        · have H2 := HS.list 4 (by decide) (by decide)
          unfold opHeld
          go_simp
        · have H2 := HS.list 5 (by decide) (by decide)
          unfold opHeld
          go_simp
        · have h3 : L.getD 3 false = true := hd ⟨3, .data⟩ (by simp) rfl
          have h6 := getD_no (i := 6) (by rw [hs]; decide) hn
          obtain ⟨_, rfl⟩ : True ∧ W' = w2 := ⟨trivial, by have := HS.2; rw [h6, h3] at this; exact this⟩
          refine held_value (exec_app rfl rfl rfl hrun3) ⟨fun _ => by rw [getD_set_ne false (by decide)]; exact h3, ?_⟩
          rw [getD_set_self (by rw [hs]; decide)]
          rfl
      case last =>
        rintro o ho L W' hs hal HS
        have h6 : L.getD 6 false = true := by
          have := hal 6 (by decide)
          rw [Array.getD_eq_getD_getElem?] at this ⊢
          rw [Array.getElem?_eq_getElem (by rw [hs]; decide)] at this ⊢
          exact this
        obtain ⟨_, rfl⟩ : True ∧ W' = w3 := ⟨trivial, by have := HS.2; rw [h6] at this; exact this⟩
        clear HS hal hs h6 hrun2 hrun3
        simp at ho
        subst ho
        unfold opGhost
        go_simp
        go_wp2_with fail
        refine ⟨⟨k + 1, A3, c3, by rw [show (k + 1) * 64 = k * 64 + 32 + 32 by omega], by go_num, by omega, HG4.out⟩, ?_⟩
        change 64 - (intOf (.int .i64 ((k : Int) + 1))).toNat < 64 - (intOf (.int .i64 k)).toNat
        simp [intOf]
        omega
    · obtain rfl : k = 64 := by omega
      clear hlt hk
      have hlk : (H.take (64 * 64)).length = 4096 := by rw [List.length_take, HH.out]; rfl
      have htk : H.take (64 * 64) = H := List.take_of_length_le (by rw [HH.out]; exact Nat.le_refl _)
      rw [htk] at hG
      have hP : PartsAt (wr.alloc (.cells #[.slice A 4096 c] 66)) (some ⟨wr.heap.size, 0, none⟩) [⟨A, c, H⟩] := by
        refine ⟨?_, fun p hp => by simp at hp; subst hp; exact (hG.row.rd).alloc _⟩
        have e : ([⟨A, c, H⟩] : List Part).map Part.v = [.slice A 4096 c] := by simp [Part.v, HH.out]
        rw [e]
        exact lit_rd wr _ _
      have hfor := sumFor_any _ Once.pPublic (some ⟨wr.heap.size, 0, none⟩) 1 _ hP (by simp [Once.forB, Once.len4, Once.pPublic, HH.out]) (by simp)
      have hid : Once.sumFor Once.pPublic (([⟨A, c, H⟩] : List Part).map (·.b)) = Once.sumFor Once.pPublic [H] := rfl
      rw [hid] at hfor
      have hN := (HNA.out.trans hG.fr fun _ h => h.elim).then_alloc (.cells #[.slice A 4096 c] 66)
      have hR := (HRA.out.fr hG.fr id).alloc (.cells #[.slice A 4096 c] 66)
      clear hG hP hid hlk htk
      have HF := Lib.hid hfor
      have HN := Lib.hid hN
      have HR := Lib.hid hR
      clear hfor hN hR
      generalize hS : Once.sumFor Once.pPublic [H] = S at *
      have HE := Lib.hid hS
      clear hS
      go_wp2_with fail
      refine Calls.mono (show Calls Try.prog 53 #[.string ⟨Once.pPublic.toArray⟩, .slice (some ⟨wr.heap.size, 0, none⟩) 1 1] (wr.alloc (.cells #[.slice A 4096 c] 66)) _ from HF.out) ?_
      rintro e w4 ⟨rfl, hN4⟩
      have hr4 := HR.out.fr hN4 id
      go_wp2_with (refine x_skip (exec_store_all (T := 32) (X := ida S) (g := w.heap.size) (cs := ida z32) rfl rfl rfl hii (hz1.trans HIS.out) (ida_one _) hr4 HZS.out) rfl ?_)
      refine bodyPost_ret (x_results rfl HS.out rfl (hr4.setRow _)) rfl ⟨by rw [HE.out], ?_⟩
      exact (HN.out.trans hN4 fun _ h => h.elim).trans ((Fr.refl (fun k => k = w.heap.size) w4).setRow (g := w.heap.size) rfl _) (fun j hj => .inr (by omega))
end Go.Proofs.YtepmlmfacpbhkaaR
