/- The contract of sum's For: the sum of parts for a purpose, each with its length ahead. -/
import Derived.Test.YtefalfalapnllaaOf
import Derived.Test.YtefalfalapnllaaOnceP
namespace Go.Proofs.Ytefalfalapnllaa
open Go.RowKit Go.Shelf
set_option linter.unusedVariables false

theorem conv_str (w : World) (pu : List UInt8) : ∃ c w', (convert 9 22 (.string ⟨pu.toArray⟩)).run Try.prog w = .ok (.slice (some ⟨w.heap.size, 0, none⟩) pu.length c) w' ∧ New w w' ∧ Rd w' (some ⟨w.heap.size, 0, none⟩) (pu.map bv) ∧ w'.heap.size = w.heap.size + 1 := by
  refine ⟨_, _, Lib.run_convert_string_bytes w 9 22 5 ⟨pu.toArray⟩ Try.underlying9 Try.underlying22 Try.underlying5, ⟨?_, ?_, ?_, ?_, ?_⟩, ?_, Lib.bytesWorld_size _ _ _⟩
  · rfl
  · rfl
  · rfl
  · rw [Lib.bytesWorld_size]; omega
  · intro k hk _
    exact Lib.bytesWorld_at_old _ _ _ _ hk
  · intro h0
    refine ⟨w.heap.size, 0, rfl, by rw [Lib.bytesWorld_size]; omega, fun j hj => ?_⟩
    simp at hj
    rw [Nat.zero_add, Lib.bytesWorld_cell _ _ _ _ (by simpa [ByteArray.size] using hj), List.getElem_map, List.getD_eq_getElem?_getD]
    simp [bv, hj]
/-- a row of this call's own, that holds parts -/
structure AllAt (w W : World) (A : Option Addr) (c : Nat) (qs : List Part) : Prop where
  row : Row W 22 A c (qs.map Part.v)
  each : ∀ q ∈ qs, Rd W q.a (q.b.map bv)
  apart : ∀ q ∈ qs, 0 < q.b.length → ∀ k, ab q.a = some k → ab A ≠ some k
  new : ∀ k, ab A = some k → w.heap.size ≤ k
  fr : New w W
theorem Part.v_one (p : Part) : p.v.oneCell' = true := rfl
theorem AllAt.parts {w W : World} {A : Option Addr} {c : Nat} {qs : List Part} (h : AllAt w W A c qs) : PartsAt W A qs := ⟨h.row.rd, h.each⟩
/-- the length's four bytes as the walk has them -/
def l4 (n : Nat) : Array Value := #[.int .u8 ((n : Int) / 16777216 % 256), .int .u8 ((n : Int) / 65536 % 256), .int .u8 ((n : Int) / 256 % 256), .int .u8 ((n : Int) % 256)]
theorem l4_eq (n : Nat) : l4 n = ((Once.len4 n).map bv).toArray := by
  simp [l4, Once.len4, bv]
theorem lit_rd (w : World) (xs : List Value) (t : TypeId) : Rd (w.alloc (.cells xs.toArray t)) (some ⟨w.heap.size, 0, none⟩) xs := Rd.lit w xs t (0, 0)
/-- a part more, with its length ahead -/
theorem AllAt.more {w W : World} {A : Option Addr} {c : Nat} {qs : List Part} (h : AllAt w W A c qs) {p : Part} (hp : Rd w p.a (p.b.map bv)) (hq : qs.length ≤ 3000) :
    ∃ A2 c2 w', (Builtin.append_ #[62, 62] 62 #[.slice A qs.length c, .slice (some ⟨W.heap.size + 1, 0, none⟩) 2 2]).run Try.prog
        ((W.alloc (.cells (l4 p.b.length) 5)).alloc (.cells #[.slice (some ⟨W.heap.size, 0, none⟩) 4 4, p.v] 22)) = .ok (.slice A2 (qs ++ [⟨some ⟨W.heap.size, 0, none⟩, 4, Once.len4 p.b.length⟩, p]).length c2) w' ∧
      AllAt w w' A2 c2 (qs ++ [⟨some ⟨W.heap.size, 0, none⟩, 4, Once.len4 p.b.length⟩, p]) := by
  obtain ⟨ie, hie, he0, he1, he2⟩ := info_parts (show (Try.prog.info? 22).map (fun i => (i.zero, i.size, i.bytes)) = some (some (.slice none 0 0), 1, 24) by kernel_rfl)
  have f1 : New W (W.alloc (.cells (l4 p.b.length) 5)) := Fr.alloc _ _ _
  have f2 : New W ((W.alloc (.cells (l4 p.b.length) 5)).alloc (.cells #[.slice (some ⟨W.heap.size, 0, none⟩) 4 4, p.v] 22)) := f1.then_alloc _
  have r4 : Rd ((W.alloc (.cells (l4 p.b.length) 5)).alloc (.cells #[.slice (some ⟨W.heap.size, 0, none⟩) 4 4, p.v] 22)) (some ⟨W.heap.size, 0, none⟩) ((Once.len4 p.b.length).map bv) := by
    have := lit_rd W ((Once.len4 p.b.length).map bv) 5
    rw [← l4_eq] at this
    exact this.alloc _
  have r2 : Rd ((W.alloc (.cells (l4 p.b.length) 5)).alloc (.cells #[.slice (some ⟨W.heap.size, 0, none⟩) 4 4, p.v] 22)) (some ⟨W.heap.size + 1, 0, none⟩) [.slice (some ⟨W.heap.size, 0, none⟩) 4 4, p.v] := by
    have := lit_rd (W.alloc (.cells (l4 p.b.length) 5)) [.slice (some ⟨W.heap.size, 0, none⟩) 4 4, p.v] 22
    rwa [World.size_alloc] at this
  have hs2 : ((W.alloc (.cells (l4 p.b.length) 5)).alloc (.cells #[.slice (some ⟨W.heap.size, 0, none⟩) 4 4, p.v] 22)).heap.size = W.heap.size + 2 := by simp
  generalize ((W.alloc (.cells (l4 p.b.length) 5)).alloc (.cells #[.slice (some ⟨W.heap.size, 0, none⟩) 4 4, p.v] 22)) = W2 at *
  obtain ⟨A2, c2, w', hrun, hrow, hfr, hA2⟩ := run_append_rd (P := Try.prog) W2 62 62 22 ie _ 24 Try.underlying62 hie he0 he1 he2 rfl A c (qs.map Part.v)
    (h.row.fr f2 (fun _ _ => id)) (some ⟨W.heap.size + 1, 0, none⟩) 2 _ r2 (fun u hu => by simp at hu; rcases hu with rfl | rfl <;> rfl)
    (by simp [maxLen]; omega) (by simp; omega)
  have hAlt : ∀ k, ab A = some k → k < W.heap.size := fun k hk => h.row.lt hk
  have hwW : w.heap.size ≤ W.heap.size := h.fr.size
  refine ⟨A2, c2, w', ?_, ?_, ?_, ?_, ?_, ?_⟩
  · rw [List.length_append]
    simpa using hrun
  · have e : (qs ++ [⟨some ⟨W.heap.size, 0, none⟩, 4, Once.len4 p.b.length⟩, p]).map Part.v = qs.map Part.v ++ [.slice (some ⟨W.heap.size, 0, none⟩) 4 4, p.v] := by
      rw [List.map_append]
      rfl
    rw [e]
    exact hrow
  · intro q hq
    rcases List.mem_append.1 hq with hq | hq
    · exact ((h.each q hq).fr f2 (fun _ _ => id)).fr' hfr (fun h0 k hk e => h.apart q hq (by simpa using h0) k hk e.symm)
    · simp at hq
      rcases hq with rfl | rfl
      · exact r4.fr' hfr (fun h0 k hk e => by
          simp [ab] at hk
          have := hAlt k e.symm
          omega)
      · exact ((hp.fr h.fr (fun _ _ => id)).fr f2 (fun _ _ => id)).fr' hfr (fun h0 k hk e => by
          have := hp.lt (by simpa using h0) k hk
          have := h.new k e.symm
          omega)
  · intro q hq h0 k hk e
    rcases List.mem_append.1 hq with hq | hq
    · rcases hA2 k e with h1 | h1
      · exact h.apart q hq h0 k hk h1
      · have := (h.each q hq).lt (by simpa using h0) k hk
        omega
    · simp at hq
      rcases hq with rfl | rfl
      · simp [ab] at hk
        rcases hA2 k e with h1 | h1
        · have := hAlt k h1
          omega
        · omega
      · have hl := hp.lt (by simpa using h0) k hk
        rcases hA2 k e with h1 | h1
        · have := h.new k h1
          omega
        · omega
  · intro k hk
    rcases hA2 k hk with h1 | h1
    · exact h.new k h1
    · omega
  · exact ((h.fr.trans f2 (fun _ h => h.elim)).trans hfr (fun k hk => .inr (h.new k hk.symm)))
def forMid (ps : List Part) : List UInt8 := ps.flatMap fun p => Once.len4 p.b.length ++ p.b
theorem forMid_succ (ps : List Part) (k : Nat) (h : k < ps.length) : forMid (ps.take (k + 1)) = forMid (ps.take k) ++ (Once.len4 ps[k].b.length ++ ps[k].b) := by
  unfold forMid
  rw [List.take_succ_eq_append_getElem h, List.flatMap_append]
  simp
theorem forMid_forB (pu : List UInt8) (ps : List Part) : Once.forB pu (ps.map (·.b)) = pu ++ 0 :: forMid ps := by
  unfold Once.forB forMid
  rw [List.flatMap_map]
theorem forMid_len (ps : List Part) (k : Nat) (h : k < ps.length) : ps[k].b.length ≤ (forMid ps).length := by
  have e : forMid ps = forMid (ps.take (k + 1)) ++ forMid (ps.drop (k + 1)) := by
    unfold forMid
    rw [← List.flatMap_append, List.take_append_drop]
  rw [e, forMid_succ ps k h]
  simp
  omega
set_option maxHeartbeats 2000000 in
set_option maxRecDepth 20000 in
theorem sumFor_any (w : World) (pu : List UInt8) (A : Option Addr) (cap : Nat) (ps : List Part) (hP : PartsAt w A ps) (hlen : (Once.forB pu (ps.map (·.b))).length < 1152921504606846976) (hps : ps.length ≤ 1000) :
    Calls Try.prog 45 #[.string ⟨pu.toArray⟩, .slice A ps.length cap] w fun e w' => e = .returned (.agg (ida (Once.sumFor pu (ps.map (·.b))))) ∧ New w w' := by
  go_enter Try.func45, Try.ntmps45
  obtain ⟨ii, hii, hz0, hz1, hz2⟩ := info_parts infoID
  have HSUM := Lib.hid (show Once.sumFor pu (ps.map (·.b)) = Sha.sum (pu ++ 0 :: forMid ps) by unfold Once.sumFor; rw [forMid_forB])
  rw [forMid_forB] at hlen
  have HLEN := Lib.hid hlen
  have HP := Lib.hid hP
  obtain ⟨c1, w1, hc1, hN1, hR1, hs1⟩ := conv_str (w.alloc (.cells (ida z32) 60)) pu
  rw [World.size_alloc] at hc1 hR1 hs1
  have HNA := Lib.hid (show New w (w.alloc (.cells (ida z32) 60)) from Fr.alloc _ w _)
  have HBA := Lib.hid (Blk.new w 60 (ida z32))
  have HSA := Lib.hid (show (w.alloc (.cells (ida z32) 60)).heap.size = w.heap.size + 1 by simp)
  have HA0 : AllAt (w.alloc (.cells (ida z32) 60)) ((w1.alloc (.cells #[.int .u8 0] 5)).alloc (.cells #[.slice (some ⟨w.heap.size + 1, 0, none⟩) pu.length c1, .slice (some ⟨w1.heap.size, 0, none⟩) 1 1] 22)) (some ⟨w1.heap.size + 1, 0, none⟩) 2
      [⟨some ⟨w.heap.size + 1, 0, none⟩, c1, pu⟩, ⟨some ⟨w1.heap.size, 0, none⟩, 1, [0]⟩] := by
    have f2 : New w1 ((w1.alloc (.cells #[.int .u8 0] 5)).alloc (.cells #[.slice (some ⟨w.heap.size + 1, 0, none⟩) pu.length c1, .slice (some ⟨w1.heap.size, 0, none⟩) 1 1] 22)) := (Fr.alloc _ w1 _).then_alloc _
    refine ⟨?_, ?_, ?_, ?_, hN1.trans f2 fun _ h => h.elim⟩
    · have := Blk.new (w1.alloc (.cells #[.int .u8 0] 5)) 22 #[.slice (some ⟨w.heap.size + 1, 0, none⟩) pu.length c1, .slice (some ⟨w1.heap.size, 0, none⟩) 1 1]
      rw [World.size_alloc] at this
      exact Row.mk this (by simp) (by simp [maxLen]) rfl
    · intro q hq
      simp at hq
      rcases hq with rfl | rfl
      · exact hR1.fr f2 (fun _ _ => id)
      · exact (lit_rd w1 [.int .u8 0] 5).alloc _
    · intro q hq h0 k hk e
      simp at hq
      rcases hq with rfl | rfl
      · simp [ab] at hk e
        omega
      · simp [ab] at hk e
        omega
    · intro k hk
      simp [ab] at hk
      rw [HSA.out]
      omega
  have HA1 := Lib.hid HA0
  have HP2 := Lib.hid (hP.fr HNA.out ⟨fun _ _ _ => id, fun _ _ _ _ _ => id⟩)
  clear hlen hP hN1 hR1 hs1 HA0 HP
  go_wp2_with (first
    | (refine x_value (x_alloc (T := 60) rfl hii hz0) (by simp [go_sem, Region.wanted, yielded]) ?_))
  have HA0 := HA1.out
  generalize (w1.alloc (.cells #[.int .u8 0] 5)).alloc (.cells #[.slice (some ⟨w.heap.size + 1, 0, none⟩) pu.length c1, .slice (some ⟨w1.heap.size, 0, none⟩) 1 1] 22) = W0 at *
  clear HA1 hc1
  generalize w.alloc (.cells (ida z32) 60) = wA at *
  go_loopw [5, 15] (fun s i W => ∃ (k : Nat) (A2 : Option Addr) (c2 : Nat) (qs : List Part), s = .slice A2 qs.length c2 ∧ i = .int .i64 k ∧ k ≤ ps.length ∧ AllAt wA W A2 c2 qs ∧ Hid (qs.length = 2 + 2 * k ∧ allB qs = pu ++ 0 :: forMid (ps.take k))) (fun _ i _ => ps.length - (intOf i).toNat)
  case atStart => exact ⟨0, _, _, _, rfl, rfl, by omega, HA0, Lib.hid ⟨rfl, by simp [allB, forMid]⟩⟩
  case round =>
    obtain ⟨k, A2, c2, qs, rfl, rfl, hk, HA, HQ⟩ := hrel
    clear HA0
    by_cases hlt : k < ps.length
    · have hPk := HP2.out.fr HA.fr ⟨fun _ _ _ => id, fun _ _ _ _ _ => id⟩
      obtain ⟨ab0, ao, rfl, _, hac⟩ := hPk.row (by simp; omega)
      have hck := hac k (by simpa using hlt)
      have e1 : (ps.map Part.v)[k]'(by simpa using hlt) = .slice ps[k].a ps[k].b.length ps[k].c := by rw [List.getElem_map]; rfl
      rw [e1] at hck
      have hpk := HP2.out.each ps[k] (List.getElem_mem hlt)
      have hsu := forMid_succ ps k hlt
      have hpl := forMid_len ps k hlt
      have hln := HLEN.out
      rw [List.length_append, List.length_cons] at hln
      clear hac e1 hPk
      generalize ps[k] = p at *
      obtain ⟨pa, pc, bs⟩ := p
      dsimp only at *
      obtain ⟨A3, c3, w3, hrun, hAll⟩ := HA.more (p := ⟨pa, pc, bs⟩) hpk (by rw [HQ.out.1]; omega)
      have hbl : (bs.length : Int) < 1152921504606846976 := by omega
      have HAL := Lib.hid hAll
      have HSU := Lib.hid hsu
      dsimp only [Part.v, l4] at hrun
      clear HA hpk hAll hsu hpl hln
      go_wp2_with (first | (at_builtin; refine wpList_append_run hrun rfl rfl _ _ rfl rfl rfl ?_))
      refine ⟨⟨k + 1, A3, c3, qs ++ [⟨some ⟨wr.heap.size, 0, none⟩, 4, Once.len4 bs.length⟩, ⟨pa, pc, bs⟩], by simp, by go_num, by omega, HAL.out, Lib.hid ⟨?_, ?_⟩⟩, ?_⟩
      · rw [List.length_append, HQ.out.1]
        simp
        omega
      · rw [HSU.out]
        have := HQ.out.2
        unfold allB at this ⊢
        rw [List.flatMap_append, this]
        simp
      · change ps.length - (intOf (.int .i64 ((k : Int) + 1))).toNat < ps.length - (intOf (.int .i64 k)).toNat
        simp [intOf]
        omega
    · obtain rfl : k = ps.length := by omega
      have d1 : decide ((ps.length : Int) < (ps.length : Int)) = false := by simp
      have hall := HQ.out.2
      have hql := HQ.out.1
      rw [List.take_length] at hall
      have hof := of_any wr A2 c2 qs HA.parts (by rw [hall]; exact HLEN.out) (by omega)
      rw [hall, ← HSUM.out] at hof
      have hfr := HNA.out.trans HA.fr fun _ h => h.elim
      have hB : Blk wr w.heap.size 60 (ida z32) := HBA.out.fr HA.fr id
      clear HA hall hql HQ
      have HOF := Lib.hid hof
      have HFR := Lib.hid hfr
      have HSS := Lib.hid (show 32 = (ida (Once.sumFor pu (ps.map (·.b)))).size by rw [ida_size]; exact (Once.sumFor_length _ _).symm)
      have HZS := Lib.hid (show (ida z32).size = (ida (Once.sumFor pu (ps.map (·.b)))).size by rw [ida_size, ida_size]; exact (Once.sumFor_length _ _).symm)
      clear hof hfr
      have HSL := Lib.hid (Once.sumFor_length pu (ps.map (·.b)))
      generalize hS : Once.sumFor pu (ps.map (·.b)) = S at *
      have HS := Lib.hid hS
      clear hS
      go_wp2_with (first
        | (go_at_call 58; refine HOF.out.mono ?_; rintro e w4 ⟨rfl, hN4⟩; have hB4 := hB.fr hN4 id; clear hB)
        | (refine x_skip (exec_store_all (T := 60) (X := ida S) (g := w.heap.size) (cs := ida z32) rfl rfl rfl hii (hz1.trans HSS.out) (ida_one _) hB4 HZS.out) rfl ?_))
      refine bodyPost_ret (x_results rfl HSL.out rfl (hB4.setRow _)) rfl ⟨by rw [HS.out], ?_⟩
      exact (HFR.out.trans hN4 (fun _ h => h.elim)).trans ((Fr.refl (fun k => k = w.heap.size) w4).setRow (g := w.heap.size) rfl _) (fun j hj => .inr (by omega))
end Go.Proofs.Ytefalfalapnllaa
