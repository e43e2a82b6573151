/- Forged, walked. -/
import Derived.Test.YtepmlmfacpbhkaaROnceJ
namespace Go.Proofs.YtepmlmfacpbhkaaR
open Go.RowKit Go.Shelf
set_option linter.unusedVariables false
theorem run_makeN (w : World) : (Instr.makeMap 108 none).run Try.prog w = .ok (.map (some w.heap.size)) (w.alloc (.map #[] 0)) := by kernel_rfl
attribute [local go_sem] Oper.semAt_some run_makeN
/-- what the second loop has found: nothing yet -/
def SameUpto (f h : Nat → Nat) (k : Nat) : Prop := ∀ j, j < k → f j = h j
structure LookAt (W0 : World) (b4 b5 mb m : Nat) (f : Nat → Nat) (V : World) : Prop where
  r4 : Blk V b4 3 #[.int .i64 0]
  r5 : Blk V b5 4 #[.bool false]
  box : Blk V mb 108 #[.map (some m)]
  map : BitM V m 64 f
  fr : New W0 V
theorem LookAt.fr' {W0 : World} {b4 b5 mb m : Nat} {f : Nat → Nat} {X Y : World} {S : Nat → Prop} (h : LookAt W0 b4 b5 mb m f X) (g : Fr S X Y) (h4 : ¬ S b4) (h5 : ¬ S b5) (hb : ¬ S mb) (hm : ¬ S m) (hS : ∀ j, S j → W0.heap.size ≤ j) : LookAt W0 b4 b5 mb m f Y :=
  ⟨h.r4.fr g h4, h.r5.fr g h5, h.box.fr g hb, h.map.fr g hm, h.fr.trans g (fun j hj => .inr (hS j hj))⟩
/-- both results -/
def FoundAt (W0 : World) (b4 b5 : Nat) (k : Nat) (V : World) : Prop := Blk V b4 3 #[.int .i64 (k : Int)] ∧ Blk V b5 4 #[.bool true] ∧ Fr (fun j => j = b4 ∨ j = b5) W0 V
set_option maxHeartbeats 4000000 in
set_option maxRecDepth 20000 in
theorem forged_any (w : World) (A1 A2 : Option Addr) (c1 c2 : Nat) (t1 t2 : List UInt8) (h1 : Rd w A1 (t1.map bv)) (h2 : Rd w A2 (t2.map bv)) (hl1 : t1.length < 1000000000000000000) (hl2 : t2.length < 1000000000000000000) :
    Calls Try.prog 38 #[.slice A1 t1.length c1, .slice A2 t2.length c2] w fun e w' => e = .returned (forgedV (firstBit (Once.side t1) (Once.side t2))) ∧ New w w' := by
  refine (callsIn_wide (n := 5)).1 ?_
  refine callsIn_of_wp_marks Try.func38 rfl trivial ?_ rfl
  simp only [Try.ntmps38, List.size_toArray, List.length_cons, List.length_nil, Nat.reduceAdd, Nat.reduceSub, Array.replicate_succ, Array.replicate_zero, List.push_toArray, List.append_toArray, List.nil_append, List.cons_append]
  have H1 := Lib.hid h1
  have H2 := Lib.hid h2
  have HL1 := Lib.hid hl1
  have HL2 := Lib.hid hl2
  clear h1 h2 hl1 hl2
  obtain ⟨W1, hW1⟩ : ∃ W1, W1 = (((w.alloc (.cells #[.int .i64 0] 3)).alloc (.cells #[.bool false] 4)).alloc (.map #[] 0)).alloc (.cells #[.map (some (w.heap.size + 2))] 108) := ⟨_, rfl⟩
  have hN1 : New w W1 := by rw [hW1]; exact (((Fr.alloc _ w _).then_alloc _).then_alloc _).then_alloc _
  have hz1 : W1.heap.size = w.heap.size + 4 := by rw [hW1]; simp
  have q4 : Blk W1 w.heap.size 3 #[.int .i64 0] := by rw [hW1]; exact (((Blk.new w _ _).alloc _).alloc _).alloc _
  have q5 : Blk W1 (w.heap.size + 1) 4 #[.bool false] := by
    have := ((Blk.new (w.alloc (.cells #[.int .i64 0] 3)) 4 #[.bool false]).alloc (.map #[] 0)).alloc (.cells #[.map (some (w.heap.size + 2))] 108)
    rw [World.size_alloc] at this
    rw [hW1]
    exact this
  have qm : BitM W1 (w.heap.size + 2) 0 (Once.side t1) := by
    have := (BitM.made ((w.alloc (.cells #[.int .i64 0] 3)).alloc (.cells #[.bool false] 4)) (Once.side t1)).fr (Fr.alloc (fun _ => False) _ (.cells #[.map (some (w.heap.size + 2))] 108)) id
    rw [World.size_alloc, World.size_alloc] at this
    rw [hW1]
    exact this
  have qb : Blk W1 (w.heap.size + 3) 108 #[.map (some (w.heap.size + 2))] := by
    have := Blk.new (((w.alloc (.cells #[.int .i64 0] 3)).alloc (.cells #[.bool false] 4)).alloc (.map #[] 0)) 108 #[.map (some (w.heap.size + 2))]
    rw [World.size_alloc, World.size_alloc, World.size_alloc] at this
    rw [hW1]
    exact this
  have HW1 := Lib.hid hW1
  have HQ := Lib.hid (show New w W1 ∧ W1.heap.size = w.heap.size + 4 ∧ Blk W1 w.heap.size 3 #[.int .i64 0] ∧ Blk W1 (w.heap.size + 1) 4 #[.bool false] ∧ BitM W1 (w.heap.size + 2) 0 (Once.side t1) ∧ Blk W1 (w.heap.size + 3) 108 #[.map (some (w.heap.size + 2))] from ⟨hN1, hz1, q4, q5, qm, qb⟩)
  clear hW1 hN1 hz1 q4 q5 qm qb
  gi_wp2_with fail
  obtain ⟨hN1, hz1, q4, q5, qm, qb⟩ := HQ.out
  clear HQ
  change _ ∧ CallsIn Fence.wide 4 Try.prog 52 #[.slice A1 t1.length c1] ((((w.alloc (.cells #[.int .i64 0] 3)).alloc (.cells #[.bool false] 4)).alloc (.map #[] 0)).alloc (.cells #[.map (some (w.heap.size + 2))] 108)) _
  rw [← HW1.out]
  clear HW1
  refine ⟨trivial, (callsIn_wide.2 (sides_any W1 A1 c1 t1 (H1.out.fr hN1 (fun _ _ => id)) HL1.out)).mono ?_⟩
  rintro e W2 ⟨idb, rfl, hI, hge, hN2⟩
  have hs2 := hN2.size
  have hA0 : MadeAt W2 (w.heap.size + 3) (w.heap.size + 2) (Once.side t1) 0 W2 := ⟨qb.fr hN2 id, qm.fr hN2 id, Fr.refl _ _⟩
  have p4 := q4.fr hN2 id
  have p5 := q5.fr hN2 id
  have hN3 : New w W2 := hN1.trans hN2 fun _ h => h.elim
  have HSZ := Lib.hid hz1
  clear q4 q5 qm qb hN1 hN2 hz1
  gi_wp2_with fail
  have HID := Lib.hid (Once.sumFor_length Once.pText [t1])
  have HBI := Lib.hid (show ∀ i, Once.bitOf (Once.sumFor Once.pText [t1]) i = Once.side t1 i from fun _ => rfl)
  generalize Once.sumFor Once.pText [t1] = sid at *
  refine wpIn_rangeFunc_cut (xs := bitsOf sid) (encs := encB) rfl (by decide) (gf := 57) (lb := #[.pointer (some ⟨idb, 0, none⟩)]) rfl trivial (enters_of Try.func57 (by kernel_rfl) rfl)
    (sidesIt_any _ (by decide) idb sid HID.out) (fun j => j = w.heap.size + 2) (fun j hj => by have := HSZ.out; omega)
    (fun W hW => ?pz) (fun _ => rfl)
    (fun i V => MadeAt W2 (w.heap.size + 3) (w.heap.size + 2) (Once.side t1) i V) (fun _ _ _ => False) (MadeAt.abides (by have := HSZ.out; omega) (by have := HSZ.out; omega)) (fun _ _ _ _ h _ => h) hA0 ?round ?done (fun _ _ _ _ _ _ h _ => h.elim)
  case pz =>
    have := hI.lt
    have := HSZ.out
    exact ⟨hI.fr hW id, fun h => by rcases h with h | h <;> omega⟩
  case round =>
    rintro l i x W K hx hA hsz hK
    have hi : i < 64 := by
      have := (List.getElem?_eq_some_iff.1 hx).1
      rwa [bitsOf_length] at this
    rw [bitsOf_get sid i hi] at hx
    injection hx with hx
    subst hx
    rw [HBI.out i]
    conv => arg 6; simp [encB]
    gi_wp2_with fail
    refine hK _ _ (Fr.refl _ _) (fun W3 hf3 => ?_)
    clear hK
    conv => arg 6; simp [Act.put, go_sem]
    have hA3 : MadeAt W2 (w.heap.size + 3) (w.heap.size + 2) (Once.side t1) i W3 := MadeAt.abides (by have := HSZ.out; omega) (by have := HSZ.out; omega) i W W3 hA (hf3.mono fun _ h => .inl h.1)
    obtain ⟨W4, hr4, hm4, hf4⟩ := hA3.map.put (by omega)
    have hc := hA3.box.cell 0
    simp only [List.getElem?_toArray, List.getElem?_cons_zero] at hc
    have HA4 := Lib.hid (show MadeAt W2 (w.heap.size + 3) (w.heap.size + 2) (Once.side t1) (i + 1) W4 from ⟨hA3.box.fr hf4 (by omega), hm4, hA3.fr.trans hf4 (fun _ h => .inl h)⟩)
    have HF4 := Lib.hid hf4
    have HR4 := Lib.hid hr4
    clear hA hA3 hm4 hf4 hsz hf3 hr4
    generalize Once.side t1 i = q at *
    gi_wp2_with (refine x_skip_in (exec_updateN HR4.out rfl rfl rfl rfl) (fun _ h => by cases h) (fun _ h => by cases h) rfl ?_)
    exact ⟨HF4.out, HA4.out⟩
  case done =>
    rintro D W hD hA hd
    rw [bitsOf_length] at hA
    obtain ⟨hbx, hmp, hfr⟩ := hA
    have p4' := p4.fr hfr (by omega)
    have p5' := p5.fr hfr (by omega)
    have hN4 : New w W := hN3.trans hfr (fun j hj => .inr (by omega))
    have hsW := hfr.size
    clear p4 p5 hN3 hfr hI HBI HID
    gi_wp2_with fail
    refine ⟨trivial, (callsIn_wide.2 (sides_any W A2 c2 t2 (H2.out.fr hN4 (fun _ _ => id)) HL2.out)).mono ?_⟩
    rintro e W5 ⟨idb2, rfl, hI2, hge2, hN5⟩
    have hd5 : W5.heap[D]? = some (.deferred (some [])) := (hN5.block D (Array.getElem?_eq_some_iff.1 hd).1 id).trans hd
    have hDW := (Array.getElem?_eq_some_iff.1 hd5).1
    have hsW5 := hN5.size
    have hA0 : LookAt W5 w.heap.size (w.heap.size + 1) (w.heap.size + 3) (w.heap.size + 2) (Once.side t1) W5 := ⟨p4'.fr hN5 id, p5'.fr hN5 id, hbx.fr hN5 id, hmp.fr hN5 id, Fr.refl _ _⟩
    have hN6 : New w W5 := hN4.trans hN5 fun _ h => h.elim
    have hDw : w.heap.size + 4 ≤ D := by have := HSZ.out; omega
    clear p4' p5' hbx hmp hN4 hN5 hd
    gi_wp2_with fail
    have HID := Lib.hid (Once.sumFor_length Once.pText [t2])
    have HBI := Lib.hid (show ∀ i, Once.bitOf (Once.sumFor Once.pText [t2]) i = Once.side t2 i from fun _ => rfl)
    generalize Once.sumFor Once.pText [t2] = sid2 at *
    have hw5 : w.heap.size + 4 ≤ W5.heap.size := by have := HSZ.out; omega
    refine wpIn_rangeFunc_cut (xs := bitsOf sid2) (encs := encB) rfl (by decide) (gf := 57) (lb := #[.pointer (some ⟨idb2, 0, none⟩)]) rfl trivial (enters_of Try.func57 (by kernel_rfl) rfl)
      (sidesIt_any _ (by decide) idb2 sid2 HID.out) (fun j => j = w.heap.size ∨ j = w.heap.size + 1) (fun j hj => by omega)
      (fun W' hW => ?pz2) (fun _ => rfl)
      (fun i V => LookAt W5 w.heap.size (w.heap.size + 1) (w.heap.size + 3) (w.heap.size + 2) (Once.side t1) V ∧ SameUpto (Once.side t1) (Once.side t2) i)
      (fun c i V => c = .ret ∧ FoundAt W5 w.heap.size (w.heap.size + 1) i V ∧ SameUpto (Once.side t1) (Once.side t2) i ∧ Once.side t1 i ≠ Once.side t2 i) ?hI2 ?hIx2 ⟨hA0, fun j hj => by omega⟩ ?round2 ?done2 ?stop2
    case pz2 =>
      have := hI2.lt
      have := HSZ.out
      exact ⟨hI2.fr hW id, fun h => by rcases h with (h | h) | h <;> omega⟩
    case hI2 =>
      rintro i X Y ⟨hl, hn⟩ hf
      exact ⟨hl.fr' hf (by omega) (by omega) (by omega) (by omega) (fun j hj => hj), hn⟩
    case hIx2 =>
      rintro c i X Y ⟨hc, ⟨h4, h5, hf2⟩, h6, h7⟩ hf
      exact ⟨hc, ⟨h4.fr hf (by omega), h5.fr hf (by omega), hf2.trans hf (fun j hj => .inr hj)⟩, h6, h7⟩
    case round2 =>
      rintro l i x W' K hx ⟨hA, hsame⟩ hsz hK
      have hi : i < 64 := by
        have := (List.getElem?_eq_some_iff.1 hx).1
        rwa [bitsOf_length] at this
      rw [bitsOf_get sid2 i hi] at hx
      injection hx with hx
      subst hx
      rw [HBI.out i]
      conv => arg 6; simp [encB]
      gi_wp2_with fail
      refine hK _ _ (Fr.refl _ _) (fun W3 hf3 => ?_)
      clear hK
      conv => arg 6; simp [Act.put, go_sem]
      have hA3 := hA.fr' hf3 (by omega) (by omega) (by omega) (by omega) (fun j hj => hj.1)
      have hlook := hA3.map.look hi (by omega)
      have hc := hA3.box.cell 0
      have c4 := hA3.r4.cell 0
      have c5 := hA3.r5.cell 0
      have z4 := hA3.r4.frozen 0
      have z5 := hA3.r5.frozen 0
      simp only [List.getElem?_toArray, List.getElem?_cons_zero] at hc c4 c5
      have HA3 := Lib.hid hA3
      have HSM := Lib.hid hsame
      clear hA hA3 hsz hf3 hsame
      by_cases heq : Once.side t1 i = Once.side t2 i
      · have hq : (((Once.side t1 i : Nat) : Int) != ((Once.side t2 i : Nat) : Int)) = false := by rw [heq]; simp
        have HE := Lib.hid heq
        clear heq
        gi_wp2_with fail
        refine ⟨Fr.refl _ _, HA3.out, fun j hj => ?_⟩
        by_cases hji : j = i
        · subst hji
          exact HE.out
        · exact HSM.out j (by omega)
      · have hq : (((Once.side t1 i : Nat) : Int) != ((Once.side t2 i : Nat) : Int)) = true := by rw [bne_iff_ne]; omega
        have HE := Lib.hid heq
        clear heq
        gi_wp2_with fail
        have hF : Fr (fun j => j = w.heap.size ∨ j = w.heap.size + 1) W3 ((W3.setCell ⟨w.heap.size, 0, none⟩ (.int .i64 (i : Int))).setCell ⟨w.heap.size + 1, 0, none⟩ (.bool true)) :=
          ((Fr.refl (fun j => j = w.heap.size ∨ j = w.heap.size + 1) W3).then_set (p := ⟨w.heap.size, 0, none⟩) (.inl rfl) _).then_set (p := ⟨w.heap.size + 1, 0, none⟩) (.inr rfl) _
        refine ⟨hF, rfl, ⟨?_, ?_, (HA3.out.fr.mono (T := fun j => j = w.heap.size ∨ j = w.heap.size + 1) fun _ h => h.elim).trans hF (fun _ h => .inl h)⟩, HSM.out, HE.out⟩
        · exact (HA3.out.r4.set 0 (.int .i64 (i : Int))).far (by simp) _
        · exact (HA3.out.r5.far (p := ⟨w.heap.size, 0, none⟩) (by simp) _).set 0 (.bool true)
    case done2 =>
      rintro D2 W' hD2 ⟨hA, hsame⟩ hd2
      rw [bitsOf_length] at hsame
      have c4 := hA.r4.cell 0
      have c5 := hA.r5.cell 0
      have z4 := hA.r4.frozen 0
      have z5 := hA.r5.frozen 0
      simp only [List.getElem?_toArray, List.getElem?_cons_zero] at c4 c5
      have HA := Lib.hid hA
      clear hA
      gi_wp2_with fail
      have hF : Fr (fun j => j = w.heap.size ∨ j = w.heap.size + 1) W' ((W'.setCell ⟨w.heap.size, 0, none⟩ (.int .i64 0)).setCell ⟨w.heap.size + 1, 0, none⟩ (.bool false)) :=
        ((Fr.refl (fun j => j = w.heap.size ∨ j = w.heap.size + 1) W').then_set (p := ⟨w.heap.size, 0, none⟩) (.inl rfl) _).then_set (p := ⟨w.heap.size + 1, 0, none⟩) (.inr rfl) _
      have e4 : Blk ((W'.setCell ⟨w.heap.size, 0, none⟩ (.int .i64 0)).setCell ⟨w.heap.size + 1, 0, none⟩ (.bool false)) w.heap.size 3 #[.int .i64 0] := (HA.out.r4.set 0 (.int .i64 0)).far (by simp) _
      have e5 : Blk ((W'.setCell ⟨w.heap.size, 0, none⟩ (.int .i64 0)).setCell ⟨w.heap.size + 1, 0, none⟩ (.bool false)) (w.heap.size + 1) 4 #[.bool false] := (HA.out.r5.far (p := ⟨w.heap.size, 0, none⟩) (by simp) _).set 0 (.bool false)
      have hd2' := (hF.block D2 (Array.getElem?_eq_some_iff.1 hd2).1 (by omega)).trans hd2
      have hd5' := (hF.block D (Nat.lt_of_lt_of_le hDW HA.out.fr.size) (by omega)).trans ((HA.out.fr.block D hDW id).trans hd5)
      have hfirst : firstBit (Once.side t1) (Once.side t2) = none := firstDif_none 64 0 fun j _ hj => hsame j (by omega)
      have hN7 : New w ((W'.setCell ⟨w.heap.size, 0, none⟩ (.int .i64 0)).setCell ⟨w.heap.size + 1, 0, none⟩ (.bool false)) := (hN6.trans HA.out.fr (fun _ h => h.elim)).trans hF (fun j hj => .inr (by omega))
      clear c4 c5 z4 z5
      generalize (W'.setCell ⟨w.heap.size, 0, none⟩ (.int .i64 0)).setCell ⟨w.heap.size + 1, 0, none⟩ (.bool false) = W7 at *
      refine ⟨by simp, .inl ⟨_, _, rfl, run_takeDeferred hd2', ?_⟩⟩
      have hP1 := Fr.putObj (S := fun j => j = D2) W7 rfl (.deferred none)
      have hd6 := (hP1.block D (Array.getElem?_eq_some_iff.1 hd5').1 (by omega)).trans hd5'
      have hP2 := Fr.putObj (S := fun j => j = D) (W7.putObj D2 (.deferred none)) rfl (.deferred none)
      refine ⟨by simp, .inl ⟨_, _, rfl, run_takeDeferred hd6, ?_⟩⟩
      refine ⟨_, forged_results rfl rfl ((e4.fr hP1 (by omega)).fr hP2 (by omega)) ((e5.fr hP1 (by omega)).fr hP2 (by omega)), ⟨by rw [hfirst]; rfl, ?_⟩⟩
      exact (hN7.trans hP1 (fun j hj => .inr (by omega))).trans hP2 (fun j hj => .inr (by omega))
    case stop2 =>
      rintro D2 c i W' hD2 hi ⟨rfl, ⟨h4, h5, hf2⟩, h6, h7⟩ hd2
      gi_wp2_with fail
      have hd5' := (hf2.block D hDW (by omega)).trans hd5
      have hfirst : firstBit (Once.side t1) (Once.side t2) = some i := firstDif_some 64 0 i (Nat.zero_le _) (by rw [bitsOf_length] at hi; omega) (fun j _ hj => h6 j hj) h7
      have hN7 : New w W' := hN6.trans hf2 (fun j hj => .inr (by omega))
      have e4 := h4
      have e5 := h5
      clear h4 h5
      refine ⟨by simp, .inl ⟨_, _, rfl, run_takeDeferred hd2, ?_⟩⟩
      have hP1 := Fr.putObj (S := fun j => j = D2) W' rfl (.deferred none)
      have hd6 := (hP1.block D (Array.getElem?_eq_some_iff.1 hd5').1 (by omega)).trans hd5'
      have hP2 := Fr.putObj (S := fun j => j = D) (W'.putObj D2 (.deferred none)) rfl (.deferred none)
      refine ⟨by simp, .inl ⟨_, _, rfl, run_takeDeferred hd6, ?_⟩⟩
      refine ⟨_, forged_results rfl rfl ((e4.fr hP1 (by omega)).fr hP2 (by omega)) ((e5.fr hP1 (by omega)).fr hP2 (by omega)), ⟨by rw [hfirst]; rfl, ?_⟩⟩
      exact (hN7.trans hP1 (fun j hj => .inr (by omega))).trans hP2 (fun j hj => .inr (by omega))
end Go.Proofs.YtepmlmfacpbhkaaR
