/- Package pack: Write. -/
import Derived.Test.YtefalfalapnllaaFilW
namespace Go.Proofs.Ytefalfalapnllaa
open Go.RowKit Go.Shelf
set_option linter.unusedVariables false
attribute [local irreducible] opGhost
attribute [local go_sem] Oper.semAt_some
set_option maxHeartbeats 8000000 in
set_option maxRecDepth 100000 in
theorem pk_write (w : World) (k n1 n2 n3 n4 n5 : Int) (id : List UInt8) (Ad : Option Addr) (cd : Nat) (data : List UInt8) (Ai : Option Addr) (ci : Nat) (ids : List (List UInt8)) (Al : Option Addr) (cl : Nat)
    (hid : id.length = 32) (hD : Rd w Ad (data.map bv)) (hdl : data.length ≤ 131072) (hI : IdsL w Ai ids) (hil : ids.length ≤ 64) (hie : ∀ x ∈ ids, x.length = 32) :
    Calls Try.prog 33 #[.agg (mc k n1 n2 n3 n4 n5 id Ad data.length cd Ai ids.length ci Al 0 cl)] w fun e w' =>
      (∃ code : Int, code ≠ 0 ∧ e = .returned (.tuple #[.slice none 0 0, .int .i64 code]) ∧ New w w') ∨
      (((1 ≤ k ∧ k ≤ 31) ∧ okN n1 ∧ okN n2 ∧ okN n3 ∧ okN n4 ∧ okN n5) ∧ ∃ A c, e = .returned (.tuple #[.slice A (Pk.msgB ⟨k, [n1, n2, n3, n4, n5], id, data, ids⟩).length c, .int .i64 0]) ∧ RowN w w' A c (Pk.msgB ⟨k, [n1, n2, n3, n4, n5], id, data, ids⟩)) := by
  refine (callsIn_wide (n := 6)).1 ?_
  refine callsIn_of_wp_marks Try.func33 rfl trivial ?_ rfl
  simp only [Try.ntmps33, List.size_toArray, List.length_cons, List.length_nil, Nat.reduceAdd, Nat.reduceSub, Array.replicate_succ, Array.replicate_zero, List.push_toArray, List.append_toArray, List.nil_append, List.cons_append]
  obtain ⟨im, him, hm0, hm1, hm2⟩ := info_parts infoMsg
  obtain ⟨fi, hfi, hf0, hf1, hf2⟩ := info_parts infoFld
  have hchk := fun V => pk_check V k n1 n2 n3 n4 n5 id Ad data.length cd Ai ids.length ci Al cl hid hdl hil
  have hfld := fun V => pk_fields V (mc k n1 n2 n3 n4 n5 id Ad data.length cd Ai ids.length ci Al 0 cl)
  have hms : (mc k n1 n2 n3 n4 n5 id Ad data.length cd Ai ids.length ci Al 0 cl).size = 41 := mc_size hid
  have HMS := Lib.hid (hm1.trans hms.symm)
  obtain ⟨M, hM⟩ : ∃ M, mc k n1 n2 n3 n4 n5 id Ad data.length cd Ai ids.length ci Al 0 cl = M := ⟨_, rfl⟩
  have HM := Lib.hid hM
  have HD := Lib.hid hD
  have HI := Lib.hid hI
  rw [hM] at hchk hfld HMS hms ⊢
  clear hM hD hI
  have hB0 := Blk.new w 64 M
  have hN0 : New w (w.alloc (.cells M 64)) := Fr.alloc _ w _
  have HA := Lib.hid hB0.at'
  have HCH := Lib.hid hchk
  have HFL := Lib.hid hfld
  clear hchk hfld hms
  gi_wp2_with (first
    | (refine x_value_in (exec_box (T := 64) rfl rfl) (fun _ h => by cases h) (fun _ h => by cases h) (by simp [go_sem, Region.wanted, yielded]) ?_)
    | (refine x_value_in (exec_load (T := 64) (X := M) (g := w.heap.size) (off := 0) rfl rfl Try.underlying64 rfl him HMS.out HA.out) (fun _ h => by cases h) (fun _ h => by cases h) (by simp [go_sem, Region.wanted, yielded]) ?_))
  refine ⟨trivial, CallsIn.mono (show CallsIn Fence.wide 5 _ _ _ _ _ from callsIn_wide.2 (HCH.out _)) ?_⟩
  rintro e w2 ⟨code, rfl, hcode, hN2⟩
  have hB2 := hB0.fr hN2 (fun h => h)
  have hNw2 := hN0.trans hN2 (fun _ h => h.elim)
  by_cases hc0 : code = 0
  · subst hc0
    obtain ⟨hk, hoks⟩ := hcode.1 rfl
    have hkk : k % 256 = k := by omega
    have hkv : Value.int .u8 k = bv (UInt8.ofNat k.toNat) := by
      unfold bv
      congr 1
      rw [UInt8.toNat_ofNat']
      omega
    have hcell := hB2.cell 0
    rw [← HM.out] at hcell
    have hcell' : w2.cell? ⟨w.heap.size, 0, none⟩ = some (.int .i64 k) := hcell
    obtain ⟨w3, hw3⟩ : ∃ w3, (w2.alloc (.cells #[.int .u8 k] 5)).alloc (.cells #[.slice (some ⟨w2.heap.size, 0, none⟩) 1 1] 22) = w3 := ⟨_, rfl⟩
    have hobB : Blk w3 (w2.heap.size + 1) 22 #[.slice (some ⟨w2.heap.size, 0, none⟩) 1 1] := by
      rw [← hw3]
      have := Blk.new (w2.alloc (.cells #[.int .u8 k] 5)) 22 #[.slice (some ⟨w2.heap.size, 0, none⟩) 1 1]
      rwa [World.size_alloc] at this
    have hrow0 : Row w3 5 (some ⟨w2.heap.size, 0, none⟩) 1 ([UInt8.ofNat k.toNat].map bv) := by
      rw [← hw3, hkv]
      exact (Row.lits w2 [UInt8.ofNat k.toNat] (by simp [maxLen])).fr (Fr.alloc (fun _ => False) _ _) (fun _ _ h => h)
    have hf3 : New w2 w3 := by rw [← hw3]; exact (Fr.alloc _ w2 _).then_alloc _
    have hsz3 : w3.heap.size = w2.heap.size + 2 := by rw [← hw3]; simp
    have hB3 := hB2.fr hf3 (fun h => h)
    have HA3 := Lib.hid hB3.at'
    clear hcode hkv hB2 HA hcell
    gi_wp2_with (first
      | (refine x_value_in (exec_load (T := 64) (X := M) (g := w.heap.size) (off := 0) rfl rfl Try.underlying64 rfl him HMS.out HA3.out) (fun _ h => by cases h) (fun _ h => by cases h) (by simp [go_sem, Region.wanted, yielded]) ?_))
    refine ⟨trivial, CallsIn.mono (show CallsIn Fence.wide 5 _ _ _ _ _ from callsIn_wide.2 (HFL.out _)) ?_⟩
    rintro e w4 ⟨rfl, rfl⟩
    have hmB := Blk.new w3 64 M
    have hob4 := hobB.alloc (.cells M 64)
    have hrow4 := hrow0.fr (Fr.alloc (fun _ => False) w3 (.cells M 64)) (fun _ _ h => h)
    have hf4 : New w2 (w3.alloc (.cells M 64)) := hf3.then_alloc _
    have hsz4 : (w3.alloc (.cells M 64)).heap.size = w2.heap.size + 3 := by simp [hsz3]
    have hNw5 : New w (w3.alloc (.cells M 64)) := hNw2.trans hf4 (fun _ h => h.elim)
    clear hobB hrow0 hf3 hB3 HA3 hNw2 hf4
    gi_wp2_with fail
    rw [hsz3] at hmB
    generalize w3.alloc (.cells M 64) = W5 at *
    refine wpIn_rangeFunc_U (xs := Pk.fields ⟨k, [n1, n2, n3, n4, n5], id, data, ids⟩) (Enc := EncF) (O := fun _ => False) rfl (by decide) (gf := 59) (lb := #[.pointer (some ⟨w2.heap.size + 2, 0, none⟩)]) rfl trivial (enters_of Try.func59 (by kernel_rfl) rfl)
      (fields_any 5 (by decide) (w2.heap.size + 2) k n1 n2 n3 n4 n5 id Ad cd data Ai ci ids Al cl hoks.1 hoks.2.1 hoks.2.2.1 hoks.2.2.2.1 hoks.2.2.2.2 hid hdl hil hie) (fun _ _ _ _ => trivial)
      (fun j => j = w2.heap.size + 1 ∨ j = w2.heap.size) (fun j hj => ⟨by omega, fun h => h⟩) (fun _ h => h.elim) (fun W hW => ?pz) (fun i x args W h => by obtain ⟨A, c, rfl, _⟩ := h; rfl)
      (fun i U W => OutAt W5 (w2.heap.size + 1) w2.heap.size (UInt8.ofNat k.toNat :: Pk.fieldsB ((Pk.fields ⟨k, [n1, n2, n3, n4, n5], id, data, ids⟩).take i)) U W) (fun i U X Y h f => h.abides (by omega) (by omega) f) ⟨⟨_, 1, hob4, hrow4, fun k hk => .inl (by simpa [ab] using hk.symm)⟩, Fr.refl _ _, fun _ h => h.elim⟩ ?round ?done
    case pz =>
      have hNW : New w W := hNw5.trans hW (fun _ h => h.elim)
      have hsw := hNw5.size
      have hww : w.heap.size < w2.heap.size := Nat.lt_of_lt_of_le (by rw [World.size_alloc]; omega) hN2.size
      refine ⟨HM.out.symm ▸ hmB.fr hW (fun h => h), HD.out.fr hNW (fun _ _ h => h), HI.out.fr hNW (fun _ _ _ h => h), by omega, fun h0 k hk h => ?_, fun h0 k hk h => ?_⟩
      · have := HD.out.lt (by simpa using h0) k hk; omega
      · have := idsl_lt HI.out h0 k hk; omega
    case round =>
      rintro l i ⟨t, d⟩ args U W K hx henc hI hsz hU hK
      obtain ⟨Af, cf, rfl, hrdW⟩ := henc W (Fr.refl _ _)
      have hrd : ∀ V, Fr (fun k => ((k = w2.heap.size + 1 ∨ k = w2.heap.size) ∨ k = W5.heap.size + 1) ∨ U k) W V → Rd V Af (d.map bv) := fun V hV => by
        obtain ⟨A', c', e, h⟩ := henc V hV
        simp only [Array.mk.injEq, List.cons.injEq, Value.agg.injEq, Value.slice.injEq, and_true, true_and] at e
        obtain ⟨rfl, _⟩ := e
        exact h
      have hfo := fields_ok (k := k) (ns := [n1, n2, n3, n4, n5]) (id := id) (data := data) (ids := ids) (by
        intro n hn
        simp only [List.mem_cons, List.not_mem_nil, or_false] at hn
        rcases hn with rfl | rfl | rfl | rfl | rfl
        · exact hoks.1
        · exact hoks.2.1
        · exact hoks.2.2.1
        · exact hoks.2.2.2.1
        · exact hoks.2.2.2.2) rfl hid hdl hil hie
      have hdl2 : d.length ≤ 131072 := hfo.2 _ (List.mem_of_getElem? hx)
      have hpl : (Pk.fieldsB ((Pk.fields ⟨k, [n1, n2, n3, n4, n5], id, data, ids⟩).take i)).length ≤ 8 * 131076 := by
        refine Nat.le_trans (fieldsB_le _ fun f hf => hfo.2 f (List.mem_of_mem_take hf)) (Nat.mul_le_mul_right _ ?_)
        rw [List.length_take]
        exact Nat.le_trans (Nat.min_le_right _ _) hfo.1
      have hnext : Pk.fieldsB ((Pk.fields ⟨k, [n1, n2, n3, n4, n5], id, data, ids⟩).take (i + 1)) = Pk.fieldsB ((Pk.fields ⟨k, [n1, n2, n3, n4, n5], id, data, ids⟩).take i) ++ (t :: Pk.runB d) := by
        obtain ⟨hil', he⟩ := List.getElem?_eq_some_iff.1 hx
        rw [List.take_succ_eq_append_getElem hil', he, Pk.fieldsB_snoc]
      have HNX := Lib.hid hnext
      generalize Pk.fieldsB ((Pk.fields ⟨k, [n1, n2, n3, n4, n5], id, data, ids⟩).take (i + 1)) = nxt at *
      generalize Pk.fieldsB ((Pk.fields ⟨k, [n1, n2, n3, n4, n5], id, data, ids⟩).take i) = pre0 at *
      obtain ⟨pre, hpre⟩ : ∃ pre, UInt8.ofNat k.toNat :: pre0 = pre := ⟨_, rfl⟩
      rw [hpre] at hI
      have HPRE := Lib.hid hpre
      have hprl : pre.length ≤ 1 + 8 * 131076 := by rw [← hpre, List.length_cons]; omega
      obtain ⟨A, c, hBo, hRo, hAo⟩ := hI.ex
      have HIFR := Lib.hid hI.fr
      have HLO := Lib.hid hI.lo
      have HRD := Lib.hid hrd
      have HFS := Lib.hid (show fi.size = (#[bv t, .slice Af d.length cf] : Array Value).size from hf1)
      clear henc hrdW hfo hnext hpre hI hx hpl hrd hoks
      conv => arg 6; simp
      gi_wp2_with (first
        | (refine x_value_in (x_alloc (T := 101) rfl hfi hf0) (fun _ h => by cases h) (fun _ h => by cases h) (by simp [go_sem, Region.wanted, yielded]) ?_)
        | (refine x_skip_in (exec_store_new (T := 101) (X := #[bv t, .slice Af d.length cf]) rfl rfl rfl rfl hfi HFS.out (by intro v hv; simp at hv; rcases hv with rfl | rfl <;> rfl) rfl) (fun _ h => by cases h) (fun _ h => by cases h) rfl ?_))
      refine hK _ _ (Fr.alloc _ _ _) (fun W3 hf3 => ?_)
      clear hK
      conv => arg 6; simp [Act.put, go_sem]
      have hfW3 : Fr (fun k => k = W5.heap.size + 1) W W3.drew := ((Fr.alloc _ W _).trans hf3 (fun k hk => .inl hk)).then_drew
      have hB3 : Blk W3.drew (w2.heap.size + 1) 22 #[.slice A pre.length c] := hBo.fr hfW3 (fun h => absurd (show w2.heap.size + 1 = W5.heap.size + 1 from h) (by omega))
      have hR3 : Row W3.drew 5 A c (pre.map bv) := hRo.fr hfW3 (fun k hk e => by
        have e' : k = W5.heap.size + 1 := e
        rcases hAo k hk with h | h
        · omega
        · have := (hU k h).1; omega)
      have hF3 : Blk W3.drew W.heap.size 101 #[bv t, .slice Af d.length cf] := (Blk.new W _ _).fr hf3.then_drew (fun h => absurd (show W.heap.size = W5.heap.size + 1 from h) (by omega))
      have hAob : ∀ k, ab A = some k → k ≠ w2.heap.size + 1 ∧ k ≠ W.heap.size := fun k hk => by
        rcases hAo k hk with h | h
        · omega
        · have := hU k h; omega
      have hsz3' : W3.drew.heap.size = W3.heap.size := rfl
      have hsW3 : W.heap.size < W3.heap.size := Nat.lt_of_lt_of_le (by rw [World.size_alloc]; omega) hf3.size
      obtain ⟨W1, hW1⟩ : ∃ W1, W3.drew.alloc (.cells #[bv t] 5) = W1 := ⟨_, rfl⟩
      have hlit : Row W1 5 (some ⟨W3.heap.size, 0, none⟩) 1 ([t].map bv) := hW1 ▸ Row.lits W3.drew [t] (by simp [maxLen])
      have hf1 : New W3.drew W1 := hW1 ▸ Fr.alloc _ W3.drew _
      have hR1 := hR3.fr hf1 (fun _ _ h => h)
      obtain ⟨i8, hi8, hy0, hy1, hy2⟩ := info_parts infoByte
      obtain ⟨A1, c1, W4, hrun1, hrow1, hfr1, hA1⟩ := run_append_rd (P := Try.prog) W1 22 22 5 i8 (.int .u8 0) 1 Try.underlying22 hi8 hy0 hy1 hy2 rfl A c _ hR1 (some ⟨W3.heap.size, 0, none⟩) 1 _ hlit.rd (by simp [bv_one]) (by simp [maxLen]; omega) (by simp; omega)
      simp only [List.length_map] at hrun1
      rw [← List.map_append] at hrow1
      have hf04 : Fr (fun k => some k = ab A) W3.drew W4 := (hf1.mono fun _ h => h.elim).trans hfr1 (fun k hk => .inl hk)
      have hA1' : ∀ k, ab A1 = some k → ab A = some k ∨ W3.drew.heap.size ≤ k := fun k hk => (hA1 k hk).imp (fun h => h) fun h => Nat.le_trans hf1.size h
      have h0S : wrS W3.drew (w2.heap.size + 1) A pre t d A1 c1 W1 W4 (Array.replicate 10 false) ⟨none, 0, none, 0⟩ W3.drew := ⟨⟨fun h => by simp at h, fun h => by simp at h, fun h => by simp at h, fun h => by simp at h⟩, by rw [if_neg (by simp), if_neg (by simp), if_neg (by simp), if_neg (by simp), if_neg (by simp)]; exact ⟨Fr.refl _ _, rfl⟩⟩
      have HR1 := Lib.hid hrow1
      clear hR1 hlit hrow1 hfr1 hA1
      have c0 : ∀ V, Fr (fun k => some k = ab A) W3.drew V → V.cell? ⟨w2.heap.size + 1, 0, none⟩ = some (.slice A pre.length c) := fun V hV => (hB3.fr hV (fun h => (hAob _ h.symm).1 rfl)).cell 0
      have cf0 : ∀ V, Fr (fun k => some k = ab A) W3.drew V → V.cell? ⟨W.heap.size, 0, none⟩ = some (bv t) := fun V hV => (hF3.fr hV (fun h => (hAob _ h.symm).2 rfl)).cell 0
      have cf1 : ∀ V, Fr (fun k => some k = ab A) W3.drew V → V.cell? ⟨W.heap.size, 1, none⟩ = some (.slice Af d.length cf) := fun V hV => (hF3.fr hV (fun h => (hAob _ h.symm).2 rfl)).cell 1
      apply wpIn_block
      refine wpIn_region_ghost (fun _ => trivial) rfl (by kernel_rfl) (by kernel_rfl) (wrV A pre.length c W.heap.size t W3.heap.size A1 c1 Af d.length cf) (fun _ => rfl) (by kernel_rfl) (wrS W3.drew (w2.heap.size + 1) A pre t d A1 c1 W1 W4) ⟨none, 0, none, 0⟩ h0S _ (by funext g; simp [wrV, putAll, Act.put]; rfl) ?hops ?after
      case hops =>
        refine ⟨?_, ?_, ?_, ?_, ?_, ?_, ?_, ?_, ?_, ?_, trivial⟩
        all_goals
          intro g L W' hz hd hn HS
          refine held_plain rfl ?_
        · have hc := c0 W' (HS.fr9 (HS.no9 (by decide) hn))
          have H2 := ghost_keep (vs := wrV A pre.length c W.heap.size t W3.heap.size A1 c1 Af d.length cf) (S := wrS W3.drew (w2.heap.size + 1) A pre t d A1 c1 W1 W4) (g := g) (i := 0) rfl (HS.list (i := 0) (by decide) hn (by decide) (by decide) (by decide) (by decide))
          clear hd hn hz HS
          unfold opGhost
          go_simp
        · have H2 := ghost_keep (vs := wrV A pre.length c W.heap.size t W3.heap.size A1 c1 Af d.length cf) (S := wrS W3.drew (w2.heap.size + 1) A pre t d A1 c1 W1 W4) (g := g) (i := 1) rfl (HS.list (i := 1) (by decide) hn (by decide) (by decide) (by decide) (by decide))
          clear hd hn hz HS
          unfold opGhost
          go_simp
        · have hc := cf0 W' (HS.fr9 (HS.no9 (by decide) hn))
          have H2 := ghost_keep (vs := wrV A pre.length c W.heap.size t W3.heap.size A1 c1 Af d.length cf) (S := wrS W3.drew (w2.heap.size + 1) A pre t d A1 c1 W1 W4) (g := g) (i := 2) rfl (HS.list (i := 2) (by decide) hn (by decide) (by decide) (by decide) (by decide))
          clear hd hn hz HS
          unfold opGhost
          go_simp
        · obtain ⟨e3, H3⟩ := HS.at3 hz hn (hf1.mono fun _ h => h.elim)
          rw [e3]
          exact ghost_value (w' := W1) (by rw [← hW1]; exact exec_lit1 W3.drew rfl rfl rfl) (ghost_keep (vs := wrV A pre.length c W.heap.size t W3.heap.size A1 c1 Af d.length cf) (S := wrS W3.drew (w2.heap.size + 1) A pre t d A1 c1 W1 W4) (g := g) (i := 3) rfl H3)
        · obtain ⟨e4, H4⟩ := HS.at4 hz (hd ⟨3, .data⟩ (by simp) rfl) hn hf04
          rw [e4]
          exact ghost_value (x_app rfl rfl rfl hrun1) (ghost_keep (vs := wrV A pre.length c W.heap.size t W3.heap.size A1 c1 Af d.length cf) (S := wrS W3.drew (w2.heap.size + 1) A pre t d A1 c1 W1 W4) (g := g) (i := 4) rfl H4)
        · have H2 := ghost_keep (vs := wrV A pre.length c W.heap.size t W3.heap.size A1 c1 Af d.length cf) (S := wrS W3.drew (w2.heap.size + 1) A pre t d A1 c1 W1 W4) (g := g) (i := 5) rfl (HS.list (i := 5) (by decide) hn (by decide) (by decide) (by decide) (by decide))
          clear hd hn hz HS
          unfold opGhost
          go_simp
        · have hc := cf1 W' (HS.fr9 (HS.no9 (by decide) hn))
          have H2 := ghost_keep (vs := wrV A pre.length c W.heap.size t W3.heap.size A1 c1 Af d.length cf) (S := wrS W3.drew (w2.heap.size + 1) A pre t d A1 c1 W1 W4) (g := g) (i := 6) rfl (HS.list (i := 6) (by decide) hn (by decide) (by decide) (by decide) (by decide))
          clear hd hn hz HS
          unfold opGhost
          go_simp
        · obtain ⟨e7, H7⟩ := HS.at7 hz (hd ⟨4, .chain⟩ (by simp) rfl) hn
          rw [e7]
          have hrdd := HRD.out W4 ((hfW3.mono (T := fun k => ((k = w2.heap.size + 1 ∨ k = w2.heap.size) ∨ k = W5.heap.size + 1) ∨ U k) (fun k h => .inl (.inl (.inr h)))).trans hf04 (fun k hk => by
            rcases hAo k hk.symm with h | h
            · exact .inl (.inl (.inl (.inr h)))
            · exact .inl (.inr h)))
          have hc := pk_run W4 Af cf d hrdd (by omega)
          clear hd hn HS e7
          unfold opGhost
          go_simp
          refine (show CallsIn Fence.wide 3 _ _ _ _ _ from (callsIn_wide.2 hc).mono ?_)
          rintro e w'' ⟨R, cR, rfl, hR⟩
          refine ⟨_, rfl, ⟨R, cR, g.A2, g.c2⟩, by rw [Pk.runB_length]; rfl, H7 R cR w'' (HR1.out.fr hR.fr (fun _ _ h => h)) hR.row.rd (hf04.trans hR.fr (fun _ h => h.elim))⟩
        · obtain ⟨⟨hf8, hrow8, hrd8⟩, H8⟩ := HS.at8 hz (hd ⟨7, .data⟩ (by simp) rfl) hn
          obtain ⟨A2, c2, w8, hrun8, hrow9, hfr9, hA9⟩ := run_append_rd (P := Try.prog) W' 22 22 5 i8 (.int .u8 0) 1 Try.underlying22 hi8 hy0 hy1 hy2 rfl A1 c1 _ hrow8 g.R g.cR _ hrd8 (by simp [bv_one]) (by simp [maxLen, Pk.runB_length]; omega) (by simp [Pk.runB_length]; omega)
          simp only [List.length_map, List.length_append, List.length_cons, List.length_nil, Pk.runB_length, Nat.zero_add] at hrun8
          rw [← List.map_append, List.append_assoc, List.singleton_append] at hrow9
          exact ghost_value (x_app rfl rfl rfl hrun8) ⟨⟨g.R, g.cR, A2, c2⟩, rfl, H8 A2 c2 w8 hrow9 (fun k hk => by
            rcases hA9 k hk with h | h
            · exact hA1' k h
            · exact .inr (Nat.le_trans hf8.size h)) (hf8.trans hfr9 (fun k hk => by
            rcases hA1' k hk.symm with h | h
            · exact .inl h.symm
            · exact .inr h))⟩
        · have hall : ∀ i, i < 9 → L.getD i true = true := fun i hi => getD_of_both (hd ⟨i, .phase⟩ (by
            obtain rfl | rfl | rfl | rfl | rfl | rfl | rfl | rfl | rfl : i = 0 ∨ i = 1 ∨ i = 2 ∨ i = 3 ∨ i = 4 ∨ i = 5 ∨ i = 6 ∨ i = 7 ∨ i = 8 := by omega
            all_goals simp) rfl)
          obtain ⟨⟨hf9, hrow9, hA9⟩, H9⟩ := HS.at9 hz hall (hd ⟨8, .data⟩ (by simp) rfl) hn
          have hB9 : Blk W' (w2.heap.size + 1) 22 #[.slice A pre.length c] := hB3.fr hf9 (fun h => (hAob _ h.symm).1 rfl)
          have hc9 := hB9.cell 0
          have hfz9 := hB9.frozen 0
          have hln : (pre ++ (t :: Pk.runB d)).length = pre.length + 1 + (3 + d.length) := by rw [List.length_append, List.length_cons, Pk.runB_length]; omega
          have hset := hB9.set 0 (.slice g.A2 (pre.length + 1 + (3 + d.length)) g.c2)
          have hFs : Fr (fun k => k = w2.heap.size + 1) W' (W'.setCell ⟨w2.heap.size + 1, 0, none⟩ (.slice g.A2 (pre.length + 1 + (3 + d.length)) g.c2)) := Fr.setCell (S := fun k => k = w2.heap.size + 1) W' rfl _
          have HF := ghost_keep (vs := wrV A pre.length c W.heap.size t W3.heap.size A1 c1 Af d.length cf) (S := wrS W3.drew (w2.heap.size + 1) A pre t d A1 c1 W1 W4) (g := g) (i := 9) rfl (H9 _ (hrow9.fr hFs (fun k hk e => by
              rcases hA9 k hk with h | h
              · exact (hAob k h).1 e
              · have e' : k = w2.heap.size + 1 := e; omega)) (hln ▸ hset) ((hf9.mono (T := fun k => some k = ab A ∨ k = w2.heap.size + 1) (fun k h => .inl (.inl h))).trans hFs (fun k h => .inl (.inr h))))
          clear hd hn HS hset hFs H9 hB9
          unfold opGhost
          go_simp
      case after =>
        rintro g L W' hz hall HS
        obtain ⟨hrow, hA2, hB2', hFin⟩ := HS.end hz hall
        have hbs : UInt8.ofNat k.toNat :: nxt = pre ++ (t :: Pk.runB d) := by rw [HNX.out, ← HPRE.out]; rfl
        have hA2' : ∀ j, ab g.A2 = some j → j = w2.heap.size ∨ U j ∨ W.heap.size ≤ j := fun j hj => by
          rcases hA2 j hj with h | h
          · exact (hAo j h).elim .inl (fun h => .inr (.inl h))
          · rw [hsz3'] at h; exact .inr (.inr (by omega))
        refine ⟨fun j => ab g.A2 = some j ∧ j ≠ w2.heap.size, ⟨⟨g.A2, g.c2, by rw [hbs]; exact hB2', by rw [hbs]; exact hrow, fun j hj => ?_⟩, ?_, ?_⟩, ?_, fun j hj => hrow.lt hj.1, ?_⟩
        · by_cases h : j = w2.heap.size
          · exact .inl h
          · exact .inr ⟨hj, h⟩
        · refine (HIFR.out.trans (hfW3.mono (T := fun k => k = w2.heap.size + 1 ∨ k = w2.heap.size ∨ W5.heap.size ≤ k) (fun j h => .inl (.inr (.inr (by omega))))) (fun j h => .inl h)).trans hFin (fun j h => ?_)
          rcases h with h | h
          · rcases hAo j h.symm with h2 | h2
            · exact .inl (.inr (.inl h2))
            · exact .inl (.inr (.inr (HLO.out j h2)))
          · exact .inl (.inl h)
        · rintro j ⟨h1, h2⟩
          rcases hA2' j h1 with h | h | h
          · exact absurd h h2
          · exact HLO.out j h
          · omega
        · rintro j ⟨h1, h2⟩
          rcases hA2' j h1 with h | h | h
          · exact absurd h h2
          · exact .inl h
          · exact .inr h
        · refine ((Fr.refl (fun j => (j = w2.heap.size + 1 ∨ j = w2.heap.size) ∨ U j ∨ W.heap.size ≤ j) W3).then_drew).trans hFin (fun j h => ?_)
          rcases h with h | h
          · rcases hAo j h.symm with h2 | h2
            · exact .inl (.inl (.inr h2))
            · exact .inl (.inr (.inl h2))
          · exact .inl (.inl (.inl h))
    case done =>
      rintro D U W hD hI _ hd
      obtain ⟨A, c, hBo, hRo, hAo⟩ := hI.ex
      have hbs : UInt8.ofNat k.toNat :: Pk.fieldsB ((Pk.fields ⟨k, [n1, n2, n3, n4, n5], id, data, ids⟩).take (Pk.fields ⟨k, [n1, n2, n3, n4, n5], id, data, ids⟩).length) = Pk.msgB ⟨k, [n1, n2, n3, n4, n5], id, data, ids⟩ := by rw [List.take_length]; rfl
      rw [hbs] at hBo hRo
      have hc0 := hBo.cell 0
      have hww : w.heap.size ≤ w2.heap.size := (hN0.trans hN2 (fun _ h => h.elim)).size
      have hAge : ∀ j, ab A = some j → w.heap.size ≤ j := fun j hj => by
        rcases hAo j hj with h | h
        · omega
        · have := hI.lo j h; omega
      have hAD : ∀ j, ab A = some j → ¬ j = D := fun j hj e => by
        subst e
        rcases hRo.cases with ⟨rfl, _, _⟩ | ⟨g, cur, rfl, hg, _⟩
        · simp [ab] at hj
        · simp [ab] at hj
          subst hj
          rw [hg] at hd
          cases hd
      have HR := Lib.hid (show RowN w (W.putObj D (.deferred none)) A c (Pk.msgB ⟨k, [n1, n2, n3, n4, n5], id, data, ids⟩) from ⟨hRo.fr (Fr.putObj (S := fun j => j = D) _ rfl _) hAD, (hNw5.trans hI.fr (fun j hj => .inr (by omega))).trans (Fr.putObj (S := fun j => j = D) _ rfl _) (fun j hj => .inr (by omega)), hAge⟩)
      clear hBo hRo hI hbs
      gi_wp2_with fail
      refine ⟨by simp, .inl ⟨_, _, rfl, run_takeDeferred hd, ?_⟩⟩
      refine ⟨_, results_tmp2 rfl _ _ _, .inr ⟨⟨hk, hoks⟩, A, c, rfl, ?_⟩⟩
      exact HR.out
  · have HN := Lib.hid hNw2
    clear hcode
    gi_wp2_with fail
    refine ⟨_, results_tmp2 rfl _ _ _, .inl ⟨code, hc0, rfl, HN.out⟩⟩
end Go.Proofs.Ytefalfalapnllaa
