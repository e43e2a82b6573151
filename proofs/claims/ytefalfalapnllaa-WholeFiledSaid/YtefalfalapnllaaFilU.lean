/- Package pack: the iterator over a reader's fields. -/
import Derived.Test.YtefalfalapnllaaFilT
import Derived.Test.YtefalfalapnllaaLast
import Derived.Sort.CutIn
namespace Go.Proofs.Ytefalfalapnllaa
open Go.RowKit Go.Shelf
set_option linter.unusedVariables false
/-- a field that is handed out by the reader: with the reader in order -/
def EncR (r : Nat) (_ : Nat) (f : UInt8 × List UInt8) (args : Array Value) (V : World) : Prop :=
  ∃ g o c, args = #[bv f.1, .slice (some ⟨g, o, none⟩) f.2.length c] ∧ Rd V (some ⟨g, o, none⟩) (f.2.map bv) ∧ f.2.length ≤ c ∧ ∃ v, Blk V r 106 #[v, .int .i64 0]
def FO (W0 : World) (T O : Nat → Prop) (J : Nat → (Nat → Prop) → World → Prop) (i : Nat) (U : Nat → Prop) (V : World) : Prop := J i U V ∧ (∀ k, U k → W0.heap.size ≤ k ∧ k < V.heap.size) ∧ Fr (fun k => T k ∨ O k ∨ W0.heap.size ≤ k) W0 V
section
variable {W0 V V' : World} {T O U : Nat → Prop} {J : Nat → (Nat → Prop) → World → Prop} {i : Nat}
theorem FO.own (h : FO W0 T O J i U V) (hJ : AbU W0.heap.size O J) {S : Nat → Prop} (f : Fr S V V') (hS : ∀ k, S k → O k ∨ (W0.heap.size ≤ k ∧ ¬ U k)) : FO W0 T O J i U V' :=
  ⟨hJ i U V V' h.1 (f.mono fun k hk => .inl (hS k hk)), fun k hk => ⟨(h.2.1 k hk).1, Nat.lt_of_lt_of_le (h.2.1 k hk).2 f.size⟩, h.2.2.trans f (fun k hk => .inl (.inr ((hS k hk).imp id fun h => h.1)))⟩
theorem FO.after (h : FO W0 T O J i U V) {U' : Nat → Prop} (hj : J (i + 1) U' V') (hg : ∀ k, U' k → U k ∨ V.heap.size ≤ k) (hu : ∀ k, U' k → k < V'.heap.size) (f : Fr (fun k => T k ∨ U k) V V') : FO W0 T O J (i + 1) U' V' :=
  ⟨hj, fun k hk => ⟨by rcases hg k hk with h' | h'; exact (h.2.1 k h').1; exact Nat.le_trans h.2.2.size h', hu k hk⟩, h.2.2.trans f (fun k hk => .inl (hk.imp id fun hu => .inr (h.2.1 k hu).1))⟩
end
/-- where the drawn region stands that takes the tag off -/
def tkS (W0 W1 : World) (L : Array Bool) (W' : World) : Prop := ((L.getD 7 false = true → L.getD 6 false = true) ∧ (L.getD 8 false = true → ∀ i, i < 8 → L.getD i true = true)) ∧ W' = (if L.getD 8 false then W1 else W0)
theorem tkS.list {W0 W1 W' : World} {L : Array Bool} (h : tkS W0 W1 L W') (hz : L.size = 9) {i : Nat} (hi : i < 8) (hn : L.getD i true = false) (h7 : i = 7 → L.getD 6 false = true) : W' = W0 ∧ tkS W0 W1 (L.setIfInBounds i true) W' := by
  have h8 : L.getD 8 false = false := by
    cases e : L.getD 8 false with
    | false => rfl
    | true => have := h.1.2 e i hi; rw [hn] at this; cases this
  obtain ⟨⟨h67, _⟩, hw⟩ := h
  rw [h8] at hw
  refine ⟨hw, ?_⟩
  unfold tkS
  rw [getD_set_ne false (show i ≠ 8 by omega), h8]
  refine ⟨⟨fun e => ?_, fun e => (by cases e)⟩, hw⟩
  by_cases h6 : i = 6
  · subst h6; exact getD_set_self (by omega)
  · rw [getD_set_ne false h6]
    by_cases hi7 : i = 7
    · exact h7 hi7
    · rw [getD_set_ne false hi7] at e
      exact h67 e
theorem tkS.last {W0 W1 W' : World} {L : Array Bool} (h : tkS W0 W1 L W') (hz : L.size = 9) (hn : L.getD 8 true = false) (h7 : L.getD 7 false = true) (hall : ∀ i, i < 6 → L.getD i true = true) : W' = W0 ∧ tkS W0 W1 (L.setIfInBounds 8 true) W1 := by
  have h8 : L.getD 8 false = false := getD_no (by omega) hn
  obtain ⟨⟨h67, _⟩, hw⟩ := h
  rw [h8] at hw
  refine ⟨hw, ?_⟩
  unfold tkS
  rw [getD_set_self (by omega), getD_set_ne false (show 8 ≠ 7 by decide), getD_set_ne false (show 8 ≠ 6 by decide)]
  refine ⟨⟨h67, fun _ i hi => ?_⟩, rfl⟩
  rw [getD_set_ne true (by omega)]
  rcases (by omega : i < 6 ∨ i = 6 ∨ i = 7) with h | rfl | rfl
  · exact hall i h
  · exact getD_of_both (h67 h7)
  · exact getD_of_both h7
theorem tkS.end {W0 W1 W' : World} {L : Array Bool} (h : tkS W0 W1 L W') (hz : L.size = 9) (hall : ∀ i, L.getD i true = true) : W' = W1 := by
  have h8 : L.getD 8 false = true := by
    have := hall 8
    rw [Array.getD_eq_getD_getElem?] at this ⊢
    rw [Array.getElem?_eq_getElem (by omega)] at this ⊢
    exact this
  have := h.2
  rwa [h8] at this
theorem fieldsB_at (fs : List (UInt8 × List UInt8)) (i : Nat) (hi : i < fs.length) : Pk.fieldsB (fs.drop i) = fs[i].1 :: (Jrn.dig fs[i].2.length ++ (fs[i].2 ++ Pk.fieldsB (fs.drop (i + 1)))) := by
  rw [List.drop_eq_getElem_cons hi]
  unfold Pk.fieldsB
  rw [List.flatMap_cons]
  simp [Pk.runB]
attribute [local go_sem] Oper.semAt_some
attribute [local irreducible] opHeld
set_option maxHeartbeats 8000000 in
set_option maxRecDepth 100000 in
theorem all_any (n : Nat) (hn : 3 ≤ n) (rb r g o c : Nat) (fs : List (UInt8 × List UInt8)) (hf : ∀ f ∈ fs, f.2.length < 16777216 ∧ f.1.toNat ≤ 9) (hs : ∀ i j (hi : i < fs.length) (hj : j < fs.length), i < j → fs[i].1.toNat < fs[j].1.toNat) (h1 : ∀ f ∈ fs, 1 ≤ f.1.toNat) (hl : (Pk.fieldsB fs).length ≤ 100000000) :
    SeqU Fence.wide n Try.prog 61 #[.pointer (some ⟨rb, 0, none⟩)] (fun k => k = r) (EncR r) fs
      (fun T W => Blk W rb 104 #[.pointer (some ⟨r, 0, none⟩)] ∧ Blk W r 106 (rdc g o (Pk.fieldsB fs).length c) ∧ Rd W (some ⟨g, o, none⟩) ((Pk.fieldsB fs).map bv) ∧ (Pk.fieldsB fs).length ≤ c ∧ g < W.heap.size ∧ g ≠ r ∧ rb ≠ r ∧ ¬ T rb ∧ ¬ T g)
      (fun W => ∃ v, Blk W r 106 #[v, .int .i64 0]) := by
  rintro l T J W ⟨hRB, hRR, hRd, hlc, hgw, hgr, hrr, hTrb, hTg⟩ hT hJ hY h0
  refine callsIn_of_wp Try.func61 rfl trivial ?_ rfl
  simp only [Try.ntmps61, List.size_toArray, List.length_cons, List.length_nil, Nat.reduceAdd, Nat.reduceSub, Array.replicate_succ, Array.replicate_zero, List.push_toArray, List.append_toArray, List.nil_append, List.cons_append]
  have hF0 : FO W T (fun k => k = r) J 0 (fun _ => False) W := ⟨h0, fun _ h => h.elim, Fr.refl _ _⟩
  have HF0 := Lib.hid hF0
  have HY := Lib.hid hY
  have HRB := Lib.hid hRB
  have HRR := Lib.hid hRR
  have HRd := Lib.hid hRd
  have hrw := hRR.lt
  have hrbw := hRB.lt
  clear hY h0 hF0 hRB hRR hRd
  gi_wp2_with fail
  gi_loopw [3] (fun lv V => ∃ (i : Nat) (U : Nat → Prop) (o' c' t : Nat), lv = .int .u8 t ∧ t ≤ 9 ∧ i ≤ fs.length ∧ (∀ j (hj : j < fs.length), i ≤ j → t < fs[j].1.toNat) ∧ FO W T (fun k => k = r) J i U V ∧
      Blk V r 106 (rdc g o' (Pk.fieldsB (fs.drop i)).length c') ∧ Rd V (some ⟨g, o', none⟩) ((Pk.fieldsB (fs.drop i)).map bv) ∧ (Pk.fieldsB (fs.drop i)).length ≤ c' ∧ (Pk.fieldsB (fs.drop i)).length ≤ 100000000) (fun lv _ => 10 - (intOf lv).toNat)
  case atStart => exact ⟨0, _, o, c, 0, rfl, by omega, Nat.zero_le _, fun j hj _ => by have := h1 _ (List.getElem_mem hj); omega, HF0.out, HRR.out, HRd.out, hlc, hl⟩
  case round =>
    obtain ⟨i, U, o', c', t, rfl, ht, hi, htl, hFO, hRR, hRd, hlc', hbig⟩ := hrel
    have hRBr : Blk wr rb 104 #[.pointer (some ⟨r, 0, none⟩)] := HRB.out.fr hFO.2.2 (fun h => by rcases h with h | h | h; exact hTrb h; exact hrr h; omega)
    have rb0 := hRBr.cell 0
    have HFO := Lib.hid hFO
    clear hFO HF0 HRR HRd
    by_cases hil : i < fs.length
    · have hat := fieldsB_at fs i hil
      obtain ⟨hdl, ht9⟩ := hf _ (List.getElem_mem hil)
      have htt := htl i hil (Nat.le_refl _)
      have hnx := fun j (hj : j < fs.length) (hij : i + 1 ≤ j) => hs i j hil hj (by omega)
      have hget : fs[i]? = some fs[i] := List.getElem?_eq_getElem hil
      rw [hat] at hRR hRd hlc' hbig
      generalize fs[i] = f at *
      obtain ⟨tag, d⟩ := f
      dsimp only at hdl ht9 htt hRR hRd hlc' hbig hget hnx
      generalize htl0 : Pk.fieldsB (fs.drop (i + 1)) = tl at *
      have HTL := Lib.hid htl0
      clear htl0
      have htag : (tag.toNat : Int) ≤ 9 := by show ((tag.toNat : Nat) : Int) ≤ 9; omega
      have HNX := Lib.hid hnx
      clear hat hnx htl
      obtain ⟨body, hbody⟩ : ∃ body, Jrn.dig d.length ++ (d ++ tl) = body := ⟨_, rfl⟩
      simp only [hbody] at hRR hRd hlc' hbig
      obtain ⟨m, hm⟩ : ∃ m, (tag :: body).length = m := ⟨_, rfl⟩
      have hbl : body.length = m - 1 := by rw [← hm, List.length_cons]; omega
      rw [hm] at hRR hlc' hbig
      have hm0 : 0 < m := by rw [← hm, List.length_cons]; omega
      have hm0' : (0 : Int) < (m : Int) := by omega
      have hbig' : (m : Int) ≤ 100000000 := by omega
      have r0 := hRR.cell 0
      have r1 := hRR.cell 1
      simp [rdc] at r0 r1
      obtain ⟨g', o1', e, hgl, hcell⟩ := hRd (by simp)
      cases e
      have k0 := hcell 0 (by simp)
      rw [Nat.add_zero] at k0
      simp [bv] at k0
      have htg1 : decide ((tag.toNat : Int) ≤ (t : Int)) = false := decide_eq_false (by have : t < tag.toNat := htt; omega)
      have htg2 : decide ((9 : Int) < (tag.toNat : Int)) = false := decide_eq_false (by omega)
      have hRd1 := rd_dropO hRd c' 1 (by rw [hm]; exact hlc')
      rw [List.drop_one, List.tail_cons] at hRd1
      have hsl : ∀ V, (Instr.slice 22 (.slice (some ⟨g, o', none⟩) m c') (some (.int .i64 1)) none none).run Try.prog V = .ok (.slice (some ⟨g, slO o' c' 1, none⟩) (m - 1) (c' - 1)) V := fun V => sl_drop g o' m c' 1 (by omega) (by omega) V
      have HRR := Lib.hid hRR
      have HRd1 := Lib.hid hRd1
      have HBL := Lib.hid hbl
      have HBO := Lib.hid hbody
      clear hRR hRd hcell hbl hbody hRd1 hm
      gi_upto_region 3 with fail
      have d0 : wr.drew.cell? ⟨rb, 0, none⟩ = some (.pointer (some ⟨r, 0, none⟩)) := rb0
      have d1 : wr.drew.cell? ⟨r, 0, none⟩ = some (.slice (some ⟨g, o', none⟩) m c') := r0
      have d2 : wr.drew.frozen? ⟨r, 0, none⟩ = false := HRR.out.frozen 0
      have hB1 : Blk (wr.drew.setCell ⟨r, 0, none⟩ (.slice (some ⟨g, slO o' c' 1, none⟩) (m - 1) (c' - 1))) r 106 (rdc g (slO o' c' 1) (m - 1) (c' - 1)) := Blk.set (show Blk wr.drew r 106 (rdc g o' m c') from HRR.out) 0 (.slice (some ⟨g, slO o' c' 1, none⟩) (m - 1) (c' - 1))
      have hF1 : Fr (fun k => k = r) wr (wr.drew.setCell ⟨r, 0, none⟩ (.slice (some ⟨g, slO o' c' 1, none⟩) (m - 1) (c' - 1))) := (Fr.drew (fun k => k = r) wr).trans (Fr.setCell (S := fun k => k = r) _ rfl _) (fun k h => .inl h)
      have HB1 := Lib.hid hB1
      have HF1 := Lib.hid hF1
      clear hB1 hF1
      generalize hW1 : wr.drew.setCell ⟨r, 0, none⟩ (.slice (some ⟨g, slO o' c' 1, none⟩) (m - 1) (c' - 1)) = W1 at *
      refine wpIn_region_all (fun _ => trivial) rfl (by kernel_rfl) (by kernel_rfl) [.pointer (some ⟨r, 0, none⟩), .pointer (some ⟨r, 0, none⟩), .pointer (some ⟨r, 0, none⟩), .pointer (some ⟨r, 0, none⟩), .slice (some ⟨g, o', none⟩) m c', .slice (some ⟨g, slO o' c' 1, none⟩) (m - 1) (c' - 1), .pointer (some ⟨r, 0, none⟩), .pointer (some ⟨r, 0, none⟩), undef] (by kernel_rfl) (tkS wr.drew W1) _ (by simp [putAll, Act.put]; rfl) ⟨⟨fun e => by simp at e, fun e => by simp at e⟩, by rw [if_neg (by simp)]⟩ ?hops ?after
      case hops =>
        refine ⟨?_, ?_, ?_, ?_, ?_, ?_, ?_, ?_, ?_, trivial⟩
        all_goals
          rintro L W' hz hd hn HS
          refine held_plain rfl ?_
        · obtain ⟨e, H2⟩ := HS.list (i := 0) hz (by decide) hn (fun e => by cases e)
          subst e
          clear hd hn hz HS
          unfold opHeld
          go_simp
        · obtain ⟨e, H2⟩ := HS.list (i := 1) hz (by decide) hn (fun e => by cases e)
          subst e
          clear hd hn hz HS
          unfold opHeld
          go_simp
        · obtain ⟨e, H2⟩ := HS.list (i := 2) hz (by decide) hn (fun e => by cases e)
          subst e
          clear hd hn hz HS
          unfold opHeld
          go_simp
        · obtain ⟨e, H2⟩ := HS.list (i := 3) hz (by decide) hn (fun e => by cases e)
          subst e
          clear hd hn hz HS
          unfold opHeld
          go_simp
        · obtain ⟨e, H2⟩ := HS.list (i := 4) hz (by decide) hn (fun e => by cases e)
          subst e
          clear hd hn hz HS
          unfold opHeld
          go_simp
        · obtain ⟨e, H2⟩ := HS.list (i := 5) hz (by decide) hn (fun e => by cases e)
          subst e
          clear hd hn hz HS
          unfold opHeld
          go_simp
        · obtain ⟨e, H2⟩ := HS.list (i := 6) hz (by decide) hn (fun e => by cases e)
          subst e
          clear hd hn hz HS
          unfold opHeld
          go_simp
        · obtain ⟨e, H2⟩ := HS.list (i := 7) hz (by decide) hn (fun e => hd ⟨6, .data⟩ (by simp) rfl)
          subst e
          clear hd hn hz HS
          unfold opHeld
          go_simp
        · have hall : ∀ i, i < 6 → L.getD i true = true := fun i hi => getD_of_both (hd ⟨i, .phase⟩ (by
            obtain rfl | rfl | rfl | rfl | rfl | rfl : i = 0 ∨ i = 1 ∨ i = 2 ∨ i = 3 ∨ i = 4 ∨ i = 5 := by omega
            all_goals simp) rfl)
          obtain ⟨e, H2⟩ := HS.last hz hn (hd ⟨7, .data⟩ (by simp) rfl) hall
          subst e
          clear hd hn hz HS
          unfold opHeld
          go_simp
      case after =>
        intro L w' hz hall HS
        obtain rfl := HS.end hz hall
        clear HS hall hz hW1 d0 d1 d2 r0 r1 k0
        have rb1 := (HRB.out.fr (HFO.out.2.2.trans HF1.out (fun k h => .inl (.inr (.inl h)))) (fun h => by rcases h with h | h | h; exact hTrb h; exact hrr h; omega)).cell 0
        simp at rb1
        have hB1 := HB1.out
        have hR1 : Rd w' (some ⟨g, slO o' c' 1, none⟩) (body.map bv) := HRd1.out.fr HF1.out (fun k hk e => by simp [ab] at hk; exact hgr (hk.trans e))
        have hlen : (Jrn.dig d.length ++ (d ++ tl)).length = m - 1 := by rw [HBO.out]; exact HBL.out
        have hrun := r_run w' r g (slO o' c' 1) (c' - 1) d tl (by rw [hlen]; exact hB1) (by rw [HBO.out]; exact hR1) (by rw [hlen]; omega) hgr hdl (by rw [hlen]; omega)
        have HR1 := Lib.hid hR1
        have HRUN := Lib.hid hrun
        clear hB1 hR1 hrun
        gi_wp2_with fail
        refine ⟨trivial, (fun h => by cases h), CallsIn.mono (show CallsIn Fence.wide _ _ _ _ _ _ from callsIn_wide.2 HRUN.out) ?_⟩
        rintro e w4 ⟨rfl, hB4, hF4⟩
        have hFr4 : Fr (fun k => k = r) wr w4 := HF1.out.trans hF4 (fun k h => .inl h)
        have hFO4 := HFO.out.own hJ hFr4 (fun k h => .inl h)
        have hrb4 := (HRB.out.fr hFO4.2.2 (fun h => by rcases h with h | h | h; exact hTrb h; exact hrr h; omega)).cell 0
        simp at hrb4
        have hc4 := hB4.cell 1
        simp [rdc] at hc4
        have hR4 : Rd w4 (some ⟨g, slO o' c' 1, none⟩) (body.map bv) := HR1.out.fr hF4 (fun k hk e => by simp [ab] at hk; exact hgr (hk.trans e))
        have hbd : (body.drop 3).take d.length = d := by
          rw [← HBO.out, List.drop_append_of_le_length (by rw [Jrn.dig_length]; omega), List.drop_of_length_le (by rw [Jrn.dig_length]; omega), List.nil_append, List.take_append_of_le_length (Nat.le_refl _), List.take_length]
        have hbt : body.drop (3 + d.length) = tl := by
          rw [← HBO.out, ← List.append_assoc, List.drop_left' (by simp [Jrn.dig_length])]
        have hble : body.length ≤ c' - 1 := by rw [HBL.out]; omega
        have hRd4 : Rd w4 (some ⟨g, slO (slO o' c' 1) (c' - 1) 3, none⟩) (d.map bv) := by
          have := rd_take (rd_dropO hR4 (c' - 1) 3 hble) d.length
          rwa [hbd] at this
        have hRt4 : Rd w4 (some ⟨g, slO (slO o' c' 1) (c' - 1) (3 + d.length), none⟩) (tl.map bv) := by
          have := rd_dropO hR4 (c' - 1) (3 + d.length) hble
          rwa [hbt] at this
        have hdle : d.length ≤ c' - 1 - 3 ∧ tl.length ≤ c' - 1 - (3 + d.length) ∧ tl.length ≤ 100000000 := by
          have := HBO.out
          have h2 := congrArg List.length this
          rw [HBL.out] at h2
          simp only [List.length_append, Jrn.dig_length] at h2
          omega
        have hgT : ∀ k, ab (some (⟨g, slO (slO o' c' 1) (c' - 1) 3, none⟩ : Addr)) = some k → ¬ (T k ∨ U k) := fun k hk h => by
          simp [ab] at hk
          subst hk
          rcases h with h | h
          · exact hTg h
          · have := (hFO4.2.1 g h).1; omega
        have hrT : ¬ (T r ∨ U r) := fun h => by
          rcases h with h | h
          · exact (hT r h).2 rfl
          · have := (hFO4.2.1 r h).1; omega
        have hY2 := HY.out i (tag, d) #[bv tag, .slice (some ⟨g, slO (slO o' c' 1) (c' - 1) 3, none⟩) d.length (c' - 1 - 3)] U w4 hget (fun V hV => ⟨g, _, _, rfl, hRd4.fr hV hgT, hdle.1, ⟨_, hB4.fr hV hrT⟩⟩) hFO4.1 hFO4.2.2.size hFO4.2.1
        obtain ⟨fn, tmps, assign, body', hy, hRo⟩ := hY2
        have hy' : (Instr.yield l #[.int .u8 (tag.toNat : Int), .slice (some ⟨g, slO (slO o' c' 1) (c' - 1) 3, none⟩) d.length (c' - 1 - 3)]).run Try.prog w4 = .ok (.round l fn tmps assign body' ) w4 := hy
        have HRO := Lib.hid hRo
        have HFO4 := Lib.hid hFO4
        have HB4 := Lib.hid hB4
        have HRT4 := Lib.hid hRt4
        have HDLE := Lib.hid hdle
        clear hy hRo hFO4 hB4 hRt4 hdle hgT hrT hRd4 hR4 HR1 HRUN hbd hbt hble hF4 hFr4
        gi_wp2_with fail
        refine ⟨(fun h => by cases h), HRO.out.mono ?_⟩
        clear hy' HRO
        rintro e W5 ⟨rfl, U5, hj, hg5, hu5, hf5⟩
        have HFO5 := Lib.hid (HFO4.out.after hj hg5 hu5 hf5)
        have hB5 : Blk W5 r 106 (rdc g (slO (slO o' c' 1) (c' - 1) (3 + d.length)) tl.length (c' - 1 - (3 + d.length))) := HB4.out.fr hf5 (fun h => by
          rcases h with h | h
          · exact (hT r h).2 rfl
          · have := (HFO4.out.2.1 r h).1; omega)
        have hR5 : Rd W5 (some ⟨g, slO (slO o' c' 1) (c' - 1) (3 + d.length), none⟩) (tl.map bv) := HRT4.out.fr hf5 (fun k hk h => by
          simp [ab] at hk
          subst hk
          rcases h with h | h
          · exact hTg h
          · have := (HFO4.out.2.1 g h).1; omega)
        have HB5 := Lib.hid hB5
        have HR5 := Lib.hid hR5
        clear hj hg5 hu5 hf5 hB5 hR5
        gi_wp2_with fail
        refine ⟨⟨i + 1, U5, _, _, tag.toNat, rfl, ht9, by omega, fun j hj hij => HNX.out j hj hij, HFO5.out, by rw [HTL.out]; exact HB5.out, by rw [HTL.out]; exact HR5.out, by rw [HTL.out]; exact HDLE.out.2.1, by rw [HTL.out]; exact HDLE.out.2.2⟩, ?_⟩
        simp [intOf]
        omega
    · obtain rfl : i = fs.length := by omega
      rw [List.drop_length] at hRR hRd hlc' hbig
      have r0 := hRR.cell 0
      have r1 := hRR.cell 1
      simp [rdc, Pk.fieldsB] at r0 r1
      have HR := Lib.hid hRR
      clear hRR hRd hlc' hbig
      gi_wp2_with fail
      go_end0
      exact ⟨⟨_, rfl⟩, ⟨U, HFO.out.1⟩, ⟨_, HR.out⟩⟩
end Go.Proofs.Ytefalfalapnllaa
