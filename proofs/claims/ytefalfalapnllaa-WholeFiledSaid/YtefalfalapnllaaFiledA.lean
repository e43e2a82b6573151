/- WholeFiled: what a journal comes to with power for so many steps (plain); the journal beside the list of what is sure; messages and cuts in memory. -/
import Derived.Test.YtefalfalapnllaaFilM
import Derived.Test.YtefalfalapnllaaJrnWhP
namespace Go.Proofs.Ytefalfalapnllaa
open Go.RowKit Go.Shelf
set_option linter.unusedVariables false
theorem brk_id (room : Int) (rs : List (List UInt8)) : (jof room rs).brk (-1) = jof room rs := rfl
theorem crash_all (room : Int) (rs : List (List UInt8)) (st keep : Int) (hds : ∀ d ∈ rs, d.length < 16777216) : openOf (((jof room rs).brk st).s.crash keep) = (some (jof room rs), 0) := by
  rw [← jof_open room rs hds]
  congr 1
  simp only [jof, JS.brk, SlabS.crash, SlabS.mk.injEq]
  have hm : max 0 (min keep (((Jrn.all Jrn.zero rs).length : Int) - ((Jrn.all Jrn.zero rs).length : Nat))) = 0 := by omega
  rw [hm]
  refine ⟨trivial, ?_, by omega, trivial⟩
  rw [List.take_of_length_le]
  omega
/-- a record that is written with power for so many steps: it is done, or the power is gone; then a crash leaves it whole, or not at all -/
theorem fil_write (room : Int) (rs : List (List UInt8)) (x : List UInt8) (n : Int) (hds : ∀ d ∈ rs, d.length ≤ 262144) (hx : x.length ≤ 262144) (hr : (((Jrn.all Jrn.zero rs).length + 35 + x.length : Nat) : Int) ≤ room) :
    (∃ st, ((jof room rs).brk n).write x = ((jof room (rs ++ [x])).brk st, 0)) ∨
    ((((jof room rs).brk n).write x).2 = 90 ∧ ∀ keep, ∃ rs'', openOf ((((jof room rs).brk n).write x).1.s.crash keep) = (some (jof room rs''), 0) ∧ (rs'' = rs ++ [x] ∨ rs'' = rs)) := by
  obtain ⟨B, hB⟩ : ∃ B, B = Jrn.all Jrn.zero rs := ⟨_, rfl⟩
  obtain ⟨R, hR⟩ : ∃ R, R = Jrn.recB (Jrn.lastOf Jrn.zero rs) x := ⟨_, rfl⟩
  have hRl : R.length = 35 + x.length := by rw [hR, Jrn.recB_length]
  have hj : jof room rs = ⟨⟨room, B, (B.length : Nat), -1⟩, rs, Jrn.lastOf Jrn.zero rs, false⟩ := by rw [hB]; rfl
  have hBR : B ++ R = Jrn.all Jrn.zero (rs ++ [x]) := by rw [hB, hR, all_snoc]
  have hj2 : jof room (rs ++ [x]) = ⟨⟨room, B ++ R, ((B ++ R).length : Nat), -1⟩, rs ++ [x], Jrn.link (Jrn.lastOf Jrn.zero rs) x, false⟩ := by rw [hBR, ← Jrn.lastOf_append]; rfl
  have hds1 : ∀ d ∈ rs, d.length < 16777216 := fun d hd => by have := hds d hd; omega
  have hds2 : ∀ d ∈ rs ++ [x], d.length < 16777216 := by
    intro d hd
    rcases List.mem_append.1 hd with h | h
    · have := hds d h; omega
    · simp at h; subst h; omega
  have ho1 : openOf ⟨room, B, (B.length : Nat), -1⟩ = (some (jof room rs), 0) := by
    rw [← jof_open room rs hds1, hj]
  have ho2 : openOf ⟨room, B ++ R, ((B ++ R).length : Nat), -1⟩ = (some (jof room (rs ++ [x])), 0) := by
    rw [← jof_open room (rs ++ [x]) hds2, hj2]
  rw [← hB] at hr
  have hnf : ¬ (room - (B.length : Int) < (R.length : Int)) := by rw [hRl]; omega
  have hx2 : ¬ 262144 < x.length := by omega
  have hlen : (B ++ R).length = B.length + R.length := List.length_append
  by_cases h0 : max n (-1) = 0
  · right
    have hw : ((jof room rs).brk n).write x = (⟨⟨room, B, (B.length : Nat), 0⟩, rs, Jrn.lastOf Jrn.zero rs, true⟩, 90) := by
      unfold JS.brk JS.write
      rw [hj]
      simp only [SlabS.append, ← hR, hnf, if_false, hx2, h0, if_true]
      simp
    rw [hw]
    refine ⟨rfl, fun keep => ⟨rs, ?_, .inr rfl⟩⟩
    rw [← ho1]
    congr 1
    simp only [SlabS.crash, SlabS.mk.injEq]
    have hm : max 0 (min keep ((B.length : Int) - (B.length : Int))) = 0 := by omega
    rw [hm]
    refine ⟨trivial, ?_, by omega, trivial⟩
    rw [List.take_of_length_le]
    omega
  · by_cases h1 : max n (-1) = 1
    · right
      have hw : ∃ ll, ((jof room rs).brk n).write x = (⟨⟨room, B ++ R, (B.length : Nat), 0⟩, rs, ll, true⟩, 90) := by
        refine ⟨Jrn.lastOf Jrn.zero rs, ?_⟩
        unfold JS.brk JS.write
        rw [hj]
        simp only [SlabS.append, SlabS.sync, SlabS.app, SlabS.stepped, ← hR, hnf, if_false, hx2, h1, show (max ((1 : Int) - 1) (-1)) = 0 from rfl, if_true]
        simp
      obtain ⟨ll, hw⟩ := hw
      rw [hw]
      refine ⟨rfl, fun keep => ?_⟩
      obtain ⟨k, hk⟩ : ∃ k : Nat, (k : Int) = max 0 (min keep (R.length : Int)) := ⟨(max 0 (min keep (R.length : Int))).toNat, by omega⟩
      have hc : (⟨room, B ++ R, (B.length : Nat), 0⟩ : SlabS).crash keep = ⟨room, B ++ R.take k, ((B.length + k : Nat) : Int), -1⟩ := by
        simp only [SlabS.crash, SlabS.mk.injEq]
        have hm : max 0 (min keep (((B ++ R).length : Int) - (B.length : Nat))) = (k : Int) := by rw [hlen]; omega
        rw [hm]
        refine ⟨trivial, ?_, by omega, trivial⟩
        have e : (((B.length : Nat) : Int) + (k : Int)).toNat = B.length + k := by omega
        rw [e, bs_part _ _ _ (by omega)]
        congr 2
        omega
      simp only
      rw [hc]
      by_cases hkl : k < R.length
      · refine ⟨rs, ?_, .inr rfl⟩
        have hop := Jrn.opened_part rs x k hds1 (by omega) (by rw [← hR]; exact hkl)
        rw [← hR, ← hB] at hop
        unfold openOf
        simp only
        rw [hop]
        simp only [List.length_append, List.length_take]
        have hmn : min k R.length = k := by omega
        rw [hmn]
        by_cases hk0 : k = 0
        · subst hk0
          rw [if_neg (by omega), hj]
          simp
        · rw [if_pos (by omega), if_neg (by omega), hj]
          simp only [SlabS.cut, SlabS.stepped, Option.some.injEq, Prod.mk.injEq, JS.mk.injEq, SlabS.mk.injEq, true_and, and_true]
          refine ⟨?_, by omega, by omega⟩
          simp
      · refine ⟨rs ++ [x], ?_, .inl rfl⟩
        rw [List.take_of_length_le (by omega), ← ho2]
        have hkk : k = R.length := by omega
        rw [hkk, hlen]
    · left
      have hst1 : max (max n (-1) - 1) (-1) ≠ 0 := by omega
      refine ⟨max (max (max n (-1) - 1) (-1) - 1) (-1), ?_⟩
      rw [hj2]
      unfold JS.brk JS.write
      rw [hj]
      simp only [SlabS.append, SlabS.sync, SlabS.synced, SlabS.app, SlabS.stepped, ← hR, hnf, if_false, hx2, h0, hst1]
      simp
/-- the bytes of a message that Write took -/
def Kept (d : List UInt8) : Prop := ∃ (k n1 n2 n3 n4 n5 : Int) (id data : List UInt8) (ids : List (List UInt8)), d = Pk.msgB ⟨k, [n1, n2, n3, n4, n5], id, data, ids⟩ ∧ (1 ≤ k ∧ k ≤ 31) ∧ (okN n1 ∧ okN n2 ∧ okN n3 ∧ okN n4 ∧ okN n5) ∧ id.length = 32 ∧ data.length ≤ 2000 ∧ ids.length ≤ 64 ∧ ∀ x ∈ ids, x.length = 32
theorem fieldsB_small (fs : List (UInt8 × List UInt8)) (h : ∀ f ∈ fs, f.2.length ≤ 2048) : (Pk.fieldsB fs).length ≤ fs.length * 2052 := by
  induction fs with
  | nil => simp [Pk.fieldsB]
  | cons f fs ih =>
    have h1 := ih fun g hg => h g (List.mem_cons_of_mem _ hg)
    have h2 := h f (List.mem_cons_self ..)
    have e : Pk.fieldsB (f :: fs) = (f.1 :: Pk.runB f.2) ++ Pk.fieldsB fs := by unfold Pk.fieldsB; rw [List.flatMap_cons]
    rw [e, List.length_append, List.length_cons, Pk.runB_length, List.length_cons]
    omega
theorem Kept.len {d : List UInt8} (h : Kept d) : d.length ≤ 16420 := by
  obtain ⟨k, n1, n2, n3, n4, n5, id, data, ids, rfl, hk, hok, hid, hd, hi, hie⟩ := h
  have hns : ∀ n ∈ [n1, n2, n3, n4, n5], okN n := by
    intro n hn
    simp only [List.mem_cons, List.not_mem_nil, or_false] at hn
    rcases hn with rfl | rfl | rfl | rfl | rfl
    · exact hok.1
    · exact hok.2.1
    · exact hok.2.2.1
    · exact hok.2.2.2.1
    · exact hok.2.2.2.2
  have hfo := fields_ok (k := k) hns rfl hid (show data.length ≤ 131072 by omega) hi hie
  have hfl := flat_len ids hie
  obtain ⟨hg, hr, _⟩ := numF_good 0 [n1, n2, n3, n4, n5] hns (by simp)
  have hs : ∀ f ∈ Pk.fields ⟨k, [n1, n2, n3, n4, n5], id, data, ids⟩, f.2.length ≤ 2048 := by
    intro f hf
    unfold Pk.fields at hf
    rcases List.mem_append.1 hf with hf | hf
    · rcases List.mem_append.1 hf with hf | hf
      · rcases List.mem_append.1 hf with hf | hf
        · rcases hg f hf with ⟨i, m, hi, _, hm0, hm, e⟩ | ⟨e, h, _⟩ | ⟨e, _⟩ | ⟨e, _⟩
          · rw [e]
            have := Pk.numB_length 6 m (by omega)
            omega
          · omega
          · have := (hr f hf).2; rw [e] at this; exact absurd this (by simp)
          · have := (hr f hf).2; rw [e] at this; exact absurd this (by simp)
        · split at hf
          · simp at hf
          · simp at hf; subst hf; show id.length ≤ _; omega
      · split at hf
        · simp at hf
        · simp at hf; subst hf; show data.length ≤ _; omega
    · split at hf
      · simp at hf
      · simp only [List.mem_singleton] at hf; subst hf; show ids.flatten.length ≤ _; omega
  have h1 := fieldsB_small _ hs
  have h2 := hfo.1
  show (Pk.fieldsB _).length + 1 ≤ _
  omega
theorem kept_all (rs : List (List UInt8)) (h : ∀ d ∈ rs, Kept d) (l : List UInt8) : (Jrn.all l rs).length ≤ 16455 * rs.length := by
  induction rs generalizing l with
  | nil => simp [Jrn.all]
  | cons d rs ih =>
    have := ih (fun d hd => h d (List.mem_cons_of_mem _ hd)) (Jrn.link l d)
    have hd := (h d (List.mem_cons_self ..)).len
    simp only [Jrn.all, List.length_append, Jrn.recB_length, List.length_cons]
    omega
def sv (d : List UInt8) : Value := .string ⟨d.toArray⟩
/-- the journal q over the slab p, beside the row of what is sure (at A), and bytes that are at Ab -/
def KS (w0 : World) (p q : Nat) (j : JS) (A : Option Addr) (c : Nat) (ss : List (List UInt8)) (Ab : Option Addr) (d : List UInt8) (W : World) : Prop :=
  ∃ H, JB W H p q j ∧ (∀ k, H k → w0.heap.size ≤ k ∧ ab A ≠ some k ∧ ab Ab ≠ some k) ∧ Row W 9 A c (ss.map sv) ∧ (∀ k, ab A = some k → w0.heap.size ≤ k ∧ ab Ab ≠ some k) ∧ Rd W Ab (d.map bv) ∧ (∀ k, ab Ab = some k → k < W.heap.size) ∧ New w0 W
section
variable {w0 w w' : World} {p q : Nat} {j : JS} {A Ab : Option Addr} {c : Nat} {ss : List (List UInt8)} {d : List UInt8}
theorem KS.frm (h : KS w0 p q j A c ss Ab d w) : New w0 w := by obtain ⟨_, _, _, _, _, _, _, h⟩ := h; exact h
theorem KS.row (h : KS w0 p q j A c ss Ab d w) : Row w 9 A c (ss.map sv) := by obtain ⟨_, _, _, h, _⟩ := h; exact h
theorem KS.rd (h : KS w0 p q j A c ss Ab d w) : Rd w Ab (d.map bv) := by obtain ⟨_, _, _, _, _, h, _⟩ := h; exact h
theorem KS.new (h : KS w0 p q j A c ss Ab d w) (f : New w w') : KS w0 p q j A c ss Ab d w' := by
  obtain ⟨H, h1, h2, h3, h4, h5, h6, h7⟩ := h
  exact ⟨H, h1.new f, h2, h3.fr f (fun _ _ => id), h4, h5.fr f (fun _ _ => id), fun k hk => Nat.lt_of_lt_of_le (h6 k hk) f.size, h7.trans f (fun _ h => h.elim)⟩
theorem KS.bare (h : KS w0 p q j A c ss Ab d w) : KS w0 p q j A c ss none [] w := by
  obtain ⟨H, h1, h2, h3, h4, h5, h6, h7⟩ := h
  exact ⟨H, h1, fun k hk => ⟨(h2 k hk).1, (h2 k hk).2.1, by simp [ab]⟩, h3, fun k hk => ⟨(h4 k hk).1, by simp [ab]⟩, Rd.nil, fun k hk => by simp [ab] at hk, h7⟩
/-- bytes that were made -/
theorem KS.got (h : KS w0 p q j A c ss Ab d w) {A2 : Option Addr} {c2 : Nat} {b : List UInt8} (hR : RowN w w' A2 c2 b) : KS w0 p q j A c ss A2 b w' := by
  have h' := h.new hR.fr
  obtain ⟨H, h1, h2, h3, h4, h5, h6, h7⟩ := h
  have hlt := h1.lt
  exact ⟨H, h1.new hR.fr, fun k hk => ⟨(h2 k hk).1, (h2 k hk).2.1, fun e => by have := hR.new k e; have := hlt k hk; omega⟩, h3.fr hR.fr (fun _ _ => id), fun k hk => ⟨(h4 k hk).1, fun e => by have := hR.new k e; have := h3.lt hk; omega⟩, hR.row.rd, fun k hk => hR.row.lt hk, h7.trans hR.fr (fun _ h => h.elim)⟩
theorem KS.step {H : Nat → Prop} {j' : JS} (h2 : ∀ k, H k → w0.heap.size ≤ k ∧ ab A ≠ some k ∧ ab Ab ≠ some k) (h3 : Row w 9 A c (ss.map sv)) (h4 : ∀ k, ab A = some k → w0.heap.size ≤ k ∧ ab Ab ≠ some k) (h5 : Rd w Ab (d.map bv)) (h6 : ∀ k, ab Ab = some k → k < w.heap.size) (h7 : New w0 w)
    {H' : Nat → Prop} (a1 : JB w' H' p q j') (a2 : Gr w H H') (a3 : Fr H w w') : KS w0 p q j' A c ss Ab d w' := by
  refine ⟨H', a1, fun k hk => ?_, h3.fr a3 (fun k hk hH => (h2 k hH).2.1 hk), h4, h5.fr a3 (fun k hk hH => (h2 k hH).2.2 hk), fun k hk => Nat.lt_of_lt_of_le (h6 k hk) a3.size, h7.trans a3 (fun k hk => .inr (h2 k hk).1)⟩
  rcases a2 k hk with h | h
  · exact h2 k h
  · exact ⟨Nat.le_trans h7.size h, fun e => by have := h3.lt e; omega, fun e => by have := h6 k e; omega⟩
theorem KS.lift {f : FuncId} {args : Array Value} {R : Ending → World → Prop} {j' : JS} (h : KS w0 p q j A c ss Ab d w)
    (hc : ∀ H, JB w H p q j → (∀ k, ab Ab = some k → ¬ H k) → Calls Try.prog f args w fun e w' => R e w' ∧ JStep w H p q j' w') :
    Calls Try.prog f args w fun e w' => R e w' ∧ KS w0 p q j' A c ss Ab d w' := by
  obtain ⟨H, h1, h2, h3, h4, h5, h6, h7⟩ := h
  refine (hc H h1 (fun k hk hH => (h2 k hH).2.2 hk)).mono ?_
  rintro e w' ⟨hR, H', a1, a2, a3⟩
  exact ⟨hR, .step h2 h3 h4 h5 h6 h7 a1 a2 a3⟩
theorem KS.Len (h : KS w0 p q j A c ss Ab d w) :
    Calls Try.prog 35 #[.pointer (some ⟨q, 0, none⟩)] w fun e w' => e = .returned (.int .i64 (j.rs.length : Int)) ∧ w = w' := by
  obtain ⟨H, ⟨F, G, A, c, ps, h1, hJ, hFG, hH⟩, _⟩ := h
  exact j_Len hJ
theorem KS.At (h : KS w0 p q j A c ss Ab d w) (i : Nat) (x : List UInt8) (hi : j.rs[i]? = some x) (hdl : x.length ≤ 140737488355328) (hrl : j.rs.length < 1000000000000) :
    Calls Try.prog 36 #[.pointer (some ⟨q, 0, none⟩), .int .i64 i] w fun e w' => ∃ A2 c2, e = .returned (.tuple #[.slice A2 x.length c2, .int .i64 0]) ∧ RowN w w' A2 c2 x ∧ KS w0 p q j A c ss Ab d w' := by
  have h0 := h
  obtain ⟨H, hB, _⟩ := h
  exact (jb_At_ok hB i x hi hdl hrl).mono fun _ _ ⟨A2, c2, he, hR, _⟩ => ⟨A2, c2, he, hR, h0.new hR.fr⟩
theorem KS.Write (h : KS w0 p q j A c ss Ab d w) (c0 : Nat) (hdl : d.length ≤ 100000000) (hrl : j.rs.length < 1000000) :
    Calls Try.prog 34 #[.pointer (some ⟨q, 0, none⟩), .slice Ab d.length c0] w fun e w' => e = .returned (.int .i64 (j.write d).2) ∧ KS w0 p q (j.write d).1 A c ss Ab d w' := by
  have hr := h.rd
  exact h.lift (R := fun e _ => e = _) fun H hB hn => jb_Write hB Ab c0 d hr (fun _ => hn) hdl hrl
theorem KS.Break (h : KS w0 p q j A c ss Ab d w) (n : Int) (hn : n ≤ 9223372036854775807) :
    Calls Try.prog 21 #[.pointer (some ⟨p, 0, none⟩), .int .i64 n] w fun e w' => e = .returned (.tuple #[]) ∧ KS w0 p q (j.brk n) A c ss Ab d w' :=
  h.lift (R := fun e _ => e = _) fun H hB _ => jb_Break hB n hn
theorem KS.Crash (h : KS w0 p q j A c ss Ab d w) (n : Int) :
    Calls Try.prog 19 #[.pointer (some ⟨p, 0, none⟩), .int .i64 n] w fun e w' => e = .returned (.tuple #[]) ∧ KS w0 p q { j with s := j.s.crash n } A c ss Ab d w' :=
  h.lift (R := fun e _ => e = _) fun H hB _ => jb_Crash hB n
theorem KS.Open {e0 : Int} {j2 : JS} (h : KS w0 p q j A c ss Ab d w) (ho : openOf j.s = (some j2, e0)) :
    Calls Try.prog 32 #[.pointer (some ⟨p, 0, none⟩)] w fun e w' => ∃ q2, e = .returned (.tuple #[.pointer (some ⟨q2, 0, none⟩), .int .i64 0]) ∧ KS w0 p q2 j2 A c ss Ab d w' := by
  obtain ⟨H, h1, h2, h3, h4, h5, h6, h7⟩ := h
  obtain ⟨F, g1, g2⟩ := h1.slabAt
  refine (jb_Open g1 ho).mono ?_
  rintro e w' ⟨q2, H', he, hB, hH, hf⟩
  exact ⟨q2, he, .step (fun k hk => h2 k (g2 k hk)) h3 h4 h5 h6 h7 hB hH hf⟩
/-- one more is sure -/
theorem KS.more (h : KS w0 p q j A c ss Ab d w) (hl : ss.length < 1000) (x : List UInt8) : ∃ A2 c2 w', (Builtin.append_ #[58, 58] 58 #[.slice A ss.length c, .slice (some ⟨w.heap.size, 0, none⟩) 1 1]).run Try.prog (w.alloc (.cells #[sv x] 9)) = .ok (.slice A2 (ss.length + 1) c2) w' ∧ KS w0 p q j A2 c2 (ss ++ [x]) Ab d w' := by
  have hw := h.new (Fr.alloc (fun _ => False) w (.cells #[sv x] 9))
  obtain ⟨H, h1, h2, h3, h4, h5, h6, h7⟩ := hw
  obtain ⟨i, hi, hz0, hz1, hz2⟩ : ∃ i, Try.prog.info? 9 = some i ∧ i.zero = some (.string ⟨#[]⟩) ∧ i.size = 1 ∧ i.bytes = 16 := by
    have h : (Try.prog.info? 9).map (fun i => (i.zero, i.size, i.bytes)) = some (some (.string ⟨#[]⟩), 1, 16) := by kernel_rfl
    exact info_parts h
  obtain ⟨A2, c2, w', hrun, hrow, hf, hA⟩ := run_append_rd (P := Try.prog) (w.alloc (.cells #[sv x] 9)) 58 58 9 i (.string ⟨#[]⟩) 16 Try.underlying58 hi hz0 hz1 hz2 rfl A c (ss.map sv) h3 (some ⟨w.heap.size, 0, none⟩) 1 [sv x] (Rd.lit w [sv x] 9 (0, 0)) (by intro u hu; simp at hu; subst hu; rfl) (by simp [maxLen]; omega) (by simp; omega)
  simp only [List.length_map, List.length_cons, List.length_nil, Nat.zero_add] at hrun
  refine ⟨A2, c2, w', hrun, H, h1.fr hf (fun k hk e => (h2 k hk).2.1 e.symm), fun k hk => ⟨(h2 k hk).1, fun e => ?_, (h2 k hk).2.2⟩, by rw [List.map_append]; exact hrow, fun k hk => ?_, h5.fr hf (fun k hk e => (h4 k e.symm).2 hk), fun k hk => Nat.lt_of_lt_of_le (h6 k hk) hf.size, h7.trans hf (fun k hk => .inr (h4 k hk.symm).1)⟩
  · rcases hA k e with h | h
    · exact (h2 k hk).2.1 h
    · have := h1.lt k hk; omega
  · rcases hA k hk with h | h
    · exact h4 k h
    · exact ⟨Nat.le_trans h7.size h, fun e => by have := h6 k e; omega⟩
end
end Go.Proofs.Ytefalfalapnllaa
