/- JournalSpoilt walked. -/
import Derived.Test.YtefalfalapnllaaJrnWholeW
import Derived.Test.YtefalfalapnllaaR10S
import Derived.Test.YtefalfalapnllaaJrnOpn
namespace Go.Proofs.Ytefalfalapnllaa
open Go.RowKit Go.Shelf
set_option linter.unusedVariables false
theorem Sl.OpenF {w0 w1 w : World} {p : Nat} {s : SlabS} {j : JS} {e0 : Int} (h : Sl w0 p s w1) (hf : New w1 w) (ho : openOf s = (some j, e0)) :
    Calls Try.prog 32 #[.pointer (some ⟨p, 0, none⟩)] w fun e w' => ∃ q, e = .returned (.tuple #[.pointer (some ⟨q, 0, none⟩), .int .i64 0]) ∧ One w0 p q j w' ∧ Fr (fun k => k < w1.heap.size) w w' := by
  obtain ⟨F, h1, h3, h6⟩ := h
  have hlt := h1.lt
  have h6' := h6.trans hf (fun _ h => h.elim)
  refine (jb_Open (h1.fr hf (fun _ _ => id)) ho).mono ?_
  rintro e w' ⟨q, H, he, hB, hH, hf2⟩
  refine ⟨q, he, ⟨H, hB, ?_, h6'.trans hf2 (fun k hk => .inr (h3 k hk))⟩, hf2.mono fun k hk => .inl (hlt k hk)⟩
  intro k hk
  rcases hH k hk with h | h
  · exact h3 k h
  · exact Nat.le_trans h6'.size h
theorem Sl.ok {w0 w : World} {p : Nat} {s : SlabS} (h : Sl w0 p s w) : s.ok := by
  obtain ⟨F, h1, _⟩ := h
  exact h1.good
theorem Sl.Bytes {w0 w : World} {p : Nat} {s : SlabS} (h : Sl w0 p s w) :
    Calls Try.prog 20 #[.pointer (some ⟨p, 0, none⟩)] w fun e w' => ∃ A2 c2, e = .returned (.slice A2 s.bs.length c2) ∧ Row w' 5 A2 c2 (s.bs.map bv) ∧ Sl w0 p s w' := by
  have h0 := h
  obtain ⟨F, h1, _⟩ := h
  exact (slab_Bytes h1).mono fun _ _ ⟨A2, c2, he, hR, _, _, hN⟩ => ⟨A2, c2, he, hR, h0.new hN⟩
/-- a byte is spoilt, or it lies out of range -/
theorem One.Spoil {w0 w : World} {p q : Nat} {room : Int} {rs : List (List UInt8)} (h : One w0 p q (jof room rs) w) (at_ : Int) (x : UInt8) :
    Calls Try.prog 31 #[.pointer (some ⟨p, 0, none⟩), .int .i64 at_, bv x] w fun e w' => ∃ bs1, (∃ v, e = .returned v) ∧ Sl w0 p ⟨room, bs1, (bs1.length : Nat), -1⟩ w' := by
  by_cases hr : at_ < 0 ∨ ((jof room rs).s.bs.length : Int) ≤ at_
  · exact (h.lift (R := fun e _ => e = _) fun H hB hH => jb_Spoil_bad hB at_ x hr).mono fun _ _ ⟨he, hS⟩ => ⟨_, ⟨_, he⟩, hS.slab⟩
  · obtain ⟨n, rfl⟩ : ∃ n : Nat, at_ = (n : Int) := ⟨at_.toNat, by omega⟩
    refine (h.lift (R := fun e _ => e = _) fun H hB hH => jb_Spoil_yes hB n x (by omega)).mono ?_
    rintro e w' ⟨he, hS⟩
    refine ⟨(Jrn.all Jrn.zero rs).set n x, ⟨_, he⟩, ?_⟩
    have := hS.slab
    rw [jof_s] at this
    simpa [SlabS.spoil] using this
/-- the opened journal, and the document's answer in its box -/
def SpSt (w0 : World) (p q : Nat) (j : JS) (T : Nat) (A : Option Addr) (c : Nat) (W : World) : Prop :=
  One w0 p q j W ∧ Blk W T 79 (jd j.s A j.rs.length c j.last false) ∧ Row W 9 A c (tv j.rs)
theorem SpSt.new {w0 W W' : World} {p q : Nat} {j : JS} {T : Nat} {A : Option Addr} {c : Nat} (h : SpSt w0 p q j T A c W) (f : New W W') : SpSt w0 p q j T A c W' :=
  ⟨h.1.new f, h.2.1.fr f id, h.2.2.fr f (fun _ _ => id)⟩
theorem SpSt.rec {w0 W : World} {p q : Nat} {j : JS} {T : Nat} {A : Option Addr} {c : Nat} (h : SpSt w0 p q j T A c W) (i : Nat) (hi : i < j.rs.length) : ∃ b off, A = some ⟨b, off, none⟩ ∧ W.cell? ⟨b, off + i, none⟩ = some (.string ⟨(j.rs[i]).toArray⟩) := by
  have hr : Rd W A (tv j.rs) := h.2.2.rd
  obtain ⟨b, off, e, _, hc⟩ := hr (by simp [tv]; omega)
  exact ⟨b, off, e, by have := hc i (by simpa [tv] using hi); simpa [tv] using this⟩
set_option maxHeartbeats 4000000 in
set_option maxRecDepth 20000 in
theorem spoilt_out (A : Option Addr) (cA n : Nat) (at_ : Int) (x : UInt8) (w : World) (h : 8 < n) :
    Calls Try.prog 13 #[.slice A n cA, .int .i64 at_, bv x] w fun e w' => e = .returned (.bool true) ∧ New w w' := by
  go_enter Try.func13, Try.ntmps13
  go_wp2_with fail
  refine (writes_any w).mono ?_
  rintro e w1 ⟨rfl, hN1⟩
  go_wp2_with fail
  go_ret
  exact ⟨rfl, hN1⟩
set_option maxHeartbeats 4000000 in
set_option maxRecDepth 20000 in
theorem spoilt_in (A : Option Addr) (cA : Nat) (ps : List Part) (at_ : Int) (xb : UInt8) (w : World) (hL : ListIn w A ps) (hn : ps.length ≤ 8) :
    Calls Try.prog 13 #[.slice A ps.length cA, .int .i64 at_, bv xb] w fun e w' => e = .returned (.bool true) ∧ New w w' := by
  obtain ⟨ij, hij, hj0, hj1, hj2⟩ := info_parts infoRJ
  go_enter Try.func13, Try.ntmps13
  go_wp2_with fail
  refine (writes_any w).mono ?_
  rintro e w1 ⟨rfl, hN1⟩
  go_wp2_with fail
  refine (slab_New 100000 (by omega) (by omega)).mono ?_
  rintro e w2 ⟨rfl, hS2, hN2⟩
  have hsl : Sl w w1.heap.size (jof 100000 []).s w2 := ⟨_, hS2, (by have := hN1.size; intro k hk; omega), hN1.trans hN2 (fun _ h => h.elim)⟩
  clear hS2 hN1 hN2
  generalize w1.heap.size = p at *
  have HS := Lib.hid hsl
  clear hsl
  go_wp2_with fail
  refine (HS.out.Open (jof_open 100000 [] (by simp))).mono ?_
  rintro e w3 ⟨q, rfl, hW⟩
  have HW := Lib.hid hW
  clear hW HS
  go_wp2_with fail
  go_loopw [41] (fun i W => ∃ k : Nat, i = .int .i64 k ∧ k ≤ ps.length ∧ (∀ d ∈ recs ps k, d.length ≤ 300) ∧ One w p q (jof 100000 (recs ps k)) W) (fun i _ => ps.length - (intOf i).toNat)
  case atStart => exact ⟨0, rfl, Nat.zero_le _, by simp [recs], HW.out⟩
  case round =>
    clear HW
    obtain ⟨k, rfl, hk, hds, hW⟩ := hrel
    by_cases hlt : k < ps.length
    · obtain ⟨b, off, hA, hbl, hcell⟩ := (hL.new hW.frm).cell k hlt
      have hrdx : ∀ W, New w W → Rd W (ps[k]).a ((ps[k]).b.map bv) := fun W f => (hL.new f).rd k hlt
      have hlow := hL.low k hlt
      have hlen := hL.len (ps[k]) (List.getElem_mem hlt)
      have hsucc := recs_succ ps k hlt
      generalize ps[k] = x at *
      subst hA
      have HL := Lib.hid hL
      clear hL
      by_cases hx : 200 < x.b.length
      · have hfin := hW.frm
        go_wp2_with fail
        go_ret
        exact ⟨rfl, hfin⟩
      · have hal := all_le (recs ps k) hds Jrn.zero
        rw [recs_len ps k hk] at hal
        have hds2 : ∀ d ∈ recs ps (k + 1), d.length ≤ 300 := by
          rw [hsucc]
          intro d hd
          rcases List.mem_append.1 hd with h | h
          · exact hds d h
          · simp at h; subst h; omega
        have HRL := Lib.hid (recs_len ps k hk)
        have HSU := Lib.hid hsucc
        have HDS := Lib.hid hds2
        have HW := Lib.hid hW
        clear hW hsucc hds hds2
        go_wp2_with fail
        refine (HW.out.Write x.a x.c x.b (hrdx _ HW.out.frm) hlow (by omega) (by rw [jof_rs, HRL.out]; omega)).mono ?_
        rintro e w6 ⟨rfl, hW6⟩
        rw [jof_write (by omega) (by omega)] at hW6 ⊢
        have HW6 := Lib.hid hW6
        clear hW6 HW
        go_wp2_with fail
        go_roundw
        case rel => exact ⟨k + 1, by go_num, by omega, HDS.out, by rw [HSU.out]; exact HW6.out⟩
        case measure => simp [intOf]; omega
    · have HW := Lib.hid hW
      clear hW hds
      go_wp2_with fail
      refine (HW.out.Spoil at_ xb).mono ?_
      rintro e w4 ⟨bs1, ⟨v4, rfl⟩, hS4⟩
      have HS4 := Lib.hid hS4
      clear hS4 HW
      go_wp2_with fail
      refine HS4.out.Bytes.mono ?_
      rintro e w5 ⟨A5, c5, rfl, hR5, hS5⟩
      have hq5 := Rd.str c5 hR5.rd
      simp only at hq5
      have HS5 := Lib.hid hS5
      clear hS5 hR5 HS4
      have hok := HS5.out.ok
      obtain ⟨s1, hs1⟩ : ∃ s1 : SlabS, s1 = ⟨100000, bs1, (bs1.length : Nat), -1⟩ := ⟨_, rfl⟩
      have hsb : s1.bs.length ≤ 100000 := by have h1 := hok.2.2.1; rw [hs1]; simp only at h1 ⊢; omega
      rw [← hs1] at HS5 hok
      have HS1 := Lib.hid hs1
      have HR := Lib.hid (r10open_any w5 s1 hok)
      clear hok hs1
      go_wp2_with fail
      refine Calls.mono (show Calls Try.prog 41 #[.agg #[.int .i64 100000, .int .i64 (bs1.length : Int), .int .i64 (-1), .string ⟨bs1.toArray⟩]] w5 _ from by
        have := HR.out
        rw [HS1.out] at this
        exact this) ?_
      rintro e w6 ⟨j, A6, c6, h⟩
      clear HR hq5
      rw [← HS1.out] at h
      clear HS1
      rcases h with ⟨ho, hdn, rfl, hR6, hA6, hN6⟩ | ⟨code, ho, hc0, rfl, hN6⟩
      · have hN7 := hN6.then_alloc (.cells (jd j.s A6 j.rs.length c6 j.last false) 79)
        have hB7 := Blk.new w6 79 (jd j.s A6 j.rs.length c6 j.last false)
        have hR7 : Row (w6.alloc (.cells (jd j.s A6 j.rs.length c6 j.last false) 79)) 9 A6 c6 (tv j.rs) := hR6.fr (Fr.alloc (fun _ => False) w6 _) (fun _ _ => id)
        have hs6 := hN6.size
        have hbd := openOf_bound ho
        have hopen := HS5.out.OpenF hN7 ho
        have hwO : ∀ q2 W, One w p q2 j W → j.last.length = 32 := fun q2 W h => by obtain ⟨H, hB, _⟩ := h; exact hB.down_eq
        have HOP := Lib.hid (show ∀ Q : Ending → World → Prop, (∀ q2 W, SpSt w p q2 j w6.heap.size A6 c6 W → Q (.returned (.tuple #[.pointer (some ⟨q2, 0, none⟩), .int .i64 0])) W) → Calls Try.prog 32 #[.pointer (some ⟨p, 0, none⟩)] (w6.alloc (.cells (jd j.s A6 j.rs.length c6 j.last false) 79)) Q from fun Q hQ => hopen.mono fun e W ⟨q2, he, hO, hf⟩ => he ▸ hQ q2 W ⟨hO, hB7.fr hf (by omega), hR7.fr hf (fun k hk => by have := hA6 k hk; omega)⟩)
        have HBD := Lib.hid hbd
        have hjl : j.last.length = 32 := openOf_last ho
        have HJS := Lib.hid (show 38 = (jd j.s A6 j.rs.length c6 j.last false).size by rw [jd_size _ _ _ _ _ _ hjl])
        have HJZ0 := Lib.hid (show (jd s0 none 0 0 z32 false).size = (jd j.s A6 j.rs.length c6 j.last false).size by rw [jd_size _ _ _ _ _ _ hjl]; rfl)
        clear hopen hB7 hR7 hN7 hbd hwO hjl hR6 hA6 hN6 ho hdn HS5
        go_wp2_with (first
          | (refine x_value (x_alloc (T := 79) rfl hij hj0) (by simp [go_sem, Region.wanted, yielded]) ?_)
          | (refine x_skip (exec_store_new (T := 79) (X := jd j.s A6 j.rs.length c6 j.last false) (Z := jd s0 none 0 0 z32 false) rfl rfl rfl rfl hij (hj1.trans HJS.out) (jd_one _ _ _ _ _ _) HJZ0.out) rfl ?_))
        refine HOP.out _ ?_
        intro q2 w8 hSt
        have HSt := Lib.hid hSt
        generalize w6.heap.size = T at *
        clear hSt HOP
        go_wp2_with fail
        go_loopw [18] (fun i W => ∃ i' : Nat, i = .int .i64 i' ∧ i' ≤ j.rs.length ∧ SpSt w p q2 j T A6 c6 W) (fun i _ => j.rs.length - (intOf i).toNat)
        case atStart => exact ⟨0, rfl, Nat.zero_le _, HSt.out⟩
        case round =>
          clear HSt
          obtain ⟨i', rfl, hi, hW⟩ := hrel
          have hjn : j.rs.length ≤ 100000 := by have := HBD.out.2; omega
          have HLEN := Lib.hid hW.1.Len
          have HW := Lib.hid hW
          clear hW
          by_cases hlt : i' < j.rs.length
          · go_wp2_with (go_at_call 35; refine HLEN.out.mono ?_; rintro e _ ⟨rfl, rfl⟩)
            refine (HW.out.1.At i' (j.rs[i']) (List.getElem?_eq_getElem hlt) (by have := HBD.out.1 _ (List.getElem_mem hlt); omega) (by omega)).mono ?_
            rintro e w9 ⟨A9, c9, rfl, hR9, _⟩
            have hW9 := HW.out.new hR9.fr
            obtain ⟨b, off, hA, hcell⟩ := hW9.rec i' hlt
            have hc4 := jd_c4 hW9.2.1
            have hq1 : ∀ n, (convert 22 9 (.slice A9 (j.rs[i']).length c9)).run Try.prog (w9.drewN n) = .ok (.string ⟨(j.rs[i']).toArray⟩) (w9.drewN n) := fun n => Rd.str c9 (hR9.row.rd.fr (Fr.drewN (fun _ => False) w9 n) (fun _ _ => id))
            have HW9 := Lib.hid hW9
            generalize j.rs[i'] = x at *
            subst hA
            clear hW9 hR9 HLEN HW
            go_wp2_with fail
            go_quiet (fail)
            clear hq1 hc4 hcell
            go_wp2_with fail
            go_roundw
            case rel => exact ⟨i' + 1, by go_num, by omega, HW9.out.new (Fr.drewN _ _ _)⟩
            case measure => simp [intOf]; omega
          · have hie : i' = j.rs.length := by omega
            have hc4 := jd_c4 HW.out.2.1
            have hlN : ∀ n, Calls Try.prog 35 #[.pointer (some ⟨q2, 0, none⟩)] (wr.drewN n) fun e w' => e = .returned (.int .i64 (j.rs.length : Int)) ∧ w' = wr.drewN n := fun n => (HW.out.1.new (Fr.drewN (fun _ => False) wr n)).Len.mono fun _ _ ⟨he, h⟩ => ⟨he, h.symm⟩
            have HLN := Lib.hid hlN
            have hfin := HW.out.1.frm
            clear HW hlN
            go_wp2_with (go_at_call 35; refine HLEN.out.mono ?_; rintro e _ ⟨rfl, rfl⟩)
            clear HLEN
            go_quiet (first | (go_at_call 35; exact Calls.quiet_of_same (HLN.out _)))
            have hfin2 := hfin.then_drewN nq
            clear hfin HLN
            go_wp2_with fail
            go_ret
            exact ⟨rfl, hfin2⟩
      · have hN7 := hN6.then_alloc (.cells (jd s1 none 0 0 z32 false) 79)
        have HO := Lib.hid (HS5.out.new hN7)
        have HC := Lib.hid ho
        have hcb : (code == 0) = false := beq_false_of_ne hc0
        have hcb2 : (code != 0) = true := bne_iff_ne.2 hc0
        have HJS := Lib.hid (show 38 = (jd s1 none 0 0 z32 false).size from rfl)
        have HJZ0 := Lib.hid (show (jd s0 none 0 0 z32 false).size = (jd s1 none 0 0 z32 false).size from rfl)
        clear ho hN6 hN7 HS5
        go_wp2_with (first
          | (refine x_value (x_alloc (T := 79) rfl hij hj0) (by simp [go_sem, Region.wanted, yielded]) ?_)
          | (refine x_skip (exec_store_new (T := 79) (X := jd s1 none 0 0 z32 false) (Z := jd s0 none 0 0 z32 false) rfl rfl rfl rfl hij (hj1.trans HJS.out) (jd_one _ _ _ _ _ _) HJZ0.out) rfl ?_))
        refine (HO.out.OpenNo HC.out).mono ?_
        rintro e w8 ⟨rfl, hS8⟩
        have hfin := hS8.frm
        clear HO HC hS8
        go_wp2_with fail
        go_ret
        exact ⟨rfl, hfin⟩
theorem journalSpoilt_walk (A : Option Addr) (cA : Nat) (ps : List Part) (at_ : Int) (x : UInt8) (w : World) (hL : ListIn w A ps) :
    Calls Try.prog 13 #[.slice A ps.length cA, .int .i64 at_, bv x] w fun e w' => e = .returned (.bool true) ∧ Below w.heap.size w w' := by
  have hb : ∀ w', New w w' → Below w.heap.size w w' := fun w' h => h.below (Nat.le_refl _) (fun _ => False.elim)
  by_cases h : 8 < ps.length
  · exact (spoilt_out A cA ps.length at_ x w h).mono fun e w' ⟨he, hn⟩ => ⟨he, hb w' hn⟩
  · exact (spoilt_in A cA ps at_ x w hL (by omega)).mono fun e w' ⟨he, hn⟩ => ⟨he, hb w' hn⟩
theorem journalSpoilt_walkZ (A : Option Addr) (cA : Nat) (ps : List Part) (at_ a2 : Int) (w : World) (w2 : (Lit.int .u8 a2).wf = true) (hL : ListIn w A ps) :
    Calls Try.prog 13 #[.slice A ps.length cA, .int .i64 at_, .int .u8 a2] w fun e w' => e = .returned (.bool true) ∧ Below w.heap.size w w' := by
  rw [← jbv_of a2 w2]
  exact journalSpoilt_walk A cA ps at_ (UInt8.ofNat a2.toNat) w hL
end Go.Proofs.Ytefalfalapnllaa
