/- Package journal: the contract of At; A journal as plain data, and what Write does to it; a slab's Append and Sync, each in one contract; Package journal: a record more in memory; fields that are set; Package journal: the drawn region in which a record is put behind the others (in Write and in Open). -/
import Derived.Test.YtefalfalapnllaaJrnA
import Derived.Test.YtefalfalapnllaaSlabUp
namespace Go.Proofs.Ytefalfalapnllaa
open Go.RowKit Go.Shelf
set_option linter.unusedVariables false
section
variable {w : World} {G : Nat → Prop} {q p : Nat} {rs : List (List UInt8)} {last : List UInt8} {down : Bool} {A : Option Addr} {c : Nat} {ps : List Part}
theorem j_At_bad (h : JAt w G q p rs last down A c ps) (i : Int) (hi : i < 0 ∨ (rs.length : Int) ≤ i) :
    Calls Try.prog 36 #[.pointer (some ⟨q, 0, none⟩), .int .i64 i] w fun e w' => e = .returned (.tuple #[.slice none 0 0, .int .i64 4]) ∧ w = w' := by
  have c1 := h.c1
  have hl := h.pslen
  rw [← hl] at hi
  clear h hl
  by_cases h0 : i < 0
  · clear hi
    go_enter Try.func36, Try.ntmps36
    go_wp2
    go_ret2
    exact ⟨rfl, rfl⟩
  · have h1 : (ps.length : Int) ≤ i := by omega
    have h0' : decide (i < 0) = false := by simpa using h0
    have h1' : decide ((ps.length : Int) ≤ i) = true := by simpa using h1
    clear hi
    go_enter Try.func36, Try.ntmps36
    go_wp2
    go_ret2
    exact ⟨rfl, rfl⟩
/-- the whole of the bytes, as a copy of the call's own -/
theorem copy_run (w W : World) (hN : New w W) (A : Option Addr) (c : Nat) (d : List UInt8) (hd : Rd W A (d.map bv)) (hl : d.length ≤ 140737488355328) :
    ∃ A2 c2 w', (Builtin.append_ #[22, 22] 22 #[.slice (some ⟨W.heap.size, 0, none⟩) 0 0, .slice A d.length c]).run Try.prog (W.alloc (.cells #[] 5)) = .ok (.slice A2 d.length c2) w' ∧ RowN w w' A2 c2 d ∧ New W w' := by
  have h0 := RowN.lit w W hN [] (by simp)
  obtain ⟨A2, c2, w', hrun, hR, hf⟩ := h0.more (Fr.refl (fun _ => False) _) (c' := c) (hd.alloc _) (by simpa using hl)
  simp only [List.length_nil, Nat.zero_add] at hrun
  refine ⟨A2, c2, w', hrun, by simpa using hR, ?_⟩
  exact (Fr.alloc (fun _ => False) W (.cells (ida []) 5)).trans hf fun k hk => .inr (by simp [ab] at hk; omega)
set_option maxHeartbeats 1000000 in
set_option maxRecDepth 20000 in
theorem j_At_ok (h : JAt w G q p rs last down A c ps) (i : Nat) (d : List UInt8) (hi : rs[i]? = some d) (hdl : d.length ≤ 140737488355328) (hrl : rs.length < 1000000000000) :
    Calls Try.prog 36 #[.pointer (some ⟨q, 0, none⟩), .int .i64 i] w fun e w' => ∃ A2 c2, e = .returned (.tuple #[.slice A2 d.length c2, .int .i64 0]) ∧ RowN w w' A2 c2 d := by
  have c1 := h.c1
  have hl := h.pslen
  have hil : i < ps.length := by
    have := (List.getElem?_eq_some_iff.1 hi).1
    omega
  have hd : ps[i].b = d := by
    have e := h.data
    rw [← e, List.getElem?_map, List.getElem?_eq_getElem hil] at hi
    simpa using hi
  obtain ⟨ba, off, rfl, hbl, hcell⟩ := h.row.rd (by simp; omega)
  have hci := hcell i (by simpa using hil)
  have e1 : (ps.map Part.v)[i]'(by simpa using hil) = .slice ps[i].a d.length ps[i].c := by rw [List.getElem_map, ← hd]; rfl
  rw [e1] at hci
  have hrd := h.each ps[i] (List.getElem_mem hil)
  rw [hd] at hrd
  have hi1 : decide ((i : Int) ≥ (ps.length : Int)) = false := by simp; omega
  have hi2 : (i : Int) < (ps.length : Int) := by omega
  have hi3 : decide ((ps.length : Int) ≤ (i : Int)) = false := by simp; omega
  obtain ⟨A2, c2, w', hrun, hR, _⟩ := copy_run w w (Fr.refl _ _) _ ps[i].c d hrd hdl
  have HR := Lib.hid hR
  have hq := h.blk.lt
  clear h hcell e1 hrd hR hi hl hd
  generalize ps[i].a = a1 at *
  generalize ps[i].c = c3 at *
  generalize ps.length = n at *
  go_enter Try.func36, Try.ntmps36
  go_wp2_with (first | (at_builtin; refine wpList_append_run hrun rfl rfl _ _ rfl rfl rfl ?_))
  go_ret2
  exact ⟨A2, c2, rfl, HR.out⟩
end
end Go.Proofs.Ytefalfalapnllaa
namespace Go.Proofs.Ytefalfalapnllaa
open Go.RowKit Go.Shelf
set_option linter.unusedVariables false
def SlabS.append (s : SlabS) (l : List UInt8) : SlabS × Int := if s.room - s.bs.length < l.length then (s, 3) else if s.steps = 0 then (s, 90) else (s.app l, 0)
def SlabS.sync (s : SlabS) : SlabS × Int := if s.steps = 0 then (s, 90) else (s.synced, 0)
theorem slab_Append_all {w : World} {F : Nat → Prop} {p : Nat} {s : SlabS} (h : SlabAt w F p s) (A' : Option Addr) (c' : Nat) (l : List UInt8) (hr : Rd w A' (l.map bv)) (hd : 0 < l.length → ∀ k, ab A' = some k → ¬ F k) :
    Calls Try.prog 17 #[.pointer (some ⟨p, 0, none⟩), .slice A' l.length c'] w fun e w' => e = .returned (.int .i64 (s.append l).2) ∧ (∃ F', SlabAt w' F' p (s.append l).1 ∧ Gr w F F') ∧ Fr F w w' := by
  unfold SlabS.append
  split
  · rename_i hf
    exact (slab_Append_full h A' l.length c' hf).mono fun _ _ ⟨he, ha, hn⟩ => ⟨he, ⟨F, ha, Gr.refl _ _⟩, hn.mono fun _ h => h.elim⟩
  · rename_i hf
    split
    · rename_i h0
      exact (slab_Append_no h A' l.length c' (by omega) h0).mono fun _ _ ⟨he, ha, hn⟩ => ⟨he, ⟨F, ha, Gr.refl _ _⟩, hn.mono fun _ h => h.elim⟩
    · rename_i h0
      exact slab_Append_yes h A' c' l (by omega) h0 hr hd
theorem slab_Sync_all {w : World} {F : Nat → Prop} {p : Nat} {s : SlabS} (h : SlabAt w F p s) :
    Calls Try.prog 18 #[.pointer (some ⟨p, 0, none⟩)] w fun e w' => e = .returned (.int .i64 s.sync.2) ∧ SlabAt w' F p s.sync.1 ∧ Fr F w w' := by
  unfold SlabS.sync
  split
  · rename_i h0
    exact (slab_Sync_no h h0).mono fun _ _ ⟨he, hw⟩ => ⟨he, hw ▸ h, hw ▸ Fr.refl _ _⟩
  · rename_i h0
    exact slab_Sync_yes h h0
/-- a journal as plain data -/
structure JS where
  s : SlabS
  rs : List (List UInt8)
  last : List UInt8
  down : Bool
def JS.write (j : JS) (d : List UInt8) : JS × Int :=
  if j.down = true then (j, 90) else if 262144 < d.length then (j, 2) else
  if (j.s.append (Jrn.recB j.last d)).2 ≠ 0 then ({ j with s := (j.s.append (Jrn.recB j.last d)).1, down := (j.s.append (Jrn.recB j.last d)).2 == 90 }, (j.s.append (Jrn.recB j.last d)).2)
  else if (j.s.append (Jrn.recB j.last d)).1.sync.2 ≠ 0 then ({ j with s := (j.s.append (Jrn.recB j.last d)).1.sync.1, down := (j.s.append (Jrn.recB j.last d)).1.sync.2 == 90 }, (j.s.append (Jrn.recB j.last d)).1.sync.2)
  else (⟨(j.s.append (Jrn.recB j.last d)).1.sync.1, j.rs ++ [d], Jrn.link j.last d, j.down⟩, 0)
/-- what Write leaves -/
def WritePost (w : World) (F G : Nat → Prop) (q p : Nat) (j : JS) (w' : World) : Prop :=
  ∃ (F' G' : Nat → Prop) (A : Option Addr) (c : Nat) (ps : List Part), SlabAt w' F' p j.s ∧ JAt w' G' q p j.rs j.last j.down A c ps ∧ Gr w F F' ∧ Gr w G G' ∧ (∀ k, F' k → ¬ G' k) ∧ Fr (fun k => F k ∨ G k) w w'
theorem getD_mono {L : Array Bool} {i j : Nat} (h : L.getD j false = true) : (L.setIfInBounds i true).getD j false = true := by
  by_cases hij : i = j
  · subst hij
    rcases Nat.lt_or_ge i L.size with h' | h'
    · exact getD_set_self h'
    · rw [Array.getD_eq_getD_getElem?, Array.getElem?_eq_none (by omega)] at h
      cases h
  · rw [getD_set_ne false hij]
    exact h
/-- the first region's state -/
structure WG where
  A2 : Option Addr
  c2 : Nat
  A3 : Option Addr
  c3 : Nat
  code : Int
  code2 : Int
def writeV (q p : Nat) (last : List UInt8) (A0 : Option Addr) (n c0 m : Nat) (g : WG) : List Value :=
  [.pointer (some ⟨q, 0, none⟩), .pointer (some ⟨q, 0, none⟩), .pointer (some ⟨q, 0, none⟩), .pointer (some ⟨p, 0, none⟩), .pointer (some ⟨q, 0, none⟩), .pointer (some ⟨q, 0, none⟩), .pointer (some ⟨q, 2, none⟩), .agg (ida last), .slice A0 n c0, .slice g.A2 35 g.c2, .slice A0 n c0, .slice g.A3 m g.c3, .int .i64 g.code, .int .i64 g.code2]
def writeS (w0 : World) (F : Nat → Prop) (p : Nat) (s : SlabS) (fr rec : List UInt8) (L : Array Bool) (g : WG) (W : World) : Prop :=
  ((L.getD 12 false = true → L.getD 11 false = true) ∧ (L.getD 11 false = true → L.getD 9 false = true) ∧ (L.getD 12 false = true → L.getD 3 false = true) ∧ (L.getD 9 false = true → L.getD 7 false = true) ∧ (L.getD 13 false = true → L.getD 12 false = true ∧ g.code2 = g.code)) ∧
  (if L.getD 12 false = true then g.code = (s.append rec).2 ∧ (∃ F', SlabAt W F' p (s.append rec).1 ∧ Gr w0 F F') ∧ Fr F w0 W
   else if L.getD 11 false = true then RowN w0 W g.A3 g.c3 rec
   else if L.getD 9 false = true then RowN w0 W g.A2 g.c2 fr
   else New w0 W)
section
variable {w0 : World} {F : Nat → Prop} {p : Nat} {s : SlabS} {fr rec : List UInt8} {L : Array Bool} {g : WG} {W : World}
theorem writeS.list (h : writeS w0 F p s fr rec L g W) (i : Nat) (h1 : i ≠ 9) (h2 : i ≠ 11) (h3 : i ≠ 12) (h4 : i ≠ 13) : writeS w0 F p s fr rec (L.setIfInBounds i true) g W := by
  unfold writeS at h ⊢
  rw [getD_set_ne false h1, getD_set_ne false h2, getD_set_ne false h3, getD_set_ne false h4]
  exact ⟨⟨h.1.1, h.1.2.1, fun x => getD_mono (h.1.2.2.1 x), fun x => getD_mono (h.1.2.2.2.1 x), h.1.2.2.2.2⟩, h.2⟩
theorem writeS.no12 (h : writeS w0 F p s fr rec L g W) (h3 : L.getD 3 false = false ∨ L.getD 7 false = false ∨ L.getD 9 false = false ∨ L.getD 11 false = false) : L.getD 12 false = false := by
  cases e : L.getD 12 false with
  | false => rfl
  | true =>
    have a := h.1.1 e
    have b := h.1.2.1 a
    have c := h.1.2.2.1 e
    have d := h.1.2.2.2.1 b
    rw [a, b, c, d] at h3
    simp at h3
theorem writeS.new (h : writeS w0 F p s fr rec L g W) (h12 : L.getD 12 false = false) : New w0 W := by
  have h2 := h.2
  rw [h12, if_neg (by decide)] at h2
  split at h2
  · exact h2.fr
  · split at h2
    · exact h2.fr
    · exact h2
end
end Go.Proofs.Ytefalfalapnllaa
namespace Go.Proofs.Ytefalfalapnllaa
open Go.RowKit Go.Shelf
set_option linter.unusedVariables false
theorem jc_down (p : Nat) (A : Option Addr) (n c : Nat) (last : List UInt8) (dn x : Bool) (h : last.length = 32) : (jc p A n c last dn).setIfInBounds 34 (.bool x) = jc p A n c last x := by
  unfold jc
  simp [List.set_append, h]
theorem jc_rec (p : Nat) (A A' : Option Addr) (n n' c c' : Nat) (last : List UInt8) (dn : Bool) : (jc p A n c last dn).setIfInBounds 1 (.slice A' n' c') = jc p A' n' c' last dn := by
  unfold jc
  simp
theorem jc_last (p : Nat) (A : Option Addr) (n c : Nat) (last l' : List UInt8) (dn : Bool) (h : last.length = 32) (h' : l'.length = 32) : ((jc p A n c last dn).toList.take 2 ++ (ida l').toList ++ (jc p A n c last dn).toList.drop (2 + (ida l').size)).toArray = jc p A n c l' dn := by
  rw [ida_size, h']
  unfold jc
  simp [ida, h, List.drop_append]
section
variable {w : World} {G : Nat → Prop} {q p : Nat} {rs : List (List UInt8)} {last : List UInt8} {down : Bool} {A : Option Addr} {c : Nat} {ps : List Part}
theorem JAt.setq (h : JAt w G q p rs last down A c ps) {w' : World} (hf : Fr (fun k => k = q) w w') {last' : List UInt8} {down' : Bool} (hb : Blk w' q 92 (jc p A ps.length c last' down')) (hl : last'.length = 32) : JAt w' G q p rs last' down' A c ps :=
  ⟨hb, h.row.fr hf (fun k hk => (h.ga k hk).2), h.data, fun x hx => (h.each x hx).fr' hf (fun h0 k hk => (h.gp x hx (by simpa using h0) k hk).2.1), h.gq, h.ga, h.gp, fun k hk => Nat.lt_of_lt_of_le (h.glt k hk) hf.size, hl⟩
theorem JAt.setDown (h : JAt w G q p rs last down A c ps) (x : Bool) : JAt (w.setCell ⟨q, 34, none⟩ (.bool x)) G q p rs last x A c ps :=
  h.setq (Fr.setCell (S := fun k => k = q) w rfl _) (by have := h.blk.set 34 (.bool x); rwa [jc_down _ _ _ _ _ _ _ h.len] at this) h.len
theorem JAt.setLast (h : JAt w G q p rs last down A c ps) (l' : List UInt8) (hl : l'.length = 32) : JAt (w.setRow q (jc p A ps.length c l' down)) G q p rs l' down A c ps :=
  h.setq ((Fr.refl (fun k => k = q) w).setRow (g := q) rfl _) (h.blk.setRow _) hl
/-- where the records grow: new blocks -/
def Grown (w w' : World) (G : Nat → Prop) (k : Nat) : Prop := G k ∨ (w.heap.size ≤ k ∧ k < w'.heap.size)
theorem JAt.more (h : JAt w G q p rs last down A c ps) {W' : World} {A4 : Option Addr} {c4 : Nat} {d : List UInt8} (hR : RowN w W' A4 c4 d) (hrl : rs.length < 1000000) :
    ∃ A5 c5 w5, (Builtin.append_ #[62, 62] 62 #[.slice A ps.length c, .slice (some ⟨W'.heap.size, 0, none⟩) 1 1]).run Try.prog (W'.alloc (.cells #[.slice A4 d.length c4] 22)) = .ok (.slice A5 (ps.length + 1) c5) w5 ∧
      w5.cell? ⟨q, 1, none⟩ = some (.slice A ps.length c) ∧ w5.frozen? ⟨q, 1, none⟩ = false ∧ Fr G w (w5.setCell ⟨q, 1, none⟩ (.slice A5 (ps.length + 1) c5)) ∧
      JAt (w5.setCell ⟨q, 1, none⟩ (.slice A5 (ps.length + 1) c5)) (Grown w w5 G) q p (rs ++ [d]) last down A5 c5 (ps ++ [⟨A4, c4, d⟩]) := by
  obtain ⟨ie, hie, he0, he1, he2⟩ := info_parts (show (Try.prog.info? 22).map (fun i => (i.zero, i.size, i.bytes)) = some (some (.slice none 0 0), 1, 24) by kernel_rfl)
  have hpl := h.pslen
  have f1 : New w (W'.alloc (.cells #[.slice A4 d.length c4] 22)) := hR.fr.then_alloc _
  have hsz := hR.fr.size
  have hAlt : ∀ k, ab A = some k → k < w.heap.size := fun k hk => h.row.lt hk
  have hq := h.blk.lt
  have hlit := lit_rd W' [.slice A4 d.length c4] 22
  obtain ⟨A5, c5, w5, hrun, hrow, hfr, hA5⟩ := run_append_rd (P := Try.prog) (W'.alloc (.cells #[.slice A4 d.length c4] 22)) 62 62 22 ie _ 24 Try.underlying62 hie he0 he1 he2 rfl A c (ps.map Part.v)
    (h.row.fr f1 (fun _ _ => id)) (some ⟨W'.heap.size, 0, none⟩) 1 _ hlit (fun u hu => by simp at hu; subst hu; rfl) (by simp [maxLen]; omega) (by simp; omega)
  have hqA : ¬ (some q = ab A) := fun e => (h.ga q e.symm).2 rfl
  have hb5 : Blk w5 q 92 (jc p A ps.length c last down) := (h.blk.fr f1 id).fr hfr hqA
  have hs5 := hfr.size
  rw [World.size_alloc] at hs5 hA5
  have hfA : Fr G w w5 := (f1.mono (T := G) fun _ h => h.elim).trans hfr (fun k hk => .inl (h.ga k hk.symm).1)
  have hset := hb5.set 1 (.slice A5 (ps.length + 1) c5)
  rw [jc_rec] at hset
  have hA5q : ∀ k, ab A5 = some k → k ≠ q := fun k hk e => by
    rcases hA5 k hk with h1 | h1
    · exact (h.ga k h1).2 e
    · omega
  have hR4 : ∀ k, ab A4 = some k → w.heap.size ≤ k := hR.new
  have hR4lt : ∀ k, ab A4 = some k → k < W'.heap.size := fun k hk => hR.row.lt hk
  have hfq : Fr (fun k => k = q) w5 (w5.setCell ⟨q, 1, none⟩ (.slice A5 (ps.length + 1) c5)) := Fr.setCell (S := fun k => k = q) w5 rfl _
  have hgrown : ∀ k, Grown w w5 G k → k < (w5.setCell ⟨q, 1, none⟩ (.slice A5 (ps.length + 1) c5)).heap.size := fun k hk => by
    have h1 := hfq.size
    rcases hk with h2 | h2
    · have := h.glt k h2
      have := f1.size
      rw [World.size_alloc] at this
      omega
    · omega
  refine ⟨A5, c5, w5, by simpa using hrun, hb5.cell 1, hb5.frozen 1, hfA.trans hfq (fun k hk => .inl (hk ▸ h.gq)), ?_, ?_, ?_, ?_, .inl h.gq, ?_, ?_, hgrown, h.len⟩
  · rw [List.length_append]
    exact hset
  · rw [List.map_append]
    exact hrow.fr hfq hA5q
  · rw [List.map_append, h.data]
    rfl
  · intro x hx
    rcases List.mem_append.1 hx with hx | hx
    · exact (((h.each x hx).fr f1 (fun _ _ => id)).fr' hfr (fun h0 k hk e => (h.gp x hx (by simpa using h0) k hk).2.2 e.symm)).fr' hfq (fun h0 k hk => (h.gp x hx (by simpa using h0) k hk).2.1)
    · simp at hx
      subst hx
      exact ((hR.row.rd.alloc _).fr hfr (fun k hk e => by
        have := hR4 k hk
        have := hAlt k e.symm
        omega)).fr hfq (fun k hk e => by
        have := hR4 k hk
        omega)
  · intro k hk
    refine ⟨?_, hA5q k hk⟩
    have hlt := hrow.lt hk
    rcases hA5 k hk with h1 | h1
    · exact .inl (h.ga k h1).1
    · exact .inr ⟨by omega, hlt⟩
  · intro x hx h0 k hk
    rcases List.mem_append.1 hx with hx | hx
    · obtain ⟨g1, g2, g3⟩ := h.gp x hx h0 k hk
      refine ⟨.inl g1, g2, fun e => ?_⟩
      rcases hA5 k e with h1 | h1
      · exact g3 h1
      · have := h.glt k g1
        omega
    · simp at hx
      subst hx
      have h1 := hR4 k hk
      have h2 := hR4lt k hk
      refine ⟨.inr ⟨h1, by omega⟩, by omega, fun e => ?_⟩
      rcases hA5 k e with h3 | h3
      · have := hAlt k h3
        omega
      · omega
end
end Go.Proofs.Ytefalfalapnllaa
namespace Go.Proofs.Ytefalfalapnllaa
open Go.RowKit Go.Shelf
set_option linter.unusedVariables false
/-- which world stands, by what is done -/
def MoreAt (u0 u1 u2 u3 u4 u5 : World) (L : Array Bool) (W : World) : Prop :=
  ((L.getD 12 false = true → L.getD 9 false = true) ∧ (L.getD 9 false = true → L.getD 8 false = true) ∧ (L.getD 8 false = true → L.getD 7 false = true) ∧ (L.getD 7 false = true → L.getD 5 false = true) ∧ (L.getD 9 false = true → L.getD 4 false = true)) ∧
  W = (if L.getD 12 false = true then u5 else if L.getD 9 false = true then u4 else if L.getD 8 false = true then u3 else if L.getD 7 false = true then u2 else if L.getD 5 false = true then u1 else u0)
section
variable {u0 u1 u2 u3 u4 u5 W : World} {L : Array Bool}
theorem imp_false {a b : Bool} (h : a = true → b = true) (hb : b = false) : a = false := by
  cases a with
  | false => rfl
  | true => rw [h rfl] at hb; cases hb
theorem MoreAt.start (h : MoreAt u0 u1 u2 u3 u4 u5 (Array.replicate 13 false) u0) : True := trivial
theorem MoreAt.zero (u0 u1 u2 u3 u4 u5 : World) : MoreAt u0 u1 u2 u3 u4 u5 (Array.replicate 13 false) u0 :=
  ⟨⟨fun h => by simp at h, fun h => by simp at h, fun h => by simp at h, fun h => by simp at h, fun h => by simp at h⟩, by simp⟩
theorem MoreAt.list (h : MoreAt u0 u1 u2 u3 u4 u5 L W) (i : Nat) (h5 : i ≠ 5) (h7 : i ≠ 7) (h8 : i ≠ 8) (h9 : i ≠ 9) (h12 : i ≠ 12) : MoreAt u0 u1 u2 u3 u4 u5 (L.setIfInBounds i true) W := by
  unfold MoreAt at h ⊢
  rw [getD_set_ne false h5, getD_set_ne false h7, getD_set_ne false h8, getD_set_ne false h9, getD_set_ne false h12]
  exact ⟨⟨h.1.1, h.1.2.1, h.1.2.2.1, h.1.2.2.2.1, fun x => getD_mono (h.1.2.2.2.2 x)⟩, h.2⟩
theorem MoreAt.early (h : MoreAt u0 u1 u2 u3 u4 u5 L W) (h4 : L.getD 4 false = false) (n1 : New u0 u1) (n2 : New u0 u2) (n3 : New u0 u3) : New u0 W := by
  have h9 := imp_false h.1.2.2.2.2 h4
  have h12 := imp_false h.1.1 h9
  have h2 := h.2
  rw [h12, if_neg (by decide), h9, if_neg (by decide)] at h2
  split at h2
  · rw [h2]; exact n3
  · split at h2
    · rw [h2]; exact n2
    · split at h2
      · rw [h2]; exact n1
      · rw [h2]; exact Fr.refl _ _
theorem MoreAt.at5 (h : MoreAt u0 u1 u2 u3 u4 u5 L W) (hz : L.size = 13) (h5 : L.getD 5 false = false) : W = u0 ∧ MoreAt u0 u1 u2 u3 u4 u5 (L.setIfInBounds 5 true) u1 := by
  have h7 := imp_false h.1.2.2.2.1 h5
  have h8 := imp_false h.1.2.2.1 h7
  have h9 := imp_false h.1.2.1 h8
  have h12 := imp_false h.1.1 h9
  have h2 := h.2
  rw [h12, h9, h8, h7, h5] at h2
  refine ⟨h2, ?_⟩
  unfold MoreAt
  rw [getD_set_ne false (show 5 ≠ 12 by decide), getD_set_ne false (show 5 ≠ 9 by decide), getD_set_ne false (show 5 ≠ 8 by decide), getD_set_ne false (show 5 ≠ 7 by decide), getD_set_self (by rw [hz]; decide), h12, h9, h8, h7]
  refine ⟨⟨fun x => (by cases x), fun x => (by cases x), fun x => (by cases x), fun x => (by cases x), fun x => (by cases x)⟩, rfl⟩
theorem MoreAt.at7 (h : MoreAt u0 u1 u2 u3 u4 u5 L W) (hz : L.size = 13) (h7 : L.getD 7 false = false) (h5 : L.getD 5 false = true) : W = u1 ∧ MoreAt u0 u1 u2 u3 u4 u5 (L.setIfInBounds 7 true) u2 := by
  have h8 := imp_false h.1.2.2.1 h7
  have h9 := imp_false h.1.2.1 h8
  have h12 := imp_false h.1.1 h9
  have h2 := h.2
  rw [h12, h9, h8, h7, h5] at h2
  refine ⟨h2, ?_⟩
  unfold MoreAt
  rw [getD_set_ne false (show 7 ≠ 12 by decide), getD_set_ne false (show 7 ≠ 9 by decide), getD_set_ne false (show 7 ≠ 8 by decide), getD_set_ne false (show 7 ≠ 5 by decide), getD_set_self (by rw [hz]; decide), h12, h9, h8, h5]
  refine ⟨⟨fun x => (by cases x), fun x => (by cases x), fun x => (by cases x), fun _ => rfl, fun x => (by cases x)⟩, rfl⟩
theorem MoreAt.at8 (h : MoreAt u0 u1 u2 u3 u4 u5 L W) (hz : L.size = 13) (h8 : L.getD 8 false = false) (h7 : L.getD 7 false = true) : W = u2 ∧ MoreAt u0 u1 u2 u3 u4 u5 (L.setIfInBounds 8 true) u3 := by
  have h9 := imp_false h.1.2.1 h8
  have h12 := imp_false h.1.1 h9
  have h5 := h.1.2.2.2.1 h7
  have h2 := h.2
  rw [h12, h9, h8, h7] at h2
  refine ⟨h2, ?_⟩
  unfold MoreAt
  rw [getD_set_ne false (show 8 ≠ 12 by decide), getD_set_ne false (show 8 ≠ 9 by decide), getD_set_ne false (show 8 ≠ 7 by decide), getD_set_ne false (show 8 ≠ 5 by decide), getD_set_self (by rw [hz]; decide), h12, h9, h7, h5]
  refine ⟨⟨fun x => (by cases x), fun x => (by cases x), fun _ => rfl, fun _ => rfl, fun x => (by cases x)⟩, rfl⟩
theorem MoreAt.at9 (h : MoreAt u0 u1 u2 u3 u4 u5 L W) (hz : L.size = 13) (h9 : L.getD 9 false = false) (h8 : L.getD 8 false = true) (h4 : L.getD 4 false = true) : W = u3 ∧ MoreAt u0 u1 u2 u3 u4 u5 (L.setIfInBounds 9 true) u4 := by
  have h12 := imp_false h.1.1 h9
  have h7 := h.1.2.2.1 h8
  have h5 := h.1.2.2.2.1 h7
  have h2 := h.2
  rw [h12, h9, h8] at h2
  refine ⟨h2, ?_⟩
  unfold MoreAt
  rw [getD_set_ne false (show 9 ≠ 12 by decide), getD_set_ne false (show 9 ≠ 8 by decide), getD_set_ne false (show 9 ≠ 7 by decide), getD_set_ne false (show 9 ≠ 5 by decide), getD_set_ne false (show 9 ≠ 4 by decide), getD_set_self (by rw [hz]; decide), h12, h8, h7, h5, h4]
  refine ⟨⟨fun x => (by cases x), fun _ => rfl, fun _ => rfl, fun _ => rfl, fun _ => rfl⟩, rfl⟩
theorem MoreAt.at12 (h : MoreAt u0 u1 u2 u3 u4 u5 L W) (hz : L.size = 13) (h12 : L.getD 12 false = false) (h9 : L.getD 9 false = true) : W = u4 ∧ MoreAt u0 u1 u2 u3 u4 u5 (L.setIfInBounds 12 true) u5 := by
  have h8 := h.1.2.1 h9
  have h7 := h.1.2.2.1 h8
  have h5 := h.1.2.2.2.1 h7
  have h4 := h.1.2.2.2.2 h9
  have h2 := h.2
  rw [h12, h9] at h2
  refine ⟨h2, ?_⟩
  unfold MoreAt
  rw [getD_set_ne false (show 12 ≠ 9 by decide), getD_set_ne false (show 12 ≠ 8 by decide), getD_set_ne false (show 12 ≠ 7 by decide), getD_set_ne false (show 12 ≠ 5 by decide), getD_set_ne false (show 12 ≠ 4 by decide), getD_set_self (by rw [hz]; decide), h9, h8, h7, h5, h4]
  refine ⟨⟨fun _ => rfl, fun _ => rfl, fun _ => rfl, fun _ => rfl, fun _ => rfl⟩, rfl⟩
theorem MoreAt.last (h : MoreAt u0 u1 u2 u3 u4 u5 L W) (hz : L.size = 13) (hal : ∀ i, L.getD i true = true) : W = u5 := by
  have h12 : L.getD 12 false = true := by
    have := hal 12
    rw [Array.getD_eq_getD_getElem?] at this ⊢
    rw [Array.getElem?_eq_getElem (by rw [hz]; decide)] at this ⊢
    exact this
  have h2 := h.2
  rw [h12, if_pos rfl] at h2
  exact h2
end
end Go.Proofs.Ytefalfalapnllaa
