/- Contracts of the functions of package slab: each does to the slab what its plain twin does to a record of four fields. -/
import Derived.Test.YtefalfalapnllaaBase
import Derived.StillTailTactics
namespace Go.Proofs.Ytefalfalapnllaa
open Go.RowKit
set_option linter.unusedVariables false

/-- a slab as plain data -/
structure SlabS where
  room : Int
  bs : List UInt8
  sure : Int
  steps : Int

def SlabS.ok (s : SlabS) : Prop := 0 ≤ s.sure ∧ s.sure ≤ s.bs.length ∧ (s.bs.length : Int) ≤ s.room ∧ s.room ≤ 4194304 ∧ -1 ≤ s.steps ∧ s.steps ≤ 9223372036854775807

/-- the cells of a slab -/
def SlabS.cells (s : SlabS) (A : Option Addr) (c : Nat) : Array Value := #[.int .i64 s.room, .slice A s.bs.length c, .int .i64 s.sure, .int .i64 s.steps]

/-- at block p lies the slab s; all its blocks are in F -/
def SlabAt (w : World) (F : Nat → Prop) (p : Nat) (s : SlabS) : Prop :=
  ∃ A c, Blk w p 88 (s.cells A c) ∧ Row w 5 A c (s.bs.map bv) ∧ F p ∧ (∀ k, ab A = some k → F k) ∧ (∀ k, F k → k < w.heap.size) ∧ s.ok

theorem SlabAt.good {w : World} {F : Nat → Prop} {p : Nat} {s : SlabS} (h : SlabAt w F p s) : s.ok := by obtain ⟨A, c, _, _, _, _, _, h⟩ := h; exact h
theorem SlabAt.lt {w : World} {F : Nat → Prop} {p : Nat} {s : SlabS} (h : SlabAt w F p s) : ∀ k, F k → k < w.heap.size := by obtain ⟨A, c, _, _, _, _, h, _⟩ := h; exact h
theorem SlabAt.fr {w w' : World} {F S : Nat → Prop} {p : Nat} {s : SlabS} (h : SlabAt w F p s) (f : Fr S w w') (hs : ∀ k, F k → ¬ S k) : SlabAt w' F p s := by
  obtain ⟨A, c, hb, hr, hp, hA, hl, ho⟩ := h
  exact ⟨A, c, hb.fr f (hs p hp), hr.fr f (fun k hk => hs k (hA k hk)), hp, hA, fun k hk => Nat.lt_of_lt_of_le (hl k hk) f.size, ho⟩
theorem SlabAt.drewN {w : World} {F : Nat → Prop} {p : Nat} {s : SlabS} (h : SlabAt w F p s) (n : Nat) : SlabAt (w.drewN n) F p s := h
theorem SlabAt.alloc {w : World} {F : Nat → Prop} {p : Nat} {s : SlabS} (h : SlabAt w F p s) (o : Obj) : SlabAt (w.alloc o) F p s :=
  h.fr (Fr.alloc (fun _ => False) w o) (fun _ _ => id)

/-- the world of a slab whose cell i has been written -/
theorem Blk.slab {w : World} {F : Nat → Prop} {p : Nat} {s s' : SlabS} {A A' : Option Addr} {c c' : Nat} (hb : Blk w p 88 (s.cells A c)) (hr : Row w 5 A' c' (s'.bs.map bv)) (hp : F p) (hA : ∀ k, ab A' = some k → F k) (hl : ∀ k, F k → k < w.heap.size) (ho : s'.ok)
    (i : Nat) (u : Value) (hc : (s.cells A c).setIfInBounds i u = s'.cells A' c') : SlabAt (w.setCell ⟨p, i, none⟩ u) F p s' := by
  have hb' := hb.set i u
  rw [hc] at hb'
  refine ⟨A', c', hb', ?_, hp, hA, by simpa using hl, ho⟩
  have hne : ∀ k, ab A' = some k → k ≠ p := by
    intro k hk e
    subst e
    rcases hr.cases with ⟨rfl, _⟩ | ⟨g, cur, rfl, hg, _⟩
    · simp [ab] at hk
    · simp [ab] at hk
      subst hk
      exact Blk.ne (w := w) (t := 5) (cs := cur) hg hb (by decide) rfl
  exact hr.fr (Fr.setCell (S := fun k => k = p) w rfl u) (fun k hk => hne k hk)

def SlabS.stepped (s : SlabS) : SlabS := { s with steps := max (s.steps - 1) (-1) }
theorem SlabS.stepped_ok {s : SlabS} (h : s.ok) : s.stepped.ok := by
  unfold SlabS.ok SlabS.stepped at *
  simp only
  omega

theorem slab_step_no {w : World} {F : Nat → Prop} {p : Nat} {s : SlabS} (h : SlabAt w F p s) (h0 : s.steps = 0) :
    Calls Try.prog 43 #[.pointer (some ⟨p, 0, none⟩)] w fun e w' => e = .returned (.bool false) ∧ w = w' := by
  obtain ⟨A, c, hb, hr, hp, hA, hl, ho⟩ := h
  have c3 : w.cell? ⟨p, 3, none⟩ = some (.int .i64 0) := by rw [← h0]; exact hb.cell 3
  clear h0 hb hr
  go_enter Try.func43, Try.ntmps43
  go_wp2
  go_ret
  exact ⟨rfl, rfl⟩

theorem slab_step_yes {w : World} {F : Nat → Prop} {p : Nat} {s : SlabS} (h : SlabAt w F p s) (h0 : s.steps ≠ 0) :
    Calls Try.prog 43 #[.pointer (some ⟨p, 0, none⟩)] w fun e w' => e = .returned (.bool true) ∧ SlabAt w' F p s.stepped ∧ Fr F w w' := by
  obtain ⟨A, c, hb, hr, hp, hA, hl, ho⟩ := h
  obtain ⟨room, bs, sure, steps⟩ := s
  have c3 : w.cell? ⟨p, 3, none⟩ = some (.int .i64 steps) := hb.cell 3
  have f3 : w.frozen? ⟨p, 3, none⟩ = false := hb.frozen 3
  have g0 : (steps == 0) = false := by simpa using h0
  have ho2 := ho
  obtain ⟨o1, o2, o3, o4, o5, o6⟩ := ho2
  simp only at o1 o2 o3 o4 o5 o6
  have hfin := Blk.slab (s' := (SlabS.mk room bs sure steps).stepped) hb hr hp hA hl (SlabS.stepped_ok ho) 3 (.int .i64 (max (steps - 1) (-1))) (by simp [SlabS.cells, SlabS.stepped])
  clear ho hb hr hl hA
  go_enter Try.func43, Try.ntmps43
  go_wp2
  all_goals
    go_ret
    refine ⟨rfl, ?_, Fr.setCell _ hp _⟩
    first
      | (have e : max (steps - 1) (-1) = steps - 1 := by omega
         rw [e] at hfin; exact hfin)
      | (have e : max (steps - 1) (-1) = -1 := by omega
         rw [e] at hfin; exact hfin)

theorem slab_New {w : World} (n : Int) (h0 : 0 ≤ n) (h1 : n ≤ 4194304) :
    Calls Try.prog 16 #[.int .i64 n] w fun e w' => e = .returned (.tuple #[.pointer (some ⟨w.heap.size, 0, none⟩), .int .i64 0]) ∧
      SlabAt w' (fun k => k = w.heap.size) w.heap.size ⟨n, [], 0, -1⟩ ∧ New w w' := by
  go_enter Try.func16, Try.ntmps16
  go_wp2
  go_ret2
  refine ⟨rfl, ⟨none, 0, Blk.new w _ _, Row.nil _ 5, rfl, by simp [ab], by simp, ?_⟩, Fr.alloc _ w _⟩
  exact ⟨by simp, by simp, by simpa using h0, h1, by simp, by simp⟩

theorem slab_New_bad {w : World} (n : Int) (h : n < 0 ∨ 4194304 < n) :
    Calls Try.prog 16 #[.int .i64 n] w fun e w' => e = .returned (.tuple #[.pointer none, .int .i64 1]) ∧ w = w' := by
  by_cases h0 : n < 0
  · go_enter Try.func16, Try.ntmps16
    go_wp2
    go_ret2
    exact ⟨rfl, rfl⟩
  · have h1 : 4194304 < n := by omega
    clear h
    go_enter Try.func16, Try.ntmps16
    go_wp2
    go_ret2
    exact ⟨rfl, rfl⟩

theorem slab_Break {w : World} {F : Nat → Prop} {p : Nat} {s : SlabS} (h : SlabAt w F p s) (n : Int) (hn : n ≤ 9223372036854775807) :
    Calls Try.prog 21 #[.pointer (some ⟨p, 0, none⟩), .int .i64 n] w fun e w' => e = .returned (.tuple #[]) ∧ SlabAt w' F p { s with steps := max n (-1) } ∧ Fr F w w' := by
  obtain ⟨A, c, hb, hr, hp, hA, hl, ho⟩ := h
  obtain ⟨room, bs, sure, steps⟩ := s
  have c3 : w.cell? ⟨p, 3, none⟩ = some (.int .i64 steps) := hb.cell 3
  have f3 : w.frozen? ⟨p, 3, none⟩ = false := hb.frozen 3
  have ho2 : (SlabS.mk room bs sure (max n (-1))).ok := by
    unfold SlabS.ok at *
    simp only at *
    omega
  have hfin := Blk.slab (s' := SlabS.mk room bs sure (max n (-1))) hb hr hp hA hl ho2 3 (.int .i64 (max n (-1))) (by simp [SlabS.cells])
  clear ho2 ho hb hr hl hA
  go_enter Try.func21, Try.ntmps21
  go_wp2
  all_goals
    go_end0
    refine ⟨rfl, ?_, Fr.setCell _ hp _⟩
    first
      | (have e : max n (-1) = n := by omega
         rw [e] at hfin; rw [e]; exact hfin)
      | (have e : max n (-1) = -1 := by omega
         rw [e] at hfin; rw [e]; exact hfin)

theorem slab_Size {w : World} {F : Nat → Prop} {p : Nat} {s : SlabS} (h : SlabAt w F p s) :
    Calls Try.prog 23 #[.pointer (some ⟨p, 0, none⟩)] w fun e w' => e = .returned (.tuple #[.int .i64 s.bs.length, .int .i64 s.sure]) ∧ SlabAt w' F p s ∧ New w w' := by
  have h' := h
  obtain ⟨A, c, hb, hr, hp, hA, hl, ho⟩ := h
  obtain ⟨room, bs, sure, steps⟩ := s
  have c1 : w.cell? ⟨p, 1, none⟩ = some (.slice A bs.length c) := hb.cell 1
  have c2 : w.cell? ⟨p, 2, none⟩ = some (.int .i64 sure) := hb.cell 2
  clear hb hr ho hl hA
  go_enter Try.func23, Try.ntmps23
  go_wp2
  go_quiet (fail)
  go_wp2
  go_ret2
  exact ⟨rfl, h'.drewN _, Fr.drewN _ _ _⟩

theorem slab_Sync_no {w : World} {F : Nat → Prop} {p : Nat} {s : SlabS} (h : SlabAt w F p s) (h0 : s.steps = 0) :
    Calls Try.prog 18 #[.pointer (some ⟨p, 0, none⟩)] w fun e w' => e = .returned (.int .i64 90) ∧ w = w' := by
  have hc := slab_step_no h h0
  clear h0
  go_enter Try.func18, Try.ntmps18
  go_wp2_with fail
  refine hc.mono ?_
  rintro e w1 ⟨rfl, rfl⟩
  go_wp2
  go_ret
  exact ⟨rfl, rfl⟩

def SlabS.synced (s : SlabS) : SlabS := { s.stepped with sure := s.bs.length }
theorem SlabS.synced_ok {s : SlabS} (h : s.ok) : s.synced.ok := by
  unfold SlabS.ok SlabS.synced SlabS.stepped at *
  simp only
  omega

theorem slab_Sync_yes {w : World} {F : Nat → Prop} {p : Nat} {s : SlabS} (h : SlabAt w F p s) (h0 : s.steps ≠ 0) :
    Calls Try.prog 18 #[.pointer (some ⟨p, 0, none⟩)] w fun e w' => e = .returned (.int .i64 0) ∧ SlabAt w' F p s.synced ∧ Fr F w w' := by
  have hc := slab_step_yes h h0
  have hg := SlabS.synced_ok h.good
  clear h0 h
  go_enter Try.func18, Try.ntmps18
  go_wp2_with fail
  refine hc.mono ?_
  rintro e w1 ⟨rfl, h1, f1⟩
  clear hc
  obtain ⟨A, c, hb, hr, hp, hA, hl, ho⟩ := h1
  have c1 : w1.cell? ⟨p, 1, none⟩ = some (.slice A s.bs.length c) := hb.cell 1
  have c2 : w1.cell? ⟨p, 2, none⟩ = some (.int .i64 s.sure) := hb.cell 2
  have f2 : w1.frozen? ⟨p, 2, none⟩ = false := hb.frozen 2
  have hfin := Blk.slab (s' := s.synced) hb hr hp hA hl hg 2 (.int .i64 s.bs.length) (by simp [SlabS.cells, SlabS.synced, SlabS.stepped])
  clear ho hb hr hl hA hg
  go_wp2
  go_ret
  exact ⟨rfl, hfin, f1.then_set hp _⟩

theorem info5 : (Try.prog.info? 5).map (fun i => (i.zero, i.size, i.bytes)) = some (some (.int .u8 0), 1, 1) := by kernel_rfl

theorem slab_Append_full {w : World} {F : Nat → Prop} {p : Nat} {s : SlabS} (h : SlabAt w F p s) (A' : Option Addr) (n c' : Nat) (hf : s.room - s.bs.length < n) :
    Calls Try.prog 17 #[.pointer (some ⟨p, 0, none⟩), .slice A' n c'] w fun e w' => e = .returned (.int .i64 3) ∧ SlabAt w' F p s ∧ New w w' := by
  have h' := h
  obtain ⟨A, c, hb, hr, hp, hA, hl, ho⟩ := h
  obtain ⟨room, bs, sure, steps⟩ := s
  have c0 : w.cell? ⟨p, 0, none⟩ = some (.int .i64 room) := hb.cell 0
  have c1 : w.cell? ⟨p, 1, none⟩ = some (.slice A bs.length c) := hb.cell 1
  obtain ⟨o1, o2, o3, o4, o5, o6⟩ := ho
  simp only at o1 o2 o3 o4 o5 o6 hf
  clear hb hr hl hA
  go_enter Try.func17, Try.ntmps17
  go_wp2
  go_quiet (fail)
  go_wp2
  go_ret
  exact ⟨rfl, h'.drewN _, Fr.drewN _ _ _⟩

theorem slab_Append_no {w : World} {F : Nat → Prop} {p : Nat} {s : SlabS} (h : SlabAt w F p s) (A' : Option Addr) (n c' : Nat) (hf : n ≤ s.room - s.bs.length) (h0 : s.steps = 0) :
    Calls Try.prog 17 #[.pointer (some ⟨p, 0, none⟩), .slice A' n c'] w fun e w' => e = .returned (.int .i64 90) ∧ SlabAt w' F p s ∧ New w w' := by
  have h' := h
  have hc := fun k => slab_step_no (h.drewN k) h0
  obtain ⟨A, c, hb, hr, hp, hA, hl, ho⟩ := h
  obtain ⟨room, bs, sure, steps⟩ := s
  have c0 : w.cell? ⟨p, 0, none⟩ = some (.int .i64 room) := hb.cell 0
  have c1 : w.cell? ⟨p, 1, none⟩ = some (.slice A bs.length c) := hb.cell 1
  obtain ⟨o1, o2, o3, o4, o5, o6⟩ := ho
  simp only at o1 o2 o3 o4 o5 o6 hf
  clear hb hr hl hA h0
  go_enter Try.func17, Try.ntmps17
  go_wp2
  go_quiet (fail)
  go_wp2_with fail
  refine (hc _).mono ?_
  rintro e w1 ⟨rfl, rfl⟩
  go_wp2
  go_ret
  exact ⟨rfl, h'.drewN _, Fr.drewN _ _ _⟩

def SlabS.app (s : SlabS) (l : List UInt8) : SlabS := { s.stepped with bs := s.bs ++ l }
theorem SlabS.app_ok {s : SlabS} (h : s.ok) {l : List UInt8} (hl : (l.length : Int) ≤ s.room - s.bs.length) : (s.app l).ok := by
  unfold SlabS.ok SlabS.app SlabS.stepped at *
  simp only [List.length_append]
  omega

theorem slab_Append_yes {w : World} {F : Nat → Prop} {p : Nat} {s : SlabS} (h : SlabAt w F p s) (A' : Option Addr) (c' : Nat) (l : List UInt8) (hf : l.length ≤ s.room - s.bs.length) (h0 : s.steps ≠ 0)
    (hr : Rd w A' (l.map bv)) (hd : 0 < l.length → ∀ k, ab A' = some k → ¬ F k) :
    Calls Try.prog 17 #[.pointer (some ⟨p, 0, none⟩), .slice A' l.length c'] w fun e w' => e = .returned (.int .i64 0) ∧ (∃ F', SlabAt w' F' p (s.app l) ∧ Gr w F F') ∧ Fr F w w' := by
  have h' := h
  have hc := fun k => slab_step_yes (h.drewN k) h0
  have hg := SlabS.app_ok h.good hf
  obtain ⟨A, c, hb, hrow, hp, hA, hl, ho⟩ := h
  have c0 : w.cell? ⟨p, 0, none⟩ = some (.int .i64 s.room) := hb.cell 0
  have c1 : w.cell? ⟨p, 1, none⟩ = some (.slice A s.bs.length c) := hb.cell 1
  obtain ⟨o1, o2, o3, o4, o5, o6⟩ := ho
  clear hb hrow hl hA h0
  go_enter Try.func17, Try.ntmps17
  go_wp2
  go_quiet (fail)
  go_wp2_with fail
  refine (hc _).mono ?_
  rintro e w1 ⟨rfl, h1, f1⟩
  clear hc c0 c1
  obtain ⟨A, c, hb, hrow, _, hA, hl, ho⟩ := h1
  have c1 : w1.cell? ⟨p, 1, none⟩ = some (.slice A s.bs.length c) := hb.cell 1
  obtain ⟨i, hi, hz0, hz1, hz2⟩ := info_parts info5
  obtain ⟨A2, c2, w2, hrun, hrow2, f2, hA2⟩ := run_append_rd (P := Try.prog) w1 22 22 5 i (.int .u8 0) 1 Try.underlying22 hi hz0 hz1 hz2 rfl A c _ hrow A' c' _ ((hr.drewN _).fr' f1 (by simpa using hd))
    (by simp [bv_one]) (by simp [SlabS.stepped, maxLen]; omega) (by simp [SlabS.stepped]; omega)
  have hb2 : Blk w2 p 88 (s.stepped.cells A c) := hb.fr f2 (fun e => by
    rcases hrow.cases with ⟨rfl, _⟩ | ⟨g, cur, rfl, hgg, _⟩
    · simp [ab] at e
    · simp [ab] at e
      exact Blk.ne (w := w1) (t := 5) (cs := cur) hgg hb (by decide) e.symm)
  have d1 : w2.cell? ⟨p, 1, none⟩ = some (.slice A s.bs.length c) := hb2.cell 1
  have d2 : w2.frozen? ⟨p, 1, none⟩ = false := hb2.frozen 1
  have hfin := Blk.slab (F := fun k => F k ∨ ab A2 = some k) (s' := s.app l) (A' := A2) (c' := c2) hb2 (by rw [← List.map_append] at hrow2; exact hrow2) (.inl hp) (fun k hk => .inr hk)
    (fun k hk => hk.elim (fun h => Nat.lt_of_lt_of_le (hl k h) f2.size) (fun h => hrow2.lt h)) hg 1 (.slice A2 (s.bs.length + l.length) c2) (by simp [SlabS.cells, SlabS.app, SlabS.stepped])
  have fin : (∃ F', SlabAt (w2.setCell ⟨p, 1, none⟩ (.slice A2 (s.bs.length + l.length) c2)) F' p (s.app l) ∧ Gr w F F') ∧ Fr F w (w2.setCell ⟨p, 1, none⟩ (.slice A2 (s.bs.length + l.length) c2)) := by
    refine ⟨⟨_, hfin, fun k hk => ?_⟩, ?_⟩
    · rcases hk with hk | hk
      · exact .inl hk
      · rcases hA2 k hk with h | h
        · exact .inl (hA k h)
        · right
          have := f1.size
          simp at this
          omega
    · exact (((Fr.drewN F w _).trans f1 (fun _ h => .inl h)).trans f2 (fun k hk => .inl (hA k hk.symm))).then_set hp _
  simp only [List.length_map, SlabS.stepped] at hrun
  clear ho hb hrow hl hb2 hrow2 hg hi hz0 hz1 hz2 hA hA2 hfin f1 f2 hd hr
  go_wp2_with (at_builtin; refine wpList_append_run hrun rfl rfl _ _ rfl rfl rfl ?_)
  go_ret
  exact ⟨rfl, fin⟩
theorem slab_Cut_bad {w : World} {F : Nat → Prop} {p : Nat} {s : SlabS} (h : SlabAt w F p s) (n : Int) (hn : n < 0 ∨ (s.bs.length : Int) < n) :
    Calls Try.prog 22 #[.pointer (some ⟨p, 0, none⟩), .int .i64 n] w fun e w' => e = .returned (.int .i64 1) ∧ w = w' := by
  obtain ⟨A, c, hb, hr, hp, hA, hl, ho⟩ := h
  have c1 : w.cell? ⟨p, 1, none⟩ = some (.slice A s.bs.length c) := hb.cell 1
  clear hb hr hl hA ho
  by_cases h0 : n < 0
  · clear hn
    go_enter Try.func22, Try.ntmps22
    go_wp2
    go_ret
    exact ⟨rfl, rfl⟩
  · have hn : (s.bs.length : Int) < n := by omega
    go_enter Try.func22, Try.ntmps22
    go_wp2
    go_ret
    exact ⟨rfl, rfl⟩

theorem slab_Cut_no {w : World} {F : Nat → Prop} {p : Nat} {s : SlabS} (h : SlabAt w F p s) (n : Int) (hn : 0 ≤ n) (hn2 : n ≤ s.bs.length) (h0 : s.steps = 0) :
    Calls Try.prog 22 #[.pointer (some ⟨p, 0, none⟩), .int .i64 n] w fun e w' => e = .returned (.int .i64 90) ∧ w = w' := by
  have hc := slab_step_no h h0
  obtain ⟨A, c, hb, hr, hp, hA, hl, ho⟩ := h
  have c1 : w.cell? ⟨p, 1, none⟩ = some (.slice A s.bs.length c) := hb.cell 1
  clear hb hr hl hA h0 ho
  go_enter Try.func22, Try.ntmps22
  go_wp2_with fail
  refine hc.mono ?_
  rintro e w1 ⟨rfl, rfl⟩
  go_wp2
  go_ret
  exact ⟨rfl, rfl⟩

def SlabS.cut (s : SlabS) (n : Int) : SlabS := { s.stepped with bs := s.bs.take n.toNat, sure := min s.sure n }
theorem SlabS.cut_ok {s : SlabS} (h : s.ok) {n : Int} (h0 : 0 ≤ n) (hl : n ≤ s.bs.length) : (s.cut n).ok := by
  unfold SlabS.ok SlabS.cut SlabS.stepped at *
  simp only [List.length_take]
  omega

theorem slab_Cut_yes {w : World} {F : Nat → Prop} {p : Nat} {s : SlabS} (h : SlabAt w F p s) (n : Int) (hn : 0 ≤ n) (hn2 : n ≤ s.bs.length) (h0 : s.steps ≠ 0) :
    Calls Try.prog 22 #[.pointer (some ⟨p, 0, none⟩), .int .i64 n] w fun e w' => e = .returned (.int .i64 0) ∧ SlabAt w' F p (s.cut n) ∧ Fr F w w' := by
  have hc := slab_step_yes h h0
  have hg := SlabS.cut_ok h.good hn hn2
  obtain ⟨A, c, hb, hr, hp, hA, hl, ho⟩ := h
  have c1 : w.cell? ⟨p, 1, none⟩ = some (.slice A s.bs.length c) := hb.cell 1
  clear hb hr hl hA h0 ho
  obtain ⟨n, rfl⟩ := Int.eq_ofNat_of_zero_le hn
  go_enter Try.func22, Try.ntmps22
  go_wp2_with fail
  refine hc.mono ?_
  rintro e w1 ⟨rfl, h1, f1⟩
  clear hc c1
  obtain ⟨A, c, hb, hr, hp, hA, hl, ho⟩ := h1
  have c1 : w1.cell? ⟨p, 1, none⟩ = some (.slice A s.bs.length c) := hb.cell 1
  have c2 : w1.cell? ⟨p, 2, none⟩ = some (.int .i64 s.sure) := hb.cell 2
  have f1' : w1.frozen? ⟨p, 1, none⟩ = false := hb.frozen 1
  have f2' : w1.frozen? ⟨p, 2, none⟩ = false := hb.frozen 2
  have hcap : s.bs.length ≤ c := by have := hr.cap; simpa [SlabS.stepped] using this
  have hcm : c ≤ 9223372036854775807 := by have := hr.capm; simpa [maxLen] using this
  have hm : min (n : Int) s.sure = min s.sure n := by omega
  have hne : ∀ k, ab A = some k → k ≠ p := by
    intro k hk e
    subst e
    rcases hr.cases with ⟨rfl, _⟩ | ⟨g, cur, rfl, hgg, _⟩
    · simp [ab] at hk
    · simp [ab] at hk
      subst hk
      exact Blk.ne (w := w1) (t := 5) (cs := cur) hgg hb (by decide) rfl
  have hl3 : (List.take n s.bs).length = n := by rw [List.length_take]; omega
  have hr2 : Row w1 5 A c ((s.cut n).bs.map bv) := by
    have := hr.take n
    simp only [SlabS.stepped] at this
    rw [← List.map_take] at this
    exact this
  have fin : ∀ m, m = min s.sure n → SlabAt ((w1.setCell ⟨p, 1, none⟩ (.slice A n c)).setCell ⟨p, 2, none⟩ (.int .i64 m)) F p (s.cut n) ∧ Fr F w ((w1.setCell ⟨p, 1, none⟩ (.slice A n c)).setCell ⟨p, 2, none⟩ (.int .i64 m)) := by
    rintro m rfl
    refine ⟨⟨A, c, ?_, ?_, hp, hA, by simpa using hl, hg⟩, (f1.then_set hp _).then_set hp _⟩
    · have := (hb.set 1 (.slice A n c)).set 2 (.int .i64 (min s.sure n))
      simpa [SlabS.cells, SlabS.cut, SlabS.stepped, hl3] using this
    · exact (hr2.fr (Fr.setCell (S := fun k => k = p) w1 rfl _) hne).fr (Fr.setCell (S := fun k => k = p) _ rfl _) hne
  clear hne hr2 hl3 hm hb hr hl hA ho hg f1
  go_wp2
  all_goals
    go_ret
    exact ⟨rfl, fin _ (by omega)⟩

theorem slab_Bytes {w : World} {F : Nat → Prop} {p : Nat} {s : SlabS} (h : SlabAt w F p s) :
    Calls Try.prog 20 #[.pointer (some ⟨p, 0, none⟩)] w fun e w' => ∃ A2 c2, e = .returned (.slice A2 s.bs.length c2) ∧
      Row w' 5 A2 c2 (s.bs.map bv) ∧ (∀ k, ab A2 = some k → w.heap.size ≤ k) ∧ SlabAt w' F p s ∧ New w w' := by
  have h' := h
  obtain ⟨A, c, hb, hr, hp, hA, hl, ho⟩ := h
  have c1 : w.cell? ⟨p, 1, none⟩ = some (.slice A s.bs.length c) := hb.cell 1
  have hlt := hb.lt
  obtain ⟨o1, o2, o3, o4, o5, o6⟩ := ho
  have hrow0 : Row (w.alloc (.cells #[] 5)) 5 (some ⟨w.heap.size, 0, none⟩) 0 [] := Row.mk (cur := #[]) (Blk.new w 5 #[]) (by simp) (by simp) (by simp)
  obtain ⟨i, hi, hz0, hz1, hz2⟩ := info_parts info5
  obtain ⟨A2, c2, w2, hrun, hrow2, f2, hA2⟩ := run_append_rd (P := Try.prog) (w.alloc (.cells #[] 5)) 22 22 5 i (.int .u8 0) 1 Try.underlying22 hi hz0 hz1 hz2 rfl _ 0 [] hrow0 A c _ (hr.rd.alloc _)
    (by simp [bv_one]) (by simp [maxLen]; omega) (by simp; omega)
  have hge : ∀ k, ab A2 = some k → w.heap.size ≤ k := fun k hk => by
    rcases hA2 k hk with h | h
    · simp [ab] at h; omega
    · simp at h; omega
  have fr2 : New w w2 := (Fr.alloc _ w _).trans f2 (fun k hk => by simp [ab] at hk; omega)
  have fin : ∃ A3 c3, Value.slice A2 s.bs.length c2 = Value.slice A3 s.bs.length c3 ∧
      Row w2 5 A3 c3 (s.bs.map bv) ∧ (∀ k, ab A3 = some k → w.heap.size ≤ k) ∧ SlabAt w2 F p s ∧ New w w2 :=
    ⟨A2, c2, rfl, by simpa using hrow2, hge, h'.fr fr2 (fun _ _ => id), fr2⟩
  simp only [List.length_map, List.length_nil, Nat.zero_add] at hrun
  clear hb hl hA hr hrow0 hrow2 fr2 hge hA2 hi hz0 hz1 hz2 f2
  go_enter Try.func20, Try.ntmps20
  go_wp2_with (at_builtin; refine wpList_append_run hrun rfl rfl _ _ rfl rfl rfl ?_)
  go_ret
  simpa using fin

theorem slab_Spoil_bad {w : World} {F : Nat → Prop} {p : Nat} {s : SlabS} (h : SlabAt w F p s) (n : Int) (x : UInt8) (hn : n < 0 ∨ (s.bs.length : Int) ≤ n) :
    Calls Try.prog 31 #[.pointer (some ⟨p, 0, none⟩), .int .i64 n, bv x] w fun e w' => e = .returned (.int .i64 1) ∧ w = w' := by
  obtain ⟨A, c, hb, hr, hp, hA, hl, ho⟩ := h
  have c1 : w.cell? ⟨p, 1, none⟩ = some (.slice A s.bs.length c) := hb.cell 1
  clear hb hr hl hA ho
  unfold bv
  by_cases h0 : n < 0
  · clear hn
    go_enter Try.func31, Try.ntmps31
    go_wp2
    go_ret
    exact ⟨rfl, rfl⟩
  · have hn : (s.bs.length : Int) ≤ n := by omega
    go_enter Try.func31, Try.ntmps31
    go_wp2
    go_ret
    exact ⟨rfl, rfl⟩

def SlabS.spoil (s : SlabS) (n : Nat) (x : UInt8) : SlabS := { s with bs := s.bs.set n x }

theorem slab_Spoil_yes {w : World} {F : Nat → Prop} {p : Nat} {s : SlabS} (h : SlabAt w F p s) (n : Nat) (x : UInt8) (hn : n < s.bs.length) :
    Calls Try.prog 31 #[.pointer (some ⟨p, 0, none⟩), .int .i64 n, bv x] w fun e w' => e = .returned (.int .i64 0) ∧ SlabAt w' F p (s.spoil n x) ∧ Fr F w w' := by
  obtain ⟨A, c, hb, hr, hp, hA, hl, ho⟩ := h
  have c1 : w.cell? ⟨p, 1, none⟩ = some (.slice A s.bs.length c) := hb.cell 1
  rcases hr.cases with ⟨_, _, he⟩ | ⟨g, cur, rfl, hg, h1, h2, h3, h4⟩
  · simp at he; simp [he] at hn
  · have hgp : g ≠ p := Blk.ne (w := w) (t := 5) (cs := cur) hg hb (by decide)
    have hcn : n < cur.size := by simp at h1; omega
    have hmax : s.bs.length ≤ 9223372036854775807 := by have := ho.2.2.1; have := ho.2.2.2.1; omega
    have cn : ∃ v, w.cell? ⟨g, n, none⟩ = some v := ⟨cur[n], by rw [cell_of_row w g n cur 5 (0, 0) hg]; exact Array.getElem?_eq_getElem hcn⟩
    obtain ⟨v, cn⟩ := cn
    have fn : w.frozen? ⟨g, n, none⟩ = false := Blk.frozen (w := w) (t := 5) (cs := cur) hg n
    have fin : SlabAt (w.setCell ⟨g, n, none⟩ (bv x)) F p (s.spoil n x) ∧ Fr F w (w.setCell ⟨g, n, none⟩ (bv x)) := by
      have hFg : F g := hA g rfl
      refine ⟨⟨some ⟨g, 0, none⟩, c, ?_, ?_, hp, hA, by simpa using hl, ?_⟩, Fr.setCell _ hFg _⟩
      · have := hb.far (p := ⟨g, n, none⟩) (fun e => hgp e.symm) (bv x)
        simpa [SlabS.cells, SlabS.spoil] using this
      · have := hr.set (g := g) rfl (i := n) (by simpa using hn) (bv x)
        simpa [SlabS.spoil, List.map_set] using this
      · unfold SlabS.ok SlabS.spoil at *
        simpa using ho
    unfold bv at fin ⊢
    clear hb hr hl hA ho h1 h2 h3 h4 hg
    go_enter Try.func31, Try.ntmps31
    go_wp2
    go_ret
    exact ⟨rfl, fin⟩

def SlabS.crash (s : SlabS) (n : Int) : SlabS := { s with bs := s.bs.take (s.sure + max 0 (min n (s.bs.length - s.sure))).toNat, sure := s.sure + max 0 (min n (s.bs.length - s.sure)), steps := -1 }
theorem SlabS.crash_ok {s : SlabS} (h : s.ok) (n : Int) : (s.crash n).ok := by
  unfold SlabS.ok SlabS.crash at *
  simp only [List.length_take]
  omega
theorem slab_Crash {w : World} {F : Nat → Prop} {p : Nat} {s : SlabS} (h : SlabAt w F p s) (n : Int) :
    Calls Try.prog 19 #[.pointer (some ⟨p, 0, none⟩), .int .i64 n] w fun e w' => e = .returned (.tuple #[]) ∧ SlabAt w' F p (s.crash n) ∧ Fr F w w' := by
  obtain ⟨A, c, hb, hr, hp, hA, hl, ho⟩ := h
  have c1 : w.cell? ⟨p, 1, none⟩ = some (.slice A s.bs.length c) := hb.cell 1
  have c2 : w.cell? ⟨p, 2, none⟩ = some (.int .i64 s.sure) := hb.cell 2
  have c3 : w.cell? ⟨p, 3, none⟩ = some (.int .i64 s.steps) := hb.cell 3
  have f1 : w.frozen? ⟨p, 1, none⟩ = false := hb.frozen 1
  have f2 : w.frozen? ⟨p, 2, none⟩ = false := hb.frozen 2
  have f3 : w.frozen? ⟨p, 3, none⟩ = false := hb.frozen 3
  have ho2 := ho
  obtain ⟨o1, o2, o3, o4, o5, o6⟩ := ho2
  have hcap : s.bs.length ≤ c := by have := hr.cap; simpa using this
  have hcm : c ≤ 9223372036854775807 := by have := hr.capm; simpa [maxLen] using this
  have e1 : IntKind.i64.wrap ((s.bs.length : Int) - s.sure) = (s.bs.length : Int) - s.sure := IntWalk.i64_in _ (by omega)
  obtain ⟨m1, e2⟩ : ∃ m1 : Int, (if (s.bs.length : Int) - s.sure < n then (s.bs.length : Int) - s.sure else n) = m1 := ⟨_, rfl⟩
  obtain ⟨m2, e3⟩ : ∃ m2 : Int, (if 0 < m1 then m1 else 0) = m2 := ⟨_, rfl⟩
  have hm2 : m2 = max 0 (min n ((s.bs.length : Int) - s.sure)) := by subst e3 e2; split <;> split <;> omega
  obtain ⟨k, hk⟩ : ∃ k : Nat, s.sure + m2 = k := ⟨(s.sure + m2).toNat, by omega⟩
  have e4 : IntKind.i64.wrap (s.sure + m2) = (k : Int) := by rw [IntWalk.i64_in _ (by omega)]; exact hk
  have hkl : k ≤ s.bs.length := by omega
  have hkc : k ≤ c := by omega
  have hkm : (k : Int) ≤ 9223372036854775807 := by omega
  have hgood := SlabS.crash_ok ho n
  have hs : s.crash n = ⟨s.room, s.bs.take k, k, -1⟩ := by
    unfold SlabS.crash
    rw [← hm2, hk]
    rfl
  have hl3 : (List.take k s.bs).length = k := by rw [List.length_take]; omega
  have hne : ∀ j, ab A = some j → j ≠ p := by
    intro j hj e
    subst e
    rcases hr.cases with ⟨rfl, _⟩ | ⟨g, cur, rfl, hgg, _⟩
    · simp [ab] at hj
    · simp [ab] at hj
      subst hj
      exact Blk.ne (w := w) (t := 5) (cs := cur) hgg hb (by decide) rfl
  have fin : SlabAt ((((w.setCell ⟨p, 1, none⟩ (.slice A k c)).setCell ⟨p, 2, none⟩ (.int .i64 k)).setCell ⟨p, 3, none⟩ (.int .i64 (-1))).drew) F p (s.crash n) ∧
      Fr F w (((w.setCell ⟨p, 1, none⟩ (.slice A k c)).setCell ⟨p, 2, none⟩ (.int .i64 k)).setCell ⟨p, 3, none⟩ (.int .i64 (-1))).drew := by
    rw [hs] at hgood ⊢
    refine ⟨⟨A, c, ?_, ?_, hp, hA, by simpa using hl, hgood⟩, ((((Fr.refl F w).then_set hp _).then_set hp _).then_set hp _).then_drew⟩
    · have := ((hb.set 1 (.slice A k c)).set 2 (.int .i64 k)).set 3 (.int .i64 (-1))
      simp [SlabS.cells] at this
      simp only [SlabS.cells, hl3]
      exact this
    · have := hr.take k
      rw [← List.map_take] at this
      exact this.fr ((((Fr.refl (fun k => k = p) w).then_set rfl _).then_set rfl _).then_set rfl _).then_drew hne
  clear hm2 hk hb hr hl hA ho hgood hs hl3 hne
  go_enter Try.func19, Try.ntmps19
  refine wp_seq_k fun K hK => ?_
  set_option maxRecDepth 20000 in go_still_tail 26, (by kernel_rfl)
  change wpList _ _ _ _ _ w.drew
  go_wp2
  go_end0
  exact ⟨rfl, fin⟩
end Go.Proofs.Ytefalfalapnllaa
