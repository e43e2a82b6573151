/- Package journal: the contract of At. -/
import Derived.Test.YtefalfalapnllaaJrnA
namespace Go.Proofs.Ytefalfalapnllaa
open Go.RowKit Go.Shelf
set_option linter.unusedVariables false
section
variable {w : World} {G : Nat → Prop} {q p : Nat} {rs : List (List UInt8)} {last : List UInt8} {down : Bool} {A : Option Addr} {c : Nat} {ps : List Part}
theorem j_At_bad (h : JAt w G q p rs last down A c ps) (i : Int) (hi : i < 0 ∨ (rs.length : Int) ≤ i) :
    Calls Try.prog 36 #[.pointer (some ⟨q, 0, none⟩), .int .i64 i] w fun e w' => e = .returned (.tuple #[.slice none 0 0, .int .i64 4]) ∧ w = w' := by
  have c1 := h.c1
  have hl := h.pslen
  rw [← hl] at hi
  clear h hl
  by_cases h0 : i < 0
  · clear hi
    go_enter Try.func36, Try.ntmps36
    go_wp2
    go_ret2
    exact ⟨rfl, rfl⟩
  · have h1 : (ps.length : Int) ≤ i := by omega
    have h0' : decide (i < 0) = false := by simpa using h0
    have h1' : decide ((ps.length : Int) ≤ i) = true := by simpa using h1
    clear hi
    go_enter Try.func36, Try.ntmps36
    go_wp2
    go_ret2
    exact ⟨rfl, rfl⟩
/-- the whole of the bytes, as a copy of the call's own -/
theorem copy_run (w W : World) (hN : New w W) (A : Option Addr) (c : Nat) (d : List UInt8) (hd : Rd W A (d.map bv)) (hl : d.length ≤ 140737488355328) :
    ∃ A2 c2 w', (Builtin.append_ #[22, 22] 22 #[.slice (some ⟨W.heap.size, 0, none⟩) 0 0, .slice A d.length c]).run Try.prog (W.alloc (.cells #[] 5)) = .ok (.slice A2 d.length c2) w' ∧ RowN w w' A2 c2 d ∧ New W w' := by
  have h0 := RowN.lit w W hN [] (by simp)
  obtain ⟨A2, c2, w', hrun, hR, hf⟩ := h0.more (Fr.refl (fun _ => False) _) (c' := c) (hd.alloc _) (by simpa using hl)
  simp only [List.length_nil, Nat.zero_add] at hrun
  refine ⟨A2, c2, w', hrun, by simpa using hR, ?_⟩
  exact (Fr.alloc (fun _ => False) W (.cells (ida []) 5)).trans hf fun k hk => .inr (by simp [ab] at hk; omega)
set_option maxHeartbeats 1000000 in
set_option maxRecDepth 20000 in
theorem j_At_ok (h : JAt w G q p rs last down A c ps) (i : Nat) (d : List UInt8) (hi : rs[i]? = some d) (hdl : d.length ≤ 140737488355328) (hrl : rs.length < 1000000000000) :
    Calls Try.prog 36 #[.pointer (some ⟨q, 0, none⟩), .int .i64 i] w fun e w' => ∃ A2 c2, e = .returned (.tuple #[.slice A2 d.length c2, .int .i64 0]) ∧ RowN w w' A2 c2 d := by
  have c1 := h.c1
  have hl := h.pslen
  have hil : i < ps.length := by
    have := (List.getElem?_eq_some_iff.1 hi).1
    omega
  have hd : ps[i].b = d := by
    have e := h.data
    rw [← e, List.getElem?_map, List.getElem?_eq_getElem hil] at hi
    simpa using hi
  obtain ⟨ba, off, rfl, hbl, hcell⟩ := h.row.rd (by simp; omega)
  have hci := hcell i (by simpa using hil)
  have e1 : (ps.map Part.v)[i]'(by simpa using hil) = .slice ps[i].a d.length ps[i].c := by rw [List.getElem_map, ← hd]; rfl
  rw [e1] at hci
  have hrd := h.each ps[i] (List.getElem_mem hil)
  rw [hd] at hrd
  have hi1 : decide ((i : Int) ≥ (ps.length : Int)) = false := by simp; omega
  have hi2 : (i : Int) < (ps.length : Int) := by omega
  have hi3 : decide ((ps.length : Int) ≤ (i : Int)) = false := by simp; omega
  obtain ⟨A2, c2, w', hrun, hR, _⟩ := copy_run w w (Fr.refl _ _) _ ps[i].c d hrd hdl
  have HR := Lib.hid hR
  have hq := h.blk.lt
  clear h hcell e1 hrd hR hi hl hd
  generalize ps[i].a = a1 at *
  generalize ps[i].c = c3 at *
  generalize ps.length = n at *
  go_enter Try.func36, Try.ntmps36
  go_wp2_with (first | (at_builtin; refine wpList_append_run hrun rfl rfl _ _ rfl rfl rfl ?_))
  go_ret2
  exact ⟨A2, c2, rfl, HR.out⟩
end
end Go.Proofs.Ytefalfalapnllaa
