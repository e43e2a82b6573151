/- SlabPlays at the inputs that it lets pass, and the walk at every input. -/
import Derived.Test.YtefalfalapnllaaSlabPlaysA
import Derived.Test.YtefalfalapnllaaSlabPlaysB
namespace Go.Proofs.Ytefalfalapnllaa
open Go.RowKit
set_option linter.unusedVariables false

set_option maxHeartbeats 1000000 in
set_option maxRecDepth 100000 in
theorem slabPlays_long (room : Int) (A : Option Addr) (n c : Nat) (w : World) (h0 : 0 ≤ room) (h1 : room ≤ 4194304) (hl : 100 < n) :
    Calls Try.prog 7 #[.int .i64 room, .slice A n c] w fun e w' => e = .returned (.bool true) ∧ Below w.heap.size w w' := by
  by_cases hb : 5000 < room
  · go_enter Try.func7, Try.ntmps7
    go_wp2_with fail
    refine (slab_keeps w).mono ?_
    rintro e w1 ⟨rfl, k1⟩
    go_wp2_with fail
    refine (slab_New 5000 (by omega) (by omega)).mono ?_
    rintro e w2 ⟨rfl, k2, f2⟩
    go_wp2_with fail
    refine (ref_New w2 5000 (by omega) (by omega)).mono ?_
    rintro e w3 ⟨rfl, f3⟩
    have hfin := fun o => (((k1.trans f2 (fun _ => .inl)).trans f3 (fun _ => .inl)).then_alloc o).below (Nat.le_refl _) (fun _ => False.elim)
    clear k1 k2 f2 f3
    unfold refv
    go_wp2
    go_ret
    exact ⟨rfl, hfin _⟩
  · go_enter Try.func7, Try.ntmps7
    go_wp2_with fail
    refine (slab_keeps w).mono ?_
    rintro e w1 ⟨rfl, k1⟩
    go_wp2_with fail
    refine (slab_New room (by omega) (by omega)).mono ?_
    rintro e w2 ⟨rfl, k2, f2⟩
    go_wp2_with fail
    refine (ref_New w2 room (by omega) (by omega)).mono ?_
    rintro e w3 ⟨rfl, f3⟩
    have hfin := fun o => (((k1.trans f2 (fun _ => .inl)).trans f3 (fun _ => .inl)).then_alloc o).below (Nat.le_refl _) (fun _ => False.elim)
    clear k1 k2 f2 f3
    unfold refv
    go_wp2
    go_ret
    exact ⟨rfl, hfin _⟩

set_option maxHeartbeats 1000000 in
set_option maxRecDepth 100000 in
theorem slabPlays_out (room : Int) (A : Option Addr) (n c : Nat) (w : World) (h : room < 0 ∨ 4194304 < room) :
    Calls Try.prog 7 #[.int .i64 room, .slice A n c] w fun e w' => e = .returned (.bool true) ∧ Below w.heap.size w w' := by
  have cN := fun w => slab_New_bad (w := w) room h
  have cR := fun w => ref_New_bad w room h
  unfold refv at cR
  by_cases hb : 5000 < room
  · have hb2 : 4194304 < room := by omega
    clear h
    go_enter Try.func7, Try.ntmps7
    go_wp2_with fail
    refine (slab_keeps w).mono ?_
    rintro e w1 ⟨rfl, k1⟩
    go_wp2_with fail
    refine (cN _).mono ?_
    rintro e w2 ⟨rfl, rfl⟩
    go_wp2_with fail
    refine (cR _).mono ?_
    rintro e w3 ⟨rfl, f3⟩
    have hfin := fun o => ((k1.trans f3 (fun _ => .inl)).then_alloc o).below (Nat.le_refl _) (fun _ => False.elim)
    clear k1 f3 cN cR
    go_wp2
    go_ret
    exact ⟨rfl, hfin _⟩
  · clear h
    go_enter Try.func7, Try.ntmps7
    go_wp2_with fail
    refine (slab_keeps w).mono ?_
    rintro e w1 ⟨rfl, k1⟩
    go_wp2_with fail
    refine (cN _).mono ?_
    rintro e w2 ⟨rfl, rfl⟩
    go_wp2_with fail
    refine (cR _).mono ?_
    rintro e w3 ⟨rfl, f3⟩
    have hfin := fun o => ((k1.trans f3 (fun _ => .inl)).then_alloc o).below (Nat.le_refl _) (fun _ => False.elim)
    clear k1 f3 cN cR
    go_wp2
    go_ret
    exact ⟨rfl, hfin _⟩

theorem slabPlays_walk (room : Int) (A : Option Addr) (n c : Nat) (ops : List OpD) (hn : ops.length = n) (w : World) (hi : OpsIn w A ops) :
    Calls Try.prog 7 #[.int .i64 room, .slice A n c] w fun e w' => e = .returned (.bool true) ∧ Below w.heap.size w w' := by
  subst hn
  by_cases h : room < 0 ∨ 4194304 < room
  · exact slabPlays_out room A _ c w h
  · by_cases hl : 100 < ops.length
    · exact slabPlays_long room A _ c w (by omega) (by omega) hl
    · by_cases hb : 5000 < room
      · exact slabPlays_great room A c ops w hi hb (by omega) (by omega)
      · exact slabPlays_small room A c ops w hi (by omega) (by omega) (by omega)
end Go.Proofs.Ytefalfalapnllaa
