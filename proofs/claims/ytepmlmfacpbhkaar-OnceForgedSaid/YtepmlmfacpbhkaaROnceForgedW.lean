/- OnceForged, walked. -/
import Derived.Test.YtepmlmfacpbhkaaROnceTellsP
import Derived.Test.YtepmlmfacpbhkaaROnceK
import Derived.Test.YtepmlmfacpbhkaaRR3S
namespace Go.Proofs.YtepmlmfacpbhkaaR
open Go.RowKit Go.Shelf
set_option linter.unusedVariables false
set_option maxHeartbeats 2000000 in
set_option maxRecDepth 20000 in
theorem onceForged_walk (A1 : Option Addr) (c1 : Nat) (a : List UInt8) (A2 : Option Addr) (c2 : Nat) (b : List UInt8) (w : World) (hR1 : Rd w A1 (a.map bv)) (hl1 : a.length ≤ 140737488351232) (hR2 : Rd w A2 (b.map bv)) (hl2 : b.length ≤ 140737488351232) :
    Calls Try.prog 12 #[.slice A1 a.length c1, .slice A2 b.length c2] w fun e w' => e = .returned (.bool true) ∧ Below w.heap.size w w' := by
  have HR1 := Lib.hid hR1
  have HR2 := Lib.hid hR2
  have HL1 := Lib.hid hl1
  have HL2 := Lib.hid hl2
  have HNO := Lib.hid (show firstBit (Once.side a) (Once.side a) = none from firstDif_none 64 0 fun _ _ _ => rfl)
  clear hR1 hR2 hl1 hl2
  go_enter Try.func12, Try.ntmps12
  go_wp2_with fail
  refine (signs_any w).mono ?_
  rintro e w2 ⟨rfl, hN2⟩
  have HN2 := Lib.hid hN2
  clear hN2
  go_wp2_with fail
  refine (forged_any w2 A1 A2 c1 c2 a b (HR1.out.fr HN2.out (fun _ _ => id)) (HR2.out.fr HN2.out (fun _ _ => id)) (by have := HL1.out; omega) (by have := HL2.out; omega)).mono ?_
  rintro e w3 ⟨rfl, hN3⟩
  have hs1 := run_str_rd (P := Try.prog) w3 66 5 Try.underlying66 Try.underlying5 A1 c1 a ((HR1.out.fr HN2.out (fun _ _ => id)).fr hN3 (fun _ _ => id)) 9 Try.underlying9
  have hs2 := run_str_rd (P := Try.prog) w3 66 5 Try.underlying66 Try.underlying5 A2 c2 b ((HR2.out.fr HN2.out (fun _ _ => id)).fr hN3 (fun _ _ => id)) 9 Try.underlying9
  have HN3 := Lib.hid (HN2.out.trans hN3 fun _ h => h.elim)
  have HF := Lib.hid (r3forged_any w3 a b (by have := HL1.out; omega) (by have := HL2.out; omega))
  clear hN3
  cases hfb : firstBit (Once.side a) (Once.side b) with
  | none =>
    have HFB := Lib.hid hfb
    clear hfb
    simp only [forgedV]
    go_wp2_with fail
    refine HF.out.mono ?_
    rintro e w4 ⟨rfl, hN4⟩
    have HN4 := Lib.hid (HN3.out.trans hN4 fun _ h => h.elim)
    clear hs1 hs2 hN4
    rw [HFB.out]
    simp only [forgedV]
    go_wp2_with fail
    refine (forged_any w4 A1 A1 c1 c1 a a (HR1.out.fr HN4.out (fun _ _ => id)) (HR1.out.fr HN4.out (fun _ _ => id)) (by have := HL1.out; omega) (by have := HL1.out; omega)).mono ?_
    rintro e w5 ⟨rfl, hN5⟩
    rw [HNO.out]
    simp only [forgedV]
    go_wp2_with fail
    go_ret
    exact ⟨rfl, once_below (HN4.out.trans hN5 fun _ h => h.elim)⟩
  | some k =>
    have HFB := Lib.hid hfb
    clear hfb
    simp only [forgedV]
    go_wp2_with fail
    refine HF.out.mono ?_
    rintro e w4 ⟨rfl, hN4⟩
    have HN4 := Lib.hid (HN3.out.trans hN4 fun _ h => h.elim)
    clear hs1 hs2 hN4
    rw [HFB.out]
    simp only [forgedV]
    go_wp2_with fail
    refine (forged_any w4 A1 A1 c1 c1 a a (HR1.out.fr HN4.out (fun _ _ => id)) (HR1.out.fr HN4.out (fun _ _ => id)) (by have := HL1.out; omega) (by have := HL1.out; omega)).mono ?_
    rintro e w5 ⟨rfl, hN5⟩
    rw [HNO.out]
    simp only [forgedV]
    go_wp2_with fail
    go_ret
    exact ⟨rfl, once_below (HN4.out.trans hN5 fun _ h => h.elim)⟩
end Go.Proofs.YtepmlmfacpbhkaaR
