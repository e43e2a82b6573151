/- Package pack: the reader's run. -/
import Derived.Test.YtefalfalapnllaaFilF
namespace Go.Proofs.Ytefalfalapnllaa
open Go.RowKit Go.Shelf
set_option linter.unusedVariables false
def slO (o c k : Nat) : Nat := if c = k then o else o + k
theorem slA_eq (g o c k : Nat) : slA g o c k = ⟨g, slO o c k, none⟩ := by unfold slA slO; split <;> rfl
theorem sl_drop (g off n c a : Nat) (ha : a ≤ n) (hn : n ≤ c) (w : World) : (Instr.slice 22 (.slice (some ⟨g, off, none⟩) n c) (some (.int .i64 (a : Int))) none none).run Try.prog w = .ok (.slice (some ⟨g, slO off c a, none⟩) (n - a) (c - a)) w := by
  rw [run_slice_l (P := Try.prog) (w := w) 22 (some ⟨g, off, none⟩) n c sl_hu .i64 (a : Int) (by omega) (by omega), sl_hs, ← slA_eq]
  simp only [Result.andThen, sliced, Int.toNat_natCast, slA]
  split <;> simp [Addr.add_lit]
theorem sl_midO (g off n c l h : Nat) (hl : l ≤ h) (hh : h ≤ c) (w : World) : (Instr.slice 22 (.slice (some ⟨g, off, none⟩) n c) (some (.int .i64 (l : Int))) (some (.int .i64 (h : Int))) none).run Try.prog w = .ok (.slice (some ⟨g, slO off c l, none⟩) (h - l) (c - l)) w := by
  rw [sl_mid g off n c l h hl hh w, slA_eq]
theorem rd_dropO {w : World} {g off : Nat} {l : List UInt8} (h : Rd w (some ⟨g, off, none⟩) (l.map bv)) (c k : Nat) (hc : l.length ≤ c) : Rd w (some ⟨g, slO off c k, none⟩) ((l.drop k).map bv) := by
  unfold slO
  by_cases e : c = k
  · rw [if_pos e, List.drop_of_length_le (by omega)]
    exact fun h0 => by simp at h0
  · rw [if_neg e]
    exact rd_drop h k
/-- a reader's cells -/
def rdc (g o n c : Nat) : Array Value := #[.slice (some ⟨g, o, none⟩) n c, .int .i64 0]
set_option maxHeartbeats 2000000 in
set_option maxRecDepth 20000 in
/-- the next run of bytes -/
theorem r_run (w : World) (r g o c : Nat) (d tl : List UInt8) (hB : Blk w r 106 (rdc g o (Jrn.dig d.length ++ (d ++ tl)).length c)) (hR : Rd w (some ⟨g, o, none⟩) ((Jrn.dig d.length ++ (d ++ tl)).map bv)) (hc : (Jrn.dig d.length ++ (d ++ tl)).length ≤ c) (hg : g ≠ r) (hd : d.length < 16777216) (hbig : (Jrn.dig d.length ++ (d ++ tl)).length ≤ 1000000000) :
    Calls Try.prog 53 #[.pointer (some ⟨r, 0, none⟩)] w fun e w' => e = .returned (.slice (some ⟨g, slO o c 3, none⟩) d.length (c - 3)) ∧
      Blk w' r 106 (rdc g (slO o c (3 + d.length)) tl.length (c - (3 + d.length))) ∧ Fr (fun k => k = r) w w' := by
  have hlen : (Jrn.dig d.length ++ (d ++ tl)).length = 3 + d.length + tl.length := by simp [Jrn.dig_length]; omega
  have hcl := hR (by rw [List.length_map, hlen]; omega)
  obtain ⟨g', o', e, hgl, hcell⟩ := hcl
  cases e
  have k0 := hcell 0 (by rw [List.length_map, hlen]; omega)
  have k1 := hcell 1 (by rw [List.length_map, hlen]; omega)
  have k2 := hcell 2 (by rw [List.length_map, hlen]; omega)
  obtain ⟨x0, x1, x2, hdg⟩ : ∃ x0 x1 x2, Jrn.dig d.length = [x0, x1, x2] := ⟨_, _, _, rfl⟩
  have hnum : Jrn.num (Jrn.dig d.length) = d.length := by
    have := Jrn.num_dig d.length [] hd
    rwa [List.append_nil] at this
  have hnum2 : Jrn.num (Jrn.dig d.length) = x0.toNat * 65536 + x1.toNat * 256 + x2.toNat := by rw [hdg]; rfl
  simp only [hdg, List.map_append, List.map_cons, List.map_nil, List.cons_append, List.nil_append, List.getElem_cons_zero, List.getElem_cons_succ, Nat.add_zero] at k0 k1 k2
  unfold bv at k0 k1 k2
  have hv := or3 x0 x1 x2
  rw [← hnum2, hnum] at hv
  have hx0 : (x0.toNat : Int) < 256 := by have := UInt8.toNat_lt x0; omega
  have hx1 : (x1.toNat : Int) < 256 := by have := UInt8.toNat_lt x1; omega
  have hx2 : (x2.toNat : Int) < 256 := by have := UInt8.toNat_lt x2; omega
  rw [hlen] at hB hc hbig
  have c0 := hB.cell 0
  have c1 := hB.cell 1
  simp [rdc] at c0 c1
  clear hcell hdg hnum hnum2 hR hlen
  generalize hN : d.length = N at *
  generalize tl.length = M at *
  have hM : 3 + N + M - (3 + N) = M := by omega
  obtain ⟨m, hm⟩ : ∃ m, 3 + N + M = m := ⟨_, rfl⟩
  rw [hm] at hB hc c0 hbig
  have hm0 : (0 : Int) < (m : Int) := by omega
  have hm1 : (1 : Int) < (m : Int) := by omega
  have hm2 : (2 : Int) < (m : Int) := by omega
  have hm0n : 0 < m := by omega
  have hbig' : (m : Int) ≤ 1000000000 := by omega
  have hN2 : (N : Int) < 16777216 := by omega
  have hm3 : decide ((m : Int) < 3) = false := decide_eq_false (by omega)
  have hm4 : decide ((m : Int) - 3 < (N : Int)) = false := decide_eq_false (by omega)
  have hsl1 : ∀ W, (Instr.slice 22 (.slice (some ⟨g, o, none⟩) m c) (some (.int .i64 3)) (some (.int .i64 (3 + (N : Int)))) none).run Try.prog W = .ok (.slice (some ⟨g, slO o c 3, none⟩) N (c - 3)) W := fun W => by
    have := sl_midO g o m c 3 (3 + N) (by omega) (by omega) W
    rw [show ((3 + N : Nat) : Int) = 3 + (N : Int) by omega, show 3 + N - 3 = N by omega] at this
    exact this
  have hsl2 : ∀ W, (Instr.slice 22 (.slice (some ⟨g, o, none⟩) m c) (some (.int .i64 (3 + (N : Int)))) none none).run Try.prog W = .ok (.slice (some ⟨g, slO o c (3 + N), none⟩) M (c - (3 + N))) W := fun W => by
    have := sl_drop g o m c (3 + N) (by omega) (by omega) W
    rw [show ((3 + N : Nat) : Int) = 3 + (N : Int) by omega, show m - (3 + N) = M by omega] at this
    exact this
  have hfr0 := hB.frozen 0
  have HB := Lib.hid hB
  clear hB hm hM hc hg hgl
  go_enter Try.func53, Try.ntmps53
  go_upto_region 5 with fail
  go_quiet (fail)
  clear hv k0 k1 k2 hx0 hx1 hx2
  go_wp2_with fail
  go_ret
  exact ⟨rfl, Blk.set (show Blk (w.drewN nq) r 106 (rdc g o m c) from HB.out) 0 (.slice (some ⟨g, slO o c (3 + N), none⟩) M (c - (3 + N))), (Fr.drewN (fun k => k = r) w nq).trans (Fr.setCell (S := fun k => k = r) _ rfl _) (fun k h => .inl h)⟩
end Go.Proofs.Ytefalfalapnllaa
