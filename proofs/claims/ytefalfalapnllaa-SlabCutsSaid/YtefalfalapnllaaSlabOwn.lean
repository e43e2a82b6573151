/- SlabOwn walked. -/
import Derived.Test.YtefalfalapnllaaSlabLaws
import Derived.Deep.RegionWith
import Derived.Deep.DeepCutAuto
namespace Go.Proofs.Ytefalfalapnllaa
open Go.RowKit
set_option linter.unusedVariables false

set_option maxRecDepth 100000 in
theorem slabOwn_big (A0 : Option Addr) (n0 c0 : Nat) (w : World) (h : 1000 < n0) :
    Calls Try.prog 4 #[.slice A0 n0 c0] w fun e w' => e = .returned (.bool true) ∧ Below w.heap.size w w' := by
  go_enter Try.func4, Try.ntmps4
  go_wp2_with fail
  refine (slab_keeps w).mono ?_
  rintro e w1 ⟨rfl, h1⟩
  have hfin := h1.below (Nat.le_refl _) (fun _ => False.elim)
  go_wp2
  go_ret
  exact ⟨rfl, hfin⟩

/-- a row of bytes, whatever they are -/
def Some8 (W : World) (A : Option Addr) (n c : Nat) : Prop := ∃ ys : List Value, ys.length = n ∧ Row W 5 A c ys ∧ ∀ y ∈ ys, ∃ q : Int, y = .int .u8 q
theorem Some8.at_ {W : World} {A : Option Addr} {n c k : Nat} (h : Some8 W A n c) (hk : k < n) : ∃ g q, A = some ⟨g, 0, none⟩ ∧ W.cell? ⟨g, k, none⟩ = some (.int .u8 q) ∧ W.frozen? ⟨g, k, none⟩ = false := by
  obtain ⟨ys, rfl, hr, hq⟩ := h
  rcases hr.cases with ⟨_, _, rfl⟩ | ⟨g, cur, rfl, hg, h1, h2, h3, h4⟩
  · simp at hk
  · obtain ⟨b, off, e, _, hc⟩ := hr.rd (by omega)
    cases e
    obtain ⟨q, hq'⟩ := hq _ (List.getElem_mem hk)
    refine ⟨g, q, rfl, ?_, Blk.frozen (w := W) (t := 5) (cs := cur) hg k⟩
    have := hc k hk
    rw [Nat.zero_add] at this
    rw [this, hq']
theorem Some8.set {W : World} {A : Option Addr} {n c k g : Nat} (h : Some8 W A n c) (hk : k < n) (hA : A = some ⟨g, 0, none⟩) (q : Int) : Some8 (W.setCell ⟨g, k, none⟩ (.int .u8 q)) A n c := by
  obtain ⟨ys, rfl, hr, hq⟩ := h
  refine ⟨ys.set k (.int .u8 q), by simp, by have := hr.set (g := g) (by rw [hA]; rfl) hk (.int .u8 q); simpa using this, fun y hy => ?_⟩
  rcases List.mem_or_eq_of_mem_set hy with h | h
  · exact hq y h
  · exact ⟨q, h⟩
theorem Some8.of_bytes {W : World} {A : Option Addr} {c : Nat} {l : List UInt8} (h : Row W 5 A c (l.map bv)) : Some8 W A l.length c :=
  ⟨l.map bv, by simp, h, fun y hy => by obtain ⟨b, _, rfl⟩ := List.mem_map.1 hy; exact ⟨_, rfl⟩⟩

set_option maxHeartbeats 4000000 in
set_option maxRecDepth 100000 in
theorem slabOwn_in (A0 : Option Addr) (c0 : Nat) (l : List UInt8) (w : World) (i0 : BytesIn w A0 l.length c0 l) (h : l.length ≤ 1000) :
    Calls Try.prog 4 #[.slice A0 l.length c0] w fun e w' => e = .returned (.bool true) ∧ Below w.heap.size w w' := by
  have r0 := i0.rd
  obtain ⟨S0, hS0⟩ : ∃ S : ByteArray, S = ⟨l.toArray⟩ := ⟨_, rfl⟩
  have mk0 := text_of c0 r0 hS0
  have cB := fun p => up_Bytes_all (w0 := w) (p := p) (s := ⟨3000, l, 0, -1⟩) rfl hS0
  have mkb : ∀ W A c, Row W 5 A c (l.map bv) → ∀ dst, Try.prog.underlying dst = some .string → (convert 22 dst (.slice A l.length c)).run Try.prog W = .ok (.string S0) W :=
    fun W A c hr => hS0 ▸ run_str_rd W 22 5 Try.underlying22 Try.underlying5 A c l hr.rd
  clear i0 hS0
  go_enter Try.func4, Try.ntmps4
  go_wp2_with fail
  refine (slab_keeps w).mono ?_
  rintro e w1 ⟨rfl, h1⟩
  go_wp2_with fail
  refine (slab_New 3000 (by omega) (by omega)).mono ?_
  rintro e w2 ⟨rfl, k2, f2⟩
  -- mine := append([]byte{}, b...)
  have n2 : New w w2 := h1.trans f2 (fun _ => .inl)
  have hsz := h1.size
  have hrow0 : Row (w2.alloc (.cells #[] 5)) 5 (some ⟨w2.heap.size, 0, none⟩) 0 [] := Row.mk (cur := #[]) (Blk.new w2 5 #[]) (by simp) (by simp) (by simp)
  obtain ⟨i, hi, hz0, hz1, hz2⟩ := info_parts info5
  obtain ⟨A3, c3, w3, hrun, hrow3, f3, hA3⟩ := run_append_rd (P := Try.prog) (w2.alloc (.cells #[] 5)) 22 22 5 i (.int .u8 0) 1 Try.underlying22 hi hz0 hz1 hz2 rfl _ 0 [] hrow0 A0 c0 _ ((r0.fr n2 (fun _ _ => id)).alloc _)
    (by simp [bv_one]) (by simp [maxLen]; omega) (by simp; omega)
  have hge : ∀ k, ab A3 = some k → w2.heap.size ≤ k := fun k hk => by
    rcases hA3 k hk with h | h
    · simp [ab] at h; omega
    · simp at h; omega
  have f23 : New w2 w3 := (Fr.alloc _ w2 _).trans f3 (fun k hk => by simp [ab] at hk; omega)
  have k3 := k2.fr f23 (fun _ _ => id)
  rw [List.nil_append] at hrow3
  have n3 : New w w3 := n2.trans f23 (fun _ => .inl)
  have hd3 : ∀ k, ab A3 = some k → ¬ (k = w1.heap.size) := fun k hk e => by have := hge k hk; have := k2.lt _ rfl; omega
  simp only [List.length_map, List.length_nil, Nat.zero_add] at hrun
  have hge' : ∀ k, ab A3 = some k → w.heap.size ≤ k := fun k hk => by have := hge k hk; have := n2.size; omega
  clear hi hz0 hz1 hz2 hrow0 f3 hA3 k2 f2 n2 f23 hge
  go_wp2_with (at_builtin; refine wpList_append_run hrun rfl rfl _ _ rfl rfl rfl ?_)
  clear hrun
  refine (slab_Append_yes k3 A3 c3 l (by simp; omega) (by decide) hrow3.rd (fun _ => hd3)).mono ?_
  rintro e w4 ⟨rfl, ⟨F4, k4, g4⟩, f4⟩
  replace k4 : SlabAt w4 F4 w1.heap.size ⟨3000, l, 0, -1⟩ := k4
  have hrow4 := hrow3.fr f4 hd3
  have hF4 : ∀ k, ab A3 = some k → ¬ F4 k := fun k hk hF => (g4 k hF).elim (hd3 k hk) (fun h => by have := hrow3.lt hk; omega)
  have hF4' : ∀ k, F4 k → w.heap.size ≤ k := fun k hF => (g4 k hF).elim (fun e => by rw [e]; exact hsz) (fun h => by have := n3.size; omega)
  have n4 : New w w4 := n3.trans f4 (fun x hx => .inr (by rw [hx]; exact hsz))
  have s4 := Some8.of_bytes hrow4
  clear k3 f4 hrow3 hrow4 n3 hd3 g4
  go_wp2
  go_loopw [30] (fun i W => ∃ k : Nat, i = .int .i64 k ∧ k ≤ l.length ∧ Some8 W A3 l.length c3 ∧ Fr (fun j => ab A3 = some j) w4 W) (fun i _ => l.length - (intOf i).toNat)
  case atStart => exact ⟨0, rfl, Nat.zero_le _, s4, Fr.refl _ _⟩
  case round =>
    obtain ⟨k, rfl, hk, hs, hf⟩ := hrel
    by_cases hlt : k < l.length
    · obtain ⟨g, q, hA, cg, fg⟩ := hs.at_ hlt
      have hst := fun q => hs.set hlt hA q
      have hft := fun q => hf.then_set (p := ⟨g, k, none⟩) (by rw [hA]; rfl) (.int .u8 q)
      subst hA
      clear hs hf
      go_wp2
      go_roundw
      case rel => exact ⟨k + 1, by go_num, by omega, hst _, hft _⟩
      case measure => simp [intOf]; omega
    · have k5 := k4.fr hf (fun x hx e => hF4 x e hx)
      have hF5 : ∀ k, F4 k → k < wr.heap.size := k5.lt
      have n5 : New w wr := n4.trans hf (fun x hx => .inr (hge' x hx))
      clear k4 n4 s4 hs hf
      go_wp2_with fail
      refine (slab_Bytes k5).mono ?_
      rintro e w6 ⟨A6, c6, rfl, hr6, hg6, k6, f6⟩
      have n6 : New w w6 := n5.trans f6 (fun _ => .inl)
      have hs6 := mkb w6 A6 c6 hr6
      have s6 := Some8.of_bytes hr6
      have hF6 : ∀ k, ab A6 = some k → ¬ F4 k := fun k hk hF => by have := hF5 k hF; have := hg6 k hk; omega
      have hg6' : ∀ k, ab A6 = some k → w.heap.size ≤ k := fun k hk => by have := hg6 k hk; have := n5.size; omega
      clear k5 n5 hr6 hg6
      obtain ⟨wo, rfl⟩ : ∃ wo : World, wo = wr := ⟨_, rfl⟩
      go_wp2
      go_loopw [49] (fun i W => ∃ k : Nat, i = .int .i64 k ∧ k ≤ l.length ∧ Some8 W A6 l.length c6 ∧ Fr (fun j => ab A6 = some j) w6 W) (fun i _ => l.length - (intOf i).toNat)
      case atStart => exact ⟨0, rfl, Nat.zero_le _, s6, Fr.refl _ _⟩
      case round =>
        obtain ⟨k', rfl, hk', hs, hf⟩ := hrel
        by_cases hlt' : k' < l.length
        · obtain ⟨g, q, hA, cg, fg⟩ := hs.at_ hlt'
          have hst := fun q => hs.set hlt' hA q
          have hft := fun q => hf.then_set (p := ⟨g, k', none⟩) (by rw [hA]; rfl) (.int .u8 q)
          subst hA
          clear hs hf
          go_wp2
          go_roundw
          case rel => exact ⟨k' + 1, by go_num, by omega, hst _, hft _⟩
          case measure => simp [intOf]; omega
        · have k7 := k6.fr hf (fun x hx e => hF6 x e hx)
          have n7 : New w wr := n6.trans hf (fun x hx => .inr (hg6' x hx))
          have u7 : SlabUp w wr w1.heap.size ⟨3000, l, 0, -1⟩ := ⟨F4, k7, hF4', n7⟩
          clear k6 n6 s6 hs hf k7
          go_wp2_with fail
          have n7d := n7.then_drew
          have n7' := n7.then_drewN 1
          go_region_with (go_at_call 20; refine (cB _ _ (u7.drewN 1)).mono ?_; rintro e w8 ⟨A2, c2, rfl, k8, hc⟩; have n8 := k8.new)
          all_goals
            have hfin := k8.below
            go_wp2
            go_ret
            exact ⟨rfl, hfin⟩
end Go.Proofs.Ytefalfalapnllaa
