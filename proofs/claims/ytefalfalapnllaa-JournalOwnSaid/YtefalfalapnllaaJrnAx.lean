/- The journal and its box, beside rows of bytes that are turned. -/
import Derived.Test.YtefalfalapnllaaJrnOne
namespace Go.Proofs.Ytefalfalapnllaa
open Go.RowKit Go.Shelf
set_option linter.unusedVariables false
/-- the blocks X lie apart from the journal and from the box -/
def Agx (w0 : World) (X : Nat → Prop) (T : Nat) (a : List UInt8) (p q : Nat) (j : JS) (W : World) : Prop :=
  ∃ H, JB W H p q j ∧ ¬ H T ∧ (∀ k, H k → w0.heap.size ≤ k) ∧ Blk W T 60 (ida a) ∧ w0.heap.size ≤ T ∧ (∀ k, X k → ¬ H k ∧ k ≠ T ∧ k < W.heap.size ∧ w0.heap.size ≤ k) ∧ New w0 W
section
variable {w0 w w' : World} {X : Nat → Prop} {T p q : Nat} {a : List UInt8} {j j' : JS}
theorem One.box (h : One w0 p q j w) : Agn w0 w.heap.size z32 p q j (w.alloc (.cells (ida z32) 60)) := by
  obtain ⟨H, h1, h2, h3⟩ := h
  have hlt := h1.lt
  exact ⟨H, h1.new (Fr.alloc _ w _), fun hT => by have := hlt _ hT; omega, h2, Blk.new w 60 (ida z32), h3.size, h3.then_alloc _⟩
theorem Agx.of (h : Agn w0 T a p q j w) (f : New w w') (hX : ∀ k, X k → w.heap.size ≤ k ∧ k < w'.heap.size) : Agx w0 X T a p q j w' := by
  obtain ⟨H, h1, h2, h3, h4, h5, h6⟩ := h
  have hlt := h1.lt
  have hs := h6.size
  exact ⟨H, h1.new f, h2, h3, h4.fr f id, h5, fun k hk => ⟨fun hH => by have := hlt k hH; have := hX k hk; omega, fun e => by have := h4.lt; have := hX k hk; omega, (hX k hk).2, by have := hX k hk; omega⟩, h6.trans f (fun _ h => h.elim)⟩
theorem Agx.agn (h : Agx w0 X T a p q j w) : Agn w0 T a p q j w := by
  obtain ⟨H, h1, h2, h3, h4, h5, h6, h7⟩ := h
  exact ⟨H, h1, h2, h3, h4, h5, h7⟩
theorem Agx.frm (h : Agx w0 X T a p q j w) : New w0 w := h.agn.frm
theorem Agx.blk (h : Agx w0 X T a p q j w) : Blk w T 60 (ida a) := h.agn.blk
theorem Agx.new (h : Agx w0 X T a p q j w) (f : New w w') : Agx w0 X T a p q j w' := by
  obtain ⟨H, h1, h2, h3, h4, h5, h6, h7⟩ := h
  exact ⟨H, h1.new f, h2, h3, h4.fr f id, h5, fun k hk => ⟨(h6 k hk).1, (h6 k hk).2.1, Nat.lt_of_lt_of_le (h6 k hk).2.2.1 f.size, (h6 k hk).2.2.2⟩, h7.trans f (fun _ h => h.elim)⟩
theorem Agx.turn (h : Agx w0 X T a p q j w) (f : Fr X w w') : Agx w0 X T a p q j w' := by
  obtain ⟨H, h1, h2, h3, h4, h5, h6, h7⟩ := h
  exact ⟨H, h1.fr f (fun k hH hk => (h6 k hk).1 hH), h2, h3, h4.fr f (fun hT => (h6 T hT).2.1 rfl), h5, fun k hk => ⟨(h6 k hk).1, (h6 k hk).2.1, Nat.lt_of_lt_of_le (h6 k hk).2.2.1 f.size, (h6 k hk).2.2.2⟩, h7.trans f (fun k hk => .inr (h6 k hk).2.2.2)⟩
theorem Agx.store (h : Agx w0 X T a p q j w) (b : List UInt8) : Agx w0 X T b p q j (w.setRow T (ida b)) ∧ Fr (fun k => ¬ X k) w (w.setRow T (ida b)) := by
  obtain ⟨H, h1, h2, h3, h4, h5, h6, h7⟩ := h
  have f : Fr (fun k => k = T) w (w.setRow T (ida b)) := (Fr.refl (fun k => k = T) w).setRow (g := T) rfl _
  exact ⟨⟨H, h1.fr f (fun k hk e => h2 (e ▸ hk)), h2, h3, h4.setRow _, h5, fun k hk => ⟨(h6 k hk).1, (h6 k hk).2.1, Nat.lt_of_lt_of_le (h6 k hk).2.2.1 f.size, (h6 k hk).2.2.2⟩, h7.trans f (fun k hk => .inr (by omega))⟩,
    f.mono fun k hk => .inl fun hX => (h6 k hX).2.1 hk⟩
theorem Agx.lift {f : FuncId} {args : Array Value} {R : Ending → World → Prop} (h : Agx w0 X T a p q j w)
    (hc : ∀ H, JB w H p q j → (∀ k, H k → w0.heap.size ≤ k) → (∀ k, X k → ¬ H k) → Calls Try.prog f args w fun e w' => R e w' ∧ JStep w H p q j' w') :
    Calls Try.prog f args w fun e w' => R e w' ∧ Agx w0 X T a p q j' w' ∧ Fr (fun k => ¬ X k) w w' := by
  obtain ⟨H, h1, h2, h3, h4, h5, h6, h7⟩ := h
  refine (hc H h1 h3 (fun k hk => (h6 k hk).1)).mono ?_
  rintro e w' ⟨hR, H', a1, a2, a3⟩
  have hN : ∀ k, k < w.heap.size → ¬ H k → ¬ H' k := fun k hk hn hH => by
    rcases a2 k hH with h | h
    · exact hn h
    · omega
  refine ⟨hR, ⟨H', a1, hN T h4.lt h2, ?_, h4.fr a3 h2, h5, fun k hk => ⟨hN k (h6 k hk).2.2.1 (h6 k hk).1, (h6 k hk).2.1, Nat.lt_of_lt_of_le (h6 k hk).2.2.1 a3.size, (h6 k hk).2.2.2⟩, h7.trans a3 (fun k hk => .inr (h3 k hk))⟩, a3.mono fun k hk => .inl fun hX => (h6 k hX).1 hk⟩
  intro k hk
  rcases a2 k hk with h | h
  · exact h3 k h
  · exact Nat.le_trans h7.size h
theorem Agx.Write (h : Agx w0 X T a p q j w) (A0 : Option Addr) (c0 : Nat) (d : List UInt8) (hd : Rd w A0 (d.map bv)) (hX : ∀ k, ab A0 = some k → X k) (hdl : d.length ≤ 100000000) (hrl : j.rs.length < 1000000) :
    Calls Try.prog 34 #[.pointer (some ⟨q, 0, none⟩), .slice A0 d.length c0] w fun e w' => e = .returned (.int .i64 (j.write d).2) ∧ Agx w0 X T a p q (j.write d).1 w' ∧ Fr (fun k => ¬ X k) w w' :=
  h.lift (R := fun e _ => e = _) fun H hB hH hXH => jb_Write hB A0 c0 d hd (fun h0 k hk hk2 => hXH k (hX k hk) hk2) hdl hrl
theorem Agx.Last (h : Agx w0 X T a p q j w) :
    Calls Try.prog 39 #[.pointer (some ⟨q, 0, none⟩)] w fun e w' => e = .returned (.agg (ida j.last)) ∧ Agx w0 X T a p q j w' ∧ New w w' := by
  have h0 := h
  obtain ⟨H, ⟨F, G, A, c, ps, h1, hJ, hFG, hH⟩, _⟩ := h
  exact (j_Last hJ).mono fun _ _ ⟨he, hN⟩ => ⟨he, h0.new hN, hN⟩
theorem Agn.At (h : Agn w0 T a p q j w) (i : Nat) (d : List UInt8) (hi : j.rs[i]? = some d) (hdl : d.length ≤ 140737488355328) (hrl : j.rs.length < 1000000000000) :
    Calls Try.prog 36 #[.pointer (some ⟨q, 0, none⟩), .int .i64 i] w fun e w' => ∃ A2 c2, e = .returned (.tuple #[.slice A2 d.length c2, .int .i64 0]) ∧ RowN w w' A2 c2 d ∧ Agx w0 (fun k => ab A2 = some k) T a p q j w' := by
  have h0 := h
  obtain ⟨H, hB, _⟩ := h
  exact (jb_At_ok hB i d hi hdl hrl).mono fun _ _ ⟨A2, c2, he, hR, _⟩ => ⟨A2, c2, he, hR, Agx.of h0 hR.fr (fun k hk => ⟨hR.new k hk, hR.row.lt hk⟩)⟩
end
/-- a row of bytes, whatever they are -/
def Any8 (W : World) (A : Option Addr) (n c : Nat) : Prop := ∃ ys : List Value, ys.length = n ∧ Row W 5 A c ys ∧ ∀ y ∈ ys, ∃ q : Int, y = .int .u8 q
theorem Any8.at_ {W : World} {A : Option Addr} {n c k : Nat} (h : Any8 W A n c) (hk : k < n) : ∃ g q, A = some ⟨g, 0, none⟩ ∧ W.cell? ⟨g, k, none⟩ = some (.int .u8 q) ∧ W.frozen? ⟨g, k, none⟩ = false := by
  obtain ⟨ys, rfl, hr, hq⟩ := h
  rcases hr.cases with ⟨_, _, rfl⟩ | ⟨g, cur, rfl, hg, h1, h2, h3, h4⟩
  · simp at hk
  · obtain ⟨b, off, e, _, hc⟩ := hr.rd (by omega)
    cases e
    obtain ⟨q, hq'⟩ := hq _ (List.getElem_mem hk)
    refine ⟨g, q, rfl, ?_, Blk.frozen (w := W) (t := 5) (cs := cur) hg k⟩
    have := hc k hk
    rw [Nat.zero_add] at this
    rw [this, hq']
theorem Any8.set {W : World} {A : Option Addr} {n c k g : Nat} (h : Any8 W A n c) (hk : k < n) (hA : A = some ⟨g, 0, none⟩) (q : Int) : Any8 (W.setCell ⟨g, k, none⟩ (.int .u8 q)) A n c := by
  obtain ⟨ys, rfl, hr, hq⟩ := h
  refine ⟨ys.set k (.int .u8 q), by simp, by have := hr.set (g := g) (by rw [hA]; rfl) hk (.int .u8 q); simpa using this, fun y hy => ?_⟩
  rcases List.mem_or_eq_of_mem_set hy with h | h
  · exact hq y h
  · exact ⟨q, h⟩
theorem Any8.of_bytes {W : World} {A : Option Addr} {c : Nat} {l : List UInt8} (h : Row W 5 A c (l.map bv)) : Any8 W A l.length c :=
  ⟨l.map bv, by simp, h, fun y hy => by obtain ⟨b, _, rfl⟩ := List.mem_map.1 hy; exact ⟨_, rfl⟩⟩
end Go.Proofs.Ytefalfalapnllaa
