/- The contracts of package slab over a slab that was made since a world w0: nothing of w0 is turned. -/
import Derived.Test.YtefalfalapnllaaSlab
namespace Go.Proofs.Ytefalfalapnllaa
open Go.RowKit
set_option linter.unusedVariables false

/-- at block p lies the slab s, made since w0; nothing of w0 has turned -/
def SlabUp (w0 w : World) (p : Nat) (s : SlabS) : Prop := ∃ F, SlabAt w F p s ∧ (∀ k, F k → w0.heap.size ≤ k) ∧ New w0 w
theorem SlabUp.new {w0 w : World} {p : Nat} {s : SlabS} (h : SlabUp w0 w p s) : New w0 w := by obtain ⟨F, _, _, h⟩ := h; exact h
theorem SlabUp.good {w0 w : World} {p : Nat} {s : SlabS} (h : SlabUp w0 w p s) : s.ok := by obtain ⟨F, h, _⟩ := h; exact h.good
theorem SlabUp.rd {w0 w : World} {p : Nat} {s : SlabS} (h : SlabUp w0 w p s) {A : Option Addr} {xs : List Value} (hr : Rd w0 A xs) : Rd w A xs := hr.fr h.new (fun _ _ => id)
theorem SlabUp.alloc {w0 w : World} {p : Nat} {s : SlabS} (h : SlabUp w0 w p s) (o : Obj) : SlabUp w0 (w.alloc o) p s := by
  obtain ⟨F, h, hF, hn⟩ := h
  exact ⟨F, h.alloc o, hF, hn.then_alloc o⟩
theorem SlabUp.drewN {w0 w : World} {p : Nat} {s : SlabS} (h : SlabUp w0 w p s) (n : Nat) : SlabUp w0 (w.drewN n) p s := by
  obtain ⟨F, h, hF, hn⟩ := h
  exact ⟨F, h.drewN n, hF, hn.then_drewN n⟩
theorem SlabUp.below {w0 w : World} {p : Nat} {s : SlabS} (h : SlabUp w0 w p s) : Below w0.heap.size w0 w := h.new.below (Nat.le_refl _) (fun _ => False.elim)
theorem SlabUp.of_fr {w0 w w' : World} {F : Nat → Prop} {p : Nat} {s : SlabS} (hF : ∀ k, F k → w0.heap.size ≤ k) (hn : New w0 w) {F' : Nat → Prop} (h : SlabAt w' F' p s) (g : Gr w F F') (f : Fr F w w') : SlabUp w0 w' p s :=
  ⟨F', h, fun k hk => (g k hk).elim (hF k) (fun h2 => Nat.le_trans hn.size h2), hn.trans f (fun x hx => .inr (hF x hx))⟩
theorem SlabUp.of_new {w0 w w' : World} {F : Nat → Prop} {p : Nat} {s : SlabS} (hF : ∀ k, F k → w0.heap.size ≤ k) (hn : New w0 w) (h : SlabAt w' F p s) (f : New w w') : SlabUp w0 w' p s :=
  ⟨F, h, hF, hn.trans f (fun _ => .inl)⟩

section
variable {w0 w : World} {p : Nat} {s : SlabS}
theorem up_New (h : New w0 w) (n : Int) (h0 : 0 ≤ n) (h1 : n ≤ 4194304) :
    Calls Try.prog 16 #[.int .i64 n] w fun e w' => e = .returned (.tuple #[.pointer (some ⟨w.heap.size, 0, none⟩), .int .i64 0]) ∧ SlabUp w0 w' w.heap.size ⟨n, [], 0, -1⟩ :=
  (slab_New n h0 h1).mono fun _ _ ⟨he, ha, hn⟩ => ⟨he, _, ha, fun k hk => by rw [hk]; exact h.size, h.trans hn (fun _ => .inl)⟩
theorem up_Break (h : SlabUp w0 w p s) (n : Int) (hn : n ≤ 9223372036854775807) :
    Calls Try.prog 21 #[.pointer (some ⟨p, 0, none⟩), .int .i64 n] w fun e w' => e = .returned (.tuple #[]) ∧ SlabUp w0 w' p { s with steps := max n (-1) } := by
  obtain ⟨F, h, hF, hn'⟩ := h
  exact (slab_Break h n hn).mono fun _ _ ⟨he, ha, hf⟩ => ⟨he, .of_fr hF hn' ha (Gr.refl _ _) hf⟩
theorem up_Size (h : SlabUp w0 w p s) :
    Calls Try.prog 23 #[.pointer (some ⟨p, 0, none⟩)] w fun e w' => e = .returned (.tuple #[.int .i64 s.bs.length, .int .i64 s.sure]) ∧ SlabUp w0 w' p s := by
  obtain ⟨F, h, hF, hn'⟩ := h
  exact (slab_Size h).mono fun _ _ ⟨he, ha, hf⟩ => ⟨he, .of_new hF hn' ha hf⟩
theorem up_Sync_no (h : SlabUp w0 w p s) (h0 : s.steps = 0) :
    Calls Try.prog 18 #[.pointer (some ⟨p, 0, none⟩)] w fun e w' => e = .returned (.int .i64 90) ∧ SlabUp w0 w' p s := by
  obtain ⟨F, h', hF, hn'⟩ := h
  exact (slab_Sync_no h' h0).mono fun _ _ ⟨he, hw⟩ => ⟨he, hw ▸ ⟨F, h', hF, hn'⟩⟩
theorem up_Sync_yes (h : SlabUp w0 w p s) (h0 : s.steps ≠ 0) :
    Calls Try.prog 18 #[.pointer (some ⟨p, 0, none⟩)] w fun e w' => e = .returned (.int .i64 0) ∧ SlabUp w0 w' p s.synced := by
  obtain ⟨F, h', hF, hn'⟩ := h
  exact (slab_Sync_yes h' h0).mono fun _ _ ⟨he, ha, hf⟩ => ⟨he, .of_fr hF hn' ha (Gr.refl _ _) hf⟩
theorem up_Append_full (h : SlabUp w0 w p s) (A' : Option Addr) (n c' : Nat) (hf : s.room - s.bs.length < n) :
    Calls Try.prog 17 #[.pointer (some ⟨p, 0, none⟩), .slice A' n c'] w fun e w' => e = .returned (.int .i64 3) ∧ SlabUp w0 w' p s := by
  obtain ⟨F, h', hF, hn'⟩ := h
  exact (slab_Append_full h' A' n c' hf).mono fun _ _ ⟨he, ha, hf⟩ => ⟨he, .of_new hF hn' ha hf⟩
theorem up_Append_no (h : SlabUp w0 w p s) (A' : Option Addr) (n c' : Nat) (hf : n ≤ s.room - s.bs.length) (h0 : s.steps = 0) :
    Calls Try.prog 17 #[.pointer (some ⟨p, 0, none⟩), .slice A' n c'] w fun e w' => e = .returned (.int .i64 90) ∧ SlabUp w0 w' p s := by
  obtain ⟨F, h', hF, hn'⟩ := h
  exact (slab_Append_no h' A' n c' hf h0).mono fun _ _ ⟨he, ha, hf⟩ => ⟨he, .of_new hF hn' ha hf⟩
theorem up_Append_arg (h : SlabUp w0 w p s) (A' : Option Addr) (c' : Nat) (l : List UInt8) (hf : l.length ≤ s.room - s.bs.length) (h0 : s.steps ≠ 0)
    (hr : Rd w0 A' (l.map bv)) :
    Calls Try.prog 17 #[.pointer (some ⟨p, 0, none⟩), .slice A' l.length c'] w fun e w' => e = .returned (.int .i64 0) ∧ SlabUp w0 w' p (s.app l) := by
  obtain ⟨F, h', hF, hn'⟩ := h
  exact (slab_Append_yes h' A' c' l hf h0 (hr.fr hn' (fun _ _ => id)) (fun h0 k hk hFk => by have := hF k hFk; have := hr.lt (by simpa using h0) k hk; omega)).mono
    fun _ _ ⟨he, ⟨F', ha, hg⟩, hf⟩ => ⟨he, .of_fr hF hn' ha hg hf⟩
theorem up_Append_lit (h : SlabUp w0 w p s) (c' : Nat) (l : List UInt8) (fr : Nat × Nat) (hf : l.length ≤ s.room - s.bs.length) (h0 : s.steps ≠ 0) :
    Calls Try.prog 17 #[.pointer (some ⟨p, 0, none⟩), .slice (some ⟨w.heap.size, 0, none⟩) l.length c'] (w.alloc (.cells (l.map bv).toArray 5 fr)) fun e w' => e = .returned (.int .i64 0) ∧ SlabUp w0 w' p (s.app l) := by
  obtain ⟨F, h', hF, hn'⟩ := h
  exact (slab_Append_yes (h'.alloc _) _ c' l hf h0 (Rd.lit w (l.map bv) 5 fr) (fun _ k hk hFk => by have := h'.lt k hFk; simp [ab] at hk; omega)).mono
    fun _ _ ⟨he, ⟨F', ha, hg⟩, hf⟩ => ⟨he, .of_fr hF (hn'.then_alloc _) ha hg hf⟩
theorem up_Cut_bad (h : SlabUp w0 w p s) (n : Int) (hn : n < 0 ∨ (s.bs.length : Int) < n) :
    Calls Try.prog 22 #[.pointer (some ⟨p, 0, none⟩), .int .i64 n] w fun e w' => e = .returned (.int .i64 1) ∧ SlabUp w0 w' p s := by
  obtain ⟨F, h', hF, hn'⟩ := h
  exact (slab_Cut_bad h' n hn).mono fun _ _ ⟨he, hw⟩ => ⟨he, hw ▸ ⟨F, h', hF, hn'⟩⟩
theorem up_Cut_no (h : SlabUp w0 w p s) (n : Int) (hn : 0 ≤ n) (hn2 : n ≤ s.bs.length) (h0 : s.steps = 0) :
    Calls Try.prog 22 #[.pointer (some ⟨p, 0, none⟩), .int .i64 n] w fun e w' => e = .returned (.int .i64 90) ∧ SlabUp w0 w' p s := by
  obtain ⟨F, h', hF, hn'⟩ := h
  exact (slab_Cut_no h' n hn hn2 h0).mono fun _ _ ⟨he, hw⟩ => ⟨he, hw ▸ ⟨F, h', hF, hn'⟩⟩
theorem up_Cut_yes (h : SlabUp w0 w p s) (n : Int) (hn : 0 ≤ n) (hn2 : n ≤ s.bs.length) (h0 : s.steps ≠ 0) :
    Calls Try.prog 22 #[.pointer (some ⟨p, 0, none⟩), .int .i64 n] w fun e w' => e = .returned (.int .i64 0) ∧ SlabUp w0 w' p (s.cut n) := by
  obtain ⟨F, h', hF, hn'⟩ := h
  exact (slab_Cut_yes h' n hn hn2 h0).mono fun _ _ ⟨he, ha, hf⟩ => ⟨he, .of_fr hF hn' ha (Gr.refl _ _) hf⟩
theorem up_Crash (h : SlabUp w0 w p s) (n : Int) :
    Calls Try.prog 19 #[.pointer (some ⟨p, 0, none⟩), .int .i64 n] w fun e w' => e = .returned (.tuple #[]) ∧ SlabUp w0 w' p (s.crash n) := by
  obtain ⟨F, h', hF, hn'⟩ := h
  exact (slab_Crash h' n).mono fun _ _ ⟨he, ha, hf⟩ => ⟨he, .of_fr hF hn' ha (Gr.refl _ _) hf⟩
theorem up_Spoil_bad (h : SlabUp w0 w p s) (n : Int) (x : UInt8) (hn : n < 0 ∨ (s.bs.length : Int) ≤ n) :
    Calls Try.prog 31 #[.pointer (some ⟨p, 0, none⟩), .int .i64 n, bv x] w fun e w' => e = .returned (.int .i64 1) ∧ SlabUp w0 w' p s := by
  obtain ⟨F, h', hF, hn'⟩ := h
  exact (slab_Spoil_bad h' n x hn).mono fun _ _ ⟨he, hw⟩ => ⟨he, hw ▸ ⟨F, h', hF, hn'⟩⟩
theorem up_Spoil_yes (h : SlabUp w0 w p s) (n : Nat) (x : UInt8) (hn : n < s.bs.length) :
    Calls Try.prog 31 #[.pointer (some ⟨p, 0, none⟩), .int .i64 n, bv x] w fun e w' => e = .returned (.int .i64 0) ∧ SlabUp w0 w' p (s.spoil n x) := by
  obtain ⟨F, h', hF, hn'⟩ := h
  exact (slab_Spoil_yes h' n x hn).mono fun _ _ ⟨he, ha, hf⟩ => ⟨he, .of_fr hF hn' ha (Gr.refl _ _) hf⟩
/-- the bytes, as a text in w' -/
theorem up_Bytes (h : SlabUp w0 w p s) (n : Nat) (hn : n = s.bs.length) (S : ByteArray) (hS : S = ⟨s.bs.toArray⟩) :
    Calls Try.prog 20 #[.pointer (some ⟨p, 0, none⟩)] w fun e w' => ∃ A2 c2, e = .returned (.slice A2 n c2) ∧ SlabUp w0 w' p s ∧
      ∀ dst, Try.prog.underlying dst = some .string → (convert 22 dst (.slice A2 n c2)).run Try.prog w' = .ok (.string S) w' := by
  obtain ⟨F, h', hF, hn'⟩ := h
  subst hn hS
  exact (slab_Bytes h').mono fun _ w' ⟨A2, c2, he, hr, _, ha, hf⟩ => ⟨A2, c2, he, .of_new hF hn' ha hf, run_str_rd w' 22 5 Try.underlying22 Try.underlying5 A2 c2 _ hr.rd⟩
end
end Go.Proofs.Ytefalfalapnllaa
