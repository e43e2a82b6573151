/- A journal as plain data, and what Write does to it; a slab's Append and Sync, each in one contract. -/
import Derived.Test.YtefalfalapnllaaJrnB
import Derived.Test.YtefalfalapnllaaSlabUp
namespace Go.Proofs.Ytefalfalapnllaa
open Go.RowKit Go.Shelf
set_option linter.unusedVariables false
def SlabS.append (s : SlabS) (l : List UInt8) : SlabS × Int := if s.room - s.bs.length < l.length then (s, 3) else if s.steps = 0 then (s, 90) else (s.app l, 0)
def SlabS.sync (s : SlabS) : SlabS × Int := if s.steps = 0 then (s, 90) else (s.synced, 0)
theorem slab_Append_all {w : World} {F : Nat → Prop} {p : Nat} {s : SlabS} (h : SlabAt w F p s) (A' : Option Addr) (c' : Nat) (l : List UInt8) (hr : Rd w A' (l.map bv)) (hd : 0 < l.length → ∀ k, ab A' = some k → ¬ F k) :
    Calls Try.prog 17 #[.pointer (some ⟨p, 0, none⟩), .slice A' l.length c'] w fun e w' => e = .returned (.int .i64 (s.append l).2) ∧ (∃ F', SlabAt w' F' p (s.append l).1 ∧ Gr w F F') ∧ Fr F w w' := by
  unfold SlabS.append
  split
  · rename_i hf
    exact (slab_Append_full h A' l.length c' hf).mono fun _ _ ⟨he, ha, hn⟩ => ⟨he, ⟨F, ha, Gr.refl _ _⟩, hn.mono fun _ h => h.elim⟩
  · rename_i hf
    split
    · rename_i h0
      exact (slab_Append_no h A' l.length c' (by omega) h0).mono fun _ _ ⟨he, ha, hn⟩ => ⟨he, ⟨F, ha, Gr.refl _ _⟩, hn.mono fun _ h => h.elim⟩
    · rename_i h0
      exact slab_Append_yes h A' c' l (by omega) h0 hr hd
theorem slab_Sync_all {w : World} {F : Nat → Prop} {p : Nat} {s : SlabS} (h : SlabAt w F p s) :
    Calls Try.prog 18 #[.pointer (some ⟨p, 0, none⟩)] w fun e w' => e = .returned (.int .i64 s.sync.2) ∧ SlabAt w' F p s.sync.1 ∧ Fr F w w' := by
  unfold SlabS.sync
  split
  · rename_i h0
    exact (slab_Sync_no h h0).mono fun _ _ ⟨he, hw⟩ => ⟨he, hw ▸ h, hw ▸ Fr.refl _ _⟩
  · rename_i h0
    exact slab_Sync_yes h h0
/-- a journal as plain data -/
structure JS where
  s : SlabS
  rs : List (List UInt8)
  last : List UInt8
  down : Bool
def JS.write (j : JS) (d : List UInt8) : JS × Int :=
  if j.down = true then (j, 90) else if 262144 < d.length then (j, 2) else
  if (j.s.append (Jrn.recB j.last d)).2 ≠ 0 then ({ j with s := (j.s.append (Jrn.recB j.last d)).1, down := (j.s.append (Jrn.recB j.last d)).2 == 90 }, (j.s.append (Jrn.recB j.last d)).2)
  else if (j.s.append (Jrn.recB j.last d)).1.sync.2 ≠ 0 then ({ j with s := (j.s.append (Jrn.recB j.last d)).1.sync.1, down := (j.s.append (Jrn.recB j.last d)).1.sync.2 == 90 }, (j.s.append (Jrn.recB j.last d)).1.sync.2)
  else (⟨(j.s.append (Jrn.recB j.last d)).1.sync.1, j.rs ++ [d], Jrn.link j.last d, j.down⟩, 0)
/-- what Write leaves -/
def WritePost (w : World) (F G : Nat → Prop) (q p : Nat) (j : JS) (w' : World) : Prop :=
  ∃ (F' G' : Nat → Prop) (A : Option Addr) (c : Nat) (ps : List Part), SlabAt w' F' p j.s ∧ JAt w' G' q p j.rs j.last j.down A c ps ∧ Gr w F F' ∧ Gr w G G' ∧ (∀ k, F' k → ¬ G' k) ∧ Fr (fun k => F k ∨ G k) w w'
theorem getD_mono {L : Array Bool} {i j : Nat} (h : L.getD j false = true) : (L.setIfInBounds i true).getD j false = true := by
  by_cases hij : i = j
  · subst hij
    rcases Nat.lt_or_ge i L.size with h' | h'
    · exact getD_set_self h'
    · rw [Array.getD_eq_getD_getElem?, Array.getElem?_eq_none (by omega)] at h
      cases h
  · rw [getD_set_ne false hij]
    exact h
/-- the first region's state -/
structure WG where
  A2 : Option Addr
  c2 : Nat
  A3 : Option Addr
  c3 : Nat
  code : Int
  code2 : Int
def writeV (q p : Nat) (last : List UInt8) (A0 : Option Addr) (n c0 m : Nat) (g : WG) : List Value :=
  [.pointer (some ⟨q, 0, none⟩), .pointer (some ⟨q, 0, none⟩), .pointer (some ⟨q, 0, none⟩), .pointer (some ⟨p, 0, none⟩), .pointer (some ⟨q, 0, none⟩), .pointer (some ⟨q, 0, none⟩), .pointer (some ⟨q, 2, none⟩), .agg (ida last), .slice A0 n c0, .slice g.A2 35 g.c2, .slice A0 n c0, .slice g.A3 m g.c3, .int .i64 g.code, .int .i64 g.code2]
def writeS (w0 : World) (F : Nat → Prop) (p : Nat) (s : SlabS) (fr rec : List UInt8) (L : Array Bool) (g : WG) (W : World) : Prop :=
  ((L.getD 12 false = true → L.getD 11 false = true) ∧ (L.getD 11 false = true → L.getD 9 false = true) ∧ (L.getD 12 false = true → L.getD 3 false = true) ∧ (L.getD 9 false = true → L.getD 7 false = true) ∧ (L.getD 13 false = true → L.getD 12 false = true ∧ g.code2 = g.code)) ∧
  (if L.getD 12 false = true then g.code = (s.append rec).2 ∧ (∃ F', SlabAt W F' p (s.append rec).1 ∧ Gr w0 F F') ∧ Fr F w0 W
   else if L.getD 11 false = true then RowN w0 W g.A3 g.c3 rec
   else if L.getD 9 false = true then RowN w0 W g.A2 g.c2 fr
   else New w0 W)
section
variable {w0 : World} {F : Nat → Prop} {p : Nat} {s : SlabS} {fr rec : List UInt8} {L : Array Bool} {g : WG} {W : World}
theorem writeS.list (h : writeS w0 F p s fr rec L g W) (i : Nat) (h1 : i ≠ 9) (h2 : i ≠ 11) (h3 : i ≠ 12) (h4 : i ≠ 13) : writeS w0 F p s fr rec (L.setIfInBounds i true) g W := by
  unfold writeS at h ⊢
  rw [getD_set_ne false h1, getD_set_ne false h2, getD_set_ne false h3, getD_set_ne false h4]
  exact ⟨⟨h.1.1, h.1.2.1, fun x => getD_mono (h.1.2.2.1 x), fun x => getD_mono (h.1.2.2.2.1 x), h.1.2.2.2.2⟩, h.2⟩
theorem writeS.no12 (h : writeS w0 F p s fr rec L g W) (h3 : L.getD 3 false = false ∨ L.getD 7 false = false ∨ L.getD 9 false = false ∨ L.getD 11 false = false) : L.getD 12 false = false := by
  cases e : L.getD 12 false with
  | false => rfl
  | true =>
    have a := h.1.1 e
    have b := h.1.2.1 a
    have c := h.1.2.2.1 e
    have d := h.1.2.2.2.1 b
    rw [a, b, c, d] at h3
    simp at h3
theorem writeS.new (h : writeS w0 F p s fr rec L g W) (h12 : L.getD 12 false = false) : New w0 W := by
  have h2 := h.2
  rw [h12, if_neg (by decide)] at h2
  split at h2
  · exact h2.fr
  · split at h2
    · exact h2.fr
    · exact h2
end
end Go.Proofs.Ytefalfalapnllaa
