/- CountPlays: a round of votes. -/
import Derived.Test.YtepmlmfacpbhkaaRRef13F
import Derived.Test.YtepmlmfacpbhkaaRCntNeedsW
namespace Go.Proofs.YtepmlmfacpbhkaaR
open Go.RowKit Go.Shelf
set_option linter.unusedVariables false

theorem VotesAt.fr' {S : Nat → Prop} {w w' : World} {A : Option Addr} {l : List Cnt.Vote} (h : VotesAt w A l) (f : Fr S w w') (hS : ∀ a, A = some a → ¬ S a.block) : VotesAt w' A l :=
  ⟨fun h0 => by
    obtain ⟨b, off, e, hb, hc⟩ := h.rd h0
    exact ⟨b, off, e, Nat.lt_of_lt_of_le hb f.size, fun j hj => (hc j hj).fr f hb (hS _ e)⟩, h.len⟩
/-- how all lies while votes are counted -/
structure Plays (w : World) (ab g : Nat) (B : Nat → Nat → Nat) (n : Nat) (V : Cnt.Tab) (A : Option Addr) (lw : List Cnt.Vote) (ask : Cnt.Vote) (W : World) : Prop where
  box : Blk W ab 40 (voteC ask).toArray
  at' : CntAt W g B n V
  vo : VotesAt W A lw
  rel : Cnt.Rel n V lw
  apart : ∀ a, A = some a → ¬ RowsOf B a.block
  fr : New w W
section
variable {w : World} {ab g : Nat} {B : Nat → Nat → Nat} {n : Nat} {V : Cnt.Tab} {A : Option Addr} {lw : List Cnt.Vote} {ask : Cnt.Vote} {W W' : World}
theorem Plays.new (h : Plays w ab g B n V A lw ask W) (f : New W W') : Plays w ab g B n V A lw ask W' :=
  ⟨h.box.fr f id, h.at'.fr f id (fun _ _ _ _ => id), h.vo.fr f (fun _ h => h.elim), h.rel, h.apart, h.fr.trans f (fun _ h => h.elim)⟩
theorem Plays.nz (h : Plays w ab g B n V A lw ask W) : ∀ r k v, V r k v ≠ some Cnt.z := fun r k v e => (h.at'.len r k v _ e).2 rfl
/-- behind a vote -/
theorem Plays.put (h : Plays w ab g B n V A lw ask W) (hab : ¬ RowsOf B ab) (hBw : ∀ j, RowsOf B j → w.heap.size ≤ j) {v : Cnt.Vote} {A' : Option Addr} {W1 W2 : World} (f1 : New W W1) (hA : A' = A ∨ ∀ a, A' = some a → W.heap.size ≤ a.block)
    (hv : VotesAt W1 A' (Cnt.rput n lw v).1) (hc : CntAt W2 g B n (Cnt.put n V v.r v.k v.w v.id).1) (f2 : Fr (RowsOf B) W1 W2) :
    Plays w ab g B n (Cnt.put n V v.r v.k v.w v.id).1 A' (Cnt.rput n lw v).1 ask W2 := by
  have hap : ∀ a, A' = some a → ¬ RowsOf B a.block := by
    intro a e
    rcases hA with rfl | hA
    · exact h.apart a e
    · rintro ⟨r, k, hr, hk, e2⟩
      have h1 := hA a e
      have h2 := h.at'.blt hr hk
      omega
  exact ⟨(h.box.fr f1 id).fr f2 hab, hc, hv.fr' f2 hap, (h.rel.put_eq h.nz v).2, hap, (h.fr.trans f1 (fun _ h => h.elim)).trans f2 (fun j hj => .inr (hBw j hj))⟩
end
theorem rput_le (n : Nat) (l : List Cnt.Vote) (v : Cnt.Vote) : (Cnt.rput n l v).1.length ≤ l.length + 1 := by
  unfold Cnt.rput
  split
  · simp
  · split <;> simp
end Go.Proofs.YtepmlmfacpbhkaaR
