/- Votes, plain: a table by round, kind and voter; and how it lies in memory. -/
import Derived.Test.YtepmlmfacpbhkaaRCut
namespace Go.Proofs.YtepmlmfacpbhkaaR
open Go.RowKit Go.Shelf
set_option linter.unusedVariables false

namespace Cnt
abbrev Vid := List UInt8
/-- the zero sum -/
def z : Vid := List.replicate 32 0
theorem z_length : z.length = 32 := by simp [z]
abbrev Tab := Nat → Nat → Nat → Option Vid
def empty : Tab := fun _ _ _ => none
def Tab.put (V : Tab) (r k w : Nat) (x : Vid) : Tab := fun r' k' w' => if r' = r ∧ k' = k ∧ w' = w then some x else V r' k' w'
def faults (n : Int) : Int := if n = 1 then 0 else if n = 4 then 1 else if n = 7 then 2 else -1
def need (n : Int) : Int := 2 * faults n + 1
/-- can there be such a vote? -/
def right (n : Nat) (r k w : Int) : Bool := decide (0 ≤ r ∧ r < 12 ∧ (k = 0 ∨ k = 1) ∧ 0 ≤ w ∧ w < n)
/-- those of a round who voted, and for what -/
def casts (n : Nat) (f : Nat → Option Vid) : List (Nat × Vid) := (List.range n).filterMap fun w => (f w).map fun x => (w, x)
def castsAt (n : Nat) (V : Tab) (r k : Int) : List (Nat × Vid) := if right n r k 0 then casts n (V r.toNat k.toNat) else []
/-- how many of them voted for x -/
def forN (l : List (Nat × Vid)) (x : Vid) : Nat := (l.filter fun p => x == p.2).length
def sure (n : Nat) (V : Tab) (r k : Int) : Option Vid := ((castsAt n V r k).find? fun p => decide (need n ≤ (forN (castsAt n V r k) p.2 : Int))).map (·.2)
/-- how many of a round voted, in whatever way -/
def voted (n : Nat) (V : Tab) (r : Nat) : Nat := ((List.range n).filter fun w => (V r 0 w).isSome || (V r 1 w).isSome).length
/-- a vote more, and the error's number -/
def put (n : Nat) (V : Tab) (r k w : Int) (x : Vid) : Tab × Int :=
  if right n r k w = false ∨ x = z then (V, 1) else if (V r.toNat k.toNat w.toNat).isSome then (V, 5) else (V.put r.toNat k.toNat w.toNat x, 0)
end Cnt
open Cnt

/-- the cells of a vote -/
def vcells : Option Vid → List Value
  | none => .bool false :: Cnt.z.map bv
  | some x => .bool true :: x.map bv
def vrow (n : Nat) (f : Nat → Option Vid) : List Value := (List.range n).flatMap fun w => vcells (f w)

/-- a count lies at block g: its rows in the blocks B -/
structure CntAt (w : World) (g : Nat) (B : Nat → Nat → Nat) (n : Nat) (V : Tab) : Prop where
  voters : w.cell? ⟨g, 0, none⟩ = some (.int .i64 n)
  slot : ∀ r k, r < 12 → k < 2 → w.cell? ⟨g, 1 + r * 2 + k, none⟩ = some (.slice (some ⟨B r k, 0, none⟩) n n)
  row : ∀ r k, r < 12 → k < 2 → Blk w (B r k) 90 (vrow n (V r k)).toArray
  inj : ∀ r k r' k', r < 12 → k < 2 → r' < 12 → k' < 2 → B r k = B r' k' → r = r' ∧ k = k'
  ne : ∀ r k, r < 12 → k < 2 → B r k ≠ g
  len : ∀ r k w x, V r k w = some x → x.length = 32 ∧ x ≠ Cnt.z
  nn : n = 1 ∨ n = 4 ∨ n = 7
/-- the rows' blocks -/
def RowsOf (B : Nat → Nat → Nat) (j : Nat) : Prop := ∃ r k, r < 12 ∧ k < 2 ∧ j = B r k

section
variable {w w' : World} {g : Nat} {B : Nat → Nat → Nat} {n : Nat} {V : Tab}
theorem CntAt.glt (h : CntAt w g B n V) : g < w.heap.size := World.block_lt_of_cell? _ _ h.voters
theorem CntAt.blt (h : CntAt w g B n V) {r k : Nat} (hr : r < 12) (hk : k < 2) : B r k < w.heap.size := (h.row r k hr hk).lt
theorem CntAt.fr {S : Nat → Prop} (h : CntAt w g B n V) (f : Fr S w w') (hg : ¬ S g) (hB : ∀ r k, r < 12 → k < 2 → ¬ S (B r k)) : CntAt w' g B n V :=
  ⟨(f.cell (p := ⟨g, 0, none⟩) h.glt hg).trans h.voters, fun r k hr hk => (f.cell (p := ⟨g, _, none⟩) h.glt hg).trans (h.slot r k hr hk), fun r k hr hk => (h.row r k hr hk).fr f (hB r k hr hk), h.inj, h.ne, h.len, h.nn⟩
theorem vcells_length {o : Option Vid} (h : ∀ x, o = some x → x.length = 32) : (vcells o).length = 33 := by
  cases o with
  | none => rfl
  | some x => simp [vcells, h x rfl]
theorem vcells0 : ∀ (o : Option Vid) (h : 0 < (vcells o).toArray.size), some ((vcells o).toArray[0]'h) = some (Value.bool o.isSome)
  | none, _ => rfl
  | some _, _ => rfl
theorem vrow_length {f : Nat → Option Vid} (h : ∀ w x, f w = some x → x.length = 32) : (vrow n f).length = 33 * n := by
  unfold vrow
  induction n with
  | zero => rfl
  | succ n ih => rw [List.range_succ, List.flatMap_append, List.length_append, ih]; simp [vcells_length (h n)]; omega
theorem vrow_get {f : Nat → Option Vid} (h : ∀ w x, f w = some x → x.length = 32) {i j : Nat} (hi : i < n) (hj : j < 33) : (vrow n f)[33 * i + j]? = (vcells (f i))[j]? := by
  induction n with
  | zero => omega
  | succ n ih =>
    have hl : (vrow n f).length = 33 * n := vrow_length h
    have e : vrow (n + 1) f = vrow n f ++ vcells (f n) := by unfold vrow; rw [List.range_succ, List.flatMap_append]; simp
    rw [e]
    by_cases hin : i < n
    · rw [List.getElem?_append_left (by rw [hl]; omega), ih hin]
    · obtain rfl : i = n := by omega
      rw [List.getElem?_append_right (by rw [hl]; omega), hl]
      congr 1
      omega
/-- the row with a vote more -/
theorem vrow_set {f f' : Nat → Option Vid} (h : ∀ w x, f w = some x → x.length = 32) (h' : ∀ w x, f' w = some x → x.length = 32) {i : Nat} (hi : i < n) (he : ∀ w, w ≠ i → f' w = f w) :
    (vrow n f).take (33 * i) ++ vcells (f' i) ++ (vrow n f).drop (33 * i + 33) = vrow n f' := by
  apply List.ext_getElem?
  intro m
  have hl : (vrow n f).length = 33 * n := vrow_length h
  have hl' : (vrow n f').length = 33 * n := vrow_length h'
  have hc := vcells_length (h' i)
  have e1 : m = 33 * (m / 33) + m % 33 := by omega
  have hm : m % 33 < 33 := Nat.mod_lt _ (by decide)
  by_cases hmn : m < 33 * n
  · have hq : m / 33 < n := by omega
    have g1 : (vrow n f)[m]? = (vcells (f (m / 33)))[m % 33]? := by rw [← vrow_get h hq hm, ← e1]
    have g2 : (vrow n f')[m]? = (vcells (f' (m / 33)))[m % 33]? := by rw [← vrow_get h' hq hm, ← e1]
    rw [g2]
    by_cases h1 : m < 33 * i
    · rw [List.append_assoc, List.getElem?_append_left (by rw [List.length_take, hl]; omega), List.getElem?_take_of_lt h1, g1, he _ (by omega)]
    · by_cases h2 : m < 33 * i + 33
      · have h3 : m / 33 = i := by omega
        rw [List.append_assoc, List.getElem?_append_right (by rw [List.length_take, hl]; omega), List.length_take, hl, List.getElem?_append_left (by rw [hc]; omega), h3]
        congr 1
        omega
      · rw [List.getElem?_append_right (by simp [hl, hc]; omega), List.length_append, List.length_take, hl, hc, List.getElem?_drop]
        have h4 : 33 * i + 33 + (m - (min (33 * i) (33 * n) + 33)) = m := by omega
        rw [h4, g1, he _ (by omega)]
  · rw [List.getElem?_eq_none (by simp [hl, hc]; omega), List.getElem?_eq_none (by rw [hl']; omega)]
theorem CntAt.rl (h : CntAt w g B n V) (r k : Nat) : ∀ v x, V r k v = some x → x.length = 32 := fun v x e => (h.len r k v x e).1
/-- a cell of a vote -/
theorem CntAt.at (h : CntAt w g B n V) {r k i : Nat} (hr : r < 12) (hk : k < 2) (hi : i < n) : At w (B r k) (i * 33) (vcells (V r k i)).toArray := by
  rw [Nat.mul_comm]
  intro j hj
  have hl := vcells_length (h.rl r k i)
  rw [(h.row r k hr hk).cell]
  have : j < 33 := by simpa [hl] using hj
  simp [vrow_get (h.rl r k) hi this]
theorem CntAt.cast (h : CntAt w g B n V) {r k i : Nat} (hr : r < 12) (hk : k < 2) (hi : i < n) : w.cell? ⟨B r k, i * 33, none⟩ = some (.bool (V r k i).isSome) := by
  have := h.at hr hk hi 0 (by have := vcells_length (h.rl r k i); simp [this])
  rw [Nat.add_zero] at this
  rw [this]
  exact vcells0 _ _
end
end Go.Proofs.YtepmlmfacpbhkaaR
