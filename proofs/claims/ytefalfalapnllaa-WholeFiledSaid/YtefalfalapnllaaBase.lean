/- Words of this seat's own proofs: a frame relation between two worlds, a block that is known whole, a row of cells that is owned, bytes. -/
import Derived.Test.YtefalfalapnllaaRows
import Derived.WalkKit
import Derived.ProofKit
import Derived.OpenShut
import Derived.ShutString
import Derived.ChangeOld
import Derived.Below
import Derived.Deep.QuietTactic
import Derived.Deep.Draws
import Derived.BigQuiet
import Derived.WalkLawsBesides
import Derived.Laws.BytesArg
import Derived.Lib.ConvBytes
import Derived.Laws.OwnMore
import Derived.Lib.SlBytesConst
namespace Go.Proofs.Ytefalfalapnllaa
open Go.RowKit
set_option linter.unusedVariables false

/-- a byte as a value -/
def bv (b : UInt8) : Value := .int .u8 (b.toNat : Int)
theorem bv_one (b : UInt8) : (bv b).oneCell' = true := rfl

/-- what is not in S, of what was there, is as it was -/
structure Fr (S : Nat → Prop) (w w' : World) : Prop where
  os : w'.os = w.os
  tape : w'.tape = w.tape
  output : w'.output = w.output
  size : w.heap.size ≤ w'.heap.size
  block : ∀ k, k < w.heap.size → ¬ S k → w'.heap[k]? = w.heap[k]?

theorem Fr.refl (S : Nat → Prop) (w : World) : Fr S w w := ⟨rfl, rfl, rfl, Nat.le_refl _, fun _ _ _ => rfl⟩
theorem Fr.trans {S T : Nat → Prop} {a b c : World} (h : Fr S a b) (k : Fr T b c) (hT : ∀ x, T x → S x ∨ a.heap.size ≤ x) : Fr S a c :=
  ⟨k.os.trans h.os, k.tape.trans h.tape, k.output.trans h.output, Nat.le_trans h.size k.size, fun x hx hs =>
    (k.block x (Nat.lt_of_lt_of_le hx h.size) (fun ht => (hT x ht).elim hs (fun hl => by omega))).trans (h.block x hx hs)⟩
theorem Fr.mono {S T : Nat → Prop} {a b : World} (h : Fr S a b) (hS : ∀ x, S x → T x ∨ a.heap.size ≤ x) : Fr T a b :=
  (Fr.refl T a).trans h hS
theorem Fr.drewN (S : Nat → Prop) (w : World) (n : Nat) : Fr S w (w.drewN n) := ⟨rfl, rfl, rfl, Nat.le_refl _, fun _ _ _ => rfl⟩
theorem Fr.drew (S : Nat → Prop) (w : World) : Fr S w w.drew := ⟨rfl, rfl, rfl, Nat.le_refl _, fun _ _ _ => rfl⟩
theorem Fr.alloc (S : Nat → Prop) (w : World) (o : Obj) : Fr S w (w.alloc o) :=
  ⟨rfl, rfl, rfl, by simp, fun k hk _ => Below.heap_alloc _ _ _ hk⟩
theorem Fr.setCell {S : Nat → Prop} (w : World) {p : Addr} (hp : S p.block) (u : Value) : Fr S w (w.setCell p u) :=
  ⟨rfl, rfl, rfl, by simp, fun k _ hs => Below.heap_setCell _ _ _ _ (fun e => hs (e ▸ hp))⟩
theorem Fr.setCell_new {S : Nat → Prop} {a w : World} (h : Fr S a w) {p : Addr} (hp : a.heap.size ≤ p.block) (u : Value) : Fr S a (w.setCell p u) :=
  h.trans (Fr.setCell (S := fun k => k = p.block) w rfl u) (fun x hx => .inr (by rw [hx]; exact hp))
theorem Fr.then_set {S : Nat → Prop} {a w : World} (h : Fr S a w) {p : Addr} (hp : S p.block) (u : Value) : Fr S a (w.setCell p u) :=
  h.trans (Fr.setCell (S := S) w hp u) (fun _ hx => .inl hx)
theorem Fr.then_alloc {S : Nat → Prop} {a w : World} (h : Fr S a w) (o : Obj) : Fr S a (w.alloc o) := h.trans (Fr.alloc S w o) (fun _ hx => .inl hx)
theorem Fr.then_drewN {S : Nat → Prop} {a w : World} (h : Fr S a w) (n : Nat) : Fr S a (w.drewN n) := h.trans (Fr.drewN S w n) (fun _ hx => .inl hx)
theorem Fr.then_drew {S : Nat → Prop} {a w : World} (h : Fr S a w) : Fr S a w.drew := h.trans (Fr.drew S w) (fun _ hx => .inl hx)
theorem Fr.grown {w w' : World} {row : Option Nat} (h : w.grownBy w' row) : Fr (fun k => some k = row) w w' :=
  ⟨h.os, h.tape, h.output, h.size, fun k hk hs => h.block k hk hs⟩
theorem Fr.below {S : Nat → Prop} {B : Nat} {a w : World} (h : Fr S a w) (hB : B ≤ a.heap.size) (hS : ∀ k, S k → B ≤ k) : Below B a w :=
  ⟨h.os, h.tape, h.output, h.size, fun k hk => h.block k (by omega) (fun hs => by have := hS k hs; omega)⟩
theorem Fr.of_below {B : Nat} {a w : World} (h : Below B a w) : Fr (fun k => B ≤ k) a w :=
  ⟨h.os, h.tape, h.output, h.size, fun k _ hs => h.block k (by omega)⟩
/-- nothing that was there is turned -/
abbrev New (w w' : World) : Prop := Fr (fun _ => False) w w'
theorem Fr.cell {S : Nat → Prop} {w w' : World} (h : Fr S w w') {p : Addr} (hp : p.block < w.heap.size) (hs : ¬ S p.block) : w'.cell? p = w.cell? p :=
  World.cell?_of_block (w := w) (h.block p.block hp hs)
theorem Fr.frozen {S : Nat → Prop} {w w' : World} (h : Fr S w w') {p : Addr} (hp : p.block < w.heap.size) (hs : ¬ S p.block) : w'.frozen? p = w.frozen? p :=
  World.frozen?_of_block (w := w) (h.block p.block hp hs)

/-- block b is just these cells, none of them frozen -/
def Blk (w : World) (b : Nat) (t : TypeId) (cs : Array Value) : Prop := w.heap[b]? = some (.cells cs t (0, 0))
section
variable {w w' : World} {g : Nat} {t : TypeId} {cs : Array Value}
theorem Blk.lt (h : Blk w g t cs) : g < w.heap.size := (Array.getElem?_eq_some_iff.1 h).1
theorem Blk.cell (h : Blk w g t cs) (i : Nat) : w.cell? ⟨g, i, none⟩ = cs[i]? := cell_of_row w g i cs t (0, 0) h
theorem Blk.frozen (h : Blk w g t cs) (i : Nat) : w.frozen? ⟨g, i, none⟩ = false := by
  unfold Blk at h
  simp [World.frozen?, h]
theorem Blk.new (w : World) (t : TypeId) (cs : Array Value) : Blk (w.alloc (.cells cs t)) w.heap.size t cs := heap_alloc_new w _
theorem Blk.set (h : Blk w g t cs) (i : Nat) (u : Value) : Blk (w.setCell ⟨g, i, none⟩ u) g t (cs.setIfInBounds i u) := by
  unfold Blk at h ⊢
  simp [World.setCell, Array.getElem?_modify, h]
theorem Blk.fr {S : Nat → Prop} (h : Blk w g t cs) (f : Fr S w w') (hs : ¬ S g) : Blk w' g t cs := (f.block g h.lt hs).trans h
theorem Blk.far (h : Blk w g t cs) {p : Addr} (hp : g ≠ p.block) (u : Value) : Blk (w.setCell p u) g t cs := (Below.heap_setCell w p u g hp).trans h
theorem Blk.alloc (h : Blk w g t cs) (o : Obj) : Blk (w.alloc o) g t cs := (Below.heap_alloc w o g h.lt).trans h
theorem Blk.ne {g' : Nat} {t' : TypeId} {cs' : Array Value} (h : Blk w g t cs) (h' : Blk w g' t' cs') (hne : t ≠ t') : g ≠ g' := by
  rintro rfl
  unfold Blk at h h'
  rw [h] at h'
  injection h' with h'
  injection h' with _ ht
  exact hne ht
end

/-- the block of a slice's address -/
def ab (A : Option Addr) : Option Nat := A.map (·.block)
theorem ownBlock_slice (A : Option Addr) (n c : Nat) : (Value.slice A n c).ownBlock = ab A := by cases A <;> rfl

/-- a slice that reads as these values -/
def Rd (w : World) (A : Option Addr) (xs : List Value) : Prop :=
  0 < xs.length → ∃ b off, A = some ⟨b, off, none⟩ ∧ b < w.heap.size ∧ ∀ j (h : j < xs.length), w.cell? ⟨b, off + j, none⟩ = some xs[j]
theorem Rd.nil {w : World} {A : Option Addr} : Rd w A [] := fun h => absurd h (by simp)
theorem Rd.fr {S : Nat → Prop} {w w' : World} {A : Option Addr} {xs : List Value} (h : Rd w A xs) (f : Fr S w w') (hs : ∀ k, ab A = some k → ¬ S k) : Rd w' A xs :=
  fun h0 => by
    obtain ⟨b, off, e, hb, hc⟩ := h h0
    exact ⟨b, off, e, Nat.lt_of_lt_of_le hb f.size, fun j hj => (f.cell (p := ⟨b, off + j, none⟩) hb (hs b (by rw [e]; rfl))).trans (hc j hj)⟩
theorem Rd.fr' {S : Nat → Prop} {w w' : World} {A : Option Addr} {xs : List Value} (h : Rd w A xs) (f : Fr S w w') (hs : 0 < xs.length → ∀ k, ab A = some k → ¬ S k) : Rd w' A xs :=
  fun h0 => (h.fr f (hs h0)) h0
theorem Rd.lt {w : World} {A : Option Addr} {xs : List Value} (h : Rd w A xs) (h0 : 0 < xs.length) : ∀ k, ab A = some k → k < w.heap.size := by
  intro k hk
  obtain ⟨b, off, e, hb, _⟩ := h h0
  rw [e] at hk
  simp [ab] at hk
  omega
theorem Rd.drewN {w : World} {A : Option Addr} {xs : List Value} (h : Rd w A xs) (n : Nat) : Rd (w.drewN n) A xs := h
theorem Rd.alloc {w : World} {A : Option Addr} {xs : List Value} (h : Rd w A xs) (o : Obj) : Rd (w.alloc o) A xs := h.fr (Fr.alloc (fun _ => False) w o) (fun _ _ => id)
theorem Rd.take {w : World} {A : Option Addr} {xs : List Value} (h : Rd w A xs) (n : Nat) : Rd w A (xs.take n) :=
  fun h0 => by
    obtain ⟨b, off, e, hb, hc⟩ := h (by simp at h0; omega)
    exact ⟨b, off, e, hb, fun j hj => by rw [List.getElem_take]; exact hc j (by simp at hj; omega)⟩

/-- a row of one-cell elements that is owned: nil, or at the head of a block of its own -/
def Row (w : World) (t : TypeId) (A : Option Addr) (c : Nat) (xs : List Value) : Prop := w.ownsRow 0 t 1 (.slice A xs.length c) xs.length xs
section
variable {w w' : World} {t : TypeId} {A : Option Addr} {c : Nat} {xs : List Value}
theorem Row.nil (w : World) (t : TypeId) : Row w t none 0 [] := World.ownsRow_nil w 0 t 1
theorem Row.cases (h : Row w t A c xs) : (A = none ∧ c = 0 ∧ xs = []) ∨
    ∃ g cur, A = some ⟨g, 0, none⟩ ∧ w.heap[g]? = some (.cells cur t (0, 0)) ∧ xs.length ≤ c ∧ c ≤ maxLen ∧ cur.size = c ∧ cur.toList.take xs.length = xs := by
  rcases h.2 with ⟨hv, hn⟩ | ⟨g, cap, cur, hv, _, hg, hnc, hcm, hcs, ht⟩
  · simp at hv
    exact .inl ⟨hv.1, hv.2.2, List.eq_nil_of_length_eq_zero hn⟩
  · simp at hv
    obtain ⟨rfl, rfl⟩ := hv
    exact .inr ⟨g, cur, rfl, hg, hnc, hcm, by simpa using hcs, by simpa using ht⟩
theorem Row.mk {g : Nat} {cur : Array Value} (hg : w.heap[g]? = some (.cells cur t (0, 0))) (hn : xs.length ≤ cur.size) (hm : cur.size ≤ maxLen) (ht : cur.toList.take xs.length = xs) :
    Row w t (some ⟨g, 0, none⟩) cur.size xs :=
  ⟨by simp, .inr ⟨g, cur.size, cur, rfl, Nat.zero_le _, hg, hn, hm, by simp, by simpa using ht⟩⟩
theorem Row.lt (h : Row w t A c xs) {k : Nat} (hk : ab A = some k) : k < w.heap.size := (World.ownsRow.lt h k (by rw [ownBlock_slice]; exact hk)).2
theorem Row.cap (h : Row w t A c xs) : xs.length ≤ c := by
  rcases h.cases with ⟨_, rfl, rfl⟩ | ⟨_, _, _, _, h, _⟩
  · simp
  · exact h
theorem Row.capm (h : Row w t A c xs) : c ≤ maxLen := by
  rcases h.cases with ⟨_, rfl, rfl⟩ | ⟨_, _, _, _, _, h, _⟩
  · simp [maxLen]
  · exact h
theorem Row.fr {S : Nat → Prop} (h : Row w t A c xs) (f : Fr S w w') (hs : ∀ k, ab A = some k → ¬ S k) : Row w' t A c xs := by
  refine ⟨h.1, ?_⟩
  rcases h.2 with hn | ⟨g, cap, cur, hv, hb, hgg, rest⟩
  · exact .inl hn
  · refine .inr ⟨g, cap, cur, hv, hb, ?_, rest⟩
    have hA : ab A = some g := by simp at hv; rw [hv.1]; rfl
    rw [f.block g (Array.getElem?_eq_some_iff.1 hgg).1 (hs g hA)]
    exact hgg
theorem Row.take (h : Row w t A c xs) (n : Nat) : Row w t A c (xs.take n) := by
  rcases h.cases with ⟨rfl, rfl, rfl⟩ | ⟨g, cur, rfl, hg, h1, h2, h3, h4⟩
  · simpa using Row.nil w t
  · subst h3
    refine Row.mk hg (by simp; omega) h2 ?_
    rw [List.length_take, ← List.take_take, h4]
theorem Row.rd (h : Row w t A c xs) : Rd w A xs := by
  intro h0
  rcases h.cases with ⟨rfl, rfl, rfl⟩ | ⟨g, cur, rfl, hg, h1, h2, h3, h4⟩
  · simp at h0
  · refine ⟨g, 0, rfl, (Array.getElem?_eq_some_iff.1 hg).1, fun j hj => ?_⟩
    rw [Nat.zero_add, cell_of_row w g j cur t (0, 0) hg]
    have : (cur.toList.take xs.length)[j]? = xs[j]? := by rw [h4]
    rw [List.getElem?_take_of_lt hj] at this
    simpa [List.getElem?_eq_getElem hj] using this
theorem Row.set (h : Row w t A c xs) {g : Nat} (hA : ab A = some g) {i : Nat} (hi : i < xs.length) (u : Value) : Row (w.setCell ⟨g, i, none⟩ u) t A c (xs.set i u) := by
  rcases h.cases with ⟨rfl, rfl, rfl⟩ | ⟨g', cur, rfl, hg, h1, h2, h3, h4⟩
  · simp [ab] at hA
  · simp [ab] at hA
    subst hA; subst h3
    have hb := Blk.set (w := w) (g := g') (t := t) (cs := cur) hg i u
    have : cur.size = (cur.setIfInBounds i u).size := by simp
    rw [this]
    refine Row.mk hb (by simp; omega) (by simp; omega) ?_
    rw [List.length_set, Array.toList_setIfInBounds, List.take_set, h4]
end

/-- every block of F' is one of F, or new -/
def Gr (w : World) (F F' : Nat → Prop) : Prop := ∀ k, F' k → F k ∨ w.heap.size ≤ k
theorem Gr.refl (w : World) (F : Nat → Prop) : Gr w F F := fun _ h => .inl h

section
variable {P : Program} (w : World)
theorem add_none (b off j : Nat) : (⟨b, off, none⟩ : Addr).add j = ⟨b, off + j, none⟩ := Addr.add_lit b off j

theorem run_append_nil_src (t ty e : TypeId) (i : TypeInfo) (ht : P.underlying t = some (.slice e)) (hi : P.info? e = some i)
    (A : Option Addr) (c : Nat) (xs : List Value) (h : Row w e A c xs) (A' : Option Addr) (c' : Nat) :
    (Builtin.append_ #[t, t] ty #[.slice A xs.length c, .slice A' 0 c']).run P w = .ok (.slice A xs.length c) w := by
  rcases h.cases with ⟨rfl, rfl, rfl⟩ | ⟨g, cur, rfl, hg, h1, h2, h3, h4⟩
  · cases A' <;> simp [Builtin.append_, run_underlying ht, sizeOf, typeInfo, hi, Builtin.lenOf, Builtin.firstCells, loadCells, loadCellsFrom]
  · cases A' <;> simp [Builtin.append_, run_underlying ht, sizeOf, typeInfo, hi, Builtin.lenOf, Builtin.firstCells, h1, storeCells, loadCells, loadCellsFrom]

/-- append, whatever the source is -/
theorem run_append_rd (t ty e : TypeId) (i : TypeInfo) (z : Value) (bytes : Nat) (ht : P.underlying t = some (.slice e)) (hi : P.info? e = some i) (hz : i.zero = some z)
    (hsize : i.size = 1) (hby : i.bytes = bytes) (hzs : z.cells.size = 1)
    (A : Option Addr) (c : Nat) (xs : List Value) (h : Row w e A c xs)
    (A' : Option Addr) (c' : Nat) (ys : List Value) (hr : Rd w A' ys) (h1 : ∀ u ∈ ys, u.oneCell' = true)
    (h63 : xs.length + ys.length ≤ maxLen) (hbytes : (xs.length + ys.length) * bytes ≤ 140737488355328) :
    ∃ A2 c2 w', (Builtin.append_ #[t, t] ty #[.slice A xs.length c, .slice A' ys.length c']).run P w = .ok (.slice A2 (xs.length + ys.length) c2) w' ∧
      Row w' e A2 c2 (xs ++ ys) ∧ Fr (fun k => some k = ab A) w w' ∧ (∀ k, ab A2 = some k → ab A = some k ∨ w.heap.size ≤ k) := by
  rcases Nat.eq_zero_or_pos ys.length with h0 | h0
  · have : ys = [] := List.eq_nil_of_length_eq_zero h0
    subst this
    exact ⟨A, c, w, by simpa using run_append_nil_src w t ty e i ht hi A c xs h A' c', by simpa using h, Fr.refl _ _, fun k hk => .inl hk⟩
  · obtain ⟨b, off, rfl, hb, hc⟩ := hr h0
    obtain ⟨v', w', h1', h2, h3, h4⟩ := run_append_own (P := P) w 0 t ty e i z 1 bytes ht hi hz hsize hby hzs (by omega) _ _ xs h ⟨b, off, none⟩ ys.length c' ys (by simp)
      (fun j u hu => by obtain ⟨hj, hju⟩ := List.getElem?_eq_some_iff.1 hu; rw [add_none, hc j hj, hju]) h1 h63 hbytes (Nat.zero_le _)
    rcases h2.2 with ⟨hv, hn⟩ | ⟨g, cap, cur, hv, _, hg, hnc, hcm, hcs, htk⟩
    · omega
    · subst hv
      refine ⟨_, _, w', h1', ?_, ?_, ?_⟩
      · have := h2; unfold Row; rw [List.length_append]; exact this
      · have := Fr.grown h3; rw [ownBlock_slice] at this; exact this
      · intro k hk
        simp [ab] at hk
        subst hk
        rcases Nat.lt_or_ge g w.heap.size with hlt | hge
        · left
          by_cases he : ab A = some g
          · exact he
          · exfalso
            have hsame := h3.block g hlt (by rw [ownBlock_slice]; exact fun e => he e.symm)
            -- the appended row lies in an old block that is not the row's own: it then holds the old cells, which append never gives back
            rcases h.cases with ⟨rfl, rfl, rfl⟩ | ⟨g0, cur0, rfl, hg0, h10, h20, h30, h40⟩
            · have hrn := run_append_nil (P := P) w t ty e i z ht hi hz ⟨b, off, none⟩ ys.length c' ys (by rw [hsize]; simp)
                (fun j u hu => by obtain ⟨hj, hju⟩ := List.getElem?_eq_some_iff.1 hu; rw [add_none, hc j hj, hju]) (by omega) (by simp only [maxLen] at h63; omega) (by rw [hby]; simp only [List.length_nil, Nat.zero_add] at hbytes; omega)
              simp only [List.length_nil, Nat.zero_add] at h1'
              rw [h1'] at hrn
              simp at hrn
            · simp [ab] at he
              by_cases hroom : xs.length + ys.length ≤ c
              · have hrr := run_append_room (P := P) w t ty e i ht hi g0 xs.length c cur0 hg0 ⟨b, off, none⟩ ys.length c' ys (by rw [hsize]; simp)
                  (fun j u hu => by obtain ⟨hj, hju⟩ := List.getElem?_eq_some_iff.1 hu; rw [add_none, hc j hj, hju]) h1 hroom (by rw [hsize]; omega)
                rw [h1'] at hrr
                simp at hrr
              · have hrg := run_append_grow (P := P) w t ty e i z ht hi hz ⟨g0, 0, none⟩ xs.length c xs (by rw [hsize]; simp)
                  (fun j u hu => by
                    have := Row.rd h (by have := (List.getElem?_eq_some_iff.1 hu).1; omega)
                    obtain ⟨b2, off2, e2, _, hc2⟩ := this
                    simp at e2
                    obtain ⟨rfl, rfl⟩ := e2
                    obtain ⟨hj, hju⟩ := List.getElem?_eq_some_iff.1 hu
                    rw [add_none, hc2 j hj, hju]) ⟨b, off, none⟩ ys.length c' ys (by rw [hsize]; simp)
                  (fun j u hu => by obtain ⟨hj, hju⟩ := List.getElem?_eq_some_iff.1 hu; rw [add_none, hc j hj, hju]) (by omega) (by simp only [maxLen] at h63; omega) (growslice_fits (by simp only [maxLen] at h63; omega) (by rw [hby]; exact hbytes))
                rw [h1'] at hrg
                simp at hrg
        · exact .inr hge
end

/-- an append whose run is known -/
theorem wpList_append_run {P : Program} {ops : Array Oper} {rest : List Oper} {o : Oper} {a : Act} {Q : Exit → Act → World → Prop} {w w' : World} {v1 v2 v : Value} {t ty : TypeId}
    (hr : (Builtin.append_ #[t, t] ty #[v1, v2]).run P w = .ok v w') (hgd : o.guard = none) (hty : o.type = ty) (s x : Operand)
    (ho : o.op = .call { callee := .builtin .append, args := #[s, x], argTypes := #[t, t] }) (hs : a.eval s = v1) (hx : a.eval x = v2)
    (h : wpList P ops Q rest (a.put o.dst v) w') : wpList P ops Q (o :: rest) a w :=
  wpList_plain hgd fun _ hK => by
    subst hty
    unfold Oper.wp execOp
    simp only [ho, resolve, invoke, builtin, Sem.run_bind, Sem.run_pure, Result.andThen_ok, List.map_toArray, List.map_cons, List.map_nil, hs, hx, hr]
    exact hK _ _ h

/-- bytes that read, as a text -/
theorem run_str_rd {P : Program} (w : World) (src e : TypeId) (hs : P.underlying src = some (.slice e)) (he : P.underlying e = some (.int .u8)) (A : Option Addr) (c : Nat) (l : List UInt8) (h : Rd w A (l.map bv)) :
    ∀ dst, P.underlying dst = some .string → (convert src dst (.slice A l.length c)).run P w = .ok (.string ⟨l.toArray⟩) w := by
  intro dst hd
  rcases A with _ | ad
  · have hl : l = [] := by
      rcases l with _ | ⟨x, l⟩
      · rfl
      · obtain ⟨b, off, e, _⟩ := h (by simp)
        cases e
    subst hl
    exact run_convert_bytes_nil w src e hs he _ c dst hd
  · rcases l with _ | ⟨x, l⟩
    · rw [run_convert_bytes_string w src dst e _ _ c hs he hd, run_bytesToString w _ _ c [] (by simp [loadCells, loadCellsFrom])]
      rfl
    · obtain ⟨b, off, e', _, hc⟩ := h (by simp)
      cases e'
      rw [run_convert_bytes_arg w src e hs he b off _ c ((x :: l).map fun b => (b.toNat : Int)) (by simp) (fun i hi => ?_) dst hd]
      · simp [strOfNums, Function.comp_def]
      · rw [hc i (by simpa using hi)]
        have e1 : ((x :: l).map fun b => (b.toNat : Int)).getD i 0 = ((x :: l)[i]'(by simpa using hi)).toNat := by
          rw [List.getD_eq_getElem?_getD, List.getElem?_map, List.getElem?_eq_getElem (by simpa using hi)]
          rfl
        rw [e1, List.getElem_map]
        rfl

/-- a new block reads as its cells -/
theorem Rd.lit (w : World) (xs : List Value) (t : TypeId) (fr : Nat × Nat) : Rd (w.alloc (.cells xs.toArray t fr)) (some ⟨w.heap.size, 0, none⟩) xs := by
  intro _
  refine ⟨w.heap.size, 0, rfl, by simp, fun j hj => ?_⟩
  have hb : (w.alloc (.cells xs.toArray t fr)).heap[w.heap.size]? = some (.cells xs.toArray t fr) := heap_alloc_new w _
  rw [Nat.zero_add, cell_of_row _ _ j _ t fr hb]
  simp [hj]
end Go.Proofs.Ytefalfalapnllaa
