/- JournalPlays: what each step does to both; the state of the regions that compare them. -/
import Derived.Test.YtefalfalapnllaaJrnPlP
import Derived.Test.YtefalfalapnllaaJrnWhP
import Derived.Test.YtefalfalapnllaaR10S
import Derived.Test.YtefalfalapnllaaR10W
import Derived.Test.YtefalfalapnllaaSlabPlayC
namespace Go.Proofs.Ytefalfalapnllaa
open Go.RowKit Go.Shelf
set_option linter.unusedVariables false
theorem r10open_some {s : SlabS} {j : JS} {e0 : Int} (w : World) (hs : s.ok) (ho : openOf s = (some j, e0)) :
    Calls Try.prog 41 #[.agg (dsk s)] w fun e w' => ∃ (A : Option Addr) (c : Nat), e = .returned (.tuple #[.agg (jd j.s A j.rs.length c j.last j.down), .int .i64 0]) ∧ Row w' 9 A c (tv j.rs) ∧ (∀ k, ab A = some k → w.heap.size ≤ k) ∧ New w w' := by
  refine (r10open_any w s hs).mono ?_
  rintro e w' ⟨j2, A, c, ⟨ho2, hd, he, hR, hA, hN⟩ | ⟨code, ho2, _⟩⟩
  · rw [ho] at ho2
    simp at ho2
    obtain ⟨rfl, _⟩ := ho2
    rw [hd]
    exact ⟨A, c, he, hR, hA, hN⟩
  · rw [ho] at ho2
    simp at ho2
theorem r10open_none {s : SlabS} {e0 : Int} (w : World) (hs : s.ok) (ho : openOf s = (none, e0)) :
    Calls Try.prog 41 #[.agg (dsk s)] w fun e w' => e = .returned (.tuple #[.agg (jd s none 0 0 z32 false), .int .i64 e0]) ∧ New w w' := by
  refine (r10open_any w s hs).mono ?_
  rintro e w' ⟨j2, A, c, ⟨ho2, _⟩ | ⟨code, ho2, _, he, hN⟩⟩
  · rw [ho] at ho2
    simp at ho2
  · rw [ho] at ho2
    simp at ho2
    subst ho2
    exact ⟨he, hN⟩
theorem openOf_none {s : SlabS} {e0 : Int} (ho : openOf s = (none, e0)) : e0 ≠ 0 := by
  unfold openOf at ho
  cases h : Jrn.opened s.bs with
  | torn => rw [h] at ho; simp at ho; omega
  | stop a rs l =>
    rw [h] at ho
    simp only at ho
    split at ho
    · split at ho
      · simp at ho; omega
      · simp at ho
    · simp at ho
def PInv (k : Nat) (j : JS) : Prop := (∀ d ∈ j.rs, d.length ≤ 4194304) ∧ j.rs.length ≤ 119838 + k
theorem write_rs (j : JS) (d : List UInt8) : (j.write d).1.rs = j.rs ∨ (j.write d).1.rs = j.rs ++ [d] := by
  unfold JS.write
  split
  · exact .inl rfl
  · split
    · exact .inl rfl
    · split
      · exact .inl rfl
      · split
        · exact .inl rfl
        · exact .inr rfl
theorem write_last (j : JS) (d : List UInt8) (h : j.last.length = 32) : (j.write d).1.last.length = 32 := by
  unfold JS.write
  split
  · exact h
  · split
    · exact h
    · split
      · exact h
      · split
        · exact h
        · rfl
theorem PInv.write {k : Nat} {j : JS} (h : PInv k j) (d : List UInt8) (hd : d.length ≤ 300) : PInv (k + 1) (j.write d).1 := by
  rcases write_rs j d with e | e
  · exact ⟨by rw [e]; exact h.1, by rw [e]; have := h.2; omega⟩
  · refine ⟨?_, by rw [e]; have := h.2; simp; omega⟩
    rw [e]
    intro x hx
    rcases List.mem_append.1 hx with hx | hx
    · exact h.1 x hx
    · simp at hx; subst hx; omega
theorem PInv.mono {k : Nat} {j : JS} (h : PInv k j) : PInv (k + 1) j := ⟨h.1, by have := h.2; omega⟩
theorem PInv.of_open {s : SlabS} {j : JS} {e : Int} (k : Nat) (hs : s.ok) (ho : openOf s = (some j, e)) : PInv k j := by
  have hb := openOf_bound ho
  obtain ⟨_, _, h3, h4, _, _⟩ := hs
  exact ⟨fun d hd => by have := hb.1 d hd; omega, by have := hb.2; omega⟩
theorem crash_doc (w : World) (s : SlabS) (hs : s.ok) (n : Int) :
    Calls Try.prog 29 #[.agg (dsk s), .int .i64 n] w fun e w' => e = .returned (.agg (dsk (s.crash n))) ∧ New w w' := by
  obtain ⟨o1, o2, o3, o4, o5, o6⟩ := hs
  have := ref_Crash w s.room s.sure s.steps ⟨s.bs.toArray⟩ n (s.sure + max 0 (min n (s.bs.length - s.sure))).toNat (by rw [str_size]; omega) o1 (by rw [str_size]; exact o2) (by rw [str_size]; omega)
  rw [str_take] at this
  have e : (((s.sure + max 0 (min n (s.bs.length - s.sure))).toNat : Nat) : Int) = s.sure + max 0 (min n (s.bs.length - s.sure)) := by omega
  rw [e] at this
  exact this
/-- the slab behind a spoiling -/
def SlabS.spoiled (s : SlabS) (n : Int) (x : UInt8) : SlabS := if n < 0 ∨ (s.bs.length : Int) ≤ n then s else s.spoil n.toNat x
theorem spoil_doc (w : World) (s : SlabS) (hs : s.ok) (n : Int) (x : UInt8) :
    Calls Try.prog 30 #[.agg (dsk s), .int .i64 n, bv x] w fun e w' => (∃ v, e = .returned (.tuple #[.agg (dsk (s.spoiled n x)), .int .i64 v])) ∧ New w w' := by
  obtain ⟨o1, o2, o3, o4, o5, o6⟩ := hs
  unfold SlabS.spoiled
  by_cases hb : n < 0 ∨ (s.bs.length : Int) ≤ n
  · rw [if_pos hb]
    exact (ref_Spoil_bad w s.room s.sure s.steps ⟨s.bs.toArray⟩ n x (by rw [str_size]; exact hb)).mono fun _ _ ⟨he, hN⟩ => ⟨⟨_, he⟩, hN⟩
  · rw [if_neg hb]
    obtain ⟨k, rfl⟩ := Int.eq_ofNat_of_zero_le (a := n) (by omega)
    have hk : k < s.bs.length := by omega
    have := ref_Spoil_yes w s.room s.sure s.steps ⟨s.bs.toArray⟩ k x (by rw [str_size]; omega) (by rw [str_size]; exact hk)
    rw [str_size, str_set _ _ _ hk] at this
    exact this.mono fun _ _ ⟨he, hN⟩ => ⟨⟨_, he⟩, hN⟩
theorem jb_spoiled {w : World} {H : Nat → Prop} {p q : Nat} {j : JS} (h : JB w H p q j) (n : Int) (x : UInt8) :
    Calls Try.prog 31 #[.pointer (some ⟨p, 0, none⟩), .int .i64 n, bv x] w fun e w' => (∃ v, e = .returned v) ∧ JStep w H p q { j with s := j.s.spoiled n x } w' := by
  unfold SlabS.spoiled
  by_cases hb : n < 0 ∨ (j.s.bs.length : Int) ≤ n
  · rw [if_pos hb]
    exact (jb_Spoil_bad h n x hb).mono fun _ _ ⟨he, hS⟩ => ⟨⟨_, he⟩, hS⟩
  · rw [if_neg hb]
    obtain ⟨k, rfl⟩ := Int.eq_ofNat_of_zero_le (a := n) (by omega)
    exact (jb_Spoil_yes h k x (by omega)).mono fun _ _ ⟨he, hS⟩ => ⟨⟨_, he⟩, hS⟩
theorem jexec_conv {P : Program} {ev : Operand → Value} {o : Oper} {w w' : World} {S D : TypeId} {x : Operand} {a v : Value} (ho : o.op = .convert S D x) (hx : ev x = a) (hr : (convert S D a).run P w = .ok v w') : (execOp ev o).run P w = .ok (.value v) w' := by
  unfold execOp
  simp [ho, hx, hr]
structure BG where
  A : Option Addr
  c : Nat
def plV36 (p M : Nat) (code : Int) (n : Nat) (S : ByteArray) (g : BG) : List Value :=
  [.int .i64 code, .int .i64 code, .bool false, .bool false, .pointer (some ⟨p, 0, none⟩), .slice g.A n g.c, .string S, .pointer (some ⟨M, 0, none⟩), .pointer (some ⟨M, 3, none⟩), .string S, .bool false, .bool false]
def plV42 (p q M : Nat) (code : Int) (n : Nat) (S : ByteArray) (A : Option Addr) (c rn : Nat) (last : List UInt8) (g : BG) : List Value :=
  [.int .i64 code, .int .i64 code, .bool false, .bool false, .pointer (some ⟨p, 0, none⟩), .slice g.A n g.c, .string S, .pointer (some ⟨M, 0, none⟩), .pointer (some ⟨M, 3, none⟩), .string S, .bool false, .bool false, .bool false,
    .pointer (some ⟨q, 0, none⟩), .int .i64 (rn : Int), .pointer (some ⟨M, 4, none⟩), .slice A rn c, .int .i64 (rn : Int), .bool false, .bool false, .bool false,
    .pointer (some ⟨q, 0, none⟩), .agg (ida last), .pointer (some ⟨M, 5, none⟩), .agg (ida last), .bool false, .bool false]
def plS (w0 : World) (p q M : Nat) (j m : JS) (A : Option Addr) (c : Nat) (L : Array Bool) (g : BG) (W : World) : Prop := PlS w0 p q M j m A c W ∧ (L.getD 5 false = true → Rd W g.A (j.s.bs.map bv))
section
variable {w0 : World} {p q M : Nat} {j m : JS} {A : Option Addr} {c : Nat} {L : Array Bool} {g : BG} {W W' : World}
theorem plS.list (h : plS w0 p q M j m A c L g W) (i : Nat) (h1 : i ≠ 5) : plS w0 p q M j m A c (L.setIfInBounds i true) g W := by
  unfold plS at h ⊢
  rw [getD_set_ne false h1]
  exact h
theorem plS.new (h : plS w0 p q M j m A c L g W) (f : New W W') : plS w0 p q M j m A c L g W' := ⟨h.1.new f, fun h5 => (h.2 h5).fr f (fun _ _ => id)⟩
theorem plS.got (h : plS w0 p q M j m A c L g W) (f : New W W') {A2 : Option Addr} {c2 : Nat} (hR : Rd W' A2 (j.s.bs.map bv)) : plS w0 p q M j m A c (L.setIfInBounds 5 true) ⟨A2, c2⟩ W' := ⟨h.1.new f, fun _ => hR⟩
end
end Go.Proofs.Ytefalfalapnllaa
