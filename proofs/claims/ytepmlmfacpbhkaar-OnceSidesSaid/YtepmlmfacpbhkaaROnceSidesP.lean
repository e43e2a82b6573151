/- OnceSides: pairs of sums, built, and laid in memory; the state of its second drawn region. -/
import Derived.Test.YtepmlmfacpbhkaaROnceTellsP
import Derived.Test.YtepmlmfacpbhkaaRR3D
namespace Go.Proofs.YtepmlmfacpbhkaaR
open Go.RowKit Go.Shelf
set_option linter.unusedVariables false
theorem fold_ida (X : List UInt8) (cs : List Value) (off : Nat) (h : off + X.length ≤ cs.length) :
    Array.foldl (fun (cs : Array Value) (x : Value × Nat) => cs.setIfInBounds (off + x.2) x.1) cs.toArray (ida X).zipIdx = (cs.take off ++ X.map bv ++ cs.drop (off + X.length)).toArray := by
  have hs := spliceL (X.map bv) cs off 0 (by simpa using h)
  rw [← Array.foldl_toList, Array.toList_zipIdx]
  simpa [ida] using hs
/-- a pair of sums that is built -/
theorem exec_build_pair {o : Oper} {ev : Operand → Value} {w : World} {a b : List UInt8} {x y : Operand} (ho : o.op = .build 74 #[(0, x), (1, y)]) (hx : ev x = .agg (ida a)) (hy : ev y = .agg (ida b)) (ha : a.length = 32) (hb : b.length = 32) :
    (execOp ev o).run Try.prog w = .ok (.value (.agg (ida (a ++ b)))) w := by
  have h1 : (zeroValue 74).run Try.prog w = .ok (.agg (ida z64b)) w := by kernel_rfl
  have h4 : ∀ w, (sizeOf 32).run Try.prog w = .ok 32 w := fun w => by kernel_rfl
  have hsa : (ida a).size = 32 := by rw [ida_size, ha]
  have hsb : (ida b).size = 32 := by rw [ida_size, hb]
  have e1 := fold_ida a (z64b.map bv) 0 (by simp [ha, z64b])
  have e2 := fold_ida b ((a ++ z32).map bv) 32 (by simp [ha, hb, z32])
  have p1 : ((z64b.map bv).take 0 ++ a.map bv ++ (z64b.map bv).drop (0 + a.length)) = (a ++ z32).map bv := by
    rw [ha]
    simp [z64b, z32]
  have p2 : (((a ++ z32).map bv).take 32 ++ b.map bv ++ ((a ++ z32).map bv).drop (32 + b.length)) = (a ++ b).map bv := by
    rw [hb]
    simp [ha, z32, List.take_append_of_le_length]
  rw [p1] at e1
  rw [p2] at e2
  have hz : (ida z64b) = (z64b.map bv).toArray := rfl
  have hm : ((a ++ z32).map bv).toArray = ida (a ++ z32) := rfl
  have hf : ((a ++ b).map bv).toArray = ida (a ++ b) := rfl
  have za : (ida a).zipIdx.size = 32 := by simp [ida, ha]
  have zb : (ida b).zipIdx.size = 32 := by simp [ida, hb]
  rw [za, ← hz, hm] at e1
  rw [zb, hm, hf] at e2
  simp only [Nat.zero_add] at e1
  have hz64 : (ida z64b).size = 64 := rfl
  have hs2 : (ida (a ++ z32)).size = 64 := by rw [ida_size]; simp [ha, z32]
  clear p1 p2 hz hm hf za zb
  unfold execOp
  simp [ho, Instr.build, h1, run_underlying underP, h4, hx, hy, Instr.fill, Value.cells, hsa, hsb, e1, e2, hz64, hs2]
/-- the region's values: both pairs' addresses are known only when they are made -/
def sideV (i ga gb : Nat) (xa ya xb yb ha hb : List UInt8) (g : G2) : List Value :=
  [.int .i64 i, .pointer (some ⟨ga, 0, none⟩), .pointer (some ⟨ga, i * 32, none⟩), .agg (ida xa), .agg (ida ha), .int .i64 i, .pointer (some ⟨ga, 2048, none⟩), .pointer (some ⟨ga, 2048 + i * 32, none⟩), .agg (ida ya), .agg (ida (ha ++ ya)),
    .int .i64 i, .pointer (some ⟨gb, 0, none⟩), .pointer (some ⟨gb, i * 32, none⟩), .agg (ida xb), .agg (ida hb), .int .i64 i, .pointer (some ⟨gb, 2048, none⟩), .pointer (some ⟨gb, 2048 + i * 32, none⟩), .agg (ida yb), .agg (ida (hb ++ yb)),
    .pointer (some ⟨g.a, 0, none⟩), .pointer (some ⟨g.b, 0, none⟩), undef, undef]
def sideS (w0 : World) (ga gb : Nat) (S1 S2 X Y : List UInt8) (L : Array Bool) (g : G2) (W : World) : Prop :=
  (TwoS w0 ga gb S1 S2 #[] W ∧ ga < w0.heap.size ∧ gb < w0.heap.size) ∧
  ((L.getD 22 false = true → L.getD 20 false = true) ∧ (L.getD 23 false = true → L.getD 21 false = true)) ∧
  (L.getD 20 false = true → w0.heap.size ≤ g.a ∧ Blk W g.a 74 (ida (if L.getD 22 false = true then X else z64b))) ∧
  (L.getD 21 false = true → w0.heap.size ≤ g.b ∧ Blk W g.b 74 (ida (if L.getD 23 false = true then Y else z64b))) ∧
  (L.getD 20 false = true → L.getD 21 false = true → g.a ≠ g.b)
section
variable {w0 : World} {ga gb : Nat} {S1 S2 X Y : List UInt8} {L : Array Bool} {g : G2} {W : World}
theorem sideS.list (h : sideS w0 ga gb S1 S2 X Y L g W) (i : Nat) (h6 : i ≠ 20) (h7 : i ≠ 21) (h8 : i ≠ 22) (h9 : i ≠ 23) : sideS w0 ga gb S1 S2 X Y (L.setIfInBounds i true) g W := by
  unfold sideS at h ⊢
  rw [getD_set_ne false h6, getD_set_ne false h7, getD_set_ne false h8, getD_set_ne false h9]
  exact h
theorem sideS.new {W' : World} (h : sideS w0 ga gb S1 S2 X Y L g W) (f : New W W') : sideS w0 ga gb S1 S2 X Y L g W' := by
  obtain ⟨⟨a, b, c⟩, d, e, h7, h8⟩ := h
  exact ⟨⟨a.new f, b, c⟩, d, fun x => ⟨(e x).1, (e x).2.fr f id⟩, fun x => ⟨(h7 x).1, (h7 x).2.fr f id⟩, h8⟩
theorem sideS.a (h : sideS w0 ga gb S1 S2 X Y L g W) (hz : L.size = 24) (h6 : L.getD 20 false = false) : sideS w0 ga gb S1 S2 X Y (L.setIfInBounds 20 true) ⟨W.heap.size, g.b⟩ (W.alloc (.cells (ida z64b) 74)) := by
  obtain ⟨⟨a, b, c⟩, ⟨d, d'⟩, e, h7, h8⟩ := h
  have h8f : L.getD 22 false = false := by
    cases h : L.getD 22 false with
    | false => rfl
    | true => have := d h; rw [h6] at this; cases this
  unfold sideS
  rw [getD_set_ne false (show 20 ≠ 21 by decide), getD_set_ne false (show 20 ≠ 22 by decide), getD_set_ne false (show 20 ≠ 23 by decide), getD_set_self (by rw [hz]; decide), h8f]
  refine ⟨⟨a.new (Fr.alloc _ _ _), b, c⟩, ⟨fun h => (by cases h), d'⟩, fun _ => ⟨a.2.2.size, Blk.new W _ _⟩, fun x => ⟨(h7 x).1, (h7 x).2.alloc _⟩, fun _ x e => ?_⟩
  have hl := (h7 x).2.lt
  have e' : W.heap.size = g.b := e
  omega
theorem sideS.b (h : sideS w0 ga gb S1 S2 X Y L g W) (hz : L.size = 24) (h7n : L.getD 21 false = false) : sideS w0 ga gb S1 S2 X Y (L.setIfInBounds 21 true) ⟨g.a, W.heap.size⟩ (W.alloc (.cells (ida z64b) 74)) := by
  obtain ⟨⟨a, b, c⟩, ⟨d, d'⟩, e, h7, h8⟩ := h
  have h9f : L.getD 23 false = false := by
    cases h : L.getD 23 false with
    | false => rfl
    | true => have := d' h; rw [h7n] at this; cases this
  unfold sideS
  rw [getD_set_ne false (show 21 ≠ 20 by decide), getD_set_ne false (show 21 ≠ 22 by decide), getD_set_ne false (show 21 ≠ 23 by decide), getD_set_self (by rw [hz]; decide), h9f]
  refine ⟨⟨a.new (Fr.alloc _ _ _), b, c⟩, ⟨d, fun h => (by cases h)⟩, fun x => ⟨(e x).1, (e x).2.alloc _⟩, fun _ => ⟨a.2.2.size, Blk.new W _ _⟩, fun x _ e' => ?_⟩
  have hl := (e x).2.lt
  have e2 : g.a = W.heap.size := e'
  omega
theorem sideS.c (h : sideS w0 ga gb S1 S2 X Y L g W) (hz : L.size = 24) (h6 : L.getD 20 false = true) : sideS w0 ga gb S1 S2 X Y (L.setIfInBounds 22 true) g (W.setRow g.a (ida X)) := by
  obtain ⟨⟨⟨a, a2, a3⟩, b, c⟩, ⟨d, d'⟩, e, h7, h8⟩ := h
  have hf : Fr (fun j => j = g.a) W (W.setRow g.a (ida X)) := (Fr.refl (fun j => j = g.a) W).setRow (g := g.a) rfl _
  have hge := (e h6).1
  unfold sideS
  rw [getD_set_ne false (show 22 ≠ 20 by decide), getD_set_ne false (show 22 ≠ 21 by decide), getD_set_ne false (show 22 ≠ 23 by decide), getD_set_self (by rw [hz]; decide)]
  refine ⟨⟨⟨a.fr hf (by omega), a2.fr hf (by omega), a3.trans hf (fun j hj => .inr (by omega))⟩, b, c⟩, ⟨fun _ => h6, d'⟩, fun x => ⟨hge, by rw [if_pos rfl]; exact (e x).2.setRow _⟩, fun x => ⟨(h7 x).1, (h7 x).2.fr hf (fun e => h8 h6 x e.symm)⟩, h8⟩
theorem sideS.d (h : sideS w0 ga gb S1 S2 X Y L g W) (hz : L.size = 24) (h7t : L.getD 21 false = true) : sideS w0 ga gb S1 S2 X Y (L.setIfInBounds 23 true) g (W.setRow g.b (ida Y)) := by
  obtain ⟨⟨⟨a, a2, a3⟩, b, c⟩, ⟨d, d'⟩, e, h7, h8⟩ := h
  have hf : Fr (fun j => j = g.b) W (W.setRow g.b (ida Y)) := (Fr.refl (fun j => j = g.b) W).setRow (g := g.b) rfl _
  have hge := (h7 h7t).1
  unfold sideS
  rw [getD_set_ne false (show 23 ≠ 20 by decide), getD_set_ne false (show 23 ≠ 21 by decide), getD_set_ne false (show 23 ≠ 22 by decide), getD_set_self (by rw [hz]; decide)]
  refine ⟨⟨⟨a.fr hf (by omega), a2.fr hf (by omega), a3.trans hf (fun j hj => .inr (by omega))⟩, b, c⟩, ⟨d, fun _ => h7t⟩, fun x => ⟨(e x).1, (e x).2.fr hf (fun e => h8 x h7t e)⟩, fun x => ⟨hge, by rw [if_pos rfl]; exact (h7 x).2.setRow _⟩, h8⟩
end
/-- both pairs stand, beside the signatures -/
def SwapS (w0 : World) (ga gb gx gy : Nat) (S1 S2 X Y : List UInt8) (L : Array Bool) (W : World) : Prop :=
  TwoS w0 ga gb S1 S2 #[] W ∧ Blk W gx 74 (ida X) ∧ Blk W gy 74 (ida Y)
theorem SwapS.new {w0 : World} {ga gb gx gy : Nat} {S1 S2 X Y : List UInt8} {L L' : Array Bool} {W W' : World} (h : SwapS w0 ga gb gx gy S1 S2 X Y L W) (f : New W W') : SwapS w0 ga gb gx gy S1 S2 X Y L' W' :=
  ⟨h.1.new f, h.2.1.fr f id, h.2.2.fr f id⟩
theorem put_lo (u v : List UInt8) (hu : u.length = 32) (hv : v.length = 32) : ((ida (u ++ v)).toList.take 0 ++ (ida v).toList ++ (ida (u ++ v)).toList.drop (0 + (ida v).size)).toArray = ida (v ++ v) := by
  have e : (u ++ v).drop 32 = v := List.drop_left' hu
  rw [ida_size, hv]
  simp [ida, hu]
theorem put_hi (u v : List UInt8) (hu : u.length = 32) (hv : v.length = 32) : ((ida (v ++ v)).toList.take 32 ++ (ida u).toList ++ (ida (v ++ v)).toList.drop (32 + (ida u).size)).toArray = ida (v ++ u) := by
  rw [ida_size, hu]
  simp [ida, hv, List.take_append_of_le_length]
end Go.Proofs.YtepmlmfacpbhkaaR
