/- The document's journal as a value and in memory. -/
import Derived.Test.YtefalfalapnllaaR10O
import Derived.Test.YtefalfalapnllaaJrnK
namespace Go.Proofs.Ytefalfalapnllaa
open Go.RowKit Go.Shelf
set_option linter.unusedVariables false
def dsk (s : SlabS) : Array Value := #[.int .i64 s.room, .int .i64 s.sure, .int .i64 s.steps, .string ⟨s.bs.toArray⟩]
def jd (s : SlabS) (A : Option Addr) (n c : Nat) (last : List UInt8) (down : Bool) : Array Value :=
  (Value.int .i64 s.room :: Value.int .i64 s.sure :: Value.int .i64 s.steps :: Value.string ⟨s.bs.toArray⟩ :: Value.slice A n c :: (last.map bv ++ [Value.bool down])).toArray
def s0 : SlabS := ⟨0, [], 0, 0⟩
theorem jd_size (s : SlabS) (A : Option Addr) (n c : Nat) (last : List UInt8) (down : Bool) (h : last.length = 32) : (jd s A n c last down).size = 38 := by simp [jd, h]
theorem infoRS : (Try.prog.info? 41).map (fun i => (i.zero, i.size, i.bytes)) = some (some (.agg (dsk s0)), 4, 40) := by kernel_rfl
theorem infoRJ : (Try.prog.info? 79).map (fun i => (i.zero, i.size, i.bytes)) = some (some (.agg (jd s0 none 0 0 z32 false)), 38, 104) := by kernel_rfl
theorem underRS : ∃ l, Try.prog.underlying 41 = some (.struct l) := ⟨_, Try.underlying41⟩
theorem underRJ : ∃ l, Try.prog.underlying 79 = some (.struct l) := ⟨_, Try.underlying79⟩
theorem jd_disk (s s' : SlabS) (A : Option Addr) (n c : Nat) (last : List UInt8) (down : Bool) : ((jd s A n c last down).toList.take 0 ++ (dsk s').toList ++ (jd s A n c last down).toList.drop (0 + (dsk s').size)).toArray = jd s' A n c last down := by simp [jd, dsk]
theorem jd_last (s : SlabS) (A : Option Addr) (n c : Nat) (last l' : List UInt8) (down : Bool) (h : last.length = 32) (h' : l'.length = 32) :
    ((jd s A n c last down).toList.take 5 ++ (ida l').toList ++ (jd s A n c last down).toList.drop (5 + (ida l').size)).toArray = jd s A n c l' down := by
  have e : (last.map bv ++ [Value.bool down]).drop 32 = [Value.bool down] := by
    rw [List.drop_append_of_le_length (by simp [h]), List.drop_of_length_le (by simp [h])]
    rfl
  have hs : (ida l').size = 32 := by rw [ida_size, h']
  have e2 : ∀ (a b c d f : Value) (l : List Value), (a :: b :: c :: d :: f :: l).drop (5 + 32) = l.drop 32 := fun _ _ _ _ _ _ => rfl
  rw [hs]
  unfold jd
  rw [e2, e]
  simp [ida]
theorem jd_recs (s : SlabS) (A A' : Option Addr) (n c n' c' : Nat) (last : List UInt8) (down : Bool) : (jd s A n c last down).setIfInBounds 4 (.slice A' n' c') = jd s A' n' c' last down := by simp [jd]
theorem jd_down (s : SlabS) (A : Option Addr) (n c : Nat) (last : List UInt8) (down d' : Bool) (h : last.length = 32) : (jd s A n c last down).setIfInBounds 37 (.bool d') = jd s A n c last d' := by
  have e : (last.map bv ++ [Value.bool down]).set 32 (.bool d') = last.map bv ++ [Value.bool d'] := by
    rw [List.set_append_right _ _ (by simp [h])]
    simp [h]
  simp [jd, e]
theorem jd_one (s : SlabS) (A : Option Addr) (n c : Nat) (last : List UInt8) (down : Bool) : ∀ v ∈ (jd s A n c last down).toList, v.oneCell' = true := fun v hv => by
  simp [jd] at hv
  rcases hv with rfl | rfl | rfl | rfl | rfl | ⟨b, _, rfl⟩ | rfl <;> rfl
theorem dsk_one (s : SlabS) : ∀ v ∈ (dsk s).toList, v.oneCell' = true := fun v hv => by
  simp [dsk] at hv
  rcases hv with rfl | rfl | rfl | rfl <;> rfl
theorem exec_build_rj {o : Oper} {ev : Operand → Value} {w : World} {x : Operand} {s : SlabS} (ho : o.op = .build 79 #[(0, x)]) (hx : ev x = .agg (dsk s)) :
    (execOp ev o).run Try.prog w = .ok (.value (.agg (jd s none 0 0 z32 false))) w := by
  have h1 : (zeroValue 79).run Try.prog w = .ok (.agg (jd s0 none 0 0 z32 false)) w := by kernel_rfl
  have hset : ((((jd s0 none 0 0 z32 false).setIfInBounds 0 (.int .i64 s.room)).setIfInBounds 1 (.int .i64 s.sure)).setIfInBounds 2 (.int .i64 s.steps)).setIfInBounds 3 (.string ⟨s.bs.toArray⟩) = jd s none 0 0 z32 false := by
    simp [jd]
  have hsz : (jd s0 none 0 0 z32 false).size = 38 := rfl
  generalize jd s0 none 0 0 z32 false = Z at *
  have hne : Z ≠ #[] := fun e => by rw [e] at hsz; simp at hsz
  unfold execOp
  simp [ho, Instr.build, h1, run_underlying Try.underlying79, hx, Instr.fill, Value.cells, dsk, hset, hsz, hne]
section
variable {w : World} {g : Nat} {s : SlabS} {A : Option Addr} {n c : Nat} {last : List UInt8} {down : Bool}
theorem jd_at0 (h : Blk w g 79 (jd s A n c last down)) : At w g 0 (dsk s) := fun j hj => by
  rw [h.cell (0 + j)]
  have : j < 4 := hj
  rcases (by omega : j = 0 ∨ j = 1 ∨ j = 2 ∨ j = 3) with rfl | rfl | rfl | rfl <;> simp [jd, dsk]
theorem jd_at5 (h : Blk w g 79 (jd s A n c last down)) : At w g 5 (ida last) := fun j hj => by
  rw [ida_size] at hj
  rw [h.cell (5 + j)]
  rw [show 5 + j = j + 1 + 1 + 1 + 1 + 1 by omega]
  simp only [jd, ida, List.getElem?_toArray, List.getElem?_cons_succ, List.getElem_toArray, List.getElem_map]
  rw [List.getElem?_append_left (by simpa using hj), List.getElem?_map, List.getElem?_eq_getElem hj]
  rfl
theorem jd_c4 (h : Blk w g 79 (jd s A n c last down)) : w.cell? ⟨g, 4, none⟩ = some (.slice A n c) := h.cell 4
theorem jd_c37 (h : Blk w g 79 (jd s A n c last down)) (hl : last.length = 32) : w.cell? ⟨g, 37, none⟩ = some (.bool down) := by
  rw [h.cell 37]
  simp [jd, hl]
end
theorem x_results2 {fn : Func} {w : World} {tmps : Array Value} {t u : Tmp} {b : Nat} {X : Array Value} {T : TypeId} {v : Value} (hr : fn.results = #[.cell t T, .tmp u]) (l6 : (loadVar T ⟨b, 0, none⟩).run Try.prog w = .ok (.agg X) w) (ht : tmps.getD t undef = .pointer (some ⟨b, 0, none⟩)) (hu : tmps.getD u undef = v) :
    (results fn tmps).run Try.prog w = .ok (.tuple #[.agg X, v]) w := by
  rw [Array.getD_eq_getD_getElem?] at ht hu
  simp only [results, hr]
  simp [ht, hu, asAddr, l6]
theorem rec_iff (b l : List UInt8) (a : Nat) (h0 : ¬ b.length < a + 35) (h1 : (b.drop (a + 3)).take 16 = Jrn.own l ((b.drop a).take 3)) (h2 : ¬ b.length < a + 35 + Jrn.num (b.drop a)) :
    (b.drop a).take (35 + Jrn.num (b.drop a)) = Jrn.recB l (Jrn.dataAt b a) ↔ (b.drop (a + 19)).take 16 = (Jrn.link l (Jrn.dataAt b a)).take 16 := by
  have hdl : (Jrn.dataAt b a).length = Jrn.num (b.drop a) := by
    unfold Jrn.dataAt
    rw [List.length_take, List.length_drop]
    omega
  have hdig : Jrn.dig (Jrn.num (b.drop a)) = (b.drop a).take 3 := Jrn.dig_num _ (by rw [List.length_drop]; omega)
  have e : (b.drop a).take (35 + Jrn.num (b.drop a)) = (b.drop a).take 3 ++ (b.drop (a + 3)).take 16 ++ (b.drop (a + 19)).take 16 ++ Jrn.dataAt b a := by
    unfold Jrn.dataAt
    generalize Jrn.num (b.drop a) = n
    rw [show 35 + n = 3 + (16 + (16 + n)) by omega, List.take_add, List.take_add, List.take_add, List.drop_drop, List.drop_drop, List.drop_drop]
    simp [Nat.add_assoc]
  rw [e]
  unfold Jrn.recB
  rw [hdl, hdig, h1]
  constructor
  · intro h
    have h' := List.append_inj_left h (by simp [Jrn.own_length, Jrn.link_length]; omega)
    exact List.append_cancel_left h'
  · intro h
    rw [h]
theorem run_slice_strT (w : World) (b : List UInt8) (i j : Nat) (l h : Int) (hl : l = (i : Int)) (hh : h = (j : Int)) (hij : i ≤ j) (hj : j ≤ b.length) :
    (Instr.slice 9 (.string ⟨b.toArray⟩) (some (.int .i64 l)) (some (.int .i64 h)) none).run Try.prog w = .ok (.string ⟨((b.drop i).take (j - i)).toArray⟩) w := by
  subst hl hh
  have hsz : (⟨b.toArray⟩ : ByteArray).size = b.length := rfl
  have h1 : ((j : Int) ≤ ((b.length : Nat) : Int)) := by omega
  have h2 : ((i : Int) ≤ (j : Int)) := by omega
  have h3 : (0 : Int) ≤ (i : Int) := by omega
  have h4 : (0 : Int) ≤ (j : Int) := by omega
  simp [Instr.slice, run_underlying Try.underlying9, Instr.sliceBounds, run_sliceBound, hsz, jstr_cut, h1, h2, h3, h4]
theorem w64_in (n : Int) (h0 : -9223372036854775808 ≤ n) (h1 : n < 9223372036854775808) : wrap64 n = n := by
  unfold wrap64
  omega
theorem w64_nat (n : Nat) (h1 : n < 1000000000) : wrap64 (n : Int) = (n : Int) := w64_in _ (by omega) (by omega)
theorem three_w64 (x y z : Nat) (hx : x < 256) (hy : y < 256) (hz : z < 256) :
    wrap64 (wrap64 (wrap64 (wrap64 (x : Int) * 65536) + wrap64 (wrap64 (y : Int) * 256)) + wrap64 (z : Int)) = ((x * 65536 + y * 256 + z : Nat) : Int) := by
  rw [w64_nat x (by omega), w64_nat y (by omega), w64_nat z (by omega)]
  rw [w64_in ((x : Int) * 65536) (by omega) (by omega), w64_in ((y : Int) * 256) (by omega) (by omega), w64_in ((x : Int) * 65536 + (y : Int) * 256) (by omega) (by omega), w64_in _ (by omega) (by omega)]
  omega
theorem three_of (b : List UInt8) (a : Nat) (h : a + 3 ≤ b.length) : ∃ x y z : UInt8, (b.drop a).take 3 = [x, y, z] ∧
    wrap64 (wrap64 (wrap64 (wrap64 (x.toNat : Int) * 65536) + wrap64 (wrap64 (y.toNat : Int) * 256)) + wrap64 (z.toNat : Int)) = ((Jrn.num (b.drop a) : Nat) : Int) := by
  have hl : 3 ≤ (b.drop a).length := by rw [List.length_drop]; omega
  generalize b.drop a = c at *
  match c, hl with
  | x :: y :: z :: t, _ => exact ⟨x, y, z, rfl, by rw [three_w64 _ _ _ (UInt8.toNat_lt x) (UInt8.toNat_lt y) (UInt8.toNat_lt z)]; simp [Jrn.num]⟩
/-- what Open holds while it reads: the disk's box, the result's box, the journal's -/
structure DJ (w0 : World) (s : SlabS) (A : Option Addr) (c : Nat) (rs : List (List UInt8)) (l : List UInt8) (W : World) : Prop where
  sblk : Blk W w0.heap.size 41 (dsk s)
  rblk : Blk W (w0.heap.size + 1) 79 (jd s0 none 0 0 z32 false)
  jblk : Blk W (w0.heap.size + 2) 79 (jd s A rs.length c l false)
  row : Row W 9 A c (tv rs)
  own : ∀ k, ab A = some k → w0.heap.size + 2 < k
  len : l.length = 32
  new : New w0 W
/-- the same where the journal has another disk -/
structure DJX (w0 : World) (s s' : SlabS) (A : Option Addr) (c : Nat) (rs : List (List UInt8)) (l : List UInt8) (W : World) : Prop where
  rblk : Blk W (w0.heap.size + 1) 79 (jd s0 none 0 0 z32 false)
  jblk : Blk W (w0.heap.size + 2) 79 (jd s' A rs.length c l false)
  row : Row W 9 A c (tv rs)
  own : ∀ k, ab A = some k → w0.heap.size + 2 < k
  len : l.length = 32
  new : New w0 W
theorem DJ.then_new {w0 W W' : World} {s : SlabS} {A : Option Addr} {c : Nat} {rs : List (List UInt8)} {l : List UInt8} (h : DJ w0 s A c rs l W) (f : New W W') : DJ w0 s A c rs l W' :=
  ⟨h.sblk.fr f id, h.rblk.fr f id, h.jblk.fr f id, h.row.fr f (fun _ _ => id), h.own, h.len, h.new.trans f (fun _ h => h.elim)⟩
theorem info9 : (Try.prog.info? 9).map (fun i => (i.zero, i.size, i.bytes)) = some (some (.string ⟨#[]⟩), 1, 16) := by kernel_rfl
theorem tv_one (ps : List (List UInt8)) : ∀ u ∈ tv ps, u.oneCell' = true := fun u hu => by
  obtain ⟨d, _, rfl⟩ := List.mem_map.1 hu
  rfl
theorem DJ.append {w0 W : World} {s : SlabS} {A : Option Addr} {c : Nat} {rs : List (List UInt8)} {l : List UInt8} (h : DJ w0 s A c rs l W) (D : List UInt8) (hn : rs.length ≤ 4194304) :
    ∃ A2 c2 w8, (Builtin.append_ #[58, 58] 58 #[.slice A rs.length c, .slice (some ⟨W.heap.size, 0, none⟩) 1 1]).run Try.prog (W.alloc (.cells #[.string ⟨D.toArray⟩] 9)) = .ok (.slice A2 (rs.length + 1) c2) w8 ∧
      w8.cell? ⟨w0.heap.size + 2, 4, none⟩ = some (.slice A rs.length c) ∧ w8.frozen? ⟨w0.heap.size + 2, 4, none⟩ = false ∧
      DJ w0 s A2 c2 (rs ++ [D]) l (w8.setCell ⟨w0.heap.size + 2, 4, none⟩ (.slice A2 (rs.length + 1) c2)) := by
  obtain ⟨i, hi, hz0, hz1, hz2⟩ := info_parts info9
  have h1 := h.then_new (Fr.alloc (fun _ => False) W (.cells #[.string ⟨D.toArray⟩] 9))
  obtain ⟨A2, c2, w8, hrun, hrow, hf, hA⟩ := run_append_rd (P := Try.prog) (W.alloc (.cells #[.string ⟨D.toArray⟩] 9)) 58 58 9 i (.string ⟨#[]⟩) 16 Try.underlying58 hi hz0 hz1 hz2 rfl A c (tv rs) h1.row
    (some ⟨W.heap.size, 0, none⟩) 1 (tv [D]) (Rd.lit W (tv [D]) 9 (0, 0)) (tv_one [D]) (by simp [tv, maxLen]; omega) (by simp [tv]; omega)
  simp only [tv, List.length_map, List.length_cons, List.length_nil, Nat.zero_add] at hrun
  have hnot : ∀ k, k ≤ w0.heap.size + 2 → ¬ (some k = ab A) := fun k hk e => by have := h.own k e.symm; omega
  have hj8 := h1.jblk.fr hf (hnot _ (by omega))
  have hs8 := h1.sblk.fr hf (hnot _ (by omega))
  have hr8 := h1.rblk.fr hf (hnot _ (by omega))
  have hA2 : ∀ k, ab A2 = some k → w0.heap.size + 2 < k := fun k hk => by
    rcases hA k hk with h' | h'
    · exact h.own k h'
    · have := h.jblk.lt
      rw [World.size_alloc] at h'
      omega
  have hset := (Fr.refl (fun k => k = w0.heap.size + 2) w8).then_set (p := ⟨w0.heap.size + 2, 4, none⟩) rfl (.slice A2 (rs.length + 1) c2)
  refine ⟨A2, c2, w8, hrun, jd_c4 hj8, hj8.frozen 4, ⟨hs8.far (by simp) _, hr8.far (by simp) _, ?_, ?_, hA2, h.len, ?_⟩⟩
  · have := hj8.set 4 (.slice A2 (rs.length + 1) c2)
    rw [jd_recs] at this
    simpa using this
  · have e : tv (rs ++ [D]) = tv rs ++ tv [D] := by simp [tv]
    rw [e]
    exact hrow.fr hset (fun k hk e => by have := hA2 k hk; omega)
  · have hsz := h.new.size
    exact ((h1.new.trans hf (fun k hk => .inr (by have := h.own k hk.symm; omega))).trans hset (fun k hk => .inr (by omega)))
theorem DJ.store_last {w0 W : World} {s : SlabS} {A : Option Addr} {c : Nat} {rs : List (List UInt8)} {l : List UInt8} (h : DJ w0 s A c rs l W) (l' : List UInt8) (hl : l'.length = 32) : DJ w0 s A c rs l' (W.setRow (w0.heap.size + 2) (jd s A rs.length c l' false)) := by
  have f : Fr (fun k => k = w0.heap.size + 2) W (W.setRow (w0.heap.size + 2) (jd s A rs.length c l' false)) := (Fr.refl (fun k => k = w0.heap.size + 2) W).setRow (g := w0.heap.size + 2) rfl _
  exact ⟨h.sblk.fr f (by omega), h.rblk.fr f (by omega), h.jblk.setRow _, h.row.fr f (fun k hk e => by have := h.own k hk; omega), h.own, hl, h.new.trans f (fun k hk => .inr (by omega))⟩
theorem DJ.at_start (w0 : World) (s : SlabS) : DJ w0 s none 0 [] z32 (((w0.alloc (.cells (dsk s) 41)).alloc (.cells (jd s0 none 0 0 z32 false) 79)).alloc (.cells (jd s none 0 0 z32 false) 79)) := by
  have h1 := Blk.new w0 41 (dsk s)
  have h2 := Blk.new (w0.alloc (.cells (dsk s) 41)) 79 (jd s0 none 0 0 z32 false)
  have h3 := Blk.new ((w0.alloc (.cells (dsk s) 41)).alloc (.cells (jd s0 none 0 0 z32 false) 79)) 79 (jd s none 0 0 z32 false)
  simp only [World.size_alloc] at h2 h3
  exact ⟨(h1.alloc _).alloc _, h2.alloc _, h3, Row.nil _ _, fun k hk => by simp [ab] at hk, rfl, ((Fr.alloc _ w0 _).then_alloc _).then_alloc _⟩
end Go.Proofs.Ytefalfalapnllaa
