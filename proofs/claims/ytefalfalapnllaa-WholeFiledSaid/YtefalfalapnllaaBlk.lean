/- The contract of sum's Blocks: the iterator hands out the blocks of all parts. -/
import Derived.Test.YtefalfalapnllaaRange
import Derived.Test.YtefalfalapnllaaBlocks
import Derived.Test.YtefalfalapnllaaTake
import Derived.Test.YtefalfalapnllaaArm
import Derived.Test.YtefalfalapnllaaHeld
import Derived.Sort.CutIn
namespace Go.Proofs.Ytefalfalapnllaa
open Go.RowKit Go.Shelf
set_option linter.unusedVariables false

/-- a part: a slice of bytes and what it reads as -/
structure Part where
  a : Option Addr
  c : Nat
  b : List UInt8
def Part.v (p : Part) : Value := .slice p.a p.b.length p.c
/-- the parts are there -/
structure PartsAt (w : World) (A : Option Addr) (ps : List Part) : Prop where
  row : Rd w A (ps.map Part.v)
  each : ∀ p ∈ ps, Rd w p.a (p.b.map bv)
/-- none of the parts' memory is in T -/
structure Apart (T : Nat → Prop) (A : Option Addr) (ps : List Part) : Prop where
  row : 0 < ps.length → ∀ k, ab A = some k → ¬ T k
  each : ∀ p ∈ ps, 0 < p.b.length → ∀ k, ab p.a = some k → ¬ T k
theorem PartsAt.fr {w w' : World} {A : Option Addr} {ps : List Part} {T : Nat → Prop} (h : PartsAt w A ps) (f : Fr T w w') (hT : Apart T A ps) : PartsAt w' A ps :=
  ⟨h.row.fr' f (fun h0 => hT.row (by simpa using h0)), fun p hp => (h.each p hp).fr' f (fun h0 => hT.each p hp (by simpa using h0))⟩
theorem PartsAt.apart {w : World} {A : Option Addr} {ps : List Part} (h : PartsAt w A ps) : Apart (fun k => w.heap.size ≤ k) A ps :=
  ⟨fun h0 k hk hT => by have := h.row.lt (by simpa using h0) k hk; omega, fun p hp h0 k hk hT => by have := (h.each p hp).lt (by simpa using h0) k hk; omega⟩
theorem Apart.or {T S : Nat → Prop} {A : Option Addr} {ps : List Part} (h : Apart T A ps) (k : Apart S A ps) : Apart (fun x => T x ∨ S x) A ps :=
  ⟨fun h0 x hx ht => ht.elim (h.row h0 x hx) (k.row h0 x hx), fun p hp h0 x hx ht => ht.elim (h.each p hp h0 x hx) (k.each p hp h0 x hx)⟩
/-- all parts, one behind the other -/
def allB (ps : List Part) : List UInt8 := ps.flatMap (·.b)

def z64b : List UInt8 := List.replicate 64 0
theorem infoB : (Try.prog.info? 129).map (fun i => (i.zero, i.size, i.bytes)) = some (some (.agg (ida z64b)), 64, 64) := by kernel_rfl
theorem underB : Try.prog.underlying 129 = some (.array 64 5) := by kernel_rfl

theorem allB_take_succ (ps : List Part) (k : Nat) (h : k < ps.length) : allB (ps.take (k + 1)) = allB (ps.take k) ++ ps[k].b := by
  unfold allB
  rw [List.take_succ_eq_append_getElem h, List.flatMap_append]
  simp
theorem allB_get (ps : List Part) (k j : Nat) (h : k < ps.length) (hj : j < ps[k].b.length) : (allB ps)[(allB (ps.take k)).length + j]? = some ps[k].b[j] := by
  have e : allB ps = allB (ps.take k) ++ (ps[k].b ++ allB (ps.drop (k + 1))) := by
    have this : ps.take k ++ (ps[k] :: ps.drop (k + 1)) = ps := by rw [List.getElem_cons_drop, List.take_append_drop]
    have h2 : allB (ps.take k ++ (ps[k] :: ps.drop (k + 1))) = allB (ps.take k) ++ (ps[k].b ++ allB (ps.drop (k + 1))) := by
      unfold allB
      rw [List.flatMap_append, List.flatMap_cons]
    rwa [this] at h2
  rw [e, List.getElem?_append_right (by omega), Nat.add_sub_cancel_left, List.getElem?_append_left hj, List.getElem?_eq_getElem hj]
theorem mid_set (X msg : List UInt8) (m : Nat) (x : UInt8) (hX : X.length = 64) (hx : msg[m]? = some x) (h : X.take (m % 64) = (msg.drop (64 * (m / 64))).take (m % 64)) :
    (X.set (m % 64) x).take (m % 64 + 1) = (msg.drop (64 * (m / 64))).take (m % 64 + 1) := by
  have h1 : m % 64 < 64 := Nat.mod_lt _ (by decide)
  have h2 : m = 64 * (m / 64) + m % 64 := by omega
  have h3 : (msg.drop (64 * (m / 64)))[m % 64]? = some x := by rw [List.getElem?_drop, ← h2]; exact hx
  rw [List.take_add_one, List.take_add_one, h3, List.take_set_of_le (Nat.le_refl _), h]
  congr 1
  rw [List.getElem?_set_self (by omega)]
theorem mid_full (X msg : List UInt8) (m : Nat) (x : UInt8) (hX : X.length = 64) (hx : msg[m]? = some x) (h : X.take (m % 64) = (msg.drop (64 * (m / 64))).take (m % 64)) (h0 : (m + 1) % 64 = 0) :
    X.set (m % 64) x = Sha.full msg (m / 64) := by
  have := mid_set X msg m x hX hx h
  have e : m % 64 + 1 = 64 := by omega
  rw [e, List.take_of_length_le (by simp [hX])] at this
  exact this
theorem blocks_full (msg : List UInt8) (i : Nat) (h : i < msg.length / 64) : (Sha.blocks msg)[i]? = some (Sha.full msg i) := by
  unfold Sha.blocks
  rw [List.getElem?_append_left (by simpa using h)]
  simp [h]
/-- m bytes have been taken -/
structure Mid (W0 : World) (T : Nat → Prop) (J : Nat → World → Prop) (msg : List UInt8) (m : Nat) (W : World) : Prop where
  buf : ∃ X : List UInt8, X.length = 64 ∧ Blk W W0.heap.size 129 (ida X) ∧ X.take (m % 64) = (msg.drop (64 * (m / 64))).take (m % 64)
  j : J (m / 64) W
  fr : Fr (fun k => T k ∨ W0.heap.size ≤ k) W0 W
theorem ida_set {w : World} {g : Nat} {t : TypeId} {l : List UInt8} (h : Blk w g t (ida l)) (j : Nat) (x : UInt8) : Blk (w.setCell ⟨g, j, none⟩ (bv x)) g t (ida (l.set j x)) := by
  have := h.set j (bv x)
  have e : (ida l).setIfInBounds j (bv x) = ida (l.set j x) := by simp [ida, List.map_set]
  rwa [e] at this
/-- a copy of bytes -/
theorem exec_copy {P : Program} {o : Oper} {ev : Operand → Value} {w w' : World} {d s : Operand} {dT sT : TypeId} {v1 v2 v : Value} (ho : o.op = .call { callee := .builtin .copy, args := #[d, s], argTypes := #[dT, sT] }) (hd : ev d = v1) (hs : ev s = v2)
    (hr : (Builtin.copy_ #[dT, sT] o.type #[v1, v2]).run P w = .ok v w') : (execOp ev o).run P w = .ok (.value v) w' := by
  unfold execOp
  simp only [ho, resolve, invoke, builtin, Sem.run_bind, Sem.run_pure, Result.andThen_ok, List.map_toArray, List.map_cons, List.map_nil, hd, hs, hr]
theorem exec_copyB {o : Oper} {ev : Operand → Value} {w : World} {d s : Operand} {g g' r c : Nat} {t t' : TypeId} {X Y : List UInt8} (ho : o.op = .call { callee := .builtin .copy, args := #[d, s], argTypes := #[22, 22] })
    (hd : ev d = .slice (some ⟨g, 0, none⟩) 64 64) (hs : ev s = .slice (some ⟨g', 0, none⟩) r c) (hY : Blk w g t (ida Y)) (hYl : Y.length = 64) (hX : Blk w g' t' (ida X)) (hr : r ≤ X.length) (hr64 : r ≤ 64) :
    (execOp ev o).run Try.prog w = .ok (.value (.int .i64 (r : Int))) (w.setRow g (ida (X.take r ++ Y.drop r))) := by
  have h := run_copy_row (P := Try.prog) w 22 22 o.type 5 g 0 64 64 ⟨g', 0, none⟩ r c (ida Y) t ((X.take r).map bv) Try.underlying22 (by kernel_rfl) hY (by rw [List.length_map, List.length_take]; show min r X.length = min r 64; omega)
    (fun j v hv => by
      have hj := (List.getElem?_eq_some_iff.1 hv).1
      simp at hj
      rw [add_none, Nat.zero_add, hX.cell, ← hv, ida, List.getElem?_toArray, List.getElem?_map, List.getElem?_map, List.getElem?_take_of_lt (by omega)]) (by simp [ida_size]; omega) (fun v hv => by
      obtain ⟨b, _, rfl⟩ := List.mem_map.1 hv
      rfl)
  rw [exec_copy ho hd hs h]
  have e : (List.map bv (List.take r X)).length = r := by simp; omega
  rw [e]
  have e2 : ((ida Y).toList.take 0 ++ (X.take r).map bv ++ (ida Y).toList.drop (0 + r)).toArray = ida (X.take r ++ Y.drop r) := by
    simp [ida, List.map_take, List.map_drop]
  rw [e2]
  rfl
/-- where the copy stands: done (the flag) or not -/
def CopyAt (B E r : Nat) (X R : List UInt8) (W3 : World) (L : Array Bool) (W' : World) : Prop :=
  Blk W' B 129 (ida X) ∧ Blk W' E 129 (ida (if L.getD 4 false then R ++ Sha.zeros (64 - r) else z64b)) ∧ Fr (fun k => B ≤ k) W3 W'
theorem CopyAt.list {B E r : Nat} {X R : List UInt8} {W3 : World} {L : Array Bool} {W' : World} (h : CopyAt B E r X R W3 L W') (i : Nat) (hi : i ≠ 4) : CopyAt B E r X R W3 (L.setIfInBounds i true) W' :=
  ⟨h.1, by rw [getD_set_ne false hi]; exact h.2.1, h.2.2⟩
theorem run_sliceB (w : World) (g r : Nat) (hr : r ≤ 64) : (Instr.sliceAt 129 (.pointer (some ⟨g, 0, none⟩)) none (some (.int .i64 (r : Int))) none).run Try.prog w = .ok (.slice (some ⟨g, 0, none⟩) r 64) w := by
  have ha : Try.prog.arrayLen 129 = 64 := by kernel_rfl
  have he : Try.prog.elem 129 = 5 := by kernel_rfl
  have hsz : (sizeOf 5).run Try.prog w = .ok 1 w := by kernel_rfl
  rw [run_sliceAt_array_h w _ _ (by rw [ha, he]; exact underB) .i64 (r : Int) (by omega) (by rw [ha]; omega), he, hsz, ha]
  simp [slicedAt, add_none]
theorem drop_zeros (a b : Nat) : (List.replicate a (0 : UInt8)).drop b = Sha.zeros (a - b) := by simp [Sha.zeros]
theorem set_128 (l : List UInt8) (r : Nat) (hl : l.length = r) (hr : r < 64) : (l ++ Sha.zeros (64 - r)).set r 128 = l ++ 128 :: Sha.zeros (63 - r) := by
  obtain ⟨k, hk⟩ : ∃ k, 64 - r = k + 1 := ⟨63 - r, by omega⟩
  have h2 : 63 - r = k := by omega
  rw [List.set_append_right _ _ (by omega), hl, Nat.sub_self, hk, h2]
  rfl
/-- how many bits there were, as far as it is written: i bytes of it -/
def lenAt (Z : List UInt8) (m i : Nat) : List UInt8 := Z.take (64 - i) ++ (Sha.lenB m).drop (8 - i)
theorem lenAt_zero (Z : List UInt8) (m : Nat) (hZ : Z.length = 64) : lenAt Z m 0 = Z := by
  unfold lenAt
  rw [List.take_of_length_le (by omega), List.drop_of_length_le (by rw [Sha.lenB_length]; omega), List.append_nil]
theorem lenAt_length (Z : List UInt8) (m i : Nat) (hZ : Z.length = 64) (hi : i ≤ 8) : (lenAt Z m i).length = 64 := by
  unfold lenAt
  rw [List.length_append, List.length_take, List.length_drop, Sha.lenB_length]
  omega
def lenByte (m i : Nat) : UInt8 := UInt8.ofNat (m * 8 / 2 ^ (8 * i) % 256)
theorem lenAt_set (Z : List UInt8) (m i : Nat) (hZ : Z.length = 64) (hi : i < 8) : (lenAt Z m i).set (63 - i) (lenByte m i) = lenAt Z m (i + 1) := by
  unfold lenAt
  have h1 : (Z.take (64 - i)).length = 64 - i := by simp; omega
  rw [List.set_append_left _ _ (by omega)]
  have e1 : (Z.take (64 - i)).set (63 - i) (lenByte m i) = Z.take (64 - (i + 1)) ++ [lenByte m i] := by
    apply List.ext_getElem?
    intro j
    rw [List.getElem?_set, List.getElem?_append]
    by_cases hj : 63 - i = j
    · subst hj
      rw [if_pos rfl, if_pos (by omega), if_neg (by simp; omega)]
      have : 63 - i - (Z.take (64 - (i + 1))).length = 0 := by simp; omega
      rw [this]
      rfl
    · rw [if_neg hj]
      by_cases hj2 : j < 63 - i
      · rw [if_pos (by simp; omega), List.getElem?_take_of_lt (by omega), List.getElem?_take_of_lt (by omega)]
      · rw [if_neg (by simp; omega), List.getElem?_eq_none (by simp; omega), List.getElem?_eq_none (by simp; omega)]
  have e2 : (Sha.lenB m).drop (8 - (i + 1)) = lenByte m i :: (Sha.lenB m).drop (8 - i) := by
    have h8 : 8 - (i + 1) < (Sha.lenB m).length := by rw [Sha.lenB_length]; omega
    rw [List.drop_eq_getElem_cons h8, show 8 - (i + 1) + 1 = 8 - i by omega]
    congr 1
    simp [Sha.lenB, lenByte]
    congr 5
    omega
  rw [e1, e2, List.append_assoc]
  rfl
theorem lenAt_done (Z : List UInt8) (m : Nat) : lenAt Z m 8 = Z.take 56 ++ Sha.lenB m := rfl
/-- the bytes of the length as the walk reckons them -/
theorem lenByte_v (M k d : Nat) (hd : d = 2 ^ (8 * k)) (h : M < 1152921504606846976) : Value.int .u8 (IntKind.u64.wrap (IntKind.u64.wrap (M : Int) * 8) / (d : Int) % 256) = bv (lenByte M k) := by
  subst hd
  have e1 : IntKind.u64.wrap (M : Int) = (M : Int) := by rw [IntKind.wrap_u64]; omega
  have e2 : IntKind.u64.wrap ((M : Int) * 8) = ((M * 8 : Nat) : Int) := by rw [IntKind.wrap_u64]; omega
  rw [e1, e2]
  unfold bv lenByte
  congr 1
  rw [UInt8.toNat_ofNat', Nat.mod_mod_of_dvd _ (by decide)]
  omega
theorem lb0 (M : Nat) (h : M < 1152921504606846976) : Value.int .u8 (IntKind.u64.wrap (IntKind.u64.wrap (M : Int) * 8) % 256) = bv (lenByte M 0) := by
  have := lenByte_v M 0 1 (by decide) h
  rw [show ((1 : Nat) : Int) = 1 from rfl, Int.ediv_one] at this
  exact this
theorem lb1 (M : Nat) (h : M < 1152921504606846976) : Value.int .u8 (IntKind.u64.wrap (IntKind.u64.wrap (M : Int) * 8) / 256 % 256) = bv (lenByte M 1) := by
  have := lenByte_v M 1 256 (by decide) h
  exact this
theorem lb2 (M : Nat) (h : M < 1152921504606846976) : Value.int .u8 (IntKind.u64.wrap (IntKind.u64.wrap (M : Int) * 8) / 65536 % 256) = bv (lenByte M 2) := by
  have := lenByte_v M 2 65536 (by decide) h
  exact this
theorem lb3 (M : Nat) (h : M < 1152921504606846976) : Value.int .u8 (IntKind.u64.wrap (IntKind.u64.wrap (M : Int) * 8) / 16777216 % 256) = bv (lenByte M 3) := by
  have := lenByte_v M 3 16777216 (by decide) h
  exact this
theorem lb4 (M : Nat) (h : M < 1152921504606846976) : Value.int .u8 (IntKind.u64.wrap (IntKind.u64.wrap (M : Int) * 8) / 4294967296 % 256) = bv (lenByte M 4) := by
  have := lenByte_v M 4 4294967296 (by decide) h
  exact this
theorem lb5 (M : Nat) (h : M < 1152921504606846976) : Value.int .u8 (IntKind.u64.wrap (IntKind.u64.wrap (M : Int) * 8) / 1099511627776 % 256) = bv (lenByte M 5) := by
  have := lenByte_v M 5 1099511627776 (by decide) h
  exact this
theorem lb6 (M : Nat) (h : M < 1152921504606846976) : Value.int .u8 (IntKind.u64.wrap (IntKind.u64.wrap (M : Int) * 8) / 281474976710656 % 256) = bv (lenByte M 6) := by
  have := lenByte_v M 6 281474976710656 (by decide) h
  exact this
theorem lb7 (M : Nat) (h : M < 1152921504606846976) : Value.int .u8 (IntKind.u64.wrap (IntKind.u64.wrap (M : Int) * 8) / 72057594037927936 % 256) = bv (lenByte M 7) := by
  have := lenByte_v M 7 72057594037927936 (by decide) h
  exact this
theorem tail_one (msg : List UInt8) (h : msg.length % 64 < 56) : (Sha.blocks msg)[msg.length / 64]? = some ((Sha.rest msg ++ 128 :: Sha.zeros (63 - msg.length % 64)).take 56 ++ Sha.lenB msg.length) ∧ (Sha.blocks msg).length = msg.length / 64 + 1 := by
  have hr := Sha.rest_length msg
  have e : (Sha.rest msg ++ 128 :: Sha.zeros (63 - msg.length % 64)).take 56 = Sha.rest msg ++ 128 :: Sha.zeros (55 - msg.length % 64) := by
    obtain ⟨k, hk⟩ : ∃ k, 56 - msg.length % 64 = k + 1 := ⟨55 - msg.length % 64, by omega⟩
    rw [List.take_append, List.take_of_length_le (by omega), hr, hk, List.take_succ_cons]
    congr 2
    simp [Sha.zeros]
    omega
  rw [e]
  unfold Sha.blocks Sha.tail
  rw [hr, if_pos h]
  constructor
  · rw [List.getElem?_append_right (by simp)]
    simp
  · simp
theorem tail_two (msg : List UInt8) (h : ¬ msg.length % 64 < 56) : (Sha.blocks msg)[msg.length / 64]? = some (Sha.rest msg ++ 128 :: Sha.zeros (63 - msg.length % 64)) ∧ (Sha.blocks msg)[msg.length / 64 + 1]? = some (z64b.take 56 ++ Sha.lenB msg.length) ∧ (Sha.blocks msg).length = msg.length / 64 + 1 + 1 := by
  have hr := Sha.rest_length msg
  unfold Sha.blocks Sha.tail
  rw [hr, if_neg h]
  refine ⟨?_, ?_, ?_⟩
  · rw [List.getElem?_append_right (by simp)]
    simp
  · rw [List.getElem?_append_right (by simp)]
    simp
    rfl
  · simp
theorem rest_take (msg X : List UInt8) (h : X.take (msg.length % 64) = (msg.drop (64 * (msg.length / 64))).take (msg.length % 64)) : X.take (msg.length % 64) = Sha.rest msg := by
  rw [h, List.take_of_length_le]
  · rfl
  · rw [List.length_drop]
    omega
attribute [local go_sem] Oper.semAt_some
set_option maxHeartbeats 4000000 in
set_option maxRecDepth 100000 in
theorem blocks_any (F : Fence) (n : Nat) (h64 : F.fn 69) (hF : ∀ f, F.fn f) (hdp : F.depth = none) (hro : F.round = none) (hn : 1 ≤ n) (box cap : Nat) (A : Option Addr) (ps : List Part) (hlen : (allB ps).length < 1152921504606846976) (hps : ps.length < 9223372036854775807) :
    SeqAny F n Try.prog 69 #[.pointer (some ⟨box, 0, none⟩)] (fun b => #[.agg (ida b)]) (Sha.blocks (allB ps))
      (fun T W => W.cell? ⟨box, 0, none⟩ = some (.slice A ps.length cap) ∧ PartsAt W A ps ∧ Apart T A ps ∧ ¬ T box) := by
  rintro l T J W ⟨hbox, hP, hA, hTb⟩ hT hJ hY h0
  have HF := Lib.hid hF
  clear hF
  refine callsIn_of_wp Try.func69 rfl h64 ?_ hro
  simp only [Try.ntmps69, List.size_toArray, List.length_cons, List.length_nil, Nat.reduceAdd, Nat.reduceSub, Array.replicate_succ, Array.replicate_zero, List.push_toArray, List.append_toArray, List.nil_append, List.cons_append]
  obtain ⟨i, hi, hz0, hz1, hz2⟩ := info_parts infoB
  refine wpIn_seq_k fun K hK => wpIn_region_lit ?_
  refine wpListIn_of_value rfl (fun _ h => by cases h) (fun _ h => by cases h) (exec_alloc rfl hi hz0) ?_
  refine wpListIn_nil (hK _ _ ?_)
  clear hK
  change Code.wpIn _ _ _ _ _ _ (W.alloc (.cells (ida z64b) 129))
  have M0 : Mid W T J (allB ps) 0 (W.alloc (.cells (ida z64b) 129)) :=
    ⟨⟨z64b, rfl, Blk.new _ _ _, rfl⟩, hJ 0 _ _ h0 (Fr.alloc _ _ _), Fr.alloc _ _ _⟩
  generalize W.alloc (.cells (ida z64b) 129) = W2 at *
  have hAp := hA.or hP.apart
  have hbs : box < W.heap.size := World.block_lt_of_cell? _ _ hbox
  have hbx : ∀ {V : World}, Fr (fun k => T k ∨ W.heap.size ≤ k) W V → V.cell? ⟨box, 0, none⟩ = some (.slice A ps.length cap) := fun f =>
    (f.cell (p := ⟨box, 0, none⟩) hbs (fun h => h.elim hTb (fun h => absurd hbs (Nat.not_lt.2 h)))).trans hbox
  have hb2 := hbx M0.fr
  conv => arg 6; simp [Act.put, go_sem]
  gi_wp2_with fail
  gi_loopw [4, 13] (fun nn i V => ∃ k m : Nat, nn = .int .i64 m ∧ i = .int .i64 k ∧ k ≤ ps.length ∧ m = (allB (ps.take k)).length ∧ Mid W T J (allB ps) m V) (fun _ i _ => ps.length - (intOf i).toNat)
  case atStart => exact ⟨0, 0, rfl, rfl, Nat.zero_le _, rfl, M0⟩
  case round =>
    obtain ⟨k, m, rfl, rfl, hk, hm, M⟩ := hrel
    clear M0 hb2
    by_cases hlt : k < ps.length
    · have hPk := hP.fr M.fr hAp
      obtain ⟨ab0, ao, rfl, _, hac⟩ := hPk.row (by simp; omega)
      have hck := hac k (by simpa using hlt)
      have e1 : (ps.map Part.v)[k]'(by simpa using hlt) = .slice ps[k].a ps[k].b.length ps[k].c := by rw [List.getElem_map]; rfl
      rw [e1] at hck
      clear hac e1 hPk
      have hm1 : (allB (ps.take (k + 1))).length = m + ps[k].b.length := by rw [allB_take_succ ps k hlt, List.length_append, hm]
      have hget : ∀ j, (hj : j < ps[k].b.length) → (allB ps)[m + j]? = some ps[k].b[j] := fun j hj => hm ▸ allB_get ps k j hlt hj
      have hrd := hP.each ps[k] (List.getElem_mem hlt)
      have hap := hAp.each ps[k] (List.getElem_mem hlt)
      have hml : m + ps[k].b.length ≤ (allB ps).length := by
        have : (allB (ps.take (k + 1))).length ≤ (allB ps).length := by
          have h2 : allB ps = allB (ps.take (k + 1)) ++ allB (ps.drop (k + 1)) := by
            unfold allB
            rw [← List.flatMap_append, List.take_append_drop]
          rw [h2, List.length_append]
          omega
        omega
      generalize ps[k] = p at *
      obtain ⟨pa, pc, bs⟩ := p
      dsimp only at *
      gi_wp2_with fail
      gi_loopw [4, 19] (fun nn i V => ∃ j : Nat, nn = .int .i64 ((m + j : Nat) : Int) ∧ i = .int .i64 j ∧ j ≤ bs.length ∧ Mid W T J (allB ps) (m + j) V) (fun _ i _ => bs.length - (intOf i).toNat)
      case atStart => exact ⟨0, rfl, rfl, Nat.zero_le _, M⟩
      case round =>
        obtain ⟨j, rfl, rfl, hj, M⟩ := hrel
        by_cases hjl : j < bs.length
        · obtain ⟨pb, po, rfl, _, hpc⟩ := (hrd.fr' M.fr (fun h0 => hap (by simpa using h0))) (by simp; omega)
          have hcj : wr.cell? ⟨pb, po + j, none⟩ = some (.int .u8 ((bs[j]).toNat : Int)) := by
            have := hpc j (by simpa using hjl)
            rw [List.getElem_map] at this
            exact this
          have hx := hget j hjl
          clear hpc hget hrd hap
          generalize bs[j] = x at *
          obtain ⟨X, hX, hB, hXt⟩ := M.buf
          have hMj := M.j
          have hMf := M.fr
          have hmb : m + j < 1152921504606846976 := by omega
          clear M
          generalize hm' : m + j = m' at *
          have hst := ida_set hB (m' % 64) x
          have hft := hMf.then_set (p := ⟨W.heap.size, m' % 64, none⟩) (.inr (Nat.le_refl _)) (bv x)
          have hJt := hJ _ _ _ hMj (Fr.setCell (S := fun k => W.heap.size ≤ k) _ (p := ⟨W.heap.size, m' % 64, none⟩) (Nat.le_refl _) (bv x))
          have hcb : wr.cell? ⟨W.heap.size, m' % 64, none⟩ = some (.int .u8 ((X.getD (m' % 64) 0).toNat : Int)) := ida_cell hB (by rw [hX]; exact Nat.mod_lt _ (by decide))
          have hfb := hB.frozen (m' % 64)
          by_cases hfull : (m' + 1) % 64 = 0
          · have hXf := mid_full X (allB ps) m' x hX hx hXt hfull
            have hq : (((m' : Int) + 1) % 64 == 0) = true := by
              rw [beq_iff_eq]
              omega
            rw [hXf] at hst
            have hst' : Blk (wr.setCell ⟨W.heap.size, m' % 64, none⟩ (.int .u8 (x.toNat : Int))) W.heap.size 129 (ida (Sha.full (allB ps) (m' / 64))) := hst
            have hls : (ida (Sha.full (allB ps) (m' / 64))).size = 64 := by rw [ida_size]; exact Sha.full_length _ _ (by omega)
            obtain ⟨fn, tmps, assign, body, hy, hR⟩ := hY (m' / 64) _ _ (blocks_full (allB ps) (m' / 64) (by omega)) hJt (by have := hft.size; exact this)
            have hy' : (Instr.yield l #[.agg (ida (Sha.full (allB ps) (m' / 64)))]).run Try.prog (wr.setCell ⟨W.heap.size, m' % 64, none⟩ (.int .u8 (x.toNat : Int))) = .ok (.round l fn tmps assign body) (wr.setCell ⟨W.heap.size, m' % 64, none⟩ (.int .u8 (x.toNat : Int))) := hy
            have hR' : RoundIn F (n - 1) Try.prog l fn tmps assign body (wr.setCell ⟨W.heap.size, m' % 64, none⟩ (.int .u8 (x.toNat : Int))) fun e W' => e = Ending.returned (Value.bool true) ∧ J (m' / 64 + 1) W' ∧ Fr T (wr.setCell ⟨W.heap.size, m' % 64, none⟩ (.int .u8 (x.toNat : Int))) W' := hR
            have hft' : Fr (fun k => T k ∨ W.heap.size ≤ k) W (wr.setCell ⟨W.heap.size, m' % 64, none⟩ (.int .u8 (x.toNat : Int))) := hft
            clear hst hJt hB hMf hMj hXt hy hR hft
            gi_wp2_with (refine wpListIn_of_value_g (by simp [go_sem, Region.wanted, yielded]) (fun _ h => by cases h) (fun _ h => by cases h) (exec_load (X := ida (Sha.full (allB ps) (m' / 64))) (g := W.heap.size) (off := 0) rfl rfl underB rfl hi (hz1.trans hls.symm) (fun j hj => by rw [Nat.zero_add, hst'.cell, Array.getElem?_eq_getElem hj])) ?_)
            refine hR'.mono ?_
            clear hy' hR'
            rintro e W3 ⟨rfl, hJ3, hf3⟩
            gi_wp2
            have e1 : (m' + 1) / 64 = m' / 64 + 1 := by omega
            refine ⟨⟨j + 1, ?_, ?_, by omega, ?_⟩, ?_⟩
            · rw [← Nat.add_assoc, hm']
              go_num
            · go_num
            · rw [← Nat.add_assoc, hm']
              exact ⟨⟨_, Sha.full_length _ _ (by omega), hst'.fr hf3 (fun h => Nat.lt_irrefl _ (hT _ h)), by rw [hfull]; rfl⟩, by rw [e1]; exact hJ3, hft'.trans hf3 (fun _ h => .inl (.inl h))⟩
            · change bs.length - (intOf (.int .i64 ((j : Int) + 1))).toNat < bs.length - (intOf (.int .i64 j)).toNat
              simp [intOf]
              omega
          · have e1 : (m' + 1) / 64 = m' / 64 := by omega
            have e2 : (m' + 1) % 64 = m' % 64 + 1 := by omega
            have M1 : ∀ V, V = wr.setCell ⟨W.heap.size, m' % 64, none⟩ (bv x) → Mid W T J (allB ps) (m' + 1) V := fun V hV => by
              subst hV
              exact ⟨⟨_, by rw [List.length_set, hX], hst, by rw [e1, e2]; exact mid_set X _ m' x hX hx hXt⟩, by rw [e1]; exact hJt, hft⟩
            have hq : (((m' : Int) + 1) % 64 == 0) = false := by
              rw [beq_eq_false_iff_ne]
              omega
            clear hst hft hJt hB hMf hMj hXt e1 e2
            gi_wp2_with fail
            refine ⟨fun _ h => (by cases h), ?_⟩
            gi_wp2_with fail
            refine ⟨⟨j + 1, ?_, ?_, by omega, ?_⟩, ?_⟩
            · rw [← Nat.add_assoc, hm']
              go_num
            · go_num
            · rw [← Nat.add_assoc, hm']
              exact M1 _ rfl
            · change bs.length - (intOf (.int .i64 ((j : Int) + 1))).toNat < bs.length - (intOf (.int .i64 j)).toNat
              simp [intOf]
              omega
        · obtain rfl : j = bs.length := by omega
          have d1 : decide ((bs.length : Int) < (bs.length : Int)) = false := by simp
          have HM := Lib.hid M
          clear M hget hrd hap
          gi_wp2_with fail
          go_roundw
          case rel => exact ⟨k + 1, m + bs.length, rfl, by go_num, by omega, hm1.symm, HM.out⟩
          case measure => simp [intOf]; omega
    · obtain rfl : k = ps.length := by omega
      have d1 : decide ((ps.length : Int) < (ps.length : Int)) = false := by simp
      rw [List.take_length] at hm
      have HM := Lib.hid M
      clear M
      gi_wp2_with (first
        | (refine x_value_in (x_build0 (T := 129) rfl hi hz0 underB (s := 1) (fun w => by kernel_rfl)) (fun _ h => by cases h) (fun _ h => by cases h) (by simp [go_sem, Region.wanted, yielded]) ?_)
        | (refine x_value_in (x_alloc (T := 129) rfl hi hz0) (fun _ h => by cases h) (fun _ h => by cases h) (by simp [go_sem, Region.wanted, yielded]) ?_)
        | (refine x_skip_in (exec_store_new (T := 129) (X := ida z64b) rfl rfl rfl rfl hi (hz1.trans rfl) (ida_one z64b) rfl) (fun _ h => by cases h) (fun _ h => by cases h) rfl ?_))
      clear hlt d1
      subst hm
      generalize hmsg : allB ps = msg at *
      have HLEN := Lib.hid hlen
      clear hbx hP hA hAp hlen hps hTb hbox hbs
      obtain ⟨X, hX, hB, hXt⟩ := HM.out.buf
      have hJm := HM.out.j
      have hMf := HM.out.fr
      clear HM
      have hrest := rest_take msg X hXt
      have hrl := Sha.rest_length msg
      have hEW : W.heap.size < wr.heap.size := hB.lt
      have hBe : Blk (wr.alloc (.cells (ida z64b) 129)) wr.heap.size 129 (ida z64b) := Blk.new _ _ _
      have hBx : Blk (wr.alloc (.cells (ida z64b) 129)) W.heap.size 129 (ida X) := hB.alloc _
      have hFa : Fr (fun k => W.heap.size ≤ k) wr (wr.alloc (.cells (ida z64b) 129)) := Fr.alloc _ _ _
      generalize wr.alloc (.cells (ida z64b) 129) = W3 at *
      generalize wr.heap.size = E at *
      have hq64 : msg.length % 64 < 64 := Nat.mod_lt _ (by decide)
      have hlm : msg.length = 64 * (msg.length / 64) + msg.length % 64 := by omega
      generalize hrr : msg.length % 64 = r at *
      conv => arg 6; simp [Act.put, go_sem]
      have hmr : ((msg.length : Int) % 64) = (r : Int) := by omega
      have HLM := Lib.hid hlm
      have HRR := Lib.hid hrr
      have HRL := Lib.hid hrl
      have HRE := Lib.hid hrest
      have HX := Lib.hid hX
      have HMSG := Lib.hid hmsg
      clear hlm hrr hrl hrest hX hmsg hXt
      refine wpIn_region_all HF.out hdp (by kernel_rfl) (by kernel_rfl)
        [.slice (some ⟨E, 0, none⟩) 64 64, .int .i64 msg.length, .int .i64 r, .slice (some ⟨W.heap.size, 0, none⟩) r 64, .int .i64 r]
        (by kernel_rfl) (CopyAt W.heap.size E r X (Sha.rest msg) W3) _ (by simp [putAll, Act.put]; rfl) ⟨hBx, hBe, Fr.drew _ W3⟩ ?hops ?after
      case hops =>
        have htm : (msg.length : Int).tmod 64 = (r : Int) := by rw [Int.tmod_eq_emod_of_nonneg (by omega)]; exact hmr
        refine ⟨?_, ?_, ?_, ?_, ?_, trivial⟩
        all_goals
          rintro L W' hs hd hn HS
          refine held_plain rfl ?_
        · have HS2 := HS.list 0 (by decide)
          unfold opHeld
          go_simp
        · have HS2 := HS.list 1 (by decide)
          unfold opHeld
          go_simp
        · have HS2 := HS.list 2 (by decide)
          unfold opHeld
          go_simp
        · have HS2 := HS.list 3 (by decide)
          have hsl := run_sliceB W' W.heap.size r (by omega)
          unfold opHeld
          go_simp
        · obtain ⟨hx, hy, hf⟩ := HS
          have h4 : L.getD 4 false = false := by
            have := hn
            simp only [Nat.zero_add] at this
            rw [Array.getD_eq_getD_getElem?] at this ⊢
            rw [Array.getElem?_eq_getElem (by rw [hs]; decide)] at this ⊢
            exact this
          rw [h4] at hy
          refine held_value (exec_copyB (g := E) (g' := W.heap.size) (r := r) (X := X) (Y := z64b) rfl rfl rfl hy rfl hx (by rw [HX.out]; omega) (by omega)) ?_
          have hne : W.heap.size ≠ E := by omega
          refine ⟨hx.fr ((Fr.refl (fun k => k = E) W').setRow (g := E) rfl _) hne, ?_, hf.setRow (g := E) (by omega) _⟩
          have h5 : (L.setIfInBounds 4 true).getD 4 false = true := by
            rw [Array.getD_eq_getD_getElem?, Array.getElem?_setIfInBounds_self_of_lt (by rw [hs]; decide)]
            rfl
          have e3 : z64b.drop r = Sha.zeros (64 - r) := drop_zeros 64 r
          rw [h5, if_pos rfl, ← HRE.out, ← e3]
          exact hy.setRow _
      case after =>
        rintro L W4 hs hal ⟨hx, hy, hf⟩
        have h4 : L.getD 4 false = true := by
          have := hal 4
          rw [Array.getD_eq_getD_getElem?] at this ⊢
          rw [Array.getElem?_eq_getElem (by rw [hs]; decide)] at this ⊢
          exact this
        rw [h4, if_pos rfl] at hy
        have hf4 : Fr (fun k => W.heap.size ≤ k) wr W4 := hFa.trans hf (fun _ h => .inl h)
        have hJ4 := hJ _ _ _ hJm hf4
        have hM4 : Fr (fun k => T k ∨ W.heap.size ≤ k) W W4 := hMf.trans hf4 (fun _ h => .inl (.inr h))
        clear hx hf hf4 hBe hBx hFa hJm hMf hB hal hs h4 HX
        have hy5 := ida_set hy r 128
        rw [set_128 _ r HRL.out hq64] at hy5
        have hc4 : W4.cell? ⟨E, r, none⟩ = some (.int .u8 (((Sha.rest msg ++ Sha.zeros (64 - r)).getD r 0).toNat : Int)) := ida_cell hy (by rw [List.length_append, HRL.out]; simp [Sha.zeros]; omega)
        have hf4 := hy.frozen r
        have hJ5 := hJ _ _ _ hJ4 (Fr.setCell (S := fun k => W.heap.size ≤ k) W4 (p := ⟨E, r, none⟩) (Nat.le_of_lt hEW) (bv 128))
        have hM5 := hM4.then_set (p := ⟨E, r, none⟩) (.inr (Nat.le_of_lt hEW)) (bv 128)
        clear hy hJ4 hM4
        have htm : (msg.length : Int).tmod 64 = (r : Int) := by rw [Int.tmod_eq_emod_of_nonneg (by omega)]; exact hmr
        by_cases h56 : r < 56
        · have d56 : decide ((56 : Int) ≤ (r : Int)) = false := by rw [decide_eq_false_iff_not]; omega
          gi_wp2_with fail
          obtain ⟨ht0, ht1⟩ := tail_one msg (by rw [HRR.out]; exact h56)
          rw [HRR.out] at ht0
          have hy5' : Blk (W4.setCell ⟨E, r, none⟩ (.int .u8 128)) E 129 (ida (Sha.rest msg ++ 128 :: Sha.zeros (63 - r))) := hy5
          have hJ5' : J (msg.length / 64) (W4.setCell ⟨E, r, none⟩ (.int .u8 128)) := hJ5
          have hM5' : Fr (fun k => T k ∨ W.heap.size ≤ k) W (W4.setCell ⟨E, r, none⟩ (.int .u8 128)) := hM5
          have hZl : (Sha.rest msg ++ 128 :: Sha.zeros (63 - r)).length = 64 := by rw [List.length_append, HRL.out]; simp [Sha.zeros]; omega
          clear hy5 hJ5 hM5 hf4 hc4
          generalize Sha.rest msg ++ 128 :: Sha.zeros (63 - r) = Z at *
          generalize msg.length / 64 = q at *
          generalize W4.setCell ⟨E, r, none⟩ (.int .u8 128) = W5 at *
          have HQ := Lib.hid ht0
          have HQL := Lib.hid ht1
          have HZL := Lib.hid hZl
          clear ht0 ht1 hZl d56 HRL HRE HRR htm hmr h56
          have hL0 : Blk W5 E 129 (ida (lenAt Z msg.length 0)) := by rw [lenAt_zero Z _ HZL.out]; exact hy5'
          clear hy5'
          gi_loopw [57] (fun i V => ∃ k : Nat, i = .int .i64 k ∧ k ≤ 8 ∧ Blk V E 129 (ida (lenAt Z msg.length k)) ∧ J q V ∧ Fr (fun k => T k ∨ W.heap.size ≤ k) W V) (fun i _ => 8 - (intOf i).toNat)
          case atStart => exact ⟨0, rfl, by omega, hL0, hJ5', hM5'⟩
          case round =>
            obtain ⟨k, rfl, hk, hL, hJk, hMk⟩ := hrel
            clear hL0 hJ5' hM5'
            by_cases h8 : k < 8
            · have hL2 := ida_set hL (63 - k) (lenByte msg.length k)
              rw [lenAt_set Z _ k HZL.out h8] at hL2
              have hc := ida_cell hL (j := 63 - k) (by rw [lenAt_length Z _ k HZL.out hk]; omega)
              have hf := hL.frozen (63 - k)
              have hJ2 := hJ _ _ _ hJk (Fr.setCell (S := fun k => W.heap.size ≤ k) wr (p := ⟨E, 63 - k, none⟩) (Nat.le_of_lt hEW) (bv (lenByte msg.length k)))
              have hM2 := hMk.then_set (p := ⟨E, 63 - k, none⟩) (.inr (Nat.le_of_lt hEW)) (bv (lenByte msg.length k))
              have HN := Lib.hid (show Blk (wr.setCell ⟨E, 63 - k, none⟩ (bv (lenByte msg.length k))) E 129 (ida (lenAt Z msg.length (k + 1))) ∧ J q (wr.setCell ⟨E, 63 - k, none⟩ (bv (lenByte msg.length k))) ∧ Fr (fun k => T k ∨ W.heap.size ≤ k) W (wr.setCell ⟨E, 63 - k, none⟩ (bv (lenByte msg.length k))) from ⟨hL2, hJ2, hM2⟩)
              clear hL2 hJ2 hM2 hL hJk hMk hk
              have hMb := HLEN.out
              generalize msg.length = M at *
              have HMB := Lib.hid hMb
              clear hMb
              obtain rfl | rfl | rfl | rfl | rfl | rfl | rfl | rfl : k = 0 ∨ k = 1 ∨ k = 2 ∨ k = 3 ∨ k = 4 ∨ k = 5 ∨ k = 6 ∨ k = 7 := by omega
              all_goals
                clear h8
                gi_wp2_with fail
                refine ⟨⟨_, by rfl, ?_, ?_⟩, ?_⟩
                rotate_left
                · first | rw [lb0 _ HMB.out] | rw [lb1 _ HMB.out] | rw [lb2 _ HMB.out] | rw [lb3 _ HMB.out] | rw [lb4 _ HMB.out] | rw [lb5 _ HMB.out] | rw [lb6 _ HMB.out] | rw [lb7 _ HMB.out]
                  exact HN.out
                · simp [intOf]
                · decide
            · obtain rfl : k = 8 := by omega
              clear h8 hk
              rw [lenAt_done] at hL
              have hql := HQ.out
              have hsz := hMk.size
              obtain ⟨fn, tmps, assign, body, hy, hR⟩ := hY _ _ _ hql hJk hsz
              have hlz : (ida (Z.take 56 ++ Sha.lenB msg.length)).size = 64 := by rw [ida_size, List.length_append, Sha.lenB_length, List.length_take, HZL.out]; rfl
              have HLZ := Lib.hid hlz
              clear hlz hql hJk hsz
              generalize Z.take 56 ++ Sha.lenB msg.length = Y at *
              gi_wp2_with (refine x_value_in (exec_load (X := ida Y) (g := E) (off := 0) rfl rfl underB rfl hi (hz1.trans HLZ.out.symm) hL.at') (fun _ h => by cases h) (fun _ h => by cases h) (by simp [go_sem, Region.wanted]) ?_)
              refine hR.mono ?_
              clear hy hR
              rintro e W7 ⟨rfl, hJ7, hf7⟩
              gi_wp2_with fail
              go_end0
              refine ⟨⟨_, rfl⟩, ?_⟩
              rw [HMSG.out, HQL.out]
              exact hJ7
        · have d56 : decide ((56 : Int) ≤ (r : Int)) = true := by rw [decide_eq_true_iff]; omega
          have hls : (ida (Sha.rest msg ++ 128 :: Sha.zeros (63 - r))).size = 64 := by rw [ida_size, List.length_append, HRL.out]; simp [Sha.zeros]; omega
          obtain ⟨ht0, ht1, ht2⟩ := tail_two msg (by rw [HRR.out]; exact h56)
          rw [HRR.out] at ht0
          obtain ⟨fn, tmps, assign, body, hy, hR⟩ := hY _ _ _ ht0 hJ5 (by have := hM5.size; exact this)
          have hy' : (Instr.yield l #[.agg (ida (Sha.rest msg ++ 128 :: Sha.zeros (63 - r)))]).run Try.prog (W4.setCell ⟨E, r, none⟩ (.int .u8 128)) = .ok (.round l fn tmps assign body) (W4.setCell ⟨E, r, none⟩ (.int .u8 128)) := hy
          have hR' : RoundIn F (n - 1) Try.prog l fn tmps assign body (W4.setCell ⟨E, r, none⟩ (.int .u8 128)) fun e W' => e = Ending.returned (Value.bool true) ∧ J (msg.length / 64 + 1) W' ∧ Fr T (W4.setCell ⟨E, r, none⟩ (.int .u8 128)) W' := hR
          have hy5' : Blk (W4.setCell ⟨E, r, none⟩ (.int .u8 128)) E 129 (ida (Sha.rest msg ++ 128 :: Sha.zeros (63 - r))) := hy5
          have HT1 := Lib.hid ht1
          have HT2 := Lib.hid ht2
          have HM5 := Lib.hid hM5
          have HLS := Lib.hid hls
          clear ht0 ht1 ht2 hy hR hJ5 hM5 hy5 hls
          gi_wp2_with (refine x_value_in (exec_load (X := ida (Sha.rest msg ++ 128 :: Sha.zeros (63 - r))) (g := E) (off := 0) rfl rfl underB rfl hi (hz1.trans HLS.out.symm) hy5'.at') (fun _ h => by cases h) (fun _ h => by cases h) (by simp [go_sem, Region.wanted]) ?_)
          refine hR'.mono ?_
          clear hy' hR'
          rintro e W6 ⟨rfl, hJ6, hf6⟩
          have hy6 : Blk W6 E 129 (ida (Sha.rest msg ++ 128 :: Sha.zeros (63 - r))) := hy5'.fr hf6 (fun h => by have := hT _ h; omega)
          gi_wp2_with (first
            | (refine x_value_in (x_build0 (T := 129) rfl hi hz0 underB (s := 1) (fun w => by kernel_rfl)) (fun _ h => by cases h) (fun _ h => by cases h) (by simp [go_sem, Region.wanted]) ?_)
            | (refine x_skip_in (exec_store_all (T := 129) (X := ida z64b) (g := E) (cs := ida (Sha.rest msg ++ 128 :: Sha.zeros (63 - r))) rfl rfl rfl hi (hz1.trans rfl) (ida_one z64b) hy6 (HLS.out.trans rfl)) (fun _ h => by cases h) (fun _ h => by cases h) rfl ?_))
          have hy5' := hy6.setRow (ida z64b)
          have hM6 := HM5.out.trans hf6 (fun _ h => .inl (.inl h))
          have hM5' : Fr (fun k => T k ∨ W.heap.size ≤ k) W (W6.setRow E (ida z64b)) := hM6.setRow (.inr (Nat.le_of_lt hEW)) _
          have hJ5' := hJ _ _ _ hJ6 ((Fr.refl (fun k => W.heap.size ≤ k) W6).setRow (g := E) (Nat.le_of_lt hEW) (ida z64b))
          have hZl : z64b.length = 64 := rfl
          have ht0 := HT1.out
          have ht1 := HT2.out
          clear HT1 HT2 hy6 hJ6 hf6 hM6 HM5 HLS hc4 hf4
          generalize z64b = Z at *
          generalize msg.length / 64 + 1 = q at *
          generalize W6.setRow E (ida Z) = W5 at *
          have HQ := Lib.hid ht0
          have HQL := Lib.hid ht1
          have HZL := Lib.hid hZl
          clear ht0 ht1 hZl d56 HRL HRE HRR htm hmr h56
          have hL0 : Blk W5 E 129 (ida (lenAt Z msg.length 0)) := by rw [lenAt_zero Z _ HZL.out]; exact hy5'
          clear hy5'
          gi_loopw [57] (fun i V => ∃ k : Nat, i = .int .i64 k ∧ k ≤ 8 ∧ Blk V E 129 (ida (lenAt Z msg.length k)) ∧ J q V ∧ Fr (fun k => T k ∨ W.heap.size ≤ k) W V) (fun i _ => 8 - (intOf i).toNat)
          case atStart => exact ⟨0, rfl, by omega, hL0, hJ5', hM5'⟩
          case round =>
            obtain ⟨k, rfl, hk, hL, hJk, hMk⟩ := hrel
            clear hL0 hJ5' hM5'
            by_cases h8 : k < 8
            · have hL2 := ida_set hL (63 - k) (lenByte msg.length k)
              rw [lenAt_set Z _ k HZL.out h8] at hL2
              have hc := ida_cell hL (j := 63 - k) (by rw [lenAt_length Z _ k HZL.out hk]; omega)
              have hf := hL.frozen (63 - k)
              have hJ2 := hJ _ _ _ hJk (Fr.setCell (S := fun k => W.heap.size ≤ k) wr (p := ⟨E, 63 - k, none⟩) (Nat.le_of_lt hEW) (bv (lenByte msg.length k)))
              have hM2 := hMk.then_set (p := ⟨E, 63 - k, none⟩) (.inr (Nat.le_of_lt hEW)) (bv (lenByte msg.length k))
              have HN := Lib.hid (show Blk (wr.setCell ⟨E, 63 - k, none⟩ (bv (lenByte msg.length k))) E 129 (ida (lenAt Z msg.length (k + 1))) ∧ J q (wr.setCell ⟨E, 63 - k, none⟩ (bv (lenByte msg.length k))) ∧ Fr (fun k => T k ∨ W.heap.size ≤ k) W (wr.setCell ⟨E, 63 - k, none⟩ (bv (lenByte msg.length k))) from ⟨hL2, hJ2, hM2⟩)
              clear hL2 hJ2 hM2 hL hJk hMk hk
              have hMb := HLEN.out
              generalize msg.length = M at *
              have HMB := Lib.hid hMb
              clear hMb
              obtain rfl | rfl | rfl | rfl | rfl | rfl | rfl | rfl : k = 0 ∨ k = 1 ∨ k = 2 ∨ k = 3 ∨ k = 4 ∨ k = 5 ∨ k = 6 ∨ k = 7 := by omega
              all_goals
                clear h8
                gi_wp2_with fail
                refine ⟨⟨_, by rfl, ?_, ?_⟩, ?_⟩
                rotate_left
                · first | rw [lb0 _ HMB.out] | rw [lb1 _ HMB.out] | rw [lb2 _ HMB.out] | rw [lb3 _ HMB.out] | rw [lb4 _ HMB.out] | rw [lb5 _ HMB.out] | rw [lb6 _ HMB.out] | rw [lb7 _ HMB.out]
                  exact HN.out
                · simp [intOf]
                · decide
            · obtain rfl : k = 8 := by omega
              clear h8 hk
              rw [lenAt_done] at hL
              have hql := HQ.out
              have hsz := hMk.size
              obtain ⟨fn, tmps, assign, body, hy, hR⟩ := hY _ _ _ hql hJk hsz
              have hlz : (ida (Z.take 56 ++ Sha.lenB msg.length)).size = 64 := by rw [ida_size, List.length_append, Sha.lenB_length, List.length_take, HZL.out]; rfl
              have HLZ := Lib.hid hlz
              clear hlz hql hJk hsz
              generalize Z.take 56 ++ Sha.lenB msg.length = Y at *
              gi_wp2_with (refine x_value_in (exec_load (X := ida Y) (g := E) (off := 0) rfl rfl underB rfl hi (hz1.trans HLZ.out.symm) hL.at') (fun _ h => by cases h) (fun _ h => by cases h) (by simp [go_sem, Region.wanted]) ?_)
              refine hR.mono ?_
              clear hy hR
              rintro e W7 ⟨rfl, hJ7, hf7⟩
              gi_wp2_with fail
              go_end0
              refine ⟨⟨_, rfl⟩, ?_⟩
              rw [HMSG.out, HQL.out]
              exact hJ7
end Go.Proofs.Ytefalfalapnllaa
