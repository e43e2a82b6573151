/- The document's sum: its words in memory, a word out of four bytes, and the table of its constants. -/
import Derived.Test.YtefalfalapnllaaR1B
import Derived.Test.YtefalfalapnllaaShaN
namespace Go.Proofs.Ytefalfalapnllaa
open Go.RowKit Go.Shelf
set_option linter.unusedVariables false
/-- words as cells of 64 bits -/
def wl (l : List Sha.W) : Array Value := (l.map fun x => Value.int .u64 x.toNat).toArray
theorem wl_cell {w : World} {g : Nat} {t : TypeId} {l : List Sha.W} (h : Blk w g t (wl l)) {j : Nat} (hj : j < l.length) : w.cell? ⟨g, j, none⟩ = some (.int .u64 ((l.getD j 0).toNat : Int)) := by
  rw [h.cell]
  simp [wl, hj]
theorem wl_set {w : World} {g : Nat} {t : TypeId} {l : List Sha.W} (h : Blk w g t (wl l)) (j : Nat) (x : Sha.W) : Blk (w.setCell ⟨g, j, none⟩ (.int .u64 (x.toNat : Int))) g t (wl (l.set j x)) := by
  have := h.set j (.int .u64 (x.toNat : Int))
  have e : (wl l).setIfInBounds j (.int .u64 (x.toNat : Int)) = wl (l.set j x) := by simp [wl, List.map_set]
  rwa [e] at this
/-- a word out of its first bytes -/
def pw (b : List UInt8) (k : Nat) : Nat → Sha.W
  | 0 => 0
  | c + 1 => BitVec.ofNat 32 ((pw b k c).toNat * 256 + (b.getD (4 * k + c) 0).toNat)
theorem pw_lt (b : List UInt8) (k : Nat) : ∀ c, c ≤ 4 → (pw b k c).toNat < 256 ^ c
  | 0, _ => by simp [pw]
  | c + 1, h => by
    have ih := pw_lt b k c (by omega)
    have hb := UInt8.toNat_lt (b.getD (4 * k + c) 0)
    unfold pw
    rw [BitVec.toNat_ofNat, Nat.pow_succ]
    exact Nat.lt_of_le_of_lt (Nat.mod_le _ _) (by omega)
theorem pw_step (b : List UInt8) (k c : Nat) (h : c < 4) : (pw b k c).toNat * 256 + (b.getD (4 * k + c) 0).toNat = (pw b k (c + 1)).toNat := by
  have ih := pw_lt b k c (by omega)
  have hb := UInt8.toNat_lt (b.getD (4 * k + c) 0)
  have h2 : 256 ^ c * 256 ≤ 4294967296 := by
    rw [← Nat.pow_succ]
    exact Nat.pow_le_pow_right (n := 256) (by decide) (show c + 1 ≤ 4 by omega)
  conv => rhs; unfold pw
  rw [BitVec.toNat_ofNat, Nat.mod_eq_of_lt (by omega)]
theorem pw_all (b : List UInt8) (k : Nat) : pw b k 4 = Sha.wordAt b k := by
  apply BitVec.eq_of_toNat_eq
  unfold Sha.wordAt
  rw [Sha.word_eq, ← pw_step b k 3 (by decide), ← pw_step b k 2 (by decide), ← pw_step b k 1 (by decide), ← pw_step b k 0 (by decide)]
  simp [pw, Sha.nb]
/-- the words of a block, where the word k is being made -/
def making (b : List UInt8) (k c : Nat) : List Sha.W := (made b k).set k (pw b k c)
theorem making_length (b : List UInt8) {k : Nat} (c : Nat) (h : k ≤ 64) : (making b k c).length = 64 := by rw [making, List.length_set, made_length b h]
theorem making_none (b : List UInt8) {k : Nat} (h : k < 64) : making b k 0 = made b k := by
  unfold making made
  have e : pw b k 0 = 0 := rfl
  rw [e, List.set_append_right _ _ (by rw [Sha.sched_length]; omega), Sha.sched_length, Nat.sub_self]
  obtain ⟨m, hm⟩ : ∃ m, 64 - k = m + 1 := ⟨63 - k, by omega⟩
  rw [hm, List.replicate_succ, List.set_cons_zero]
theorem making_get (b : List UInt8) {k : Nat} (c : Nat) (h : k < 64) : (making b k c).getD k 0 = pw b k c := by
  unfold making
  rw [List.getD_eq_getElem?_getD, List.getElem?_set_self (by rw [made_length b (by omega)]; exact h)]
  rfl
theorem making_set (b : List UInt8) (k c : Nat) : (making b k c).set k (pw b k (c + 1)) = making b k (c + 1) := by unfold making; rw [List.set_set]
theorem making_all (b : List UInt8) {k : Nat} (h : k < 16) : making b k 4 = made b (k + 1) := by
  unfold making
  rw [pw_all, made_succ b (by omega), if_pos h]
/-- a state as eight values -/
def wv (v : Sha.St) : List Value := (lst v).map fun x => .int .u64 x.toNat
theorem wv_cell {W : World} {g : Nat} {v : Sha.St} (h : Rd W (some ⟨g, 0, none⟩) (wv v)) (j : Nat) (hj : j < 8) : W.cell? ⟨g, j, none⟩ = some (.int .u64 (((lst v).getD j 0).toNat : Int)) := by
  obtain ⟨b, off, e, hb, hc⟩ := h (by simp [wv, lst])
  cases e
  have := hc j (by simpa [wv, lst] using hj)
  rw [Nat.zero_add] at this
  rw [this]
  simp only [wv, List.getElem_map, Option.some.injEq, Value.int.injEq, true_and]
  rw [List.getD_eq_getElem?_getD, List.getElem?_eq_getElem (by simpa [lst] using hj)]
  rfl
theorem round_lst (v : Sha.St) (k w : Sha.W) : lst (Sha.round v k w) =
    [Sha.add (Sha.add (Sha.add (Sha.add (Sha.add v.h (Sha.xor (Sha.xor (Sha.rotr 6 v.e) (Sha.rotr 11 v.e)) (Sha.rotr 25 v.e))) (Sha.or (Sha.and v.e v.f) (Sha.and (Sha.nt v.e) v.g))) k) w) (Sha.add (Sha.xor (Sha.xor (Sha.rotr 2 v.a) (Sha.rotr 13 v.a)) (Sha.rotr 22 v.a)) (Sha.or (Sha.or (Sha.and v.a v.b) (Sha.and v.a v.c)) (Sha.and v.b v.c))), v.a, v.b, v.c,
      Sha.add v.d (Sha.add (Sha.add (Sha.add (Sha.add v.h (Sha.xor (Sha.xor (Sha.rotr 6 v.e) (Sha.rotr 11 v.e)) (Sha.rotr 25 v.e))) (Sha.or (Sha.and v.e v.f) (Sha.and (Sha.nt v.e) v.g))) k) w), v.e, v.f, v.g] := by
  rw [Sha.choose_eq, Sha.most_eq]
  rfl
theorem quiet_turn {f : FuncId} {args : Array Value} {w : World} {q n : Nat} {v : Value} (h : Calls Try.prog f args (w.drewN (q + n)) fun e w' => e = .returned v ∧ ∃ m, w' = (w.drewN (q + n)).drewN m) :
    Calls Try.prog f args (w.drewN (q + n)) fun e w'' => e = .returned v ∧ ∃ m, w'' = w.drewN (q + m) := h.mono fun _ _ ⟨a, m, b⟩ => ⟨a, n + m, by rw [b]; simp only [World.drewN, Nat.add_assoc]⟩
/-- words behind an empty row -/
theorem append_words (w : World) (hb : Nat) (st : Sha.St) (h : Blk w hb 135 (wl (lst st))) :
    ∃ g c w', (Builtin.append_ #[133, 133] 133 #[.slice (some ⟨w.heap.size, 0, none⟩) 0 0, .slice (some ⟨hb, 0, none⟩) 8 8]).run Try.prog (w.alloc (.cells #[] 135)) = .ok (.slice (some ⟨g, 0, none⟩) 8 c) w' ∧
      Rd w' (some ⟨g, 0, none⟩) (wv st) ∧ w.heap.size ≤ g ∧ New w w' := by
  obtain ⟨ie, hie, he0, he1, he2⟩ := info_parts (show (Try.prog.info? 135).map (fun i => (i.zero, i.size, i.bytes)) = some (some (.int .u64 0), 1, 8) by kernel_rfl)
  have hN := Fr.alloc (fun _ => False) w (.cells #[] 135)
  have hrow : Row (w.alloc (.cells #[] 135)) 135 (some ⟨w.heap.size, 0, none⟩) 0 [] := Row.mk (Blk.new w 135 #[]) (by simp) (by simp [maxLen]) rfl
  have hrd : Rd (w.alloc (.cells #[] 135)) (some ⟨hb, 0, none⟩) (wv st) := fun h0 => ⟨hb, 0, rfl, (h.alloc _).lt, fun j hj => by
    have hj8 : j < 8 := by simpa [wv, lst] using hj
    rw [Nat.zero_add, wl_cell (h.alloc _) (by simpa [lst] using hj8)]
    simp only [wv, List.getElem_map, Option.some.injEq, Value.int.injEq, true_and]
    rw [List.getD_eq_getElem?_getD, List.getElem?_eq_getElem (by simpa [lst] using hj8)]
    rfl⟩
  obtain ⟨A2, c2, w', hrun, hrow2, hfr, hA2⟩ := run_append_rd (P := Try.prog) (w.alloc (.cells #[] 135)) 133 133 135 ie _ 8 Try.underlying133 hie he0 he1 he2 rfl (some ⟨w.heap.size, 0, none⟩) 0 [] hrow
    (some ⟨hb, 0, none⟩) 8 (wv st) hrd (fun u hu => by obtain ⟨b, _, rfl⟩ := List.mem_map.1 hu; rfl) (by simp [wv, lst, maxLen]) (by simp [wv, lst])
  have hr := hrow2.rd
  rw [List.nil_append] at hr
  rcases hrow2.cases with ⟨_, _, h3⟩ | ⟨g, cur, rfl, _⟩
  · simp [wv, lst] at h3
  · refine ⟨g, c2, w', hrun, hr, ?_, hN.trans hfr fun k hk => .inr ?_⟩
    · rcases hA2 g rfl with h1 | h1
      · simp [ab] at h1
        omega
      · rw [World.size_alloc] at h1
        omega
    · simp [ab] at hk
      omega
def z64u : Array Value := (List.replicate 64 (Value.int .u64 0)).toArray
theorem wl_none (b : List UInt8) : wl (made b 0) = z64u := rfl
theorem wl_start : wl (lst Sha.start) = #[.int .u64 1779033703, .int .u64 3144134277, .int .u64 1013904242, .int .u64 2773480762, .int .u64 1359893119, .int .u64 2600822924, .int .u64 528734635, .int .u64 1541459225] := by kernel_rfl
section
open Sha
variable (x : Sha.W)
theorem q_d8 : (x.toNat : Int) / 8 = ((shr 3 x).toNat : Int) := by
  unfold shr
  rw [BitVec.toNat_ushiftRight, Nat.shiftRight_eq_div_pow]
  omega
theorem q_d1024 : (x.toNat : Int) / 1024 = ((shr 10 x).toNat : Int) := by
  unfold shr
  rw [BitVec.toNat_ushiftRight, Nat.shiftRight_eq_div_pow]
  omega
variable (a b c d e f g : Sha.W)
theorem v_s2 : IntKind.u64.wrap ((a.toNat : Int) + (b.toNat : Int)) = (s2 a b : Int) := by rw [IntKind.wrap_u64]; exact q_s2 a b
theorem v_s3 : IntKind.u64.wrap ((s2 a b : Int) + (c.toNat : Int)) = (s3 a b c : Int) := by rw [IntKind.wrap_u64]; exact q_s3 a b c
theorem v_s4 : IntKind.u64.wrap ((s3 a b c : Int) + (d.toNat : Int)) = (s4 a b c d : Int) := by rw [IntKind.wrap_u64]; exact q_s4 a b c d
theorem v_s5 : IntKind.u64.wrap ((s4 a b c d : Int) + (e.toNat : Int)) = (s5 a b c d e : Int) := by rw [IntKind.wrap_u64]; exact q_s5 a b c d e
theorem v_s6 : IntKind.u64.wrap ((f.toNat : Int) + (s5 a b c d e : Int)) = (s6 f (s5 a b c d e) : Int) := by rw [IntKind.wrap_u64]; exact q_s6 a b c d e f
theorem v_s7 : IntKind.u64.wrap ((s5 a b c d e : Int) + (s2 f g : Int)) = (s7 (s5 a b c d e) (s2 f g) : Int) := by rw [IntKind.wrap_u64]; exact q_s7 a b c d e f g
theorem v_not : IntKind.u64.wrap (4294967295 - (a.toNat : Int)) = ((nt a).toNat : Int) := by rw [IntKind.wrap_u64]; exact q_not a
end
set_option maxRecDepth 100000 in
set_option maxHeartbeats 1000000 in
theorem parts_any (w : World) : Calls Try.prog 67 #[] w fun e w' => e = .returned (.slice (some ⟨w.heap.size, 0, none⟩) 64 64) ∧ w' = w.alloc (.cells (wl Sha.kTab) 135) := by
  go_enter Try.func67, Try.ntmps67
  go_upto_region 1 with fail
  refine wp_region_lit ?_
  refine wpList_of_value rfl (v := .slice (some ⟨w.heap.size, 0, none⟩) 64 64) (w' := w.alloc (.cells (wl Sha.kTab) 135)) (by kernel_rfl) ?_
  go_wp2_with fail
  go_ret
  exact ⟨rfl, rfl⟩
end Go.Proofs.Ytefalfalapnllaa
