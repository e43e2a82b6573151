/- Package pack, ahead of Read: what is good in fields that Write made; laws for the values that Read builds; a drawn region whose worlds are known. -/
import Derived.Test.YtefalfalapnllaaFilU
import Derived.Test.YtefalfalapnllaaFilW
namespace Go.Proofs.Ytefalfalapnllaa
open Go.RowKit Go.Shelf
set_option linter.unusedVariables false
/-- a field as Write makes it -/
def goodF (f : UInt8 × List UInt8) : Prop :=
  (∃ i n : Nat, i < 5 ∧ f.1 = UInt8.ofNat (1 + i) ∧ n ≠ 0 ∧ n ≤ 1099511627776 ∧ f.2 = Pk.numB n) ∨ (f.1 = 6 ∧ f.2.length = 32 ∧ f.2 ≠ z32) ∨ (f.1 = 7 ∧ f.2 ≠ [] ∧ f.2.length ≤ 131072) ∨ (f.1 = 8 ∧ ∃ c, 0 < c ∧ c ≤ 64 ∧ f.2.length = 32 * c)
theorem numF_good : ∀ (j : Nat) (ns : List Int), (∀ n ∈ ns, okN n) → j + ns.length ≤ 5 → (∀ f ∈ Pk.numF j ns, goodF f) ∧ (∀ f ∈ Pk.numF j ns, 1 + j ≤ f.1.toNat ∧ f.1.toNat ≤ j + ns.length) ∧ (Pk.numF j ns).Pairwise (fun a b => a.1.toNat < b.1.toNat)
  | _, [], _, _ => by simp [Pk.numF]
  | j, n :: ns, h, hj => by
    simp only [List.length_cons] at hj
    obtain ⟨i1, i2, i3⟩ := numF_good (j + 1) ns (fun m hm => h m (List.mem_cons_of_mem _ hm)) (by omega)
    have hn := h n (List.mem_cons_self ..)
    unfold okN at hn
    have hk : (UInt8.ofNat (1 + j)).toNat = 1 + j := by rw [UInt8.toNat_ofNat']; omega
    unfold Pk.numF
    by_cases hz : n = 0
    · rw [if_pos hz, List.nil_append]
      refine ⟨i1, fun f hf => ?_, i3⟩
      have := i2 f hf
      simp only [List.length_cons]
      omega
    · rw [if_neg hz]
      refine ⟨fun f hf => ?_, fun f hf => ?_, ?_⟩
      · rcases List.mem_append.1 hf with h' | h'
        · rw [List.mem_singleton] at h'
          subst h'
          exact .inl ⟨j, n.toNat, by omega, rfl, by omega, by omega, rfl⟩
        · exact i1 f h'
      · simp only [List.length_cons]
        rcases List.mem_append.1 hf with h' | h'
        · rw [List.mem_singleton] at h'
          subst h'
          simp only [hk]
          omega
        · have := i2 f h'
          omega
      · rw [List.singleton_append, List.pairwise_cons]
        refine ⟨fun f hf => ?_, i3⟩
        have := i2 f hf
        simp only [hk]
        omega
theorem fields_good {k : Int} {ns : List Int} {id data : List UInt8} {ids : List (List UInt8)} (hn : ∀ n ∈ ns, okN n) (hl : ns.length = 5) (hid : id.length = 32) (hd : data.length ≤ 131072) (hi : ids.length ≤ 64) (hie : ∀ x ∈ ids, x.length = 32) :
    (∀ f ∈ Pk.fields ⟨k, ns, id, data, ids⟩, goodF f) ∧ (Pk.fields ⟨k, ns, id, data, ids⟩).Pairwise (fun a b => a.1.toNat < b.1.toNat) := by
  obtain ⟨i1, i2, i3⟩ := numF_good 0 ns hn (by omega)
  have hfl := flat_len ids hie
  have e6 : (6 : UInt8).toNat = 6 := rfl
  have e7 : (7 : UInt8).toNat = 7 := rfl
  have e8 : (8 : UInt8).toNat = 8 := rfl
  unfold Pk.fields
  refine ⟨fun f hf => ?_, ?_⟩
  · rcases List.mem_append.1 hf with hf | hf
    · rcases List.mem_append.1 hf with hf | hf
      · rcases List.mem_append.1 hf with hf | hf
        · exact i1 f hf
        · split at hf
          · simp at hf
          · rename_i h0
            simp at hf; subst hf
            exact .inr (.inl ⟨rfl, hid, h0⟩)
      · split at hf
        · simp at hf
        · rename_i h0
          simp at hf; subst hf
          exact .inr (.inr (.inl ⟨rfl, h0, hd⟩))
    · split at hf
      · simp at hf
      · rename_i h0
        simp only [List.mem_singleton] at hf; subst hf
        exact .inr (.inr (.inr ⟨rfl, ids.length, List.length_pos_iff.2 h0, hi, hfl⟩))
  · rw [List.pairwise_append, List.pairwise_append, List.pairwise_append]
    refine ⟨⟨⟨i3, ?_, ?_⟩, ?_, ?_⟩, ?_, ?_⟩
    · split <;> simp
    · intro a ha b hb
      have := i2 a ha
      split at hb
      · simp at hb
      · simp at hb; subst hb; simp only [e6]; omega
    · split <;> simp
    · intro a ha b hb
      have ha6 : a.1.toNat ≤ 6 := by
        rcases List.mem_append.1 ha with h | h
        · have := i2 a h; omega
        · split at h
          · simp at h
          · simp at h; subst h; exact Nat.le_refl _
      split at hb
      · simp at hb
      · simp at hb; subst hb; simp only [e7]; omega
    · split <;> simp
    · intro a ha b hb
      have ha7 : a.1.toNat ≤ 7 := by
        rcases List.mem_append.1 ha with h | h
        · rcases List.mem_append.1 h with h | h
          · have := i2 a h; omega
          · split at h
            · simp at h
            · simp at h; subst h; simp only [e6]; omega
        · split at h
          · simp at h
          · simp at h; subst h; simp only [e7]; omega
      split at hb
      · simp at hb
      · simp only [List.mem_singleton] at hb; subst hb; simp only [e8]; omega
/-- a message of its kind alone is built -/
theorem exec_build_msg {o : Oper} {ev : Operand → Value} {w : World} {x : Operand} {k : Int} (ho : o.op = .build 64 #[(0, x)]) (hx : ev x = .int .i64 k) :
    (execOp ev o).run Try.prog w = .ok (.value (.agg (mc k 0 0 0 0 0 z32 none 0 0 none 0 0 none 0 0))) w := by
  have h1 : (zeroValue 64).run Try.prog w = .ok (.agg (mc 0 0 0 0 0 0 z32 none 0 0 none 0 0 none 0 0)) w := by kernel_rfl
  have hset : (mc 0 0 0 0 0 0 z32 none 0 0 none 0 0 none 0 0).setIfInBounds 0 (.int .i64 k) = mc k 0 0 0 0 0 z32 none 0 0 none 0 0 none 0 0 := by
    unfold mc
    simp
  have hsz : (mc 0 0 0 0 0 0 z32 none 0 0 none 0 0 none 0 0).size = 41 := rfl
  generalize (mc 0 0 0 0 0 0 z32 none 0 0 none 0 0 none 0 0) = Z at *
  have hne : Z ≠ #[] := fun e => by rw [e] at hsz; simp at hsz
  unfold execOp
  simp [ho, Instr.build, h1, run_underlying Try.underlying64, hx, Instr.fill, Value.cells, hset, hsz, hne]
theorem splice (X : List Value) : ∀ (cs : List Value) (off k : Nat), off + k + X.length ≤ cs.length →
    ((X.zipIdx k).foldl (fun (cs : Array Value) (p : Value × Nat) => cs.setIfInBounds (off + p.2) p.1) cs.toArray) = (cs.take (off + k) ++ X ++ cs.drop (off + k + X.length)).toArray := by
  induction X with
  | nil => intro cs off k h; simp
  | cons x X ih =>
    intro cs off k h
    simp only [List.length_cons] at h
    rw [List.zipIdx_cons, List.foldl_cons]
    have e : (cs.toArray.setIfInBounds (off + k) x) = (cs.set (off + k) x).toArray := by simp
    simp only [e]
    rw [ih (cs.set (off + k) x) off (k + 1) (by simp; omega)]
    congr 1
    have e2 : (cs.set (off + k) x).take (off + (k + 1)) = cs.take (off + k) ++ [x] := by
      have : off + (k + 1) = (off + k) + 1 := by omega
      rw [this, List.take_add_one, List.take_set_of_le (Nat.le_refl _), List.getElem?_set_self (by omega)]
      rfl
    have e3 : (cs.set (off + k) x).drop (off + (k + 1) + X.length) = cs.drop (off + k + (x :: X).length) := by
      rw [List.drop_set_of_lt (by omega)]
      congr 1
      simp
      omega
    rw [e2, e3]
    simp
/-- a list of one ID is built -/
theorem exec_ids1 {w : World} {o : Oper} {ev : Operand → Value} {x : Operand} {b : List UInt8} (hb : b.length = 32) (ho : o.op = .buildSlice 61 1 #[(0, x)]) (hx : ev x = .agg (ida b)) :
    (execOp ev o).run Try.prog w = .ok (.value (.slice (some ⟨w.heap.size, 0, none⟩) 1 1)) (w.alloc (.cells (ida b) 60)) := by
  have h1 : ∀ w, (zeroValue 60).run Try.prog w = .ok (.agg (z32.map bv).toArray) w := fun w => by kernel_rfl
  have h4 : ∀ w, (sizeOf 60).run Try.prog w = .ok 32 w := fun w => by kernel_rfl
  have hl : (b.map bv).length = 32 := by rw [List.length_map]; exact hb
  have hs := splice (b.map bv) (z32.map bv) 0 0 (by rw [hl]; decide)
  have e2 : (List.take (0 + 0) (z32.map bv) ++ b.map bv ++ List.drop (0 + 0 + (b.map bv).length) (z32.map bv)) = b.map bv := by
    rw [hl, List.drop_of_length_le (by decide)]
    simp
  rw [e2] at hs
  have e0 : (Array.range 32).map (fun x => (z32.map bv)[x % (z32.map bv).length]?.getD default) = (z32.map bv).toArray := by kernel_rfl
  simp only [Nat.zero_add] at hs
  unfold ida at *
  generalize z32.map bv = Z at *
  generalize b.map bv = B at *
  unfold execOp
  simp [ho, Instr.buildSlice, run_underlying Try.underlying61, h1, h4, hx, Instr.fill, Value.cells, hl]
  rw [e0, hs]
  simp [newRow, newObj]
  rfl
/-- a slice's bytes, as an array's -/
theorem exec_s2a {o : Oper} {ev : Operand → Value} {w : World} {x : Operand} {g off n c : Nat} (ho : o.op = .sliceToArrayPointer 60 x) (hx : ev x = .slice (some ⟨g, off, none⟩) n c) (hn : 32 ≤ n) :
    (execOp ev o).run Try.prog w = .ok (.value (.pointer (some ⟨g, off, none⟩))) w := by
  unfold execOp
  simp [ho, Instr.arrayAt, run_underlying underID, hx, show ¬ n < 32 by omega]
/-- an ID more -/
theorem append_id {w : World} {A : Option Addr} {n c : Nat} {xs : List Value} {b : List UInt8} (hR : w.ownsRow 0 60 32 (.slice A n c) n xs) (hb : b.length = 32) (hn : n < 1000000) :
    ∃ A2 c2 w', (Builtin.append_ #[61, 61] 61 #[.slice A n c, .slice (some ⟨w.heap.size, 0, none⟩) 1 1]).run Try.prog (w.alloc (.cells (ida b) 60)) = .ok (.slice A2 (n + 1) c2) w' ∧
      w'.ownsRow 0 60 32 (.slice A2 (n + 1) c2) (n + 1) (xs ++ b.map bv) ∧ Fr (fun k => some k = ab A) w w' ∧ ∀ k, ab A2 = some k → ab A = some k ∨ w.heap.size ≤ k := by
  obtain ⟨i, hi, hz0, hz1, hz2⟩ := info_parts infoID
  have hB := Blk.new w 60 (ida b)
  obtain ⟨v', w', hrun, hown, hg, _⟩ := run_append_own (P := Try.prog) (w.alloc (.cells (ida b) 60)) 0 61 61 60 i (.agg (ida z32)) 32 32 Try.underlying61 hi hz0 hz1 hz2 rfl (by decide) _ n xs (hR.alloc _) ⟨w.heap.size, 0, none⟩ 1 1 (b.map bv) (by simp [hb])
    (fun j u hu => by
      obtain ⟨hj, hju⟩ := List.getElem?_eq_some_iff.1 hu
      rw [add_none, hB.cell, Nat.zero_add, ← hju]
      simp only [ida]
      rw [List.getElem?_toArray, List.getElem?_eq_getElem hj]) (fun u hu => by
      obtain ⟨x, _, rfl⟩ := List.mem_map.1 hu
      rfl) (by simp [maxLen]; omega) (by omega) (Nat.zero_le _)
  have hfr : Fr (fun k => some k = ab A) w w' := (Fr.alloc (fun k => some k = ab A) w _).trans (by have := Fr.grown hg; rw [ownBlock_slice] at this; exact this) (fun k hk => .inl hk)
  have hnews : ∀ j u, (b.map bv)[j]? = some u → (w.alloc (.cells (ida b) 60)).cell? ((⟨w.heap.size, 0, none⟩ : Addr).add j) = some u := fun j u hu => by
    obtain ⟨hj, hju⟩ := List.getElem?_eq_some_iff.1 hu
    rw [add_none, hB.cell, Nat.zero_add, ← hju]
    simp only [ida]
    rw [List.getElem?_toArray, List.getElem?_eq_getElem hj]
  have hone : ∀ u ∈ b.map bv, u.oneCell' = true := fun u hu => by
    obtain ⟨x, _, rfl⟩ := List.mem_map.1 hu
    rfl
  rcases hown.2 with ⟨hv, hn0⟩ | ⟨g, cap, cur, hv, _⟩
  · omega
  · subst hv
    refine ⟨_, _, w', hrun, hown, hfr, fun k hk => ?_⟩
    simp [ab] at hk
    subst hk
    have hR' := hR.alloc (.cells (ida b) 60)
    rcases hR'.2 with ⟨hv0, hn0⟩ | ⟨g0, cap0, cur0, hv0, _, hg0, h1, h2, h3, h4⟩
    · have hrn := run_append_nil (P := Try.prog) (w.alloc (.cells (ida b) 60)) 61 61 60 i (.agg (ida z32)) Try.underlying61 hi hz0 ⟨w.heap.size, 0, none⟩ 1 1 (b.map bv) (by rw [hz1]; simp [hb]) hnews (by omega) (by omega) (by rw [hz2]; omega)
      rw [hv0] at hrun
      rw [hrun] at hrn
      simp at hrn
      right
      omega
    · simp at hv0
      obtain ⟨rfl, rfl⟩ := hv0
      by_cases hroom : n + 1 ≤ c
      · have hrr := run_append_room (P := Try.prog) (w.alloc (.cells (ida b) 60)) 61 61 60 i Try.underlying61 hi g0 n c cur0 hg0 ⟨w.heap.size, 0, none⟩ 1 1 (b.map bv) (by rw [hz1]; simp [hb]) hnews hone hroom (by rw [hz1, h3, List.length_map, hb]; omega)
        rw [hrun] at hrr
        simp at hrr
        left
        simp [ab]
        omega
      · have hrg := run_append_grow (P := Try.prog) (w.alloc (.cells (ida b) 60)) 61 61 60 i (.agg (ida z32)) Try.underlying61 hi hz0 ⟨g0, 0, none⟩ n c xs (by rw [hz1]; exact hR.1) (hR'.cells (g := g0) rfl) ⟨w.heap.size, 0, none⟩ 1 1 (b.map bv) (by rw [hz1]; simp [hb]) hnews (by omega) (by omega) (growslice_fits (by omega) (by rw [hz2]; omega))
        rw [hrun] at hrg
        simp at hrg
        right
        omega
theorem owns_fr {w w' : World} {t : TypeId} {z : Nat} {A : Option Addr} {n c : Nat} {xs : List Value} {S : Nat → Prop} (h : w.ownsRow 0 t z (.slice A n c) n xs) (f : Fr S w w') (hs : ∀ k, ab A = some k → ¬ S k) : w'.ownsRow 0 t z (.slice A n c) n xs := by
  refine ⟨h.1, ?_⟩
  rcases h.2 with hn | ⟨g, cap, cur, hv, hb, hgg, rest⟩
  · exact .inl hn
  · refine .inr ⟨g, cap, cur, hv, hb, ?_, rest⟩
    have hA : ab A = some g := by simp at hv; rw [hv.1]; rfl
    rw [f.block g (Array.getElem?_eq_some_iff.1 hgg).1 (hs g hA)]
    exact hgg
theorem sl_head (g off n c h : Nat) (hh : h ≤ c) (w : World) : (Instr.slice 22 (.slice (some ⟨g, off, none⟩) n c) none (some (.int .i64 (h : Int))) none).run Try.prog w = .ok (.slice (some ⟨g, off, none⟩) h c) w := by
  rw [run_slice_h (P := Try.prog) (w := w) 22 (some ⟨g, off, none⟩) n c sl_hu .i64 (h : Int) (by omega) (by omega), sl_hs]
  simp [Result.andThen, sliced, add_none]
theorem pk_all (w : World) (r : Nat) :
    Calls Try.prog 51 #[.pointer (some ⟨r, 0, none⟩)] w fun e w' => e = .returned (.func (.func 61) #[] #[.pointer (some ⟨w.heap.size, 0, none⟩)]) ∧ w' = w.alloc (.cells #[.pointer (some ⟨r, 0, none⟩)] 104) := by
  go_enter Try.func51, Try.ntmps51
  go_wp2_with fail
  go_ret
  exact ⟨rfl, rfl⟩
/-- the world behind k of them -/
def wAt (W0 : World) (ch : List (Nat × World)) (k : Nat) : World := match k with
  | 0 => W0
  | k + 1 => ((ch[k]?).map (·.2)).getD W0
/-- where a drawn region stands whose last operation is m, and whose operations ch make worlds that are known -/
def chS (m : Nat) (req : List Nat) (WE W0 : World) (ch : List (Nat × World)) (L : Array Bool) (W' : World) : Prop :=
  (L.getD m false = true → ∀ i ∈ req, L.getD i true = true) ∧ (L.getD m false = true → W' = WE) ∧ (L.getD m false = false → ∃ k, k ≤ ch.length ∧ (∀ j p, ch[j]? = some p → L.getD p.1 false = decide (j < k)) ∧ W' = wAt W0 ch k)
section
variable {m : Nat} {req : List Nat} {WE W0 W' : World} {ch : List (Nat × World)} {L : Array Bool} {i : Nat}
theorem chS.zero (n : Nat) : chS m req WE W0 ch (Array.replicate n false) W0 := by
  have h0 : ∀ j, (Array.replicate n false).getD j false = false := fun j => by
    rw [Array.getD_eq_getD_getElem?]
    by_cases h : j < n
    · rw [Array.getElem?_eq_getElem (by simpa using h)]; simp
    · rw [Array.getElem?_eq_none (by simp; omega)]; rfl
  exact ⟨fun h => (by rw [h0] at h; cases h), fun h => (by rw [h0] at h; cases h), fun _ => ⟨0, Nat.zero_le _, fun j p h => by rw [h0]; simp, rfl⟩⟩
theorem chS.need (h : chS m req WE W0 ch L W') (hz : m < L.size) (hi : i ∈ req) (hn : L.getD i true = false) : L.getD m false = false := by
  cases e : L.getD m false with
  | false => rfl
  | true => have := h.1 e i hi; rw [hn] at this; cases this
/-- an operation that turns nothing -/
theorem chS.keep (h : chS m req WE W0 ch L W') (hz : m < L.size) (him : i ≠ m) (hn : L.getD i true = false) (hc : ∀ p ∈ ch, p.1 ≠ i) : chS m req WE W0 ch (L.setIfInBounds i true) W' := by
  unfold chS
  rw [getD_set_ne false him]
  refine ⟨fun hm j hj => ?_, h.2.1, fun hm => ?_⟩
  · have := h.1 hm j hj
    by_cases e : i = j
    · subst e; rw [hn] at this; cases this
    · rw [getD_set_ne true e]; exact this
  · obtain ⟨k, hk, hl, hw⟩ := h.2.2 hm
    exact ⟨k, hk, fun j p hp => by rw [getD_set_ne false (fun e => hc p (List.mem_of_getElem? hp) e.symm)]; exact hl j p hp, hw⟩
theorem chS.at (h : chS m req WE W0 ch L W') (hm : L.getD m false = false) : ∃ k, k ≤ ch.length ∧ W' = wAt W0 ch k := by
  obtain ⟨k, hk, _, hw⟩ := h.2.2 hm
  exact ⟨k, hk, hw⟩
/-- one that makes the next world -/
theorem chS.step (h : chS m req WE W0 ch L W') (hz : m < L.size) (k0 : Nat) {V : World} (hi : ch[k0]? = some (i, V)) (hap : ∀ j p, ch[j]? = some p → j ≠ k0 → p.1 ≠ i) (him : i ≠ m) (hil : i < L.size) (hir : i ∈ req) (hn : L.getD i true = false) (hprev : ∀ p, k0 ≠ 0 → ch[k0 - 1]? = some p → L.getD p.1 false = true) :
    W' = wAt W0 ch k0 ∧ chS m req WE W0 ch (L.setIfInBounds i true) V := by
  have hm := h.need hz hir hn
  obtain ⟨k, hk, hl, hw⟩ := h.2.2 hm
  have hf : L.getD i false = false := getD_no hil hn
  have h1 := hl k0 _ hi
  rw [hf] at h1
  have hle : k ≤ k0 := by
    have := of_decide_eq_false h1.symm
    omega
  have hk0 : k0 < ch.length := (List.getElem?_eq_some_iff.1 hi).1
  have hge : k0 ≤ k := by
    by_cases h0 : k0 = 0
    · omega
    · have hp : ch[k0 - 1]? = some (ch[k0 - 1]'(by omega)) := List.getElem?_eq_getElem (by omega)
      have h2 := hl _ _ hp
      rw [hprev _ h0 hp] at h2
      have := of_decide_eq_true h2.symm
      omega
  obtain rfl : k = k0 := by omega
  refine ⟨hw, ?_⟩
  unfold chS
  rw [getD_set_ne false him, hm]
  refine ⟨fun e => (by cases e), fun e => (by cases e), fun _ => ⟨k + 1, by omega, fun j p hp => ?_, ?_⟩⟩
  · by_cases e : j = k
    · subst e
      rw [hi] at hp
      cases hp
      rw [getD_set_self hil]
      simp
    · rw [getD_set_ne false (fun e' => hap j p hp e e'.symm), hl j p hp]
      by_cases h' : j < k
      · rw [decide_eq_true h', decide_eq_true (by omega)]
      · rw [decide_eq_false h', decide_eq_false (by omega)]
  · show V = ((ch[k]?).map (·.2)).getD W0
    rw [hi]
    rfl
/-- the last one -/
theorem chS.last (h : chS m req WE W0 ch L W') (hz : m < L.size) (hn : L.getD m true = false) (hall : ∀ i ∈ req, L.getD i true = true) (hch : ∀ p ∈ ch, p.1 ≠ m ∧ L.getD p.1 false = true) : W' = wAt W0 ch ch.length ∧ chS m req WE W0 ch (L.setIfInBounds m true) WE := by
  have hm : L.getD m false = false := getD_no hz hn
  obtain ⟨k, hk, hl, hw⟩ := h.2.2 hm
  have hke : k = ch.length := by
    by_cases e : k = ch.length
    · exact e
    · have hp : ch[k]? = some (ch[k]'(by omega)) := List.getElem?_eq_getElem (by omega)
      have h2 := hl _ _ hp
      rw [(hch _ (List.mem_of_getElem? hp)).2] at h2
      have := of_decide_eq_true h2.symm
      omega
  refine ⟨hke ▸ hw, ?_⟩
  unfold chS
  rw [getD_set_self hz]
  refine ⟨fun _ i hi => ?_, fun _ => rfl, fun e => (by cases e)⟩
  by_cases e : m = i
  · subst e
    exact getD_of_both (getD_set_self hz)
  · rw [getD_set_ne true e]
    exact hall i hi
theorem chS.end (h : chS m req WE W0 ch L W') (hz : m < L.size) (hall : ∀ i, L.getD i true = true) : W' = WE := by
  refine h.2.1 ?_
  have := hall m
  rw [Array.getD_eq_getD_getElem?] at this ⊢
  rw [Array.getElem?_eq_getElem hz] at this ⊢
  exact this
end
end Go.Proofs.Ytefalfalapnllaa
