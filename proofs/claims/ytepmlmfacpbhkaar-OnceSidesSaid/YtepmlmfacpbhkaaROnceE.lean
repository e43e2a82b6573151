/- The contract of once's Sign: a text's signature. -/
import Derived.Test.YtepmlmfacpbhkaaROnceD
namespace Go.Proofs.YtepmlmfacpbhkaaR
open Go.RowKit Go.Shelf
set_option linter.unusedVariables false

set_option maxRecDepth 100000 in
theorem infoSig : (Try.prog.info? 69).map (fun i => (i.zero, i.size, i.bytes)) = some (some (.agg (ida z4k)), 4096, 4096) := by kernel_rfl
theorem underSig : ∃ fs, Try.prog.underlying 69 = some (.struct fs) := ⟨_, Try.underlying69⟩
/-- sums, one behind the other -/
def flat1 (h : Nat → List UInt8) (n : Nat) : List UInt8 := (List.range n).flatMap h
theorem flat1_succ (h : Nat → List UInt8) (n : Nat) : flat1 h (n + 1) = flat1 h n ++ h n := by
  unfold flat1
  rw [List.range_succ, List.flatMap_append]
  simp
theorem flat1_length {h : Nat → List UInt8} (hl : ∀ i, (h i).length = 32) (n : Nat) : (flat1 h n).length = n * 32 := by
  induction n with
  | zero => rfl
  | succ n ih => rw [flat1_succ, List.length_append, ih, hl]; omega
theorem flat1_get {h : Nat → List UInt8} (hl : ∀ i, (h i).length = 32) (n i : Nat) (hi : i < n) : ((flat1 h n).drop (i * 32)).take 32 = h i := by
  induction n with
  | zero => omega
  | succ n ih =>
    have hfl := flat1_length hl n
    rw [flat1_succ]
    by_cases hin : i < n
    · rw [List.drop_append_of_le_length (by omega), List.take_append_of_le_length (by rw [List.length_drop]; omega)]
      exact ih hin
    · obtain rfl : i = n := by omega
      rw [List.drop_append, List.drop_of_length_le (by omega), List.nil_append, hfl, Nat.sub_self, List.drop_zero, List.take_of_length_le (by rw [hl]; omega)]
theorem flat1_congr {h k : Nat → List UInt8} (n : Nat) (e : ∀ i, i < n → h i = k i) : flat1 h n = flat1 k n := by
  induction n with
  | zero => rfl
  | succ n ih => rw [flat1_succ, flat1_succ, ih fun i hi => e i (by omega), e n (by omega)]
/-- a signature's bytes -/
def sigL (sh ot : Nat → List UInt8) : List UInt8 := flat1 sh 64 ++ flat1 ot 64
theorem sigL_length {sh ot : Nat → List UInt8} (h1 : ∀ i, (sh i).length = 32) (h2 : ∀ i, (ot i).length = 32) : (sigL sh ot).length = 4096 := by
  unfold sigL
  rw [List.length_append, flat1_length h1, flat1_length h2]
/-- a half of a signature, as far as it is laid -/
def half (h : Nat → List UInt8) (n : Nat) : List UInt8 := flat1 h n ++ List.replicate (2048 - n * 32) 0
theorem half_length {h : Nat → List UInt8} (hl : ∀ i, (h i).length = 32) (n : Nat) (hn : n ≤ 64) : (half h n).length = 2048 := by
  unfold half
  rw [List.length_append, flat1_length hl, List.length_replicate]
  omega
theorem half_all {h : Nat → List UInt8} : half h 64 = flat1 h 64 := by
  unfold half
  simp
theorem half_put {h : Nat → List UInt8} (hl : ∀ i, (h i).length = 32) (n : Nat) (hn : n < 64) : (half h n).take (n * 32) ++ h n ++ (half h n).drop (n * 32 + 32) = half h (n + 1) := by
  have hfl := flat1_length hl n
  unfold half
  rw [List.take_append_of_le_length (by omega), List.take_of_length_le (by omega), List.drop_append, List.drop_of_length_le (by omega), List.nil_append, flat1_succ, List.drop_replicate]
  congr 2
  rw [hfl]
  omega
def sigAt (sh ot : Nat → List UInt8) (n m : Nat) : List UInt8 := half sh n ++ half ot m
theorem sigAt_length {sh ot : Nat → List UInt8} (h1 : ∀ i, (sh i).length = 32) (h2 : ∀ i, (ot i).length = 32) (n m : Nat) (hn : n ≤ 64) (hm : m ≤ 64) : (sigAt sh ot n m).length = 4096 := by
  unfold sigAt
  rw [List.length_append, half_length h1 n hn, half_length h2 m hm]
theorem sigAt_done {sh ot : Nat → List UInt8} : sigAt sh ot 64 64 = sigL sh ot := by
  unfold sigAt sigL
  rw [half_all, half_all]
theorem sigAt_zero (sh ot : Nat → List UInt8) : sigAt sh ot 0 0 = z4k := by
  unfold sigAt half z4k flat1
  rw [List.range_zero, List.flatMap_nil, List.flatMap_nil, List.nil_append, List.replicate_append_replicate]
theorem sigAt_put1 {sh ot : Nat → List UInt8} (h1 : ∀ i, (sh i).length = 32) (h2 : ∀ i, (ot i).length = 32) (n m : Nat) (hn : n < 64) (hm : m ≤ 64) :
    ((ida (sigAt sh ot n m)).toList.take (n * 32) ++ (ida (sh n)).toList ++ (ida (sigAt sh ot n m)).toList.drop (n * 32 + (ida (sh n)).size)).toArray = ida (sigAt sh ot (n + 1) m) := by
  have e : sigAt sh ot (n + 1) m = (sigAt sh ot n m).take (n * 32) ++ sh n ++ (sigAt sh ot n m).drop (n * 32 + 32) := by
    unfold sigAt
    rw [← half_put h1 n hn, List.take_append_of_le_length (by rw [half_length h1 n (by omega)]; omega), List.drop_append_of_le_length (by rw [half_length h1 n (by omega)]; omega)]
    simp only [List.append_assoc]
  rw [e, ida_size, h1]
  simp [ida]
theorem sigAt_put2 {sh ot : Nat → List UInt8} (h1 : ∀ i, (sh i).length = 32) (h2 : ∀ i, (ot i).length = 32) (n m : Nat) (hn : n ≤ 64) (hm : m < 64) :
    ((ida (sigAt sh ot n m)).toList.take (2048 + m * 32) ++ (ida (ot m)).toList ++ (ida (sigAt sh ot n m)).toList.drop (2048 + m * 32 + (ida (ot m)).size)).toArray = ida (sigAt sh ot n (m + 1)) := by
  have hl := half_length h1 n hn
  have e : sigAt sh ot n (m + 1) = (sigAt sh ot n m).take (2048 + m * 32) ++ ot m ++ (sigAt sh ot n m).drop (2048 + m * 32 + 32) := by
    have q1 : (half sh n ++ half ot m).take (2048 + m * 32) = half sh n ++ (half ot m).take (m * 32) := by
      rw [List.take_append, List.take_of_length_le (by omega), hl, Nat.add_sub_cancel_left]
    have q2 : (half sh n ++ half ot m).drop (2048 + m * 32 + 32) = (half ot m).drop (m * 32 + 32) := by
      rw [List.drop_append, List.drop_of_length_le (by omega), hl, List.nil_append, Nat.add_assoc, Nat.add_sub_cancel_left]
    unfold sigAt
    rw [q1, q2, ← half_put h2 m hm]
    simp only [List.append_assoc]
  rw [e, ida_size, h2]
  simp [ida]
/-- a value of many cells that is handed back out of memory -/
theorem x_resultsT {fn : Func} {w : World} {tmps : Array Value} {t : Tmp} {b : Nat} {X : Array Value} {T : TypeId} (hr : fn.results = #[.cell t T]) (l6 : (loadVar T ⟨b, 0, none⟩).run Try.prog w = .ok (.agg X) w) (ht : tmps.getD t undef = .pointer (some ⟨b, 0, none⟩)) :
    (results fn tmps).run Try.prog w = .ok (.agg X) w := by
  rw [Array.getD_eq_getD_getElem?] at ht
  simp only [results, hr]
  simp [ht, asAddr, l6]
/-- where the signature stands: n shown, m others -/
structure SignAt (W0 : World) (kb sb : Nat) (seed : List UInt8) (num : Int) (sh ot : Nat → List UInt8) (n m : Nat) (V : World) : Prop where
  key : Blk V kb 62 (keyC seed num)
  sig : Blk V sb 69 (ida (sigAt sh ot n m))
  fr : Fr (fun j => j = sb) W0 V
theorem SignAt.abides {W0 : World} {kb sb : Nat} {seed : List UInt8} {num : Int} {sh ot : Nat → List UInt8} (hk : kb < W0.heap.size) (hs : sb < W0.heap.size) : AbidesAll W0.heap.size (fun i V => SignAt W0 kb sb seed num sh ot i i V) := fun i X Y h f =>
  ⟨h.key.fr f (by omega), h.sig.fr f (by omega), h.fr.trans f (fun j hj => .inr hj)⟩
theorem SignAt.new {W0 : World} {kb sb : Nat} {seed : List UInt8} {num : Int} {sh ot : Nat → List UInt8} {n m : Nat} {V V' : World} (h : SignAt W0 kb sb seed num sh ot n m V) (f : New V V') : SignAt W0 kb sb seed num sh ot n m V' :=
  ⟨h.key.fr f id, h.sig.fr f id, h.fr.trans f (fun _ h => h.elim)⟩
theorem SignAt.put {W0 : World} {kb sb : Nat} {seed : List UInt8} {num : Int} {sh ot : Nat → List UInt8} {n m n' m' : Nat} {V : World} (h : SignAt W0 kb sb seed num sh ot n m V) (hne : kb ≠ sb) : SignAt W0 kb sb seed num sh ot n' m' (V.setRow sb (ida (sigAt sh ot n' m'))) :=
  ⟨h.key.fr ((Fr.refl (fun k => k = sb) V).setRow (g := sb) rfl _) hne, h.sig.setRow _, h.fr.setRow (g := sb) rfl _⟩
attribute [local go_sem] Oper.semAt_some
set_option maxHeartbeats 2000000 in
set_option maxRecDepth 20000 in
theorem sign_any (w : World) (seed : List UInt8) (num : Int) (hx : seed.length = 32) (A : Option Addr) (c : Nat) (t : List UInt8) (ht : Rd w A (t.map bv)) (hl : t.length < 1000000000000000000) :
    Calls Try.prog 34 #[.agg (keyC seed num), .slice A t.length c] w fun e w' => e = .returned (.agg (ida (sigL (Once.shown seed num t) (Once.other seed num t)))) ∧ New w w' := by
  refine (callsIn_wide (n := 5)).1 ?_
  refine callsIn_of_wp_marks Try.func34 rfl trivial ?_ rfl
  simp only [Try.ntmps34, List.size_toArray, List.length_cons, List.length_nil, Nat.reduceAdd, Nat.reduceSub, Array.replicate_succ, Array.replicate_zero, List.push_toArray, List.append_toArray, List.nil_append, List.cons_append]
  obtain ⟨ii, hii, hz0, hz1, hz2⟩ := info_parts infoID
  obtain ⟨ik, hik, hk0, hk1, hk2⟩ := info_parts infoK
  obtain ⟨ig, hig, hg0, hg1, hg2⟩ := info_parts infoSig
  obtain ⟨fs, hfs⟩ := underK
  obtain ⟨gs, hgs⟩ := underSig
  have HX := Lib.hid hx
  have HT := Lib.hid ht
  have HL := Lib.hid hl
  clear hx ht hl
  gi_wp2_with (first
    | (refine x_value_in (exec_box (T := 62) rfl rfl) (fun _ h => by cases h) (fun _ h => by cases h) (by simp [go_sem, Region.wanted]) ?_)
    | (refine x_value_in (x_alloc (T := 69) rfl hig hg0) (fun _ h => by cases h) (fun _ h => by cases h) (by simp [go_sem, Region.wanted]) ?_))
  have hK1 := ((Blk.new w 62 (keyC seed num)).alloc (.cells (ida z4k) 69)).alloc (.cells (ida z4k) 69)
  have hR1 := (Blk.new (w.alloc (.cells (keyC seed num) 62)) 69 (ida z4k)).alloc (.cells (ida z4k) 69)
  have hS1 := Blk.new ((w.alloc (.cells (keyC seed num) 62)).alloc (.cells (ida z4k) 69)) 69 (ida z4k)
  have hN1 : New w (((w.alloc (.cells (keyC seed num) 62)).alloc (.cells (ida z4k) 69)).alloc (.cells (ida z4k) 69)) := ((Fr.alloc _ w _).then_alloc _).then_alloc _
  have hz3 : (((w.alloc (.cells (keyC seed num) 62)).alloc (.cells (ida z4k) 69)).alloc (.cells (ida z4k) 69)).heap.size = w.heap.size + 3 := by simp
  rw [World.size_alloc] at hR1 hS1
  rw [World.size_alloc] at hS1
  generalize ((w.alloc (.cells (keyC seed num) 62)).alloc (.cells (ida z4k) 69)).alloc (.cells (ida z4k) 69) = W1 at *
  refine ⟨trivial, (callsIn_wide.2 (sides_any W1 A c t (HT.out.fr hN1 (fun _ _ => id)) HL.out)).mono ?_⟩
  rintro e W2 ⟨idb, rfl, hI, hge, hN2⟩
  have hK2 := hK1.fr hN2 id
  have hR2 := hR1.fr hN2 id
  have hS2 := hS1.fr hN2 id
  have hN3 : New w W2 := hN1.trans hN2 fun _ h => h.elim
  have hs2 := hN2.size
  have HSZ := Lib.hid hz3
  clear hK1 hR1 hS1 hN1 hN2 hz3
  gi_wp2_with fail
  clear hgs
  obtain ⟨gs, hgs⟩ := underSig
  have hsl : ∀ i, (Once.shown seed num t i).length = 32 := fun _ => rfl
  have hol : ∀ i, (Once.other seed num t i).length = 32 := fun _ => rfl
  have HSL := Lib.hid hsl
  have HOL := Lib.hid hol
  have hA0 : SignAt W2 w.heap.size (w.heap.size + 2) seed num (Once.shown seed num t) (Once.other seed num t) 0 0 W2 := ⟨hK2, by rw [sigAt_zero]; exact hS2, Fr.refl _ _⟩
  have HID := Lib.hid (Once.sumFor_length Once.pText [t])
  have HBI := Lib.hid (show ∀ i, Once.bitOf (Once.sumFor Once.pText [t]) i = Once.side t i from fun _ => rfl)
  clear hsl hol hK2 hS2
  generalize Once.sumFor Once.pText [t] = sid at *
  refine wpIn_rangeFunc_cut (xs := bitsOf sid) (encs := encB) rfl (by decide) (gf := 57) (lb := #[.pointer (some ⟨idb, 0, none⟩)]) rfl trivial (enters_of Try.func57 (by kernel_rfl) rfl)
    (sidesIt_any _ (by decide) idb sid HID.out) (fun j => j = w.heap.size + 2) (fun j hj => by have := HSZ.out; omega)
    (fun W hW => ?pz) (fun _ => rfl)
    (fun i V => SignAt W2 w.heap.size (w.heap.size + 2) seed num (Once.shown seed num t) (Once.other seed num t) i i V) (fun _ _ _ => False) (SignAt.abides (by have := HSZ.out; omega) (by have := HSZ.out; omega)) (fun _ _ _ _ h _ => h) hA0 ?round ?done (fun _ _ _ _ _ _ h _ => h.elim)
  case pz =>
    have := hI.lt
    have := HSZ.out
    exact ⟨hI.fr hW id, fun h => by rcases h with h | h <;> omega⟩
  case round =>
    rintro l i x W K hx hA hsz hK
    have hi : i < 64 := by
      have := (List.getElem?_eq_some_iff.1 hx).1
      rwa [bitsOf_length] at this
    rw [bitsOf_get sid i hi] at hx
    injection hx with hx
    subst hx
    rw [HBI.out i]
    have hq2 := Once.side_lt t i
    have hsd : Once.secret seed num i (Once.side t i) = Once.shown seed num t i := rfl
    have hso : Once.hide (Once.secret seed num i (1 - Once.side t i)) = Once.other seed num t i := rfl
    have HSD := Lib.hid hsd
    have HSO := Lib.hid hso
    clear hsd hso
    generalize Once.side t i = q at *
    conv => arg 6; simp [encB]
    gi_wp2_with fail
    refine hK _ _ (Fr.refl _ _) (fun W3 hf3 => ?_)
    clear hK
    conv => arg 6; simp [Act.put, go_sem]
    have hA3 := SignAt.abides (seed := seed) (num := num) (sh := Once.shown seed num t) (ot := Once.other seed num t) (W0 := W2) (kb := w.heap.size) (sb := w.heap.size + 2) (by have := HSZ.out; omega) (by have := HSZ.out; omega) i W W3 hA (hf3.mono fun _ h => .inl h.1)
    have hi' : (i : Int) < 64 := by omega
    have h1q : (1 - (q : Int)) = ((1 - q : Nat) : Int) := by omega
    have hq' : (q : Int) < 2 := by omega
    have hk3 := hA3.key.at'
    clear hA hsz hf3 hq2
    gi_wp2_with (refine x_value_in (exec_load (T := 62) (X := keyC seed num) (g := w.heap.size) (off := 0) rfl rfl hfs rfl hik (hk1.trans (keyC_size _ _ HX.out).symm) hk3) (fun _ h => by cases h) (fun _ h => by cases h) (by simp [go_sem, Region.wanted]) ?_)
    refine ⟨trivial, CallsIn.mono (show CallsIn Fence.wide 2 _ _ _ _ _ from callsIn_wide.2 (secret_any W3 seed num i q HX.out)) ?_⟩
    rintro e w4 ⟨rfl, hN4⟩
    have hA4 := hA3.new hN4
    have hn4 := hN4
    rw [HSD.out]
    clear hk3
    have hsz : (ida (sigAt (Once.shown seed num t) (Once.other seed num t) i i)).size = 4096 := by rw [ida_size]; exact sigAt_length HSL.out HOL.out i i (by omega) (by omega)
    have hss : (ida (Once.shown seed num t i)).size = 32 := by rw [ida_size]; exact HSL.out i
    have hp := sigAt_put1 HSL.out HOL.out i i hi (by omega)
    have hA5 : SignAt W2 w.heap.size (w.heap.size + 2) seed num (Once.shown seed num t) (Once.other seed num t) (i + 1) i (w4.setRow (w.heap.size + 2) (ida (sigAt (Once.shown seed num t) (Once.other seed num t) (i + 1) i))) := hA4.put (by omega)
    have hf5 : Fr (fun j => j = w.heap.size + 2) W3 (w4.setRow (w.heap.size + 2) (ida (sigAt (Once.shown seed num t) (Once.other seed num t) (i + 1) i))) := (hN4.mono (T := fun j => j = w.heap.size + 2) fun _ h => h.elim).setRow (g := w.heap.size + 2) rfl _
    have HSZ2 := Lib.hid hsz
    have HSS := Lib.hid hss
    have HA5 := Lib.hid hA5
    have HF5 := Lib.hid hf5
    have HA4 := Lib.hid hA4
    have HP := Lib.hid hp
    clear hsz hss hA5 hf5 hA4 hp hn4 hA3 hN4
    gi_wp2_with (first
      | (refine x_skip_in (exec_store (T := 32) (X := ida (Once.shown seed num t i)) (g := w.heap.size + 2) (off := i * 32) rfl rfl rfl hii (hz1.trans HSS.out.symm) (ida_one _) HA4.out.sig (by rw [HSZ2.out, HSS.out]; omega)) (fun _ h => by cases h) (fun _ h => by cases h) rfl ?_; rw [HP.out])
      | (refine x_value_in (exec_load (T := 62) (X := keyC seed num) (g := w.heap.size) (off := 0) rfl rfl hfs rfl hik (hk1.trans (keyC_size _ _ HX.out).symm) HA5.out.key.at') (fun _ h => by cases h) (fun _ h => by cases h) (by simp [go_sem, Region.wanted]) ?_))
    have hA5 := HA5.out
    have hf5 := HF5.out
    clear HA5 HF5 HA4 HP
    generalize w4.setRow (w.heap.size + 2) (ida (sigAt (Once.shown seed num t) (Once.other seed num t) (i + 1) i)) = w5 at *
    refine ⟨trivial, CallsIn.mono (show CallsIn Fence.wide 2 _ _ _ _ _ from callsIn_wide.2 (secret_any w5 seed num i (1 - q) HX.out)) ?_⟩
    rintro e w6 ⟨rfl, hN6⟩
    have hA6 := hA5.new hN6
    have hf6 := hf5.trans hN6 (fun _ h => h.elim)
    clear hA5 hf5 hN6
    gi_wp2_with fail
    refine ⟨trivial, CallsIn.mono (show CallsIn Fence.wide 2 _ _ _ _ _ from callsIn_wide.2 (hide_any w6 (Once.secret seed num i (1 - q)) rfl)) ?_⟩
    rintro e w7 ⟨rfl, hN7⟩
    have hA7 := hA6.new hN7
    have hf7 := hf6.trans hN7 (fun _ h => h.elim)
    clear hA6 hf6 hN7
    rw [HSO.out]
    have hsz : (ida (sigAt (Once.shown seed num t) (Once.other seed num t) (i + 1) i)).size = 4096 := by rw [ida_size]; exact sigAt_length HSL.out HOL.out (i + 1) i (by omega) (by omega)
    have hss : (ida (Once.other seed num t i)).size = 32 := by rw [ida_size]; exact HOL.out i
    have hp := sigAt_put2 HSL.out HOL.out (i + 1) i (by omega) hi
    have hA8 : SignAt W2 w.heap.size (w.heap.size + 2) seed num (Once.shown seed num t) (Once.other seed num t) (i + 1) (i + 1) (w7.setRow (w.heap.size + 2) (ida (sigAt (Once.shown seed num t) (Once.other seed num t) (i + 1) (i + 1)))) := hA7.put (by omega)
    have hf8 : Fr (fun j => j = w.heap.size + 2) W3 (w7.setRow (w.heap.size + 2) (ida (sigAt (Once.shown seed num t) (Once.other seed num t) (i + 1) (i + 1)))) := hf7.setRow (g := w.heap.size + 2) rfl _
    have HSZ3 := Lib.hid hsz
    have HSS3 := Lib.hid hss
    have HA8 := Lib.hid hA8
    have HF8 := Lib.hid hf8
    have HA7 := Lib.hid hA7
    have HP3 := Lib.hid hp
    clear hsz hss hA8 hf8 hA7 hp hf7
    gi_wp2_with (refine x_skip_in (exec_store (T := 32) (X := ida (Once.other seed num t i)) (g := w.heap.size + 2) (off := 2048 + i * 32) rfl rfl rfl hii (hz1.trans HSS3.out.symm) (ida_one _) HA7.out.sig (by rw [HSZ3.out, HSS3.out]; omega)) (fun _ h => by cases h) (fun _ h => by cases h) rfl ?_; rw [HP3.out])
    exact ⟨HF8.out, HA8.out⟩
  case done =>
    rintro D W hD hA hd
    rw [bitsOf_length] at hA
    have hsig := hA.sig
    rw [sigAt_done] at hsig
    have hfr := hA.fr
    have hlen := sigL_length HSL.out HOL.out
    have hR4 := hR2.fr hfr (by omega)
    have hN4 := hN3.trans hfr (fun j hj => .inr (by omega))
    have hss : (ida (sigL (Once.shown seed num t) (Once.other seed num t))).size = 4096 := by rw [ida_size]; exact hlen
    have hzz : (ida z4k).size = (ida (sigL (Once.shown seed num t) (Once.other seed num t))).size := by rw [hss]; rfl
    have HSS := Lib.hid hss
    have HZZ := Lib.hid hzz
    have HSG := Lib.hid hsig
    have HR4 := Lib.hid hR4
    clear hA hsig hlen hR4 hss hzz hR2 hN3
    generalize hS : sigL (Once.shown seed num t) (Once.other seed num t) = S at *
    have HE := Lib.hid hS
    clear hS
    gi_wp2_with (first
      | (refine x_value_in (exec_load (T := 69) (X := ida S) (g := w.heap.size + 2) (off := 0) rfl rfl hgs rfl hig (hg1.trans HSS.out.symm) HSG.out.at') (fun _ h => by cases h) (fun _ h => by cases h) (by simp [go_sem, Region.wanted]) ?_)
      | (refine x_skip_in (exec_store_all (T := 69) (X := ida S) (g := w.heap.size + 1) (cs := ida z4k) rfl rfl rfl hig (hg1.trans HSS.out.symm) (ida_one _) HR4.out HZZ.out) (fun _ h => by cases h) (fun _ h => by cases h) rfl ?_))
    have hd3 : (W.setRow (w.heap.size + 1) (ida S)).heap[D]? = some (.deferred (some [])) :=
      (((Fr.refl (fun k => k = w.heap.size + 1) W).setRow (g := w.heap.size + 1) rfl (ida S)).block D (Array.getElem?_eq_some_iff.1 hd).1 (by have := HSZ.out; omega)).trans hd
    have hr3 := HR4.out.setRow (ida S)
    have hN5 : New w (W.setRow (w.heap.size + 1) (ida S)) := hN4.trans ((Fr.refl (fun k => k = w.heap.size + 1) W).setRow (g := w.heap.size + 1) rfl _) (fun j hj => .inr (by omega))
    have hr4 := hr3.fr (Fr.putObj (S := fun j => j = D) _ rfl (.deferred none)) (by have := HSZ.out; omega)
    refine ⟨by simp, .inl ⟨_, _, rfl, run_takeDeferred hd3, ?_⟩⟩
    refine ⟨_, x_resultsT rfl (x_loadVar (P := Try.prog) (T := 69) hgs rfl hig (hg1.trans HSS.out.symm) hr4.at') rfl, ⟨by rw [HE.out], (hN5.trans (Fr.putObj (S := fun j => j = D) _ rfl _) (fun j hj => .inr (by have := HSZ.out; omega)))⟩⟩
end Go.Proofs.YtepmlmfacpbhkaaR
