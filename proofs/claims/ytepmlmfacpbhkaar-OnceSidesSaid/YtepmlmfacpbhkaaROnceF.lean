/- The contract of once's Shows: the public key under which a signature is one of a text. -/
import Derived.Test.YtepmlmfacpbhkaaROnceE
namespace Go.Proofs.YtepmlmfacpbhkaaR
open Go.RowKit Go.Shelf
set_option linter.unusedVariables false

/-- a sum laid over 32 bytes -/
def splice32 (l X : List UInt8) (n : Nat) : List UInt8 := l.take n ++ X ++ l.drop (n + 32)
theorem splice32_length (l X : List UInt8) (n : Nat) (hX : X.length = 32) (hn : n + 32 ≤ l.length) : (splice32 l X n).length = l.length := by
  unfold splice32
  simp
  omega
theorem splice32_put (l X : List UInt8) (n : Nat) (hX : X.length = 32) :
    ((ida l).toList.take n ++ (ida X).toList ++ (ida l).toList.drop (n + (ida X).size)).toArray = ida (splice32 l X n) := by
  unfold splice32
  rw [ida_size, hX]
  simp [ida]
theorem splice32_comm (l X Y : List UInt8) (a : Nat) (hX : X.length = 32) (hY : Y.length = 32) (hl : a + 64 ≤ l.length) : splice32 (splice32 l X a) Y (a + 32) = l.take a ++ X ++ Y ++ l.drop (a + 64) := by
  have h1 : (l.take a).length = a := by simp; omega
  have hl2 : (l.take a ++ X).length = a + 32 := by rw [List.length_append, h1, hX]
  have q1 : (l.take a ++ X ++ l.drop (a + 32)).take (a + 32) = l.take a ++ X := by
    rw [List.take_append_of_le_length (by omega), List.take_of_length_le (by omega)]
  have q2 : (l.take a ++ X ++ l.drop (a + 32)).drop (a + 32 + 32) = l.drop (a + 64) := by
    rw [List.drop_append, List.drop_of_length_le (by omega), List.nil_append, hl2, List.drop_drop]
    congr 1
    omega
  unfold splice32
  rw [q1, q2]
theorem splice32_comm2 (l X Y : List UInt8) (a : Nat) (hX : X.length = 32) (hY : Y.length = 32) (hl : a + 64 ≤ l.length) : splice32 (splice32 l Y (a + 32)) X a = l.take a ++ X ++ Y ++ l.drop (a + 64) := by
  have h1 : (l.take (a + 32)).length = a + 32 := by simp; omega
  have hl2 : (l.take (a + 32) ++ Y).length = a + 64 := by rw [List.length_append, h1, hY]
  have q1 : (l.take (a + 32) ++ Y ++ l.drop (a + 32 + 32)).take a = l.take a := by
    rw [List.take_append_of_le_length (by omega), List.take_append_of_le_length (by omega), List.take_take, Nat.min_eq_left (by omega)]
  have q2 : (l.take (a + 32) ++ Y ++ l.drop (a + 32 + 32)).drop (a + 32) = Y ++ l.drop (a + 64) := by
    rw [List.append_assoc, List.drop_append, List.drop_of_length_le (by omega), List.nil_append, h1, Nat.sub_self, List.drop_zero]
  unfold splice32
  rw [q1, q2]
  simp only [List.append_assoc]
theorem fillAt_two (P : List UInt8) (k : Nat) (h : P.length = 4096) (hk : k < 64) : (fillAt P (k * 64)).take (k * 64) ++ (P.drop (k * 64)).take 32 ++ (P.drop (k * 64 + 32)).take 32 ++ (fillAt P (k * 64)).drop (k * 64 + 64) = fillAt P ((k + 1) * 64) := by
  have e1 : (fillAt P (k * 64)).take (k * 64) = P.take (k * 64) := by
    unfold fillAt
    rw [List.take_append_of_le_length (by simp; omega), List.take_take, Nat.min_self]
  have e2 : (fillAt P (k * 64)).drop (k * 64 + 64) = List.replicate (4096 - (k + 1) * 64) 0 := by
    unfold fillAt
    rw [List.drop_append, List.drop_of_length_le (by simp; omega)]
    simp
    omega
  rw [e1, e2]
  unfold fillAt
  rw [show (k + 1) * 64 = k * 64 + 32 + 32 by omega, List.take_add, List.take_add]
/-- the two halves of a bit's pair, laid in whatever order -/
theorem fillAt_pair (P : List UInt8) (k q : Nat) (h : P.length = 4096) (hk : k < 64) (hq : q < 2) (X Y : List UInt8) (hX : X = (P.drop (k * 64 + q * 32)).take 32) (hY : Y = (P.drop (k * 64 + (1 - q) * 32)).take 32) :
    splice32 (splice32 (fillAt P (k * 64)) X (k * 64 + q * 32)) Y (k * 64 + (1 - q) * 32) = fillAt P ((k + 1) * 64) := by
  have hl := fillAt_length P (k * 64) h (by omega)
  have hx : X.length = 32 := by rw [hX, List.length_take, List.length_drop]; omega
  have hy : Y.length = 32 := by rw [hY, List.length_take, List.length_drop]; omega
  match q, hq with
  | 0, _ =>
    simp only [Nat.zero_mul, Nat.add_zero, Nat.sub_zero, Nat.one_mul] at hX hY ⊢
    rw [splice32_comm _ _ _ _ hx hy (by omega), hX, hY, fillAt_two P k h hk]
  | 1, _ =>
    simp only [Nat.sub_self, Nat.zero_mul, Nat.add_zero, Nat.one_mul] at hX hY ⊢
    rw [splice32_comm2 _ _ _ _ hy hx (by omega), hX, hY, fillAt_two P k h hk]
/-- where the hidden pairs stand: k of them -/
structure ShowAt (W0 : World) (gb hb : Nat) (S P : List UInt8) (l : List UInt8) (V : World) : Prop where
  sig : Blk V gb 69 (ida S)
  hid : Blk V hb 96 (ida l)
  fr : Fr (fun j => j = hb) W0 V
theorem ShowAt.abides {W0 : World} {gb hb : Nat} {S P : List UInt8} (hk : gb < W0.heap.size) (hs : hb < W0.heap.size) : AbidesAll W0.heap.size (fun i V => ShowAt W0 gb hb S P (fillAt P (i * 64)) V) := fun i X Y h f =>
  ⟨h.sig.fr f (by omega), h.hid.fr f (by omega), h.fr.trans f (fun j hj => .inr hj)⟩
theorem ShowAt.new {W0 : World} {gb hb : Nat} {S P l : List UInt8} {V V' : World} (h : ShowAt W0 gb hb S P l V) (f : New V V') : ShowAt W0 gb hb S P l V' :=
  ⟨h.sig.fr f id, h.hid.fr f id, h.fr.trans f (fun _ h => h.elim)⟩
theorem ShowAt.put {W0 : World} {gb hb : Nat} {S P l l' : List UInt8} {V : World} (h : ShowAt W0 gb hb S P l V) (hne : gb ≠ hb) : ShowAt W0 gb hb S P l' (V.setRow hb (ida l')) :=
  ⟨h.sig.fr ((Fr.refl (fun k => k = hb) V).setRow (g := hb) rfl _) hne, h.hid.setRow _, h.fr.setRow (g := hb) rfl _⟩
def ShowS (W0 W3 : World) (gb hb : Nat) (S P l0 l1 l2 : List UInt8) (L : Array Bool) (V : World) : Prop :=
  ShowAt W0 gb hb S P (if L.getD 19 false then l2 else if L.getD 16 false then l1 else l0) V ∧ Fr (fun j => j = hb) W3 V ∧ (L.getD 19 false = true → L.getD 16 false = true)
theorem ShowS.list {W0 W3 : World} {gb hb : Nat} {S P l0 l1 l2 : List UInt8} {L : Array Bool} {V : World} (h : ShowS W0 W3 gb hb S P l0 l1 l2 L V) (i : Nat) (h1 : i ≠ 16) (h2 : i ≠ 19) : ShowS W0 W3 gb hb S P l0 l1 l2 (L.setIfInBounds i true) V := by
  unfold ShowS at h ⊢
  rw [getD_set_ne false h1, getD_set_ne false h2]
  exact h
theorem ShowS.new {W0 W3 : World} {gb hb : Nat} {S P l0 l1 l2 : List UInt8} {L : Array Bool} {V V' : World} (h : ShowS W0 W3 gb hb S P l0 l1 l2 L V) (f : New V V') : ShowS W0 W3 gb hb S P l0 l1 l2 L V' := ⟨h.1.new f, h.2.1.trans f (fun _ h => h.elim), h.2.2⟩
theorem sigL_get1 {sh ot : Nat → List UInt8} (h1 : ∀ i, (sh i).length = 32) (i : Nat) (hi : i < 64) : ((sigL sh ot).drop (i * 32)).take 32 = sh i := by
  have hl := flat1_length h1 64
  unfold sigL
  rw [List.drop_append_of_le_length (by omega), List.take_append_of_le_length (by rw [List.length_drop]; omega)]
  exact flat1_get h1 64 i hi
theorem sigL_get2 {sh ot : Nat → List UInt8} (h1 : ∀ i, (sh i).length = 32) (h2 : ∀ i, (ot i).length = 32) (i : Nat) (hi : i < 64) : ((sigL sh ot).drop (2048 + i * 32)).take 32 = ot i := by
  have hl := flat1_length h1 64
  unfold sigL
  rw [List.drop_append, List.drop_of_length_le (by omega), List.nil_append, hl, show 2048 + i * 32 - 64 * 32 = i * 32 by omega]
  exact flat1_get h2 64 i hi
attribute [local go_sem] Oper.semAt_some
set_option maxHeartbeats 2000000 in
set_option maxRecDepth 20000 in
theorem shows_any (w : World) (sh ot : Nat → List UInt8) (h1 : ∀ i, (sh i).length = 32) (h2 : ∀ i, (ot i).length = 32) (A : Option Addr) (c : Nat) (t : List UInt8) (ht : Rd w A (t.map bv)) (hl : t.length < 1000000000000000000) :
    Calls Try.prog 35 #[.agg (ida (sigL sh ot)), .slice A t.length c] w fun e w' => e = .returned (.agg (ida (Once.shows sh ot t))) ∧ New w w' := by
  refine (callsIn_wide (n := 5)).1 ?_
  refine callsIn_of_wp_marks Try.func35 rfl trivial ?_ rfl
  simp only [Try.ntmps35, List.size_toArray, List.length_cons, List.length_nil, Nat.reduceAdd, Nat.reduceSub, Array.replicate_succ, Array.replicate_zero, List.push_toArray, List.append_toArray, List.nil_append, List.cons_append]
  obtain ⟨ii, hii, hz0, hz1, hz2⟩ := info_parts infoID
  obtain ⟨ih, hih, hh0, hh1, hh2⟩ := info_parts infoH
  have hpl : ∀ i s, (Once.sides2 sh ot t i s).length = 32 := fun i s => by
    unfold Once.sides2
    split
    · rfl
    · exact h2 i
  obtain ⟨P, hP⟩ : ∃ P, P = Once.flat2 (Once.sides2 sh ot t) 64 := ⟨_, rfl⟩
  have HPL := Lib.hid (show P.length = 4096 by rw [hP]; exact Once.flat2_length hpl 64)
  have HPG := Lib.hid (show ∀ i s, i < 64 → s < 2 → Once.sides2 sh ot t i s = (P.drop (i * 64 + s * 32)).take 32 from fun i s hi hs => by rw [hP]; exact (flat2_get hpl 64 i s hi hs).symm)
  have HPP := Lib.hid (show Once.shows sh ot t = Once.sumFor Once.pPublic [P] by rw [hP]; rfl)
  have HSL := Lib.hid (sigL_length h1 h2)
  have HG1 := Lib.hid (show ∀ i, i < 64 → ((sigL sh ot).drop (i * 32)).take 32 = sh i from fun i hi => sigL_get1 h1 i hi)
  have HG2 := Lib.hid (show ∀ i, i < 64 → ((sigL sh ot).drop (2048 + i * 32)).take 32 = ot i from fun i hi => sigL_get2 h1 h2 i hi)
  have H1 := Lib.hid h1
  have H2 := Lib.hid h2
  have HT := Lib.hid ht
  have HL := Lib.hid hl
  clear hP hpl ht hl h1 h2
  generalize sigL sh ot = S at *
  gi_wp2_with (first
    | (refine x_value_in (exec_box (T := 69) rfl rfl) (fun _ h => by cases h) (fun _ h => by cases h) (by simp [go_sem, Region.wanted]) ?_)
    | (refine x_value_in (x_alloc (T := 32) rfl hii hz0) (fun _ h => by cases h) (fun _ h => by cases h) (by simp [go_sem, Region.wanted]) ?_)
    | (refine x_value_in (x_alloc (T := 96) rfl hih hh0) (fun _ h => by cases h) (fun _ h => by cases h) (by simp [go_sem, Region.wanted]) ?_))
  have hG1 := ((Blk.new w 69 (ida S)).alloc (.cells (ida z32) 32)).alloc (.cells (ida z4k) 96)
  have hR1 := (Blk.new (w.alloc (.cells (ida S) 69)) 32 (ida z32)).alloc (.cells (ida z4k) 96)
  have hS1 := Blk.new ((w.alloc (.cells (ida S) 69)).alloc (.cells (ida z32) 32)) 96 (ida z4k)
  have hN1 : New w (((w.alloc (.cells (ida S) 69)).alloc (.cells (ida z32) 32)).alloc (.cells (ida z4k) 96)) := ((Fr.alloc _ w _).then_alloc _).then_alloc _
  have hz3 : (((w.alloc (.cells (ida S) 69)).alloc (.cells (ida z32) 32)).alloc (.cells (ida z4k) 96)).heap.size = w.heap.size + 3 := by simp
  rw [World.size_alloc] at hR1 hS1
  rw [World.size_alloc] at hS1
  generalize ((w.alloc (.cells (ida S) 69)).alloc (.cells (ida z32) 32)).alloc (.cells (ida z4k) 96) = W1 at *
  refine ⟨trivial, (callsIn_wide.2 (sides_any W1 A c t (HT.out.fr hN1 (fun _ _ => id)) HL.out)).mono ?_⟩
  rintro e W2 ⟨idb, rfl, hI, hge, hN2⟩
  have hG2 := hG1.fr hN2 id
  have hR2 := hR1.fr hN2 id
  have hS2 := hS1.fr hN2 id
  have hN3 : New w W2 := hN1.trans hN2 fun _ h => h.elim
  have hs2 := hN2.size
  have HSZ := Lib.hid hz3
  clear hG1 hR1 hS1 hN1 hN2 hz3
  gi_wp2_with fail
  have hA0 : ShowAt W2 w.heap.size (w.heap.size + 2) S P (fillAt P (0 * 64)) W2 := ⟨hG2, by rw [Nat.zero_mul, fillAt_zero]; exact hS2, Fr.refl _ _⟩
  have HID := Lib.hid (Once.sumFor_length Once.pText [t])
  have HBI := Lib.hid (show ∀ i, Once.bitOf (Once.sumFor Once.pText [t]) i = Once.side t i from fun _ => rfl)
  clear hG2 hS2
  generalize Once.sumFor Once.pText [t] = sid at *
  refine wpIn_rangeFunc_cut (xs := bitsOf sid) (encs := encB) rfl (by decide) (gf := 57) (lb := #[.pointer (some ⟨idb, 0, none⟩)]) rfl trivial (enters_of Try.func57 (by kernel_rfl) rfl)
    (sidesIt_any _ (by decide) idb sid HID.out) (fun j => j = w.heap.size + 2) (fun j hj => by have := HSZ.out; omega)
    (fun W hW => ?pz) (fun _ => rfl)
    (fun i V => ShowAt W2 w.heap.size (w.heap.size + 2) S P (fillAt P (i * 64)) V) (fun _ _ _ => False) (ShowAt.abides (by have := HSZ.out; omega) (by have := HSZ.out; omega)) (fun _ _ _ _ h _ => h) hA0 ?round ?done (fun _ _ _ _ _ _ h _ => h.elim)
  case pz =>
    have := hI.lt
    have := HSZ.out
    exact ⟨hI.fr hW id, fun h => by rcases h with h | h <;> omega⟩
  case round =>
    rintro l i x W K hx hA hsz hK
    have hi : i < 64 := by
      have := (List.getElem?_eq_some_iff.1 hx).1
      rwa [bitsOf_length] at this
    rw [bitsOf_get sid i hi] at hx
    injection hx with hx
    subst hx
    rw [HBI.out i]
    have hq2 := Once.side_lt t i
    have hs0 : Once.sides2 sh ot t i (Once.side t i) = Once.hide (sh i) := by unfold Once.sides2; rw [if_pos rfl]
    have hs1 : Once.sides2 sh ot t i (1 - Once.side t i) = ot i := by unfold Once.sides2; rw [if_neg (by omega)]
    rw [HPG.out i _ hi hq2] at hs0
    rw [HPG.out i _ hi (by omega)] at hs1
    generalize Once.side t i = q at *
    have HP2 := Lib.hid (fillAt_pair P i q HPL.out hi hq2 (Once.hide (sh i)) (ot i) hs0.symm hs1.symm)
    clear hs0 hs1
    conv => arg 6; simp [encB]
    gi_wp2_with fail
    refine hK _ _ (Fr.refl _ _) (fun W3 hf3 => ?_)
    clear hK
    conv => arg 6; simp [Act.put, go_sem]
    have hA3 : ShowAt W2 w.heap.size (w.heap.size + 2) S P (fillAt P (i * 64)) W3 := ShowAt.abides (S := S) (P := P) (W0 := W2) (gb := w.heap.size) (hb := w.heap.size + 2) (by have := HSZ.out; omega) (by have := HSZ.out; omega) i W W3 hA (hf3.mono fun _ h => .inl h.1)
    have hi' : (i : Int) < 64 := by omega
    have h1q : (1 - (q : Int)) = ((1 - q : Nat) : Int) := by omega
    have hq' : (q : Int) < 2 := by omega
    have hr' : ((1 - q : Nat) : Int) < 2 := by omega
    clear hA hsz hf3
    gi_wp2_with fail
    have hl0 := fillAt_length P (i * 64) HPL.out (by omega)
    have hxl : (Once.hide (sh i)).length = 32 := rfl
    have hyl : (ot i).length = 32 := H2.out i
    have hl1 := splice32_length (fillAt P (i * 64)) (Once.hide (sh i)) (i * 64 + q * 32) hxl (by omega)
    have hw1 := splice32_put (fillAt P (i * 64)) (Once.hide (sh i)) (i * 64 + q * 32) hxl
    have hw2 := splice32_put (splice32 (fillAt P (i * 64)) (Once.hide (sh i)) (i * 64 + q * 32)) (ot i) (i * 64 + (1 - q) * 32) hyl
    rw [HP2.out] at hw2
    have HH0 := Lib.hid (show (ida (fillAt P (i * 64))).size = 4096 by rw [ida_size, hl0])
    have HH1 := Lib.hid (show (ida (splice32 (fillAt P (i * 64)) (Once.hide (sh i)) (i * 64 + q * 32))).size = 4096 by rw [ida_size, hl1, hl0])
    have HXS := Lib.hid (show (ida (Once.hide (sh i))).size = 32 by rw [ida_size, hxl])
    have HYS := Lib.hid (show (ida (ot i)).size = 32 by rw [ida_size, hyl])
    have HW1 := Lib.hid hw1
    have HW2 := Lib.hid hw2
    clear hl0 hxl hyl hl1 hw1 hw2
    generalize fillAt P (i * 64) = l0 at *
    generalize splice32 l0 (Once.hide (sh i)) (i * 64 + q * 32) = l1 at *
    generalize hl2 : fillAt P ((i + 1) * 64) = l2 at *
    have HL2 := Lib.hid hl2
    clear hl2
    have hg1 := HG1.out i hi
    have hg2 := HG2.out i hi
    have HGA := Lib.hid hg1
    have HGB := Lib.hid hg2
    clear hg1 hg2
    have h0S : ShowS W2 W3 w.heap.size (w.heap.size + 2) S P l0 l1 l2 (Array.replicate 20 false) W3.drew := ⟨hA3.new (Fr.drew _ W3), Fr.drew _ W3, fun h => by simp at h⟩
    refine wpIn_region_all (F := Fence.wide.inRound l) (fun _ => trivial) rfl (by kernel_rfl) (by kernel_rfl) [.int .i64 i, .int .i64 q, .int .i64 i, .int .i64 q, .int .i64 ((1 - q : Nat) : Int), .int .i64 i, .pointer (some ⟨w.heap.size, 0, none⟩), .pointer (some ⟨w.heap.size, i * 32, none⟩), .agg (ida (sh i)), .agg (ida (Once.hide (sh i))), .int .i64 i, .pointer (some ⟨w.heap.size, 2048, none⟩), .pointer (some ⟨w.heap.size, 2048 + i * 32, none⟩), .agg (ida (ot i)), .pointer (some ⟨w.heap.size + 2, i * 64, none⟩), .pointer (some ⟨w.heap.size + 2, i * 64 + q * 32, none⟩), undef, .pointer (some ⟨w.heap.size + 2, i * 64, none⟩), .pointer (some ⟨w.heap.size + 2, i * 64 + (1 - q) * 32, none⟩), undef]
      (by kernel_rfl) (ShowS W2 W3 w.heap.size (w.heap.size + 2) S P l0 l1 l2) _ (by simp [putAll, Act.put]; rfl) h0S ?hops ?after
    case hops =>
      refine ⟨?_, ?_, ?_, ?_, ?_, ?_, ?_, ?_, ?_, ?_, ?_, ?_, ?_, ?_, ?_, ?_, ?_, ?_, ?_, ?_, trivial⟩
      all_goals
        rintro L W' hz hd hn HS
        refine held_plain rfl ?_
      · have HS2 := HS.list 0 (by decide) (by decide)
        clear HS hd hn hz hA3
        unfold opHeld
        go_simp
      · have HS2 := HS.list 1 (by decide) (by decide)
        clear HS hd hn hz hA3
        unfold opHeld
        go_simp
      · have HS2 := HS.list 2 (by decide) (by decide)
        clear HS hd hn hz hA3
        unfold opHeld
        go_simp
      · have HS2 := HS.list 3 (by decide) (by decide)
        clear HS hd hn hz hA3
        unfold opHeld
        go_simp
      · have HS2 := HS.list 4 (by decide) (by decide)
        have hwr : IntKind.i64.wrap ((1 - q : Nat) : Int) = ((1 - q : Nat) : Int) := IntWalk.i64_in _ (by omega)
        clear HS hd hn hz hA3
        unfold opHeld
        go_simp
      · have HS2 := HS.list 5 (by decide) (by decide)
        clear HS hd hn hz hA3
        unfold opHeld
        go_simp
      · have HS2 := HS.list 6 (by decide) (by decide)
        clear HS hd hn hz hA3
        unfold opHeld
        go_simp
      · have HS2 := HS.list 7 (by decide) (by decide)
        clear HS hd hn hz hA3
        unfold opHeld
        go_simp
      · exact held_value (exec_load (T := 32) (X := ida (sh i)) (g := w.heap.size) (off := i * 32) rfl rfl underID rfl hii (hz1.trans (by rw [ida_size]; exact (H1.out i).symm)) (by have := at_off HS.1.sig (i * 32) 32 (by rw [HSL.out]; omega); rwa [HGA.out] at this)) (HS.list 8 (by decide) (by decide))
      · unfold opHeld
        go_simp
        exact (show CallsIn Fence.wide 2 _ _ _ _ _ from (callsIn_wide.2 (hide_any W' (sh i) (H1.out i))).mono fun e w'' ⟨he, hw⟩ => ⟨he, (HS.new hw).list 9 (by decide) (by decide)⟩)
      · have HS2 := HS.list 10 (by decide) (by decide)
        clear HS hd hn hz hA3
        unfold opHeld
        go_simp
      · have HS2 := HS.list 11 (by decide) (by decide)
        clear HS hd hn hz hA3
        unfold opHeld
        go_simp
      · have HS2 := HS.list 12 (by decide) (by decide)
        clear HS hd hn hz hA3
        unfold opHeld
        go_simp
      · exact held_value (exec_load (T := 32) (X := ida (ot i)) (g := w.heap.size) (off := 2048 + i * 32) rfl rfl underID rfl hii (hz1.trans (by rw [ida_size]; exact (H2.out i).symm)) (by have := at_off HS.1.sig (2048 + i * 32) 32 (by rw [HSL.out]; omega); rwa [HGB.out] at this)) (HS.list 13 (by decide) (by decide))
      · have HS2 := HS.list 14 (by decide) (by decide)
        clear HS hd hn hz hA3
        unfold opHeld
        go_simp
      · have HS2 := HS.list 15 (by decide) (by decide)
        clear HS hd hn hz hA3
        unfold opHeld
        go_simp
      · have h16 := getD_no (i := 16) (by rw [hz]; decide) hn
        have h19 : L.getD 19 false = false := by
          cases h : L.getD 19 false with
          | false => rfl
          | true => have := HS.2.2 h; rw [h16] at this; cases this
        have hA := HS.1
        rw [h19, h16] at hA
        refine held_skip (exec_store (T := 32) (X := ida (Once.hide (sh i))) (g := w.heap.size + 2) (off := i * 64 + q * 32) rfl rfl rfl hii (hz1.trans HXS.out.symm) (ida_one _) hA.hid (by change i * 64 + q * 32 + _ ≤ (ida l0).size; rw [HH0.out, HXS.out]; omega)) ?_
        change ShowS _ _ _ _ _ _ _ _ _ _ (W'.setRow _ ((ida l0).toList.take _ ++ _ ++ (ida l0).toList.drop _).toArray)
        rw [HW1.out]
        refine ⟨?_, HS.2.1.setRow (g := w.heap.size + 2) rfl _, fun _ => getD_set_self (by rw [hz]; decide)⟩
        rw [getD_set_ne false (by decide), h19, getD_set_self (by rw [hz]; decide)]
        exact hA.put (by omega)
      · have HS2 := HS.list 17 (by decide) (by decide)
        clear HS hd hn hz hA3
        unfold opHeld
        go_simp
      · have HS2 := HS.list 18 (by decide) (by decide)
        clear HS hd hn hz hA3
        unfold opHeld
        go_simp
      · have h16 : L.getD 16 false = true := hd ⟨16, .chain⟩ (by simp) rfl
        have h19 := getD_no (i := 19) (by rw [hz]; decide) hn
        have hA := HS.1
        rw [h19, h16] at hA
        refine held_skip (exec_store (T := 32) (X := ida (ot i)) (g := w.heap.size + 2) (off := i * 64 + (1 - q) * 32) rfl rfl rfl hii (hz1.trans HYS.out.symm) (ida_one _) hA.hid (by change i * 64 + (1 - q) * 32 + _ ≤ (ida l1).size; rw [HH1.out, HYS.out]; omega)) ?_
        change ShowS _ _ _ _ _ _ _ _ _ _ (W'.setRow _ ((ida l1).toList.take _ ++ _ ++ (ida l1).toList.drop _).toArray)
        rw [HW2.out]
        refine ⟨?_, HS.2.1.setRow (g := w.heap.size + 2) rfl _, fun _ => by rw [getD_set_ne false (by decide)]; exact h16⟩
        rw [getD_set_self (by rw [hz]; decide)]
        exact hA.put (by omega)
    case after =>
      rintro L W' hz hal HS
      have h19 : L.getD 19 false = true := by
        have := hal 19
        rw [Array.getD_eq_getD_getElem?] at this ⊢
        rw [Array.getElem?_eq_getElem (by rw [hz]; decide)] at this ⊢
        exact this
      have hA := HS.1
      rw [h19, if_pos rfl] at hA
      refine ⟨HS.2.1, ?_⟩
      show ShowAt W2 w.heap.size (w.heap.size + 2) S P (fillAt P ((i + 1) * 64)) W'
      rw [HL2.out]
      exact hA
  case done =>
    rintro D W hD hA hd
    rw [bitsOf_length] at hA
    have hB := hA.hid
    rw [fillAt_all P HPL.out] at hB
    have hfr := hA.fr
    have hj := join_any W (w.heap.size + 2) P hB HPL.out
    rw [← HPP.out] at hj
    have HJ := Lib.hid hj
    have HR4 := Lib.hid (hR2.fr hfr (by omega))
    have HN4 := Lib.hid (hN3.trans hfr (fun j hj => .inr (by omega)))
    have HSS := Lib.hid (show (Once.shows sh ot t).length = 32 from rfl)
    have HIS := Lib.hid (show 32 = (ida (Once.shows sh ot t)).size by rw [ida_size]; exact HSS.out.symm)
    have HZS := Lib.hid (show (ida z32).size = (ida (Once.shows sh ot t)).size by rw [ida_size, ida_size]; exact HSS.out.symm)
    clear hA hB hfr hj hR2 hN3
    generalize hS : Once.shows sh ot t = R at *
    have HE := Lib.hid hS
    clear hS
    gi_wp2_with fail
    refine ⟨trivial, CallsIn.mono (show CallsIn Fence.wide 4 _ _ _ _ _ from callsIn_wide.2 HJ.out) ?_⟩
    rintro e w4 ⟨rfl, hN5⟩
    have hr4 := HR4.out.fr hN5 id
    have hd2 : w4.heap[D]? = some (.deferred (some [])) := (hN5.block D (Array.getElem?_eq_some_iff.1 hd).1 id).trans hd
    have hDW := (Array.getElem?_eq_some_iff.1 hd).1
    clear hd
    gi_wp2_with (refine x_skip_in (exec_store_all (T := 32) (X := ida R) (g := w.heap.size + 1) (cs := ida z32) rfl rfl rfl hii (hz1.trans HIS.out) (ida_one _) hr4 HZS.out) (fun _ h => by cases h) (fun _ h => by cases h) rfl ?_)
    have hd3 : (w4.setRow (w.heap.size + 1) (ida R)).heap[D]? = some (.deferred (some [])) :=
      (((Fr.refl (fun k => k = w.heap.size + 1) w4).setRow (g := w.heap.size + 1) rfl (ida R)).block D (Array.getElem?_eq_some_iff.1 hd2).1 (by have := HSZ.out; omega)).trans hd2
    have hr3 := hr4.setRow (ida R)
    have hN6 : New w (w4.setRow (w.heap.size + 1) (ida R)) := (HN4.out.trans hN5 fun _ h => h.elim).trans ((Fr.refl (fun k => k = w.heap.size + 1) w4).setRow (g := w.heap.size + 1) rfl _) (fun j hj => .inr (by omega))
    refine ⟨by simp, .inl ⟨_, _, rfl, run_takeDeferred hd3, ?_⟩⟩
    refine ⟨_, x_results rfl HSS.out rfl (hr3.fr (Fr.putObj (S := fun j => j = D) _ rfl _) (by have := HSZ.out; omega)), ⟨by rw [HE.out], (hN6.trans (Fr.putObj (S := fun j => j = D) _ rfl _) (fun j hj => .inr (by have := HSZ.out; omega)))⟩⟩
end Go.Proofs.YtepmlmfacpbhkaaR
