/- The contracts of once's small functions: Hide, secret. -/
import Derived.Test.YtepmlmfacpbhkaaRFor
namespace Go.Proofs.YtepmlmfacpbhkaaR
open Go.RowKit Go.Shelf
set_option linter.unusedVariables false

/-- the cells of a key -/
def keyC (seed : List UInt8) (num : Int) : Array Value := (seed.map bv ++ [Value.int .i64 num]).toArray
theorem once_lt {w : World} {g : Nat} {t : TypeId} {X : List UInt8} (h : Blk w g t (ida X)) : Rd w (some ⟨g, 0, none⟩) (X.map bv) := fun h0 =>
  ⟨g, 0, rfl, h.lt, fun j hj => by rw [Nat.zero_add, h.cell, ida, List.getElem?_toArray, List.getElem?_eq_getElem hj]⟩
theorem x_sl32 : (32 : Nat) = (ida z32).size := by rw [ida_size]; rfl
set_option maxHeartbeats 1000000 in
set_option maxRecDepth 20000 in
theorem hide_any (w : World) (x : List UInt8) (hx : x.length = 32) :
    Calls Try.prog 36 #[.agg (ida x)] w fun e w' => e = .returned (.agg (ida (Once.hide x))) ∧ New w w' := by
  obtain ⟨ii, hii, hz0, hz1, hz2⟩ := info_parts infoID
  have hb1 := (Blk.new w 32 (ida x)).alloc (.cells (ida z32) 32)
  have hr1 := Blk.new (w.alloc (.cells (ida x) 32)) 32 (ida z32)
  have hN1 : New w ((w.alloc (.cells (ida x) 32)).alloc (.cells (ida z32) 32)) := (Fr.alloc _ w _).then_alloc _
  have hs1 : ((w.alloc (.cells (ida x) 32)).alloc (.cells (ida z32) 32)).heap.size = w.heap.size + 2 := by simp
  rw [World.size_alloc] at hr1
  have HW := Lib.hid (show Blk ((w.alloc (.cells (ida x) 32)).alloc (.cells (ida z32) 32)) w.heap.size 32 (ida x) ∧ Blk ((w.alloc (.cells (ida x) 32)).alloc (.cells (ida z32) 32)) (w.heap.size + 1) 32 (ida z32) ∧
    New w ((w.alloc (.cells (ida x) 32)).alloc (.cells (ida z32) 32)) ∧ ((w.alloc (.cells (ida x) 32)).alloc (.cells (ida z32) 32)).heap.size = w.heap.size + 2 from ⟨hb1, hr1, hN1, hs1⟩)
  have HX := Lib.hid hx
  clear hb1 hr1 hN1 hs1 hx
  go_enter Try.func36, Try.ntmps36
  go_wp2_with (first
    | (refine x_value (exec_box (T := 32) rfl rfl) (by simp [go_sem, Region.wanted, yielded]) ?_)
    | (refine x_value (x_alloc (T := 32) rfl hii hz0) (by simp [go_sem, Region.wanted, yielded]) ?_))
  obtain ⟨hb1, hr1, hN1, hs1⟩ := HW.out
  clear HW
  generalize (w.alloc (.cells (ida x) 32)).alloc (.cells (ida z32) 32) = W2 at *
  have hP : PartsAt (W2.alloc (.cells #[.slice (some ⟨w.heap.size, 0, none⟩) 32 32] 66)) (some ⟨w.heap.size + 2, 0, none⟩) [⟨some ⟨w.heap.size, 0, none⟩, 32, x⟩] := by
    refine ⟨?_, fun p hp => ?_⟩
    · have := lit_rd W2 [.slice (some ⟨w.heap.size, 0, none⟩) 32 32] 66
      rw [hs1] at this
      have e : ([⟨some ⟨w.heap.size, 0, none⟩, 32, x⟩] : List Part).map Part.v = [.slice (some ⟨w.heap.size, 0, none⟩) 32 32] := by simp [Part.v, HX.out]
      rw [e]
      exact this
    · simp at hp
      subst hp
      exact (once_lt hb1).alloc _
  have hfor := sumFor_any _ Once.pHide (some ⟨w.heap.size + 2, 0, none⟩) 1 _ hP (by simp [Once.forB, Once.len4, Once.pHide, HX.out]) (by simp)
  have hid : Once.sumFor Once.pHide (([⟨some ⟨w.heap.size, 0, none⟩, 32, x⟩] : List Part).map (·.b)) = Once.hide x := rfl
  rw [hid] at hfor
  have hN3 := hN1.then_alloc (.cells #[.slice (some ⟨w.heap.size, 0, none⟩) 32 32] 66)
  have hr3 := hr1.alloc (.cells #[.slice (some ⟨w.heap.size, 0, none⟩) 32 32] 66)
  have HS := Lib.hid (show Once.hide x = Once.hide x ∧ (Once.hide x).length = 32 from ⟨rfl, rfl⟩)
  have HIS := Lib.hid (show 32 = (ida (Once.hide x)).size by rw [ida_size]; exact HS.out.2.symm)
  have HZS := Lib.hid (show (ida z32).size = (ida (Once.hide x)).size by rw [ida_size, ida_size]; exact HS.out.2.symm)
  clear hid hP hb1 hr1 hN1
  generalize hS : Once.hide x = S at *
  have HE := Lib.hid hS
  refine Calls.mono (show Calls Try.prog 53 #[.string ⟨Once.pHide.toArray⟩, .slice (some ⟨w.heap.size + 2, 0, none⟩) 1 1] (W2.alloc (.cells #[.slice (some ⟨w.heap.size, 0, none⟩) 32 32] 66)) _ from hfor) ?_
  rintro e w4 ⟨rfl, hN4⟩
  have hr4 := hr3.fr hN4 id
  clear hr3 hfor hS
  go_wp2_with (refine x_skip (exec_store_all (T := 32) (X := ida S) (g := w.heap.size + 1) (cs := ida z32) rfl rfl rfl hii (hz1.trans HIS.out) (ida_one _) hr4 HZS.out) rfl ?_)
  refine bodyPost_ret (x_results rfl HS.out.2 rfl (hr4.setRow _)) rfl ⟨by rw [HE.out], ?_⟩
  exact ((hN3.trans hN4 fun _ h => h.elim).trans ((Fr.refl (fun k => k = w.heap.size + 1) w4).setRow (g := w.heap.size + 1) rfl _) (fun j hj => .inr (by omega)))
/-- where the secret's region stands -/
def SecAt (W2 : World) (kb rb n : Nat) (seed four sec : List UInt8) (num : Int) (L : Array Bool) (W' : World) : Prop :=
  Blk W' kb 62 (keyC seed num) ∧ Fr (fun k => k = rb) W2 W' ∧ (L.getD 16 false = false → Blk W' rb 32 (ida z32)) ∧ (L.getD 16 false = true → Blk W' rb 32 (ida sec)) ∧
  (L.getD 13 false = false → W'.heap.size = n) ∧ (L.getD 13 false = true → L.getD 14 false = false → W'.heap.size = n + 1 ∧ Rd W' (some ⟨n, 0, none⟩) (four.map bv)) ∧
  (L.getD 14 false = true → PartsAt W' (some ⟨n + 1, 0, none⟩) [⟨some ⟨kb, 0, none⟩, 32, seed⟩, ⟨some ⟨n, 0, none⟩, 4, four⟩]) ∧ (L.getD 14 false = true → L.getD 13 false = true)
theorem SecAt.list {W2 : World} {kb rb n : Nat} {seed four sec : List UInt8} {num : Int} {L : Array Bool} {W' : World} (h : SecAt W2 kb rb n seed four sec num L W') (i : Nat) (h1 : i ≠ 13) (h2 : i ≠ 14) (h3 : i ≠ 16) : SecAt W2 kb rb n seed four sec num (L.setIfInBounds i true) W' := by
  unfold SecAt at h ⊢
  rw [getD_set_ne false h1, getD_set_ne false h2, getD_set_ne false h3]
  exact h
theorem getD_set_self {L : Array Bool} {i : Nat} (h : i < L.size) : (L.setIfInBounds i true).getD i false = true := by
  rw [Array.getD_eq_getD_getElem?, Array.getElem?_setIfInBounds_self_of_lt h]
  rfl
theorem getD_no {L : Array Bool} {i : Nat} (h : i < L.size) (h2 : L.getD i true = false) : L.getD i false = false := by
  rw [Array.getD_eq_getD_getElem?, Array.getElem?_eq_getElem h] at h2 ⊢
  exact h2
theorem key_rd {w : World} {g : Nat} {seed : List UInt8} {num : Int} (h : Blk w g 62 (keyC seed num)) : Rd w (some ⟨g, 0, none⟩) (seed.map bv) := fun h0 =>
  ⟨g, 0, rfl, h.lt, fun j hj => by rw [Nat.zero_add, h.cell, keyC, List.getElem?_toArray, List.getElem?_append_left hj, List.getElem?_eq_getElem hj]⟩
def fourC (num : Int) (bit side : Nat) : Array Value := #[.int .u8 (IntKind.u8.wrap (num / 256)), .int .u8 (IntKind.u8.wrap num), .int .u8 (IntKind.u8.wrap bit), .int .u8 (IntKind.u8.wrap side)]
theorem fourC_eq (num : Int) (bit side : Nat) : fourC num bit side = ((Once.two num ++ [UInt8.ofNat bit, UInt8.ofNat side]).map bv).toArray := by
  have e : ∀ n : Int, (Value.int .u8 (IntKind.u8.wrap n)) = bv (UInt8.ofNat (n % 256).toNat) := fun n => by
    unfold bv
    congr 1
    rw [IntKind.wrap_u8, UInt8.toNat_ofNat']
    omega
  have e2 : ∀ n : Nat, (Value.int .u8 (IntKind.u8.wrap (n : Int))) = bv (UInt8.ofNat n) := fun n => by
    rw [e]
    unfold bv
    congr 1
    rw [UInt8.toNat_ofNat', UInt8.toNat_ofNat']
    omega
  unfold fourC Once.two
  rw [e, e, e2, e2]
  rfl
theorem SecAt.new {W2 : World} {kb rb n : Nat} {seed four sec : List UInt8} {num : Int} {L : Array Bool} {W' W'' : World} (h : SecAt W2 kb rb n seed four sec num L W') (h14 : L.getD 14 false = true) (f : New W' W'') : SecAt W2 kb rb n seed four sec num L W'' := by
  obtain ⟨q1, q2, q3, q4, q5, q6, q7, q8⟩ := h
  refine ⟨q1.fr f id, q2.trans f (fun _ h => h.elim), fun h => (q3 h).fr f id, fun h => (q4 h).fr f id, fun h => ?_, fun _ h => ?_, fun h => (q7 h).fr f ⟨fun _ _ _ => id, fun _ _ _ _ _ => id⟩, q8⟩
  · rw [q8 h14] at h; cases h
  · rw [h14] at h; cases h
theorem SecAt.made1 {W2 : World} {kb rb n : Nat} {seed four sec : List UInt8} {num : Int} {L : Array Bool} {W' : World} (h : SecAt W2 kb rb n seed four sec num L W') (hs : 13 < L.size) (h13 : L.getD 13 false = false) (t : TypeId) :
    SecAt W2 kb rb n seed four sec num (L.setIfInBounds 13 true) (W'.alloc (.cells (four.map bv).toArray t)) := by
  obtain ⟨q1, q2, q3, q4, q5, q6, q7, q8⟩ := h
  have f := Fr.alloc (fun _ => False) W' (.cells (four.map bv).toArray t)
  unfold SecAt
  rw [getD_set_self hs, getD_set_ne false (by decide), getD_set_ne false (by decide)]
  refine ⟨q1.fr f id, q2.trans f (fun _ h => h.elim), fun h => (q3 h).fr f id, fun h => (q4 h).fr f id, (fun h => by cases h), fun _ _ => ⟨by rw [World.size_alloc, q5 h13], ?_⟩, fun h => (q7 h).fr f ⟨fun _ _ _ => id, fun _ _ _ _ _ => id⟩, fun _ => rfl⟩
  have := lit_rd W' (four.map bv) t
  rwa [q5 h13] at this
theorem SecAt.made2 {W2 : World} {kb rb n : Nat} {seed four sec : List UInt8} {num : Int} {L : Array Bool} {W' : World} (h : SecAt W2 kb rb n seed four sec num L W') (hs : 14 < L.size) (h13 : L.getD 13 false = true) (h14 : L.getD 14 false = false) (hx : seed.length = 32) (h4 : four.length = 4) :
    SecAt W2 kb rb n seed four sec num (L.setIfInBounds 14 true) (W'.alloc (.cells #[.slice (some ⟨kb, 0, none⟩) 32 32, .slice (some ⟨n, 0, none⟩) 4 4] 66)) := by
  obtain ⟨q1, q2, q3, q4, q5, q6, q7, q8⟩ := h
  obtain ⟨p1, p2⟩ := q6 h13 h14
  have f := Fr.alloc (fun _ => False) W' (.cells #[.slice (some ⟨kb, 0, none⟩) 32 32, .slice (some ⟨n, 0, none⟩) 4 4] 66)
  unfold SecAt
  rw [getD_set_self hs, getD_set_ne false (by decide), getD_set_ne false (by decide)]
  refine ⟨q1.fr f id, q2.trans f (fun _ h => h.elim), fun h => (q3 h).fr f id, fun h => (q4 h).fr f id, fun h => ?_, (fun _ h => by cases h), fun _ => ⟨?_, fun p hp => ?_⟩, fun _ => h13⟩
  · rw [h13] at h; cases h
  · have := lit_rd W' [.slice (some ⟨kb, 0, none⟩) 32 32, .slice (some ⟨n, 0, none⟩) 4 4] 66
    rw [p1] at this
    have e : ([⟨some ⟨kb, 0, none⟩, 32, seed⟩, ⟨some ⟨n, 0, none⟩, 4, four⟩] : List Part).map Part.v = [.slice (some ⟨kb, 0, none⟩) 32 32, .slice (some ⟨n, 0, none⟩) 4 4] := by simp [Part.v, hx, h4]
    rw [e]
    exact this
  · simp at hp
    rcases hp with rfl | rfl
    · exact (key_rd q1).fr f (fun _ _ => id)
    · exact p2.fr f (fun _ _ => id)
theorem SecAt.stored {W2 : World} {kb rb n : Nat} {seed four sec : List UInt8} {num : Int} {L : Array Bool} {W' : World} (h : SecAt W2 kb rb n seed four sec num L W') (hs : 16 < L.size) (h13 : L.getD 13 false = true) (h14 : L.getD 14 false = true) (h16 : L.getD 16 false = false) (hne : kb ≠ rb) (hn : rb < n) :
    SecAt W2 kb rb n seed four sec num (L.setIfInBounds 16 true) (W'.setRow rb (ida sec)) := by
  obtain ⟨q1, q2, q3, q4, q5, q6, q7, q8⟩ := h
  have f := (Fr.refl (fun k => k = rb) W').setRow (g := rb) rfl (ida sec)
  unfold SecAt
  rw [getD_set_self hs, getD_set_ne false (by decide), getD_set_ne false (by decide)]
  refine ⟨q1.fr f hne, q2.trans f (fun _ h => .inl h), (fun h => by cases h), fun _ => (q3 h16).setRow _, fun h => ?_, fun _ h => ?_, fun h => (q7 h).fr f ⟨fun _ k hk e => ?_, fun p hp _ k hk e => ?_⟩, fun _ => h13⟩
  · rw [h13] at h; cases h
  · rw [h14] at h; cases h
  · simp [ab] at hk
    omega
  · simp at hp
    rcases hp with rfl | rfl
    · simp [ab] at hk
      omega
    · simp [ab] at hk
      omega
set_option maxHeartbeats 1000000 in
set_option maxRecDepth 20000 in
theorem secret_any (w : World) (seed : List UInt8) (num : Int) (bit side : Nat) (hx : seed.length = 32) :
    Calls Try.prog 46 #[.agg (keyC seed num), .int .i64 bit, .int .i64 side] w fun e w' => e = .returned (.agg (ida (Once.secret seed num bit side))) ∧ New w w' := by
  obtain ⟨ii, hii, hz0, hz1, hz2⟩ := info_parts infoID
  have HX := Lib.hid hx
  clear hx
  go_enter Try.func46, Try.ntmps46
  go_wp2_with (first
    | (refine x_value (exec_box (T := 62) rfl rfl) (by simp [go_sem, Region.wanted, yielded]) ?_)
    | (refine x_value (x_alloc (T := 32) rfl hii hz0) (by simp [go_sem, Region.wanted, yielded]) ?_))
  have hb1 := (Blk.new w 62 (keyC seed num)).alloc (.cells (ida z32) 32)
  have hr1 := Blk.new (w.alloc (.cells (keyC seed num) 62)) 32 (ida z32)
  have hN1 : New w ((w.alloc (.cells (keyC seed num) 62)).alloc (.cells (ida z32) 32)) := (Fr.alloc _ w _).then_alloc _
  have hs1 : ((w.alloc (.cells (keyC seed num) 62)).alloc (.cells (ida z32) 32)).heap.size = w.heap.size + 2 := by simp
  rw [World.size_alloc] at hr1
  generalize (w.alloc (.cells (keyC seed num) 62)).alloc (.cells (ida z32) 32) = W2 at *
  have h0 : SecAt W2 w.heap.size (w.heap.size + 1) (w.heap.size + 2) seed (Once.two num ++ [UInt8.ofNat bit, UInt8.ofNat side]) (Once.secret seed num bit side) num (Array.replicate 17 false) W2.drew :=
    ⟨hb1, Fr.drew _ W2, fun _ => hr1, fun h => by simp at h, fun _ => hs1, fun h => by simp at h, (fun h => by simp at h), (fun h => by simp at h)⟩
  clear hb1 hr1
  refine wp_region_all (by kernel_rfl) (by kernel_rfl) [.pointer (some ⟨w.heap.size, 0, none⟩), .slice (some ⟨w.heap.size, 0, none⟩) 32 32, .pointer (some ⟨w.heap.size, 32, none⟩), .int .i64 num, .int .i64 (num / 256), .int .u8 (IntKind.u8.wrap (num / 256)), .pointer (some ⟨w.heap.size, 32, none⟩), .int .i64 num, .int .u8 (IntKind.u8.wrap num), .int .i64 bit, .int .u8 (IntKind.u8.wrap bit), .int .i64 side, .int .u8 (IntKind.u8.wrap side), .slice (some ⟨w.heap.size + 2, 0, none⟩) 4 4, .slice (some ⟨w.heap.size + 2 + 1, 0, none⟩) 2 2, .agg (ida (Once.secret seed num bit side)), undef]
    (by kernel_rfl) (SecAt W2 w.heap.size (w.heap.size + 1) (w.heap.size + 2) seed (Once.two num ++ [UInt8.ofNat bit, UInt8.ofNat side]) (Once.secret seed num bit side) num) _ (by simp [putAll, Act.put]; rfl) h0 ?hops ?after
  case hops =>
    refine ⟨?_, ?_, ?_, ?_, ?_, ?_, ?_, ?_, ?_, ?_, ?_, ?_, ?_, ?_, ?_, ?_, ?_, trivial⟩
    all_goals
      rintro L W' hs hd hn HS
      refine held_plain rfl ?_
    · have H2 := HS.list 0 (by decide) (by decide) (by decide)
      clear HS hd hn hs
      unfold opHeld
      go_simp
    · have H2 := HS.list 1 (by decide) (by decide) (by decide)
      clear HS hd hn hs
      unfold opHeld
      go_simp
    · have H2 := HS.list 2 (by decide) (by decide) (by decide)
      clear HS hd hn hs
      unfold opHeld
      go_simp
    · have H2 := HS.list 3 (by decide) (by decide) (by decide)
      have hc : W'.cell? ⟨w.heap.size, 32, none⟩ = some (.int .i64 num) := by rw [HS.1.cell]; simp [keyC, HX.out]
      clear HS hd hn hs
      unfold opHeld
      go_simp
    · have H2 := HS.list 4 (by decide) (by decide) (by decide)
      clear HS hd hn hs
      unfold opHeld
      go_simp
    · have H2 := HS.list 5 (by decide) (by decide) (by decide)
      clear HS hd hn hs
      unfold opHeld
      go_simp
    · have H2 := HS.list 6 (by decide) (by decide) (by decide)
      clear HS hd hn hs
      unfold opHeld
      go_simp
    · have H2 := HS.list 7 (by decide) (by decide) (by decide)
      have hc : W'.cell? ⟨w.heap.size, 32, none⟩ = some (.int .i64 num) := by rw [HS.1.cell]; simp [keyC, HX.out]
      clear HS hd hn hs
      unfold opHeld
      go_simp
    · have H2 := HS.list 8 (by decide) (by decide) (by decide)
      clear HS hd hn hs
      unfold opHeld
      go_simp
    · have H2 := HS.list 9 (by decide) (by decide) (by decide)
      clear HS hd hn hs
      unfold opHeld
      go_simp
    · have H2 := HS.list 10 (by decide) (by decide) (by decide)
      clear HS hd hn hs
      unfold opHeld
      go_simp
    · have H2 := HS.list 11 (by decide) (by decide) (by decide)
      clear HS hd hn hs
      unfold opHeld
      go_simp
    · have H2 := HS.list 12 (by decide) (by decide) (by decide)
      clear HS hd hn hs
      unfold opHeld
      go_simp
    · have H2 := HS.made1 (by rw [hs]; decide) (getD_no (i := 13) (by rw [hs]; decide) hn) 5
      rw [← fourC_eq] at H2
      have hsz := HS.2.2.2.2.1 (getD_no (i := 13) (by rw [hs]; decide) hn)
      unfold fourC at H2
      clear HS hd hn hs
      unfold opHeld
      go_simp
    · have h13 : L.getD 13 false = true := hd ⟨13, .data⟩ (by simp) rfl
      have h14 := getD_no (i := 14) (by rw [hs]; decide) hn
      have H2 := HS.made2 (by rw [hs]; decide) h13 h14 HX.out rfl
      have hsz := (HS.2.2.2.2.2.1 h13 h14).1
      clear HS hd hn hs h13 h14
      unfold opHeld
      go_simp
    · have h14 : L.getD 14 false = true := hd ⟨14, .data⟩ (by simp) rfl
      have hfor := sumFor_any W' Once.pSecret (some ⟨w.heap.size + 2 + 1, 0, none⟩) 2 _ (HS.2.2.2.2.2.2.1 h14) (by simp [Once.forB, Once.len4, Once.pSecret, Once.two, HX.out]) (by simp)
      have hid : Once.sumFor Once.pSecret (([⟨some ⟨w.heap.size, 0, none⟩, 32, seed⟩, ⟨some ⟨w.heap.size + 2, 0, none⟩, 4, Once.two num ++ [UInt8.ofNat bit, UInt8.ofNat side]⟩] : List Part).map (·.b)) = Once.secret seed num bit side := rfl
      rw [hid] at hfor
      have H2 := HS.list 15 (by decide) (by decide) (by decide)
      have h14' : (L.setIfInBounds 15 true).getD 14 false = true := by rw [getD_set_ne false (by decide)]; exact h14
      clear HS hd hn hs hid
      unfold opHeld
      go_simp
      exact (show CallsIn Fence.wide 0 _ _ _ _ _ from (callsIn_wide.2 hfor).mono fun e w'' ⟨he, hw⟩ => ⟨he, H2.new h14' hw⟩)
    · have h13 : L.getD 13 false = true := hd ⟨13, .phase⟩ (by simp) rfl
      have h14 : L.getD 14 false = true := hd ⟨14, .phase⟩ (by simp) rfl
      have h16 := getD_no (i := 16) (by rw [hs]; decide) hn
      have hsl : (Once.secret seed num bit side).length = 32 := rfl
      refine held_skip (exec_store_all (T := 32) (X := ida (Once.secret seed num bit side)) (g := w.heap.size + 1) (cs := ida z32) rfl rfl rfl hii (hz1.trans (by rw [ida_size]; exact hsl.symm)) (ida_one _) (HS.2.2.1 h16) (by rw [ida_size, ida_size]; exact hsl.symm)) ?_
      exact HS.stored (by rw [hs]; decide) h13 h14 h16 (by omega) (by omega)
  case after =>
    rintro L W' hs hal HS
    have h16 : L.getD 16 false = true := by
      have := hal 16
      rw [Array.getD_eq_getD_getElem?] at this ⊢
      rw [Array.getElem?_eq_getElem (by rw [hs]; decide)] at this ⊢
      exact this
    have hr := HS.2.2.2.1 h16
    have hf := HS.2.1
    clear HS
    go_wp2_with fail
    refine bodyPost_ret (x_results rfl rfl rfl hr) rfl ⟨rfl, hN1.trans hf (fun j hj => .inr (by omega))⟩
end Go.Proofs.YtepmlmfacpbhkaaR
