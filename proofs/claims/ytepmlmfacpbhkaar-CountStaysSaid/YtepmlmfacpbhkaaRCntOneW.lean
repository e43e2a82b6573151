/- CountOne, walked. -/
import Derived.Test.YtepmlmfacpbhkaaRCntOneP
import Derived.Test.YtepmlmfacpbhkaaRCntNeedsW
namespace Go.Proofs.YtepmlmfacpbhkaaR
open Go.RowKit Go.Shelf
set_option linter.unusedVariables false

/-- a slice of sums -/
structure IdsAt (w : World) (A : Option Addr) (l : List Cnt.Vid) : Prop where
  rd : 0 < l.length → ∃ b off, A = some ⟨b, off, none⟩ ∧ b < w.heap.size ∧ ∀ j (h : j < l.length), At w b (off + j * 32) (ida l[j])
  len : ∀ x ∈ l, x.length = 32
theorem At.fr {S : Nat → Prop} {w w' : World} {b off : Nat} {X : Array Value} (h : At w b off X) (f : Fr S w w') (hb : b < w.heap.size) (hS : ¬ S b) : At w' b off X := fun j hj => (f.cell (p := ⟨b, off + j, none⟩) hb hS).trans (h j hj)
theorem IdsAt.fr {S : Nat → Prop} {w w' : World} {A : Option Addr} {l : List Cnt.Vid} (h : IdsAt w A l) (f : Fr S w w') (hS : ∀ j, S j → w.heap.size ≤ j) : IdsAt w' A l :=
  ⟨fun h0 => by
    obtain ⟨b, off, e, hb, hc⟩ := h.rd h0
    exact ⟨b, off, e, Nat.lt_of_lt_of_le hb f.size, fun j hj => (hc j hj).fr f hb (fun s => by have := hS _ s; omega)⟩, h.len⟩
theorem putOf_any (w : World) (g : Nat) (B : Nat → Nat → Nat) (n j : Nat) (F : Nat → Option Cnt.Vid) (x : Cnt.Vid) (hx : x.length = 32) (hF : F j = some x) (hj : j < n) (h : CntAt w g B n (Cnt.tabOf j F)) :
    Calls Try.prog 17 #[.pointer (some ⟨g, 0, none⟩), .int .i64 0, .int .i64 0, .int .i64 j, .agg (ida x)] w fun e w' =>
      (∃ c : Int, e = .returned (.int .i64 c)) ∧ CntAt w' g B n (Cnt.tabOf (j + 1) F) ∧ Fr (RowsOf B) w w' := by
  have := put_any w g B n (Cnt.tabOf j F) 0 0 j x hx h
  rw [Cnt.tabOf_some n j F x hF hj] at this
  exact this.mono fun e w' ⟨a, b, c⟩ => ⟨⟨_, a⟩, b, c⟩

theorem sureV_eq (o : Option Cnt.Vid) : sureV o = .tuple #[.agg (ida (o.getD Cnt.z)), .bool o.isSome] := by cases o <;> rfl
theorem sure_len {w : World} {g : Nat} {B : Nat → Nat → Nat} {n : Nat} {V : Cnt.Tab} (h : CntAt w g B n V) (r k : Int) : ((Cnt.sure n V r k).getD Cnt.z).length = 32 := by
  cases hx : Cnt.sure n V r k with
  | none => rfl
  | some x =>
    unfold Cnt.sure at hx
    obtain ⟨p, hp, rfl⟩ := Option.map_eq_some_iff.1 hx
    obtain ⟨j, hj⟩ := List.mem_iff_getElem?.1 (List.mem_of_find?_eq_some hp)
    exact (castsAt_len h hj).1
theorem sureT_any (w : World) (g : Nat) (B : Nat → Nat → Nat) (n : Nat) (V : Cnt.Tab) (r k : Int) (x : Cnt.Vid) (b : Bool) (hx : (Cnt.sure n V r k).getD Cnt.z = x) (hb : (Cnt.sure n V r k).isSome = b) (h : CntAt w g B n V) :
    Calls Try.prog 18 #[.pointer (some ⟨g, 0, none⟩), .int .i64 r, .int .i64 k] w fun e w' => e = .returned (.tuple #[.agg (ida x), .bool b]) ∧ New w w' := by
  have := sure_any w g B n V r k h
  rw [sureV_eq, hx, hb] at this
  exact this
/-- how the two counts lie -/
structure Two (w : World) (fb ga gb : Nat) (Ba Bb : Nat → Nat → Nat) (s0 s1 : Value) (n j : Nat) (Fa Fb : Nat → Option Cnt.Vid) (W : World) : Prop where
  box : Blk W fb 23 #[s0, s1]
  a : CntAt W ga Ba n (Cnt.tabOf j Fa)
  b : CntAt W gb Bb n (Cnt.tabOf j Fb)
  fr : New w W
structure Sep (fb ga gb : Nat) (Ba Bb : Nat → Nat → Nat) (m0 m : Nat) : Prop where
  lfb : fb < m
  lga : ga < m
  lgb : m ≤ gb
  ra : ∀ j, RowsOf Ba j → j < m ∧ j ≠ fb ∧ m0 ≤ j
  rb : ∀ j, RowsOf Bb j → m ≤ j
  le : m0 ≤ m
theorem Two.putA {w : World} {fb ga gb : Nat} {Ba Bb : Nat → Nat → Nat} {s0 s1 : Value} {n j : Nat} {Fb : Nat → Option Cnt.Vid} {W W' : World} {m : Nat} {Va : Cnt.Tab} (hs : Sep fb ga gb Ba Bb w.heap.size m)
    (hb : Blk W fb 23 #[s0, s1]) (ha : CntAt W' ga Ba n Va) (hB : CntAt W gb Bb n (Cnt.tabOf j Fb)) (hf : New w W) (f : Fr (RowsOf Ba) W W') :
    Blk W' fb 23 #[s0, s1] ∧ CntAt W' gb Bb n (Cnt.tabOf j Fb) ∧ New w W' :=
  ⟨hb.fr f (fun s => (hs.ra _ s).2.1 rfl), hB.fr f (fun s => by have := (hs.ra _ s).1; have := hs.lgb; omega) (fun r k hr hk s => by have := (hs.ra _ s).1; have := hs.rb _ ⟨r, k, hr, hk, rfl⟩; omega),
    hf.trans f fun j hj => .inr (hs.ra _ hj).2.2⟩
theorem Two.putB {w : World} {fb ga gb : Nat} {Ba Bb : Nat → Nat → Nat} {s0 s1 : Value} {n : Nat} {Va : Cnt.Tab} {W W' : World} {m : Nat} (hs : Sep fb ga gb Ba Bb w.heap.size m)
    (hb : Blk W fb 23 #[s0, s1]) (ha : CntAt W ga Ba n Va) (hf : New w W) (f : Fr (RowsOf Bb) W W') :
    Blk W' fb 23 #[s0, s1] ∧ CntAt W' ga Ba n Va ∧ New w W' :=
  ⟨hb.fr f (fun s => by have := hs.rb _ s; have := hs.lfb; omega), ha.fr f (fun s => by have := hs.rb _ s; have := hs.lga; omega) (fun r k hr hk s => by have := hs.rb _ s; have := (hs.ra _ ⟨r, k, hr, hk, rfl⟩).1; omega),
    hf.trans f fun j hj => .inr (by have := hs.rb _ hj; have := hs.le; omega)⟩

set_option maxHeartbeats 4000000 in
set_option maxRecDepth 20000 in
theorem countOne_walk (n : Int) (A0 A1 A2 : Option Addr) (c0 c1 c2 : Nat) (L H0 H1 : List Cnt.Vid) (w : World) (hL : IdsAt w A0 L) (h0 : IdsAt w A1 H0) (h1 : IdsAt w A2 H1)
    (m0 : L.length ≤ maxLen) (m1 : H0.length ≤ maxLen) (m2 : H1.length ≤ maxLen) :
    Calls Try.prog 3 #[.int .i64 n, .slice A0 L.length c0, .agg #[.slice A1 H0.length c1, .slice A2 H1.length c2]] w fun e w' => e = .returned (.bool true) ∧ Below w.heap.size w w' := by
  obtain ⟨ii, hii, hz0, hz1, hz2⟩ := info_parts infoI
  unfold maxLen at m0 m1 m2
  by_cases hn : n = 1 ∨ n = 4 ∨ n = 7
  · obtain ⟨n, rfl⟩ : ∃ n' : Nat, n = n' := ⟨n.toNat, by omega⟩
    have hn' : n = 1 ∨ n = 4 ∨ n = 7 := by omega
    obtain ⟨f, hf⟩ : ∃ f : Nat, Cnt.faults n = f := by rcases hn' with rfl | rfl | rfl; exact ⟨0, rfl⟩; exact ⟨1, rfl⟩; exact ⟨2, rfl⟩
    have hB0 := Blk.new w 23 #[.slice A1 H0.length c1, .slice A2 H1.length c2]
    have hN0 : New w (w.alloc (.cells #[.slice A1 H0.length c1, .slice A2 H1.length c2] 23)) := Fr.alloc _ w _
    go_enter Try.func3, Try.ntmps3
    go_wp2_with (first
      | (go_at_call 14; refine (counts_any _).mono ?_; rintro e w1 ⟨rfl, hN1⟩)
      | (go_at_call 15; refine (hf ▸ rfaults_any n _ : Calls _ _ _ _ fun e w' => e = .returned (.int .i64 (f : Int)) ∧ _ = w').mono ?_; rintro e w' ⟨rfl, rfl⟩)
      | (go_at_call 16; refine (new_any _ n hn').mono ?_; first | (have h9 := hCa; clear h9; rintro e w3 ⟨rfl, hCb, hN3⟩) | (rintro e w2 ⟨rfl, hCa, hN2⟩)))
    have hga := hCa.glt
    have hzw : w.heap.size + 1 ≤ w1.heap.size := by have := hN1.size; simpa using this
    have hS : Sep w.heap.size w1.heap.size w2.heap.size (fun r k => w1.heap.size + 1 + (r * 2 + k)) (fun r k => w2.heap.size + 1 + (r * 2 + k)) w.heap.size w2.heap.size :=
      ⟨by omega, hga, Nat.le_refl _, fun j hj => by
        have h1 := hj.new
        obtain ⟨r, k, hr, hk, rfl⟩ := hj
        exact ⟨hCa.blt hr hk, by omega, by omega⟩, fun j hj => hj.new, by omega⟩
    have hT : Two w w.heap.size w1.heap.size w2.heap.size (fun r k => w1.heap.size + 1 + (r * 2 + k)) (fun r k => w2.heap.size + 1 + (r * 2 + k)) (.slice A1 H0.length c1) (.slice A2 H1.length c2) n 0
        (fun v => if v < f then H0[v]? else L[v - f]?) (fun v => if v < f then H1[v]? else L[v - f]?) w3 :=
      ⟨((hB0.fr hN1 id).fr hN2 id).fr hN3 id, by rw [Cnt.tabOf_0]; exact hCa.fr hN3 id (fun _ _ _ _ => id), by rw [Cnt.tabOf_0]; exact hCb, ((hN0.trans hN1 (fun _ h => h.elim)).trans hN2 (fun _ h => h.elim)).trans hN3 (fun _ h => h.elim)⟩
    have HF := Lib.hid hf
    clear hCa hCb hN1 hN2 hN3 hB0 hN0 hga hzw hf
    generalize (fun r k => w1.heap.size + 1 + (r * 2 + k)) = Ba at *
    generalize (fun r k => w2.heap.size + 1 + (r * 2 + k)) = Bb at *
    generalize hfa : (fun v => if v < f then H0[v]? else L[v - f]?) = Fa at *
    generalize hfb : (fun v => if v < f then H1[v]? else L[v - f]?) = Fb at *
    generalize w1.heap.size = ga at *
    generalize w2.heap.size = gb at *
    obtain ⟨fb, hfbx⟩ : ∃ fb, w.heap.size = fb := ⟨_, rfl⟩
    have hT' : Two w fb ga gb Ba Bb (.slice A1 H0.length c1) (.slice A2 H1.length c2) n 0 Fa Fb w3 := hfbx ▸ hT
    have hS' : Sep fb ga gb Ba Bb w.heap.size gb := by
      have := hS
      rw [hfbx] at this ⊢
      exact this
    clear hT hS
    have hT := hT'
    have hS := hS'
    clear hT' hS'
    rw [hfbx]
    clear hfbx
    have HA := Lib.hid hfa
    have HB := Lib.hid hfb
    clear hfa hfb
    go_loopw [12] (fun i W => ∃ j : Nat, i = .int .i64 j ∧ j ≤ n ∧ Two w fb ga gb Ba Bb (.slice A1 H0.length c1) (.slice A2 H1.length c2) n j Fa Fb W) (fun i _ => n - (intOf i).toNat)
    case atStart => exact ⟨0, rfl, by omega, hT⟩
    case round =>
      obtain ⟨j, rfl, hj, hT⟩ := hrel
      by_cases hlt : j < n
      · by_cases hjf : j < f
        · have hjf' : (j : Int) < (f : Int) := by omega
          have hbx0 := hT.box.cell 0
          have hbx1 := hT.box.cell 1
          have hbf0 := hT.box.frozen 0
          simp only [List.getElem?_toArray, List.getElem?_cons_zero, List.getElem?_cons_succ] at hbx0 hbx1
          have HT := Lib.hid hT
          have hI0 := h0.fr hT.fr (fun _ h => h.elim)
          have hI1 := h1.fr hT.fr (fun _ h => h.elim)
          by_cases y0 : j < H0.length
          · by_cases y1 : j < H1.length
            · obtain ⟨b0, o0, rfl, hb0, hc0⟩ := h0.rd (by omega)
              have hx0A := (hc0 (j) (by omega)).fr hT.fr hb0 (fun h => h)
              have hx0l := h0.len _ (List.getElem_mem (show j < H0.length by omega))
              have hF0 : Fa j = some H0[j] := by rw [← HA.out]; simp [hjf]
              generalize H0[j] = x0 at *
              have HX0 := Lib.hid (show 32 = (ida x0).size by rw [ida_size]; exact hx0l.symm)
              have HL0 := Lib.hid hx0l
              have HF0 := Lib.hid hF0
              clear hx0l hF0 hc0
              obtain ⟨b1, o1, rfl, hb1, hc1⟩ := h1.rd (by omega)
              have hx1A := (hc1 (j) (by omega)).fr hT.fr hb1 (fun h => h)
              have hx1l := h1.len _ (List.getElem_mem (show j < H1.length by omega))
              have hF1 : Fb j = some H1[j] := by rw [← HB.out]; simp [hjf]
              generalize H1[j] = x1 at *
              have HX1 := Lib.hid (show 32 = (ida x1).size by rw [ida_size]; exact hx1l.symm)
              have HL1 := Lib.hid hx1l
              have HF1 := Lib.hid hF1
              clear hx1l hF1 hc1
              clear hT
              go_wp2_with (first
                | (refine wpList_value_w (exec_load (T := 32) (X := ida x0) rfl rfl underI rfl hii (hz1.trans HX0.out) hx0A) (by simp [go_sem, Region.wanted, yielded]) ?_)
                | (go_at_call 17; (with_reducible refine (putOf_any _ ga Ba n j Fa x0 HL0.out HF0.out hlt HT.out.a).mono ?_); rintro e w5 ⟨⟨ca, rfl⟩, hCa5, hF5⟩; obtain ⟨hbx5, hCb5, hfr5⟩ := Two.putA hS HT.out.box hCa5 HT.out.b HT.out.fr hF5; have H5 := Lib.hid (And.intro hbx5 (And.intro hCa5 (And.intro hCb5 hfr5))); have hy1A := hx1A.fr hF5 (Nat.lt_of_lt_of_le hb1 HT.out.fr.size) (fun s => Nat.lt_irrefl _ (Nat.lt_of_lt_of_le hb1 (hS.ra _ s).2.2)); have k5 := hbx5.cell 1; simp only [List.getElem?_toArray, List.getElem?_cons_zero, List.getElem?_cons_succ] at k5; clear hbx5 hCa5 hCb5 hfr5 hF5)
                | (refine wpList_value_w (exec_load (T := 32) (X := ida x1) rfl rfl underI rfl hii (hz1.trans HX1.out) hy1A) (by simp [go_sem, Region.wanted, yielded]) ?_)
                | (go_at_call 17; (with_reducible refine (putOf_any _ gb Bb n j Fb x1 HL1.out HF1.out hlt H5.out.2.2.1).mono ?_); rintro e w6 ⟨⟨cb, rfl⟩, hCb6, hF6⟩; obtain ⟨hbx6, hCa6, hfr6⟩ := Two.putB hS H5.out.1 H5.out.2.1 H5.out.2.2.2 hF6; have H6 := Lib.hid (And.intro hbx6 (And.intro hCa6 (And.intro hCb6 hfr6))); clear hbx6 hCa6 hCb6 hfr6 hF6))
              go_roundw
              case rel => exact ⟨j + 1, by go_num, by omega, ⟨H6.out.1, H6.out.2.1, H6.out.2.2.1, H6.out.2.2.2⟩⟩
              case measure => simp [intOf]; omega
            · obtain ⟨b0, o0, rfl, hb0, hc0⟩ := h0.rd (by omega)
              have hx0A := (hc0 (j) (by omega)).fr hT.fr hb0 (fun h => h)
              have hx0l := h0.len _ (List.getElem_mem (show j < H0.length by omega))
              have hF0 : Fa j = some H0[j] := by rw [← HA.out]; simp [hjf]
              generalize H0[j] = x0 at *
              have HX0 := Lib.hid (show 32 = (ida x0).size by rw [ida_size]; exact hx0l.symm)
              have HL0 := Lib.hid hx0l
              have HF0 := Lib.hid hF0
              clear hx0l hF0 hc0
              have hF1 : Fb j = none := by rw [← HB.out]; simp [hjf]; omega
              have HF1 := Lib.hid hF1
              clear hF1
              have d1 : decide ((j : Int) < (H1.length : Int)) = false := by simp; omega
              clear hT
              go_wp2_with (first
                | (refine wpList_value_w (exec_load (T := 32) (X := ida x0) rfl rfl underI rfl hii (hz1.trans HX0.out) hx0A) (by simp [go_sem, Region.wanted, yielded]) ?_)
                | (go_at_call 17; (with_reducible refine (putOf_any _ ga Ba n j Fa x0 HL0.out HF0.out hlt HT.out.a).mono ?_); rintro e w5 ⟨⟨ca, rfl⟩, hCa5, hF5⟩; obtain ⟨hbx5, hCb5, hfr5⟩ := Two.putA hS HT.out.box hCa5 HT.out.b HT.out.fr hF5; have H5 := Lib.hid (And.intro hbx5 (And.intro hCa5 (And.intro hCb5 hfr5))); have k5 := hbx5.cell 1; simp only [List.getElem?_toArray, List.getElem?_cons_zero, List.getElem?_cons_succ] at k5; clear hbx5 hCa5 hCb5 hfr5 hF5))
              go_roundw
              case rel => exact ⟨j + 1, by go_num, by omega, ⟨H5.out.1, H5.out.2.1, (by rw [Cnt.tabOf_none j Fb HF1.out]; exact H5.out.2.2.1), H5.out.2.2.2⟩⟩
              case measure => simp [intOf]; omega
          · by_cases y1 : j < H1.length
            · have hF0 : Fa j = none := by rw [← HA.out]; simp [hjf]; omega
              have HF0 := Lib.hid hF0
              clear hF0
              have d0 : decide ((j : Int) < (H0.length : Int)) = false := by simp; omega
              obtain ⟨b1, o1, rfl, hb1, hc1⟩ := h1.rd (by omega)
              have hx1A := (hc1 (j) (by omega)).fr hT.fr hb1 (fun h => h)
              have hx1l := h1.len _ (List.getElem_mem (show j < H1.length by omega))
              have hF1 : Fb j = some H1[j] := by rw [← HB.out]; simp [hjf]
              generalize H1[j] = x1 at *
              have HX1 := Lib.hid (show 32 = (ida x1).size by rw [ida_size]; exact hx1l.symm)
              have HL1 := Lib.hid hx1l
              have HF1 := Lib.hid hF1
              clear hx1l hF1 hc1
              clear hT
              go_wp2_with (first
                | (refine wpList_value_w (exec_load (T := 32) (X := ida x1) rfl rfl underI rfl hii (hz1.trans HX1.out) hx1A) (by simp [go_sem, Region.wanted, yielded]) ?_)
                | (go_at_call 17; (with_reducible refine (putOf_any _ gb Bb n j Fb x1 HL1.out HF1.out hlt HT.out.b).mono ?_); rintro e w6 ⟨⟨cb, rfl⟩, hCb6, hF6⟩; obtain ⟨hbx6, hCa6, hfr6⟩ := Two.putB hS HT.out.box HT.out.a HT.out.fr hF6; have H6 := Lib.hid (And.intro hbx6 (And.intro hCa6 (And.intro hCb6 hfr6))); clear hbx6 hCa6 hCb6 hfr6 hF6))
              go_roundw
              case rel => exact ⟨j + 1, by go_num, by omega, ⟨H6.out.1, (by rw [Cnt.tabOf_none j Fa HF0.out]; exact H6.out.2.1), H6.out.2.2.1, H6.out.2.2.2⟩⟩
              case measure => simp [intOf]; omega
            · have hF0 : Fa j = none := by rw [← HA.out]; simp [hjf]; omega
              have HF0 := Lib.hid hF0
              clear hF0
              have d0 : decide ((j : Int) < (H0.length : Int)) = false := by simp; omega
              have hF1 : Fb j = none := by rw [← HB.out]; simp [hjf]; omega
              have HF1 := Lib.hid hF1
              clear hF1
              have d1 : decide ((j : Int) < (H1.length : Int)) = false := by simp; omega
              clear hT
              go_wp2_with fail
              go_roundw
              case rel => exact ⟨j + 1, by go_num, by omega, ⟨HT.out.box, (by rw [Cnt.tabOf_none j Fa HF0.out]; exact HT.out.a), (by rw [Cnt.tabOf_none j Fb HF1.out]; exact HT.out.b), HT.out.fr⟩⟩
              case measure => simp [intOf]; omega
        · have hjf' : decide ((j : Int) < (f : Int)) = false := by simp; omega
          have hbx0 := hT.box.cell 0
          have hbx1 := hT.box.cell 1
          have hbf0 := hT.box.frozen 0
          simp only [List.getElem?_toArray, List.getElem?_cons_zero, List.getElem?_cons_succ] at hbx0 hbx1
          have HT := Lib.hid hT
          have hIL := hL.fr hT.fr (fun _ h => h.elim)
          have hfn : f ≤ 2 := by have := HF.out; unfold Cnt.faults at this; omega
          by_cases y : j - f < L.length
          · have e0 : ((j : Int) - (f : Int)) = ((j - f : Nat) : Int) := by omega
            obtain ⟨b0, o0, rfl, hb0, hc0⟩ := hL.rd (by omega)
            have hx0A := (hc0 (j - f) (by omega)).fr hT.fr hb0 (fun h => h)
            have hx0l := hIL.len _ (List.getElem_mem (show j - f < L.length by omega))
            have hFa : Fa j = some L[j - f] := by rw [← HA.out]; simp [hjf]
            have hFb : Fb j = some L[j - f] := by rw [← HB.out]; simp [hjf]
            have hlt2 : ((j - f : Nat) : Int) < (L.length : Int) := by omega
            generalize L[j - f] = x0 at *
            generalize j - f = q at *
            have HX0 := Lib.hid (show 32 = (ida x0).size by rw [ida_size]; exact hx0l.symm)
            have HL0 := Lib.hid hx0l
            have HFa := Lib.hid hFa
            have HFb := Lib.hid hFb
            clear hx0l hFa hFb hc0 hT
            go_wp2_with (first
              | (refine wpList_value_w (exec_load (T := 32) (X := ida x0) rfl rfl underI rfl hii (hz1.trans HX0.out) hx0A) (by simp [go_sem, Region.wanted, yielded]) ?_)
              | (refine wpList_value_w (exec_load (T := 32) (X := ida x0) rfl rfl underI rfl hii (hz1.trans HX0.out) hy0A) (by simp [go_sem, Region.wanted, yielded]) ?_)
              | (go_at_call 17; (with_reducible refine (putOf_any _ ga Ba n j Fa x0 HL0.out HFa.out hlt HT.out.a).mono ?_); rintro e w5 ⟨⟨ca, rfl⟩, hCa5, hF5⟩; obtain ⟨hbx5, hCb5, hfr5⟩ := Two.putA hS HT.out.box hCa5 HT.out.b HT.out.fr hF5; have H5 := Lib.hid (And.intro hbx5 (And.intro hCa5 (And.intro hCb5 hfr5))); have hy0A := hx0A.fr hF5 (Nat.lt_of_lt_of_le hb0 HT.out.fr.size) (fun s => Nat.lt_irrefl _ (Nat.lt_of_lt_of_le hb0 (hS.ra _ s).2.2)); clear hbx5 hCa5 hCb5 hfr5 hF5 hx0A)
              | (go_at_call 17; (with_reducible refine (putOf_any _ gb Bb n j Fb x0 HL0.out HFb.out hlt H5.out.2.2.1).mono ?_); rintro e w6 ⟨⟨cb, rfl⟩, hCb6, hF6⟩; obtain ⟨hbx6, hCa6, hfr6⟩ := Two.putB hS H5.out.1 H5.out.2.1 H5.out.2.2.2 hF6; have H6 := Lib.hid (And.intro hbx6 (And.intro hCa6 (And.intro hCb6 hfr6))); clear hbx6 hCa6 hCb6 hfr6 hF6))
            go_roundw
            case rel => exact ⟨j + 1, by go_num, by omega, ⟨H6.out.1, H6.out.2.1, H6.out.2.2.1, H6.out.2.2.2⟩⟩
            case measure => simp [intOf]; omega
          · have e0 : ((j : Int) - (f : Int)) = ((j - f : Nat) : Int) := by omega
            have hFa : Fa j = none := by rw [← HA.out]; simp [hjf]; omega
            have hFb : Fb j = none := by rw [← HB.out]; simp [hjf]; omega
            have HFa := Lib.hid hFa
            have HFb := Lib.hid hFb
            have d0 : decide (((j - f : Nat) : Int) < (L.length : Int)) = false := by simp; omega
            clear hFa hFb hT
            go_wp2_with fail
            go_roundw
            case rel => exact ⟨j + 1, by go_num, by omega, ⟨HT.out.box, (by rw [Cnt.tabOf_none j Fa HFa.out]; exact HT.out.a), (by rw [Cnt.tabOf_none j Fb HFb.out]; exact HT.out.b), HT.out.fr⟩⟩
            case measure => simp [intOf]; omega
      · obtain rfl : j = n := by omega
        have hq : decide ((j : Int) < (j : Int)) = false := by simp
        obtain ⟨xa, hxa⟩ : ∃ xa, (Cnt.sure j (Cnt.tabOf j Fa) 0 0).getD Cnt.z = xa := ⟨_, rfl⟩
        obtain ⟨xb, hxb⟩ : ∃ xb, (Cnt.sure j (Cnt.tabOf j Fb) 0 0).getD Cnt.z = xb := ⟨_, rfl⟩
        have la : xa.length = 32 := hxa ▸ sure_len hT.a 0 0
        have lb : xb.length = 32 := hxb ▸ sure_len hT.b 0 0
        have HLa := Lib.hid (show ii.size = (ida xa).size by rw [hz1, ida_size, la])
        have HLb := Lib.hid (show ii.size = (ida xb).size by rw [hz1, ida_size, lb])
        have HZa := Lib.hid (show (ida Cnt.z).size = (ida xa).size by rw [ida_size, ida_size, la]; rfl)
        have HZb := Lib.hid (show (ida Cnt.z).size = (ida xb).size by rw [ida_size, ida_size, lb]; rfl)
        have Hla := Lib.hid la
        have Hlb := Lib.hid lb
        have Hxa := Lib.hid hxa
        have Hxb := Lib.hid hxb
        have hCb : Hid (∀ w', New wr w' → CntAt w' gb Bb j (Cnt.tabOf j Fb)) := Lib.hid fun w' hN => hT.b.fr hN id (fun _ _ _ _ => id)
        have hCa := hT.a
        have hN0 := hT.fr
        clear la lb hxa hxb hT
        have HONE := Lib.hid (Cnt.one j hn' Fa Fb (fun v hv => by rw [← HA.out, ← HB.out, HF.out] at *; simp; rw [if_neg (by omega), if_neg (by omega)]))
        clear hn hn'
        rcases Bool.eq_false_or_eq_true (Cnt.sure j (Cnt.tabOf j Fa) 0 0).isSome with hba | hba
        · rcases Bool.eq_false_or_eq_true (Cnt.sure j (Cnt.tabOf j Fb) 0 0).isSome with hbb | hbb
          · have hxx : xa = xb := by
              obtain ⟨x, hx⟩ := Option.isSome_iff_exists.1 hba
              obtain ⟨y, hy⟩ := Option.isSome_iff_exists.1 hbb
              have h1 := Hxa.out
              have h2 := Hxb.out
              rw [hx] at h1
              rw [hy] at h2
              simp at h1 h2
              rw [← h1, ← h2]
              exact HONE.out x y hx hy
            have hqe : (xa == xb) = true := by rw [hxx]; exact beq_self_eq_true _
            have Hba := Lib.hid hba
            have Hbb := Lib.hid hbb
            clear hxx hba hbb
            go_wp2_with (first
              | (go_at_call 18; first
                  | (have h9 := hN4; clear h9; refine (sureT_any _ gb Bb j _ 0 0 xb true Hxb.out Hbb.out (hCb.out _ hN5)).mono ?_; rintro e w6 ⟨rfl, hN6⟩; have hN7 := hN6.then_alloc (.cells (ida xb) 32); have hA1 := ((hW4.fr hN7 id)).at0; have hA2 := (Blk.new w6 32 (ida xb)).at0)
                  | (refine (sureT_any _ ga Ba j _ 0 0 xa true Hxa.out Hba.out hCa).mono ?_; rintro e w4 ⟨rfl, hN4⟩; have hN5 := hN4.then_alloc (.cells (ida xa) 32); have hW4 := Blk.new w4 32 (ida xa)))
              | (refine wpList_value_w (exec_alloc_agg (T := 32) rfl hii hz0) (by simp [go_sem, Region.wanted, yielded]) ?_)
              | (refine wpList_skip_w (exec_store_new (T := 32) (X := ida xa) rfl rfl rfl rfl hii HLa.out (ida_one _) HZa.out) rfl ?_)
              | (refine wpList_skip_w (exec_store_new (T := 32) (X := ida xb) rfl rfl rfl rfl hii HLb.out (ida_one _) HZb.out) rfl ?_)
              | (refine wpList_value_w (exec_load (T := 32) (X := ida xa) rfl rfl underI rfl hii HLa.out hA1) (by simp [go_sem, Region.wanted, yielded]) ?_)
              | (refine wpList_value_w (exec_load (T := 32) (X := ida xb) rfl rfl underI rfl hii HLb.out hA2) (by simp [go_sem, Region.wanted, yielded]) ?_)
              | (refine wpList_value_w (exec_eql (T := 32) (a := xa) (b := xb) rfl rfl rfl underI (by kernel_rfl) (fun w => by kernel_rfl) Hla.out Hlb.out (by kernel_rfl)) (by simp [go_sem, Region.wanted, yielded]) ?_))
            go_ret
            exact ⟨rfl, new_below ((hN0.trans hN5 (fun _ h => h.elim)).trans hN7 (fun _ h => h.elim))⟩
          · have Hba := Lib.hid hba
            have Hbb := Lib.hid hbb
            clear hba hbb
            go_wp2_with (first
              | (go_at_call 18; first
                  | (have h9 := hN4; clear h9; refine (sureT_any _ gb Bb j _ 0 0 xb false Hxb.out Hbb.out (hCb.out _ hN5)).mono ?_; rintro e w6 ⟨rfl, hN6⟩; have hN7 := hN6.then_alloc (.cells (ida xb) 32); have hA1 := ((hW4.fr hN7 id)).at0; have hA2 := (Blk.new w6 32 (ida xb)).at0)
                  | (refine (sureT_any _ ga Ba j _ 0 0 xa true Hxa.out Hba.out hCa).mono ?_; rintro e w4 ⟨rfl, hN4⟩; have hN5 := hN4.then_alloc (.cells (ida xa) 32); have hW4 := Blk.new w4 32 (ida xa)))
              | (refine wpList_value_w (exec_alloc_agg (T := 32) rfl hii hz0) (by simp [go_sem, Region.wanted, yielded]) ?_)
              | (refine wpList_skip_w (exec_store_new (T := 32) (X := ida xa) rfl rfl rfl rfl hii HLa.out (ida_one _) HZa.out) rfl ?_)
              | (refine wpList_skip_w (exec_store_new (T := 32) (X := ida xb) rfl rfl rfl rfl hii HLb.out (ida_one _) HZb.out) rfl ?_))
            go_ret
            exact ⟨rfl, new_below ((hN0.trans hN5 (fun _ h => h.elim)).trans hN7 (fun _ h => h.elim))⟩
        · obtain ⟨bb, hbb⟩ : ∃ bb, (Cnt.sure j (Cnt.tabOf j Fb) 0 0).isSome = bb := ⟨_, rfl⟩
          have Hba := Lib.hid hba
          have Hbb := Lib.hid hbb
          clear hba hbb
          go_wp2_with (first
            | (go_at_call 18; first
                | (have h9 := hN4; clear h9; refine (sureT_any _ gb Bb j _ 0 0 xb bb Hxb.out Hbb.out (hCb.out _ hN5)).mono ?_; rintro e w6 ⟨rfl, hN6⟩; have hN7 := hN6.then_alloc (.cells (ida xb) 32); have hA1 := ((hW4.fr hN7 id)).at0; have hA2 := (Blk.new w6 32 (ida xb)).at0)
                | (refine (sureT_any _ ga Ba j _ 0 0 xa false Hxa.out Hba.out hCa).mono ?_; rintro e w4 ⟨rfl, hN4⟩; have hN5 := hN4.then_alloc (.cells (ida xa) 32); have hW4 := Blk.new w4 32 (ida xa)))
            | (refine wpList_value_w (exec_alloc_agg (T := 32) rfl hii hz0) (by simp [go_sem, Region.wanted, yielded]) ?_)
            | (refine wpList_skip_w (exec_store_new (T := 32) (X := ida xa) rfl rfl rfl rfl hii HLa.out (ida_one _) HZa.out) rfl ?_)
            | (refine wpList_skip_w (exec_store_new (T := 32) (X := ida xb) rfl rfl rfl rfl hii HLb.out (ida_one _) HZb.out) rfl ?_))
          go_ret
          exact ⟨rfl, new_below ((hN0.trans hN5 (fun _ h => h.elim)).trans hN7 (fun _ h => h.elim))⟩
  · have hf : Cnt.faults n = -1 := by unfold Cnt.faults; omega
    have HF := Lib.hid hf
    clear hf hn
    have hN0 : New w (w.alloc (.cells #[.slice A1 H0.length c1, .slice A2 H1.length c2] 23)) := Fr.alloc _ w _
    go_enter Try.func3, Try.ntmps3
    go_wp2_with (first
      | (go_at_call 14; refine (counts_any _).mono ?_; rintro e w1 ⟨rfl, hN1⟩)
      | (go_at_call 15; refine (HF.out ▸ rfaults_any n _ : Calls _ _ _ _ fun e w' => e = .returned (.int .i64 (-1)) ∧ _ = w').mono ?_; rintro e w' ⟨rfl, rfl⟩))
    go_ret
    exact ⟨rfl, new_below (hN0.trans hN1 (fun _ h => h.elim))⟩
end Go.Proofs.YtepmlmfacpbhkaaR
