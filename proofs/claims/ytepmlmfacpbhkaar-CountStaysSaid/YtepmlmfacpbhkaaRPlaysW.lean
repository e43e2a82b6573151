/- CountPlays, walked. (Printed by gen_plays.py.) -/
import Derived.Test.YtepmlmfacpbhkaaRPlaysA
namespace Go.Proofs.YtepmlmfacpbhkaaR
open Go.RowKit Go.Shelf
set_option linter.unusedVariables false

theorem rfaults_is (n f : Int) (h : Cnt.faults n = f) (w : World) : Calls Try.prog 15 #[.int .i64 n] w fun e w' => e = .returned (.int .i64 f) ∧ w = w' := h ▸ rfaults_any n w
theorem rsureT_any (w : World) (A : Option Addr) (c n : Nat) (V : Cnt.Tab) (l : List Cnt.Vote) (r k : Int) (x : Cnt.Vid) (b : Bool) (hn : n = 1 ∨ n = 4 ∨ n = 7) (hR : Cnt.Rel n V l) (hx : (Cnt.sure n V r k).getD Cnt.z = x) (hb : (Cnt.sure n V r k).isSome = b) (h : VotesAt w A l) (hm : l.length ≤ maxLen) :
    Calls Try.prog 23 #[.int .i64 n, .slice A l.length c, .int .i64 r, .int .i64 k] w fun e w' => e = .returned (.tuple #[.agg (ida x), .bool b]) ∧ New w w' := by
  have := rsure_any w A c n l r k h hm
  rw [hR.sure hn, sureV_eq, hx, hb] at this
  exact this
def aheadI (o : Option Nat) : Int := match o with | some r => r | none => 0
theorem aheadV_eq (o : Option Nat) : aheadV o = .tuple #[.int .i64 (aheadI o), .bool o.isSome] := by cases o <;> rfl
theorem exec_eql_is {P : Program} {o : Oper} {ev : Operand → Value} {w : World} {T e : TypeId} {m : Nat} {x y : Operand} {ty : TypeId} {a b : List UInt8} {c : Bool} (hc : (a == b) = c) (ho : o.op = .binOp .eql T x y ty) (hx : ev x = .agg (ida a)) (hy : ev y = .agg (ida b))
    (ht : P.underlying T = some (.array m e)) (he : P.underlying e = some (.int .u8)) (hsz : ∀ w, (sizeOf e).run P w = .ok 1 w) (ha : a.length = m) (hb : b.length = m) (hg : P.eqGuardType P.depth T = false) :
    (execOp ev o).run P w = .ok (.value (.bool c)) w := hc ▸ exec_eql ho hx hy ht he hsz ha hb hg
theorem get_len {w : World} {g : Nat} {B : Nat → Nat → Nat} {n : Nat} {V : Cnt.Tab} (h : CntAt w g B n V) (r k i : Int) : (Cnt.get n V r k i).length = 32 := by
  unfold Cnt.get
  split
  · exact h.getLen _ _ _
  · rfl
section
variable {w : World} {ab g : Nat} {B : Nat → Nat → Nat} {n : Nat} {V : Cnt.Tab} {A : Option Addr} {c : Nat} {lw : List Cnt.Vote} {ask : Cnt.Vote} {W : World} {b3 b4 : Nat} {x : Cnt.Vid} {r k : Int} {m : Nat}
/-- what stands while a round is asked -/
abbrev Asks (w : World) (ab g : Nat) (B : Nat → Nat → Nat) (n : Nat) (V : Cnt.Tab) (A : Option Addr) (lw : List Cnt.Vote) (ask : Cnt.Vote) (b3 b4 : Nat) (x : Cnt.Vid) (W : World) : Prop :=
  Plays w ab g B n V A lw ask W ∧ Blk W b3 32 (ida x) ∧ Blk W b4 32 (ida x)
theorem Asks.new {W' : World} (h : Asks w ab g B n V A lw ask b3 b4 x W) (f : New W W') : Asks w ab g B n V A lw ask b3 b4 x W' := ⟨h.1.new f, h.2.1.fr f id, h.2.2.fr f id⟩
theorem Plays.all (h : Asks w ab g B n V A lw ask b3 b4 x W) :
    CallsIn Fence.wide m Try.prog 21 #[.pointer (some ⟨g, 0, none⟩), .int .i64 r, .int .i64 k] W fun e w'' => e = .returned (.int .i64 ((Cnt.castsAt n V r k).length : Nat)) ∧ Asks w ab g B n V A lw ask b3 b4 x w'' :=
  (callsIn_wide.2 (all_any W g B n V r k h.1.at')).mono fun e w'' ⟨he, hn⟩ => ⟨he, h.new hn⟩
theorem Plays.rall (hR : Cnt.Rel n V lw) (hn : n = 1 ∨ n = 4 ∨ n = 7) (hm : lw.length ≤ maxLen) (h : Asks w ab g B n V A lw ask b3 b4 x W) :
    CallsIn Fence.wide m Try.prog 24 #[.slice A lw.length c, .int .i64 r, .int .i64 k] W fun e w'' => e = .returned (.int .i64 ((Cnt.castsAt n V r k).length : Nat)) ∧ Asks w ab g B n V A lw ask b3 b4 x w'' :=
  (callsIn_wide.2 (rall_any W A c lw r k h.1.vo hm)).mono fun e w'' ⟨he, hw⟩ => ⟨by rw [he, (hR.counts (by omega) r k).2], hw ▸ h⟩
theorem Plays.for (ha : ask.id.length = 32) (h : Asks w ab g B n V A lw ask b3 b4 x W) :
    CallsIn Fence.wide m Try.prog 25 #[.pointer (some ⟨g, 0, none⟩), .int .i64 r, .int .i64 k, .agg (ida ask.id)] W fun e w'' => e = .returned (.int .i64 (Cnt.forN (Cnt.castsAt n V r k) ask.id : Nat)) ∧ Asks w ab g B n V A lw ask b3 b4 x w'' :=
  (callsIn_wide.2 (for_any W g B n V r k ask.id ha h.1.at')).mono fun e w'' ⟨he, hn⟩ => ⟨he, h.new hn⟩
theorem Plays.rfor (hR : Cnt.Rel n V lw) (hn : n = 1 ∨ n = 4 ∨ n = 7) (hm : lw.length ≤ maxLen) (ha : ask.id.length = 32) (h : Asks w ab g B n V A lw ask b3 b4 x W) :
    CallsIn Fence.wide m Try.prog 26 #[.slice A lw.length c, .int .i64 r, .int .i64 k, .agg (ida ask.id)] W fun e w'' => e = .returned (.int .i64 (Cnt.forN (Cnt.castsAt n V r k) ask.id : Nat)) ∧ Asks w ab g B n V A lw ask b3 b4 x w'' :=
  (callsIn_wide.2 (rfor_any W A c lw r k ask.id ha h.1.vo hm)).mono fun e w'' ⟨he, hN⟩ => ⟨by rw [he, (hR.counts (by omega) r k).1], h.new hN⟩
theorem Plays.get (h : Plays w ab g B n V A lw ask W) :
    CallsIn Fence.wide m Try.prog 29 #[.pointer (some ⟨g, 0, none⟩), .int .i64 ask.r, .int .i64 ask.k, .int .i64 ask.w] W fun e w'' => e = .returned (.agg (ida (Cnt.get n V ask.r ask.k ask.w))) ∧ Plays w ab g B n V A lw ask w'' :=
  (callsIn_wide.2 (get_any W g B n V ask.r ask.k ask.w h.at')).mono fun e w'' ⟨he, hn⟩ => ⟨he, h.new hn⟩
theorem Plays.rget (hR : Cnt.Rel n V lw) (hm : lw.length ≤ maxLen) (h : Plays w ab g B n V A lw ask W) :
    CallsIn Fence.wide m Try.prog 30 #[.slice A lw.length c, .int .i64 ask.r, .int .i64 ask.k, .int .i64 ask.w] W fun e w'' => e = .returned (.agg (ida (Cnt.get n V ask.r ask.k ask.w))) ∧ Plays w ab g B n V A lw ask w'' :=
  (callsIn_wide.2 (rget_any W A c lw ask.r ask.k ask.w h.vo hm)).mono fun e w'' ⟨he, hn⟩ => ⟨by rw [he, hR.get], h.new hn⟩
end
set_option maxHeartbeats 8000000 in
set_option maxRecDepth 20000 in
theorem countPlays_walk (n : Int) (A : Option Addr) (c : Nat) (l : List Cnt.Vote) (ask : Cnt.Vote) (w : World) (hl : VotesAt w A l) (hm : l.length ≤ maxLen) (hask : ask.id.length = 32) :
    Calls Try.prog 7 #[.int .i64 n, .slice A l.length c, .agg (voteC ask).toArray] w fun e w' => e = .returned (.bool true) ∧ Below w.heap.size w w' := by
  obtain ⟨ii, hii, hz0, hz1, hz2⟩ := info_parts infoI
  obtain ⟨iv, hiv, hv0, hv1, hv2⟩ := info_parts infoVo
  have hN0 : New w (w.alloc (.cells (voteC ask).toArray 40)) := Fr.alloc _ w _
  have hmm := hm
  have HASK := Lib.hid hask
  clear hask
  unfold maxLen at hm
  by_cases h200 : l.length ≤ 200
  · have d200 : decide ((200 : Int) < (l.length : Int)) = false := by simp; omega
    by_cases hn : n = 1 ∨ n = 4 ∨ n = 7
    · obtain ⟨n, rfl⟩ : ∃ n' : Nat, n = n' := ⟨n.toNat, by omega⟩
      have hn' : n = 1 ∨ n = 4 ∨ n = 7 := by omega
      obtain ⟨f, hf⟩ : ∃ f : Nat, Cnt.faults n = f ∧ f ≤ 2 := by rcases hn' with rfl | rfl | rfl; exact ⟨0, rfl, by omega⟩; exact ⟨1, rfl, by omega⟩; exact ⟨2, rfl, by omega⟩
      obtain ⟨hf, hf2⟩ := hf
      have HF := Lib.hid hf
      have HB0 := Lib.hid (Blk.new w 40 (voteC ask).toArray)
      have HNEED := Lib.hid (show Cnt.need n = 2 * (f : Int) + 1 by unfold Cnt.need; rw [hf])
      have HN' := Lib.hid hn'
      have HN0 := Lib.hid hN0
      clear hf hn hn' hN0
      go_enter Try.func7, Try.ntmps7
      go_wp2_with (first
        | (go_at_call 14; refine (counts_any _).mono ?_; rintro e w1 ⟨rfl, hN1⟩; have HN1 := Lib.hid hN1; clear hN1)
        | (go_at_call 16; refine (new_any _ n HN'.out).mono ?_; rintro e w2 ⟨rfl, hC2, hN2⟩; have HC2 := Lib.hid (And.intro hC2 hN2); clear hC2 hN2)
        | (go_at_call 15; refine (rfaults_is n f HF.out _).mono ?_; rintro e w' ⟨rfl, rfl⟩)
        | (go_at_call 19; refine (faults_is n f HF.out _).mono ?_; rintro e w' ⟨rfl, rfl⟩)
        | (go_at_call 20; refine (need_is n (2 * (f : Int) + 1) HNEED.out _).mono ?_; rintro e w' ⟨rfl, rfl⟩))
      obtain ⟨hC2, hN2⟩ := HC2.out
      have hzw : w.heap.size + 1 ≤ w1.heap.size := by have := HN1.out.size; simpa using this
      have P0 : Plays w w.heap.size w1.heap.size (fun r k => w1.heap.size + 1 + (r * 2 + k)) n Cnt.empty none [] ask w2 :=
        ⟨(HB0.out.fr HN1.out id).fr hN2 id, hC2, VotesAt.nil, .nil, (fun a e => by cases e), (HN0.out.trans HN1.out (fun _ h => h.elim)).trans hN2 (fun _ h => h.elim)⟩
      have hBw : ∀ j, RowsOf (fun r k => w1.heap.size + 1 + (r * 2 + k)) j → w.heap.size + 1 ≤ j := fun j hj => Nat.le_trans hzw hj.new
      have HNN := Lib.hid HN'.out
      clear hC2 hN2 HC2 HB0 HN1 HN0 hzw
      generalize (fun r k => w1.heap.size + 1 + (r * 2 + k)) = B at *
      generalize w1.heap.size = g at *
      obtain ⟨ab, hab⟩ : ∃ ab, w.heap.size = ab := ⟨_, rfl⟩
      have P1 : Plays w ab g B n Cnt.empty none [] ask w2 := hab ▸ P0
      have hBa : ¬ RowsOf B ab := fun h => by have := hBw _ h; omega
      have hBw' : ∀ j, RowsOf B j → w.heap.size ≤ j := fun j h => by have := hBw _ h; omega
      rw [hab]
      clear P0 hab hBw
      go_loopw [9, 72] (fun s0 i0 W => ∃ (j : Nat) (V : Cnt.Tab) (A' : Option Addr) (c' : Nat) (lw : List Cnt.Vote), s0 = .slice A' lw.length c' ∧ i0 = .int .i64 j ∧ j ≤ l.length ∧ lw.length ≤ j ∧ Plays w ab g B n V A' lw ask W) (fun _ i0 _ => l.length - (intOf i0).toNat)
      case atStart => exact ⟨0, _, none, 0, [], rfl, rfl, by omega, by simp, P1⟩
      case round =>
        obtain ⟨j, V, A', c', lw, rfl, rfl, hj, hlw, hP⟩ := hrel
        by_cases hlt : j < l.length
        · have hlr := hl.fr hP.fr (fun _ h => h.elim)
          obtain ⟨b, off, rfl, hb, hc⟩ := hlr.rd (by omega)
          have hA := hc j hlt
          have hvl := hl.len _ (List.getElem_mem hlt)
          have hlt' : (j : Int) < (l.length : Int) := by omega
          generalize l[j] = v at *
          have HL := Lib.hid hvl
          have HVS := Lib.hid (show iv.size = (voteC v).toArray.size by rw [hv1]; simp [voteC_length v hvl])
          have HVZ := Lib.hid (show (voteC ⟨0, 0, 0, Cnt.z⟩).toArray.size = (voteC v).toArray.size by simp [voteC_length v hvl]; rfl)
          have HID := Lib.hid (show 32 = (ida v.id).size by rw [ida_size]; exact hvl.symm)
          have hP1 := hP.new (Fr.alloc (fun _ => False) wr (.cells (voteC v).toArray 40))
          have hB1 := Blk.new wr 40 (voteC v).toArray
          have hA1 := hB1.at0
          have HP1 := Lib.hid hP1
          have HB1 := Lib.hid hB1
          have HR := Lib.hid (Cnt.Rel.put_eq hP.rel hP.nz v).1
          have hr1 := rput_le n lw v
          clear hvl hc hP hP1 hB1 hlr P1
          go_wp2_with (first
            | (refine wpList_value_w (exec_load (T := 40) (X := (voteC v).toArray) rfl rfl Try.underlying40 rfl hiv HVS.out hA) (by simp [go_sem, Region.wanted, yielded]) ?_)
            | (refine wpList_value_w (exec_load (T := 40) (X := (voteC v).toArray) rfl rfl Try.underlying40 rfl hiv HVS.out hA1) (by simp [go_sem, Region.wanted, yielded]) ?_)
            | (refine wpList_value_w (exec_alloc_agg (T := 40) rfl hiv hv0) (by simp [go_sem, Region.wanted, yielded]) ?_)
            | (refine wpList_skip_w (exec_store_new (T := 40) (X := (voteC v).toArray) rfl rfl rfl rfl hiv HVS.out (voteC_one v) HVZ.out) rfl ?_)
            | (go_at_call 22; refine (rput_any _ A' c' n lw v HL.out HP1.out.vo (by omega)).mono ?_; rintro e w3 ⟨A2, c2, rfl, hV2, hN2, hA2⟩; have hX := voteAt (HB1.out.fr hN2 id).at0; simp only [Nat.zero_add] at hX; obtain ⟨k0, k1, k2, hA3⟩ := hX; have hCC := (HP1.out.new hN2).at'; have HV2 := Lib.hid hV2; have HN2 := Lib.hid hN2; have HA2 := Lib.hid hA2; clear hV2 hN2 hA2)
            | (refine wpList_value_w (exec_load (T := 32) (X := ida v.id) rfl rfl underI rfl hii (hz1.trans HID.out) hA3) (by simp [go_sem, Region.wanted, yielded]) ?_)
            | (go_at_call 17; refine (HR.out ▸ put_any _ g B n V v.r v.k v.w v.id HL.out hCC : Calls _ _ _ _ fun e w' => e = .returned (.int .i64 (Cnt.rput n lw v).2) ∧ _).mono ?_; rintro e w4 ⟨rfl, hC4, hF4⟩; have HP4 := Lib.hid (HP1.out.put hBa hBw' HN2.out HA2.out HV2.out hC4 hF4); clear hC4 hF4))
          go_roundw
          case rel => exact ⟨j + 1, _, A2, c2, _, rfl, by go_num, by omega, by omega, HP4.out⟩
          case measure => simp [intOf]; omega
        · obtain rfl : j = l.length := by omega
          have d1 : decide ((l.length : Int) < (l.length : Int)) = false := by simp
          clear P1
          go_wp2
          have hlw2 : lw.length ≤ maxLen := by simp only [maxLen]; omega
          have hn7 : n ≤ 7 := by have := HNN.out; omega
          have HLW := Lib.hid hlw2
          have HR := Lib.hid hP.rel
          have HNZ := Lib.hid hP.nz
          have hPP := hP
          clear hP hlw2 hl
          go_loopw [14] (fun i0 W => ∃ r : Int, -1 ≤ r ∧ r ≤ 13 ∧ i0 = .int .i64 r ∧ Plays w ab g B n V A' lw ask W) (fun i0 _ => (13 - intOf i0).toNat)
          case atStart => exact ⟨-1, by omega, by omega, rfl, hPP⟩
          case round =>
            obtain ⟨r, hr1, hr2, rfl, hP⟩ := hrel
            clear hPP
            by_cases hrlt : r ≤ 12
            · have hPP := hP
              clear hP
              go_wp2
              go_loopw [15] (fun i0 W => ∃ k : Int, -1 ≤ k ∧ k ≤ 3 ∧ i0 = .int .i64 k ∧ Plays w ab g B n V A' lw ask W) (fun i0 _ => (3 - intOf i0).toNat)
              case atStart => exact ⟨-1, by omega, by omega, rfl, hPP⟩
              case round =>
                obtain ⟨k, hk1, hk2, rfl, hP⟩ := hrel
                clear hPP
                by_cases hklt : k ≤ 2
                · obtain ⟨x, hx⟩ : ∃ x, (Cnt.sure n V r k).getD Cnt.z = x := ⟨_, rfl⟩
                  obtain ⟨sb, hsb⟩ : ∃ sb, (Cnt.sure n V r k).isSome = sb := ⟨_, rfl⟩
                  have hxl : x.length = 32 := hx ▸ sure_len hP.at' r k
                  have HXS := Lib.hid (show ii.size = (ida x).size by rw [hz1, ida_size, hxl])
                  have HXZ := Lib.hid (show (ida Cnt.z).size = (ida x).size by rw [ida_size, ida_size, hxl]; rfl)
                  have HXL := Lib.hid hxl
                  have HX := Lib.hid hx
                  have HSB := Lib.hid hsb
                  have HP := Lib.hid hP
                  have HAS := Lib.hid (show ii.size = (ida ask.id).size by rw [hz1, ida_size, HASK.out])
                  clear hxl hx hsb hP
                  go_wp2_with (first
                    | (go_at_call 18; refine (sureT_any _ g B n V r k x sb HX.out HSB.out HP.out.at').mono ?_; rintro e w3 ⟨rfl, hN3⟩; have HP3 := Lib.hid (HP.out.new (hN3.then_alloc (.cells (ida x) 32))); have HB3 := Lib.hid (Blk.new w3 32 (ida x)); clear hN3)
                    | (go_at_call 23; refine (rsureT_any _ A' c' n V lw r k x sb HNN.out HR.out HX.out HSB.out HP3.out.vo HLW.out).mono ?_; rintro e w4 ⟨rfl, hN4⟩; have HP4 := Lib.hid (HP3.out.new (hN4.then_alloc (.cells (ida x) 32))); have HB4 := Lib.hid (Blk.new w4 32 (ida x)); have HB34 := Lib.hid (HB3.out.fr (hN4.then_alloc (.cells (ida x) 32)) id); clear hN4)
                    | (refine wpList_value_w (exec_alloc_agg (T := 32) rfl hii hz0) (by simp [go_sem, Region.wanted, yielded]) ?_)
                    | (refine wpList_skip_w (exec_store_new (T := 32) (X := ida x) rfl rfl rfl rfl hii HXS.out (ida_one _) HXZ.out) rfl ?_))
                  refine wp_region_all (by kernel_rfl) (by kernel_rfl) [.agg (ida x), .agg (ida x), .bool false, .bool false, .bool sb, .bool sb, .bool false, .bool false, .bool false, .pointer (some ⟨g, 0, none⟩), .int .i64 r, .int .i64 k, .int .i64 ((Cnt.castsAt n V r k).length : Nat), .slice A' lw.length c', .int .i64 r, .int .i64 k, .int .i64 ((Cnt.castsAt n V r k).length : Nat), .bool false, .bool false, .bool false, .pointer (some ⟨g, 0, none⟩), .int .i64 r, .int .i64 k, .pointer (some ⟨ab, 3, none⟩), .agg (ida ask.id), .int .i64 (Cnt.forN (Cnt.castsAt n V r k) ask.id : Nat), .slice A' lw.length c', .int .i64 r, .int .i64 k, .pointer (some ⟨ab, 3, none⟩), .agg (ida ask.id), .int .i64 (Cnt.forN (Cnt.castsAt n V r k) ask.id : Nat), .bool false, .bool false] (by kernel_rfl) (fun _ W' => Plays w ab g B n V A' lw ask W' ∧ Blk W' w3.heap.size 32 (ida x) ∧ Blk W' w4.heap.size 32 (ida x)) _ (by simp [putAll, Act.put]; rfl) ⟨HP4.out.new (Fr.drew (fun _ => False) _), HB34.out, HB4.out⟩ ?hops ?after
                  case hops =>
                    refine ⟨?_, ?_, ?_, ?_, ?_, ?_, ?_, ?_, ?_, ?_, ?_, ?_, ?_, ?_, ?_, ?_, ?_, ?_, ?_, ?_, ?_, ?_, ?_, ?_, ?_, ?_, ?_, ?_, ?_, ?_, ?_, ?_, ?_, ?_, trivial⟩
                    all_goals
                      rintro L W' hs hd hn ⟨hP, h3, h4⟩
                      have HSS := Lib.hid (show Plays w ab g B n V A' lw ask W' ∧ Blk W' w3.heap.size 32 (ida x) ∧ Blk W' w4.heap.size 32 (ida x) from ⟨hP, h3, h4⟩)
                      have hA3 := h3.at0
                      have hA4 := h4.at0
                      have hAK := (voteAt hP.box.at0).2.2.2
                      simp only [Nat.zero_add] at hAK
                      clear hP h3 h4 hs hd hn
                      first
                        | exact held_want rfl (held_value (exec_load (T := 32) (X := ida x) rfl rfl underI rfl hii HXS.out hA3) HSS.out)
                        | exact held_want rfl (held_value (exec_load (T := 32) (X := ida x) rfl rfl underI rfl hii HXS.out hA4) HSS.out)
                        | exact held_want rfl (held_value (exec_load (T := 32) (X := ida ask.id) rfl rfl underI rfl hii HAS.out hAK) HSS.out)
                        | exact held_want rfl (held_value (exec_neq_is (T := 32) (a := x) (b := x) (c := false) (bne_self_eq_false x) rfl rfl rfl underI (by kernel_rfl) (fun w => by kernel_rfl) HXL.out HXL.out (by kernel_rfl)) HSS.out)
                        | (refine held_want rfl ?_; unfold opHeld; go_simp; first | done | exact HSS.out | exact ⟨rfl, HSS.out⟩ | exact Plays.all HSS.out | exact Plays.rall HR.out HNN.out HLW.out HSS.out | exact Plays.for HASK.out HSS.out | exact Plays.rfor HR.out HNN.out HLW.out HASK.out HSS.out)
                  case after =>
                    rintro L W' hs hal ⟨hP, h3, h4⟩
                    go_wp2
                    go_roundw
                    case rel => exact ⟨k + 1, by omega, by omega, rfl, hP⟩
                    case measure => simp [intOf]; omega
                · obtain rfl : k = 3 := by omega
                  have d3 : decide ((3 : Int) ≤ 2) = false := by decide
                  have HP := Lib.hid hP
                  clear hP
                  go_wp2_with (first
                    | (go_at_call 27; refine (aheadV_eq _ ▸ ahead_any _ g B n V r HP.out.at').mono ?_; rintro e w3 ⟨rfl, rfl⟩)
                    | (go_at_call 28; refine (aheadV_eq _ ▸ HR.out.ahead HNZ.out r ▸ rahead_any _ A' c' n lw r HP.out.vo HLW.out hn7).mono ?_; rintro e w4 ⟨rfl, hN4⟩; have HP4 := Lib.hid (HP.out.new hN4); clear hN4))
                  go_roundw
                  case rel => exact ⟨r + 1, by omega, by omega, rfl, HP4.out⟩
                  case measure => simp [intOf]; omega
            · obtain rfl : r = 13 := by omega
              have d13 : decide ((13 : Int) ≤ 12) = false := by decide
              have HP := Lib.hid hP
              clear hP
              go_wp2
              refine wp_region_all (by kernel_rfl) (by kernel_rfl) [.pointer (some ⟨g, 0, none⟩), .pointer (some ⟨ab, 0, none⟩), .int .i64 ask.r, .pointer (some ⟨ab, 1, none⟩), .int .i64 ask.k, .pointer (some ⟨ab, 2, none⟩), .int .i64 ask.w, .agg (ida (Cnt.get n V ask.r ask.k ask.w)), .slice A' lw.length c', .pointer (some ⟨ab, 0, none⟩), .int .i64 ask.r, .pointer (some ⟨ab, 1, none⟩), .int .i64 ask.k, .pointer (some ⟨ab, 2, none⟩), .int .i64 ask.w, .agg (ida (Cnt.get n V ask.r ask.k ask.w)), .bool true, .bool true] (by kernel_rfl) (fun _ W' => Plays w ab g B n V A' lw ask W') _ (by simp [putAll, Act.put]; rfl) (HP.out.new (Fr.drew (fun _ => False) _)) ?hops2 ?after2
              case hops2 =>
                refine ⟨?_, ?_, ?_, ?_, ?_, ?_, ?_, ?_, ?_, ?_, ?_, ?_, ?_, ?_, ?_, ?_, ?_, ?_, trivial⟩
                all_goals
                  rintro L W' hs hd hn hP
                  have HSS := Lib.hid hP
                  have hX := voteAt hP.box.at0
                  simp only [Nat.zero_add] at hX
                  obtain ⟨k0, k1, k2, hAK⟩ := hX
                  have HGL := Lib.hid (get_len hP.at' ask.r ask.k ask.w)
                  clear hP hs hd hn hAK
                  first
                    | exact held_want rfl (held_value (exec_eql_is (T := 32) (a := Cnt.get n V ask.r ask.k ask.w) (b := Cnt.get n V ask.r ask.k ask.w) (c := true) (beq_self_eq_true _) rfl rfl rfl underI (by kernel_rfl) (fun w => by kernel_rfl) HGL.out HGL.out (by kernel_rfl)) HSS.out)
                    | (refine held_want rfl ?_; unfold opHeld; go_simp; first | done | exact HSS.out | exact ⟨rfl, HSS.out⟩ | exact Plays.get HSS.out | exact Plays.rget HR.out HLW.out HSS.out)
              case after2 =>
                rintro L W' hs hal hP
                have HP := Lib.hid hP
                clear hP
                go_wp2
                go_ret
                exact ⟨rfl, new_below HP.out.fr⟩
    · have hf : Cnt.faults n = -1 := by unfold Cnt.faults; omega
      have HF := Lib.hid hf
      clear hf hn
      go_enter Try.func7, Try.ntmps7
      go_wp2_with (first
        | (go_at_call 14; refine (counts_any _).mono ?_; rintro e w1 ⟨rfl, hN1⟩)
        | (go_at_call 16; refine (new_bad _ n (by rw [HF.out]; decide)).mono ?_; rintro e w2 ⟨rfl, rfl⟩)
        | (go_at_call 15; refine (rfaults_is n (-1) HF.out _).mono ?_; rintro e w' ⟨rfl, rfl⟩)
        | (go_at_call 19; refine (faults_is n (-1) HF.out _).mono ?_; rintro e w' ⟨rfl, rfl⟩))
      go_ret
      exact ⟨rfl, new_below (hN0.trans hN1 (fun _ h => h.elim))⟩
  · have d200 : (200 : Int) < (l.length : Int) := by omega
    go_enter Try.func7, Try.ntmps7
    go_wp2_with (go_at_call 14; refine (counts_any _).mono ?_; rintro e w1 ⟨rfl, hN1⟩)
    go_ret
    exact ⟨rfl, new_below (hN0.trans hN1 (fun _ h => h.elim))⟩
end Go.Proofs.YtepmlmfacpbhkaaR
