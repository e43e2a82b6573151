/- CountOrder, walked. (Printed by gen_ord.py.) -/
import Derived.Test.YtepmlmfacpbhkaaROrdA
import Derived.Test.YtepmlmfacpbhkaaRPlaysW
namespace Go.Proofs.YtepmlmfacpbhkaaR
open Go.RowKit Go.Shelf
set_option linter.unusedVariables false

section
variable {w : World} {ga gb : Nat} {Ba Bb : Nat → Nat → Nat} {n m : Nat} {V : Cnt.Tab} {A : Option Addr} {own : List Cnt.Vote} {W : World} {b3 b4 : Nat} {x : Cnt.Vid} {r k : Int} {q : Nat}
/-- what stands while a round is asked -/
abbrev AsksO (w : World) (ga gb : Nat) (Ba Bb : Nat → Nat → Nat) (n m : Nat) (V : Cnt.Tab) (A : Option Addr) (own : List Cnt.Vote) (b3 b4 : Nat) (x : Cnt.Vid) (W : World) : Prop :=
  Ord w ga gb Ba Bb n m V V A own W ∧ Blk W b3 32 (ida x) ∧ Blk W b4 32 (ida x)
theorem AsksO.new {W' : World} (h : AsksO w ga gb Ba Bb n m V A own b3 b4 x W) (f : New W W') : AsksO w ga gb Ba Bb n m V A own b3 b4 x W' := ⟨h.1.new f, h.2.1.fr f id, h.2.2.fr f id⟩
theorem AsksO.allA (h : AsksO w ga gb Ba Bb n m V A own b3 b4 x W) :
    CallsIn Fence.wide q Try.prog 21 #[.pointer (some ⟨ga, 0, none⟩), .int .i64 r, .int .i64 k] W fun e w'' => e = .returned (.int .i64 ((Cnt.castsAt n V r k).length : Nat)) ∧ AsksO w ga gb Ba Bb n m V A own b3 b4 x w'' :=
  (callsIn_wide.2 (all_any W ga Ba n V r k h.1.a)).mono fun e w'' ⟨he, hn⟩ => ⟨he, h.new hn⟩
theorem AsksO.allB (h : AsksO w ga gb Ba Bb n m V A own b3 b4 x W) :
    CallsIn Fence.wide q Try.prog 21 #[.pointer (some ⟨gb, 0, none⟩), .int .i64 r, .int .i64 k] W fun e w'' => e = .returned (.int .i64 ((Cnt.castsAt n V r k).length : Nat)) ∧ AsksO w ga gb Ba Bb n m V A own b3 b4 x w'' :=
  (callsIn_wide.2 (all_any W gb Bb n V r k h.1.b)).mono fun e w'' ⟨he, hn⟩ => ⟨he, h.new hn⟩
end
set_option maxHeartbeats 8000000 in
set_option maxRecDepth 20000 in
theorem countOrder_walk (n : Int) (A : Option Addr) (c : Nat) (l : List Cnt.Vote) (t : Int) (w : World) (hl : VotesAt w A l) (hm : l.length ≤ maxLen) (hnum : ∀ v ∈ l, Num v.r ∧ Num v.k ∧ Num v.w) :
    Calls Try.prog 5 #[.int .i64 n, .slice A l.length c, .int .i64 t] w fun e w' => e = .returned (.bool true) ∧ Below w.heap.size w w' := by
  obtain ⟨ii, hii, hz0, hz1, hz2⟩ := info_parts infoI
  obtain ⟨iv, hiv, hv0, hv1, hv2⟩ := info_parts infoVo
  obtain ⟨ik, hik, hk0, hk1, hk2⟩ := info_parts infoK3
  unfold maxLen at hm
  by_cases hn : n = 1 ∨ n = 4 ∨ n = 7
  · obtain ⟨n, rfl⟩ : ∃ n' : Nat, n = n' := ⟨n.toNat, by omega⟩
    have hn' : n = 1 ∨ n = 4 ∨ n = 7 := by omega
    obtain ⟨f, hf⟩ : ∃ f : Nat, Cnt.faults n = f := by rcases hn' with rfl | rfl | rfl; exact ⟨0, rfl⟩; exact ⟨1, rfl⟩; exact ⟨2, rfl⟩
    have HF := Lib.hid hf
    have HN' := Lib.hid hn'
    clear hf hn hn'
    by_cases h60 : l.length ≤ 60
    · have d60 : decide ((60 : Int) < (l.length : Int)) = false := by simp; omega
      go_enter Try.func5, Try.ntmps5
      go_wp2_with (first
        | (go_at_call 14; refine (counts_any _).mono ?_; rintro e w1 ⟨rfl, hN1⟩; have HN1 := Lib.hid hN1; clear hN1)
        | (go_at_call 15; refine (rfaults_is n f HF.out _).mono ?_; rintro e w' ⟨rfl, rfl⟩)
        | (go_at_call 16; refine (new_any _ n HN'.out).mono ?_; first | (have h9 := HCa; clear h9; rintro e w3 ⟨rfl, hCb, hN3⟩; have HCb := Lib.hid (And.intro hCb hN3); clear hCb hN3) | (rintro e w2 ⟨rfl, hCa, hN2⟩; have HCa := Lib.hid (And.intro hCa hN2); clear hCa hN2))
        | (refine wpList_value_w (exec_makeMap rfl) (by simp [go_sem, Region.wanted, yielded]) ?_))
      obtain ⟨hCa, hN2⟩ := HCa.out
      obtain ⟨hCb, hN3⟩ := HCb.out
      have hzw : w.heap.size ≤ w1.heap.size := HN1.out.size
      have hga := hCa.glt
      have hgb := hCb.glt
      have f4 : New w3 (w3.alloc (.map #[] 0)) := Fr.alloc _ _ _
      have hS : Apart w w1.heap.size w2.heap.size (fun r k => w1.heap.size + 1 + (r * 2 + k)) (fun r k => w2.heap.size + 1 + (r * 2 + k)) w3.heap.size := by
        have hsz := hN3.size
        refine ⟨fun j hj => ?_, fun j hj => ?_, by omega, hgb, by omega⟩
        · have h1 := hj.new
          have hlt : j < w2.heap.size := by
            obtain ⟨r, k, hr, hk, rfl⟩ := hj
            exact hCa.blt hr hk
          exact ⟨by omega, by omega, by omega, fun h2 => by have := h2.new; omega⟩
        · have h1 := hj.new
          have hlt : j < w3.heap.size := by
            obtain ⟨r, k, hr, hk, rfl⟩ := hj
            exact hCb.blt hr hk
          refine ⟨by omega, by omega, by omega, fun h2 => ?_⟩
          obtain ⟨r, k, hr, hk, e9⟩ := h2
          have h9 : j < w2.heap.size := by rw [e9]; exact hCa.blt hr hk
          omega
      have hO : Ord w w1.heap.size w2.heap.size (fun r k => w1.heap.size + 1 + (r * 2 + k)) (fun r k => w2.heap.size + 1 + (r * 2 + k)) n w3.heap.size Cnt.empty Cnt.empty none [] (w3.alloc (.map #[] 0)) :=
        ⟨(hCa.fr hN3 id (fun _ _ _ _ => id)).fr f4 id (fun _ _ _ _ => id), hCb.fr f4 id (fun _ _ _ _ => id), VotesAt.nil, (fun a e => by cases e), f4.size, ((HN1.out.trans hN2 (fun _ h => h.elim)).trans hN3 (fun _ h => h.elim)).trans f4 (fun _ h => h.elim)⟩
      have hD := Dist.start (w3.alloc (.map #[] 0)) w3.heap.size (Seen.made w3)
      clear hCa hN2 hCb hN3 HCa HCb HN1 hzw hga hgb f4
      generalize (fun r k => w1.heap.size + 1 + (r * 2 + k)) = Ba at *
      generalize (fun r k => w2.heap.size + 1 + (r * 2 + k)) = Bb at *
      generalize w1.heap.size = ga at *
      generalize w2.heap.size = gb at *
      generalize w3.heap.size = m at *
      generalize w3.alloc (.map #[] 0) = W0 at *
      have HS := Lib.hid hS
      have HO := Lib.hid hO
      clear hS hO
      go_loopw [12, 55] (fun s0 i0 W => ∃ (j : Nat) (own : List Cnt.Vote) (ks : List (Int × Int × Int)), i0 = .int .i64 j ∧ j ≤ l.length ∧ Dist W0 m j s0 own ks W) (fun _ i0 _ => l.length - (intOf i0).toNat)
      case atStart => exact ⟨0, [], [], rfl, by omega, hD⟩
      case round =>
        obtain ⟨j, own, ks, rfl, hj, hD⟩ := hrel
        by_cases hlt : j < l.length
        · have hNw : New w wr := HO.out.fr.trans hD.fr (fun x hx => .inr (Nat.le_trans HS.out.lm hx))
          obtain ⟨b, off, rfl, hb, hc⟩ := (hl.fr hNw (fun _ h => h.elim)).rd (by omega)
          have hA := hc j hlt
          have hvl := hl.len _ (List.getElem_mem hlt)
          obtain ⟨wr1, wr2, wr3⟩ := hnum _ (List.getElem_mem hlt)
          have hlt' : (j : Int) < (l.length : Int) := by omega
          generalize l[j] = v at *
          have HL := Lib.hid hvl
          have HVS := Lib.hid (show iv.size = (voteC v).toArray.size by rw [hv1]; simp [voteC_length v hvl])
          have HVZ := Lib.hid (show (voteC ⟨0, 0, 0, Cnt.z⟩).toArray.size = (voteC v).toArray.size by simp [voteC_length v hvl]; rfl)
          have f1 : New wr (wr.alloc (.cells (voteC v).toArray 40)) := Fr.alloc _ _ _
          have f2 : New (wr.alloc (.cells (voteC v).toArray 40)) ((wr.alloc (.cells (voteC v).toArray 40)).alloc (.cells #[.int .i64 v.r, .int .i64 v.k, .int .i64 v.w] 41)) := Fr.alloc _ _ _
          have hB1 := Blk.new wr 40 (voteC v).toArray
          have hX := voteAt hB1.at0
          simp only [Nat.zero_add] at hX
          obtain ⟨k0, k1, k2, _⟩ := hX
          have hB2 := hB1.fr f2 id
          have hK2 := Blk.new (wr.alloc (.cells (voteC v).toArray 40)) 41 #[.int .i64 v.r, .int .i64 v.k, .int .i64 v.w]
          have hA2 := hB2.at0
          have hKA2 : At ((wr.alloc (.cells (voteC v).toArray 40)).alloc (.cells #[.int .i64 v.r, .int .i64 v.k, .int .i64 v.w] 41)) (wr.heap.size + 1) 0 #[.int .i64 v.r, .int .i64 v.k, .int .i64 v.w] := by have := hK2.at0; simpa using this
          have hD2 := (hD.new f1).new f2
          obtain ⟨x, hr, hx⟩ := hD2.seen.look wr1 wr2 wr3
          have HX := Lib.hid hx
          have HK1 := Lib.hid hk1
          clear hx
          cases x with
          | true =>
            obtain ⟨W5, hr5, hD5⟩ := hD2.old (by omega) wr1 wr2 wr3
            have HD5 := Lib.hid hD5
            clear hD5 hD2 hD hB1 hB2 hK2 hc hNw f1 f2 hvl
            go_wp2_with (first
              | (refine wpList_value_w (exec_load (T := 40) (X := (voteC v).toArray) rfl rfl Try.underlying40 rfl hiv HVS.out hA) (by simp [go_sem, Region.wanted, yielded]) ?_)
              | (refine wpList_value_w (exec_alloc_agg (T := 40) rfl hiv hv0) (by simp [go_sem, Region.wanted, yielded]) ?_)
              | (refine wpList_skip_w (exec_store_new (T := 40) (X := (voteC v).toArray) rfl rfl rfl rfl hiv HVS.out (voteC_one v) HVZ.out) rfl ?_)
              | (refine wpList_value_w (exec_build3 (a := v.r) (b := v.k) (c := v.w) rfl rfl rfl rfl) (by simp [go_sem, Region.wanted, yielded]) ?_)
              | (refine wpList_value_w (exec_alloc_agg (T := 41) rfl hik hk0) (by simp [go_sem, Region.wanted, yielded]) ?_)
              | (refine wpList_skip_w (exec_store_new (T := 41) (X := #[.int .i64 v.r, .int .i64 v.k, .int .i64 v.w]) rfl rfl rfl rfl hik HK1.out (by intro u hu; simp at hu; rcases hu with rfl | rfl | rfl <;> rfl) rfl) rfl ?_)
              | (refine wpList_value_w (exec_load (T := 41) (X := #[.int .i64 v.r, .int .i64 v.k, .int .i64 v.w]) rfl rfl Try.underlying41 rfl hik HK1.out hKA2) (by simp [go_sem, Region.wanted, yielded]) ?_)
              | (refine wpList_value_w (exec_look hr rfl rfl rfl) (by simp [go_sem, Region.wanted, yielded]) ?_)
              | (refine wpList_skip_w (exec_update hr5 rfl rfl rfl rfl) rfl ?_))
            go_roundw
            case rel => exact ⟨j + 1, own, _, by go_num, by omega, HD5.out⟩
            case measure => simp [intOf]; omega
          | false =>
            obtain ⟨v2, W4, W5, hr4, hr5, hD5, hF4⟩ := hD2.more (by omega) v HL.out wr1 wr2 wr3 (HX.out rfl)
            have hbl : ∀ x, Value.ownBlock _ = some x → x < wr.heap.size := fun x => own_lt hD.row
            have hK4 : At W4 (wr.heap.size + 1) 0 #[.int .i64 v.r, .int .i64 v.k, .int .i64 v.w] := by have := (hK2.fr hF4 (fun s => by have := hbl _ s; have := f1.size; omega)).at0; simpa using this
            have HD5 := Lib.hid hD5
            clear hD5 hD2 hD hB1 hB2 hK2 hc hNw f1 f2 hvl hF4 hbl
            go_wp2_with (first
              | (refine wpList_value_w (exec_load (T := 40) (X := (voteC v).toArray) rfl rfl Try.underlying40 rfl hiv HVS.out hA) (by simp [go_sem, Region.wanted, yielded]) ?_)
              | (refine wpList_value_w (exec_alloc_agg (T := 40) rfl hiv hv0) (by simp [go_sem, Region.wanted, yielded]) ?_)
              | (refine wpList_skip_w (exec_store_new (T := 40) (X := (voteC v).toArray) rfl rfl rfl rfl hiv HVS.out (voteC_one v) HVZ.out) rfl ?_)
              | (refine wpList_value_w (exec_build3 (a := v.r) (b := v.k) (c := v.w) rfl rfl rfl rfl) (by simp [go_sem, Region.wanted, yielded]) ?_)
              | (refine wpList_value_w (exec_alloc_agg (T := 41) rfl hik hk0) (by simp [go_sem, Region.wanted, yielded]) ?_)
              | (refine wpList_skip_w (exec_store_new (T := 41) (X := #[.int .i64 v.r, .int .i64 v.k, .int .i64 v.w]) rfl rfl rfl rfl hik HK1.out (by intro u hu; simp at hu; rcases hu with rfl | rfl | rfl <;> rfl) rfl) rfl ?_)
              | (refine wpList_value_w (exec_load (T := 41) (X := #[.int .i64 v.r, .int .i64 v.k, .int .i64 v.w]) rfl rfl Try.underlying41 rfl hik HK1.out hKA2) (by simp [go_sem, Region.wanted, yielded]) ?_)
              | (refine wpList_value_w (exec_look hr rfl rfl rfl) (by simp [go_sem, Region.wanted, yielded]) ?_)
              | (refine wpList_value_w (exec_load (T := 40) (X := (voteC v).toArray) rfl rfl Try.underlying40 rfl hiv HVS.out hA2) (by simp [go_sem, Region.wanted, yielded]) ?_)
              | (refine wpList_value_w (exec_slice1 HL.out rfl rfl) (by simp [go_sem, Region.wanted, yielded]) ?_)
              | (refine wpList_append_run hr4 rfl rfl _ _ rfl rfl rfl ?_)
              | (refine wpList_value_w (exec_load (T := 41) (X := #[.int .i64 v.r, .int .i64 v.k, .int .i64 v.w]) rfl rfl Try.underlying41 rfl hik HK1.out hK4) (by simp [go_sem, Region.wanted, yielded]) ?_)
              | (refine wpList_skip_w (exec_update hr5 rfl rfl rfl rfl) rfl ?_))
            go_roundw
            case rel => exact ⟨j + 1, _, _, by go_num, by omega, HD5.out⟩
            case measure => simp [intOf]; omega
        · obtain rfl : j = l.length := by omega
          have d1 : decide ((l.length : Int) < (l.length : Int)) = false := by simp
          obtain ⟨Ao, co, rfl, hVo, hco, hAo⟩ := votes_of_own' hD.len hD.row
          have hol := hD.le
          have HU := Lib.hid hD.un
          have hP0 : Ord w ga gb Ba Bb n m Cnt.empty Cnt.empty Ao own wr :=
            ⟨HO.out.a.fr hD.fr (fun s => by have := HS.out.la; omega) (fun r k hr hk s => by have := (HS.out.ra _ ⟨r, k, hr, hk, rfl⟩).2.1; omega), HO.out.b.fr hD.fr (fun s => by have := HS.out.lb; omega) (fun r k hr hk s => by have := (HS.out.rb _ ⟨r, k, hr, hk, rfl⟩).2.1; omega), hVo, (fun a e => by have := hAo a e; omega), Nat.le_of_lt hD.seen.lt, HO.out.fr.trans hD.fr (fun x hx => .inr (Nat.le_trans HS.out.lm hx))⟩
          clear hD hVo hAo HO hl hnum
          go_wp2
          go_loopw [79] (fun i0 W => ∃ j : Nat, i0 = .int .i64 j ∧ j ≤ own.length ∧ Ord w ga gb Ba Bb n m (Cnt.puts n Cnt.empty (own.take j)) Cnt.empty Ao own W) (fun i0 _ => own.length - (intOf i0).toNat)
          case atStart => exact ⟨0, rfl, by omega, hP0⟩
          case round =>
            obtain ⟨j, rfl, hj, hP⟩ := hrel
            by_cases hlt : j < own.length
            · obtain ⟨b, off, rfl, hb, hc⟩ := hP.vo.rd (by rw [show own.length = own.length from rfl]; omega)
              have hlr : j < own.length := by rw [show own.length = own.length from rfl]; exact hlt
              have hA := hc j hlr
              have hvl := hP.vo.len _ (List.getElem_mem hlr)
              have HSN := Lib.hid (Cnt.puts_snoc (n := n) (V := Cnt.empty) hlr)
              have hlt' : (j : Int) < (own.length : Int) := by omega
              generalize own[j] = v at *
              have HL := Lib.hid hvl
              have HVS := Lib.hid (show iv.size = (voteC v).toArray.size by rw [hv1]; simp [voteC_length v hvl])
              have HVZ := Lib.hid (show (voteC ⟨0, 0, 0, Cnt.z⟩).toArray.size = (voteC v).toArray.size by simp [voteC_length v hvl]; rfl)
              have HID := Lib.hid (show ii.size = (ida v.id).size by rw [hz1, ida_size, hvl])
              have hP1 := hP.new (Fr.alloc (fun _ => False) wr (.cells (voteC v).toArray 40))
              have hX := voteAt (Blk.new wr 40 (voteC v).toArray).at0
              simp only [Nat.zero_add] at hX
              obtain ⟨k0, k1, k2, hA3⟩ := hX
              have HP1 := Lib.hid hP1
              clear hvl hc hP hP1
              go_wp2_with (first
                | (refine wpList_value_w (exec_load (T := 40) (X := (voteC v).toArray) rfl rfl Try.underlying40 rfl hiv HVS.out hA) (by simp [go_sem, Region.wanted, yielded]) ?_)
                | (refine wpList_value_w (exec_alloc_agg (T := 40) rfl hiv hv0) (by simp [go_sem, Region.wanted, yielded]) ?_)
                | (refine wpList_skip_w (exec_store_new (T := 40) (X := (voteC v).toArray) rfl rfl rfl rfl hiv HVS.out (voteC_one v) HVZ.out) rfl ?_)
                | (refine wpList_value_w (exec_load (T := 32) (X := ida v.id) rfl rfl underI rfl hii HID.out hA3) (by simp [go_sem, Region.wanted, yielded]) ?_)
                | (go_at_call 17; refine (put_any _ ga Ba n (Cnt.puts n Cnt.empty (own.take j)) v.r v.k v.w v.id HL.out HP1.out.a).mono ?_; rintro e w4 ⟨rfl, hC4, hF4⟩; have HP4 := Lib.hid (HP1.out.putA HS.out hC4 hF4); clear hC4 hF4))
              go_roundw
              case rel => exact ⟨j + 1, by go_num, by omega, by rw [HSN.out]; exact HP4.out⟩
              case measure => simp [intOf]; omega
            · obtain rfl : j = own.length := by omega
              have d2 : decide ((own.length : Int) < (own.length : Int)) = false := by simp
              rw [List.take_length] at hP
              clear hP0
              by_cases g1 : t < 0
              · have e1 : decide (t < 0) = true := by simpa using g1
                have t0 : (0 : Int) ≤ (0 : Int) := by omega
                have t1 : (0 : Int) ≤ (own.length : Int) := by omega
                obtain ⟨v1, x1, A2, c2, x2, q1, q2, hV2, hN2, hA2⟩ := turn_votes wr.drew Ao co own (hP.vo.fr (Fr.drew (fun _ => False) wr) (fun _ h => h.elim)) (by omega) hco ((0 : Int)).toNat (by omega)
                have HV2 := Lib.hid (And.intro hV2 (And.intro hN2 hA2))
                have HP := Lib.hid hP
                have HCO := Lib.hid hco
                clear hV2 hN2 hA2 hP hco
                go_wp2
                refine wp_region_all (by kernel_rfl) (by kernel_rfl) [.slice (some ⟨wr.heap.size, 0, none⟩) 0 0, .slice Ao own.length co, .int .i64 ((0 : Int)), tailOf Ao own.length co ((0 : Int)).toNat, v1, .slice Ao own.length co, .int .i64 ((0 : Int)), headOf Ao co ((0 : Int)).toNat, .slice A2 own.length c2, .int .i64 own.length, .int .i64 0] (by kernel_rfl) (Turned wr.drew (wr.drew.alloc (.cells #[] 40)) x1 x2) _ (by simp [putAll, Act.put]; rfl) rfl ?hops ?after
                case hops =>
                  refine ⟨?_, ?_, ?_, ?_, ?_, ?_, ?_, ?_, ?_, ?_, ?_, trivial⟩
                  all_goals
                    rintro L W' hs hd hn hT
                    obtain ⟨a0, a1, a2, a3, a4, a5, a6, a7, a8, a9, a10, rfl⟩ := arr11 hs
                    simp [Region.binds] at hd hn
                    clear hs
                  · have hW : a4 = false ∧ a8 = false ∧ W' = wr.drew := by revert hT; rw [hn]; cases a4 <;> cases a8 <;> simp [Turned]
                    obtain ⟨rfl, rfl, rfl⟩ := hW
                    exact held_want rfl (held_value (exec_slice0 rfl) rfl)
                  · refine held_want rfl ?_; unfold opHeld; go_simp; first | done | exact hT | exact ⟨rfl, hT⟩
                  · refine held_want rfl ?_; unfold opHeld; go_simp; first | done | exact hT | exact ⟨rfl, hT⟩
                  · exact held_want rfl (held_value (exec_tail (t := (0 : Int)) t0 t1 rfl rfl rfl) hT)
                  · obtain ⟨rfl, rfl⟩ := hd
                    have hW : a8 = false ∧ W' = wr.drew.alloc (.cells #[] 40) := by revert hT; rw [hn]; cases a8 <;> simp [Turned]
                    obtain ⟨rfl, rfl⟩ := hW
                    subst hn
                    exact held_want rfl (held_value (exec_append q1 rfl rfl rfl rfl) rfl)
                  · refine held_want rfl ?_; unfold opHeld; go_simp; first | done | exact hT | exact ⟨rfl, hT⟩
                  · refine held_want rfl ?_; unfold opHeld; go_simp; first | done | exact hT | exact ⟨rfl, hT⟩
                  · exact held_want rfl (held_value (exec_head (t := (0 : Int)) t0 t1 HCO.out rfl rfl rfl) hT)
                  · obtain ⟨rfl, rfl, _⟩ := hd
                    have hW : a0 = true ∧ W' = x1 := by revert hT; rw [hn]; cases a0 <;> simp [Turned]
                    obtain ⟨rfl, rfl⟩ := hW
                    subst hn
                    exact held_want rfl (held_value (exec_append q2 rfl rfl rfl rfl) rfl)
                  · subst hd
                    refine held_want rfl ?_; unfold opHeld; go_simp; first | done | exact hT | exact ⟨rfl, hT⟩
                  · refine held_want rfl ?_; unfold opHeld; go_simp; first | done | exact hT | exact ⟨rfl, hT⟩
                case after =>
                  rintro L W' hs hal hT
                  obtain ⟨a0, a1, a2, a3, a4, a5, a6, a7, a8, a9, a10, rfl⟩ := arr11 hs
                  have z0 : a0 = true := hal 0
                  have z4 : a4 = true := hal 4
                  have z8 : a8 = true := hal 8
                  subst z0 z4 z8
                  have hT' : W' = x2 := hT
                  subst hT'
                  clear hal hs q1 q2
                  obtain ⟨hV2, hN2, hA2⟩ := HV2.out
                  have hwm := HP.out.a.glt
                  have hP3 : Ord w ga gb Ba Bb n m (Cnt.puts n Cnt.empty own) Cnt.empty A2 (own.drop ((0 : Int)).toNat ++ own.take ((0 : Int)).toNat) W' :=
                    ⟨(HP.out.new (Fr.drew (fun _ => False) wr)).a.fr hN2 id (fun _ _ _ _ => id), (HP.out.new (Fr.drew (fun _ => False) wr)).b.fr hN2 id (fun _ _ _ _ => id), hV2, (fun a e => by have h1 := hA2 a e; have h2 : m ≤ wr.drew.heap.size := HP.out.lm; omega), Nat.le_trans HP.out.lm hN2.size, (HP.out.fr.trans (Fr.drew (fun _ => False) wr) (fun _ h => h.elim)).trans hN2 (fun _ h => h.elim)⟩
                  have hrl : (own.drop ((0 : Int)).toNat ++ own.take ((0 : Int)).toNat).length = own.length := by rw [List.length_append, List.length_drop, List.length_take]; omega
                  have HPT := Lib.hid (Cnt.puts_turn (n := n) (V := Cnt.empty) HU.out ((0 : Int)).toNat)
                  clear hV2 hN2 hA2 HV2 HP
                  generalize (own.drop ((0 : Int)).toNat ++ own.take ((0 : Int)).toNat) = rot at *
                  go_wp2
                  go_loopw [112] (fun i0 W => ∃ j : Nat, i0 = .int .i64 j ∧ j ≤ own.length ∧ Ord w ga gb Ba Bb n m (Cnt.puts n Cnt.empty own) (Cnt.puts n Cnt.empty (rot.take j)) A2 rot W) (fun i0 _ => own.length - (intOf i0).toNat)
                  case atStart => exact ⟨0, rfl, by omega, hP3⟩
                  case round =>
                    obtain ⟨j, rfl, hj, hP⟩ := hrel
                    by_cases hlt : j < own.length
                    · obtain ⟨b, off, rfl, hb, hc⟩ := hP.vo.rd (by rw [hrl]; omega)
                      have hlr : j < rot.length := by rw [hrl]; exact hlt
                      have hA := hc j hlr
                      have hvl := hP.vo.len _ (List.getElem_mem hlr)
                      have HSN := Lib.hid (Cnt.puts_snoc (n := n) (V := Cnt.empty) hlr)
                      have hlt' : (j : Int) < (own.length : Int) := by omega
                      generalize rot[j] = v at *
                      have HL := Lib.hid hvl
                      have HVS := Lib.hid (show iv.size = (voteC v).toArray.size by rw [hv1]; simp [voteC_length v hvl])
                      have HVZ := Lib.hid (show (voteC ⟨0, 0, 0, Cnt.z⟩).toArray.size = (voteC v).toArray.size by simp [voteC_length v hvl]; rfl)
                      have HID := Lib.hid (show ii.size = (ida v.id).size by rw [hz1, ida_size, hvl])
                      have hP1 := hP.new (Fr.alloc (fun _ => False) wr (.cells (voteC v).toArray 40))
                      have hX := voteAt (Blk.new wr 40 (voteC v).toArray).at0
                      simp only [Nat.zero_add] at hX
                      obtain ⟨k0, k1, k2, hA3⟩ := hX
                      have HP1 := Lib.hid hP1
                      clear hvl hc hP hP1
                      go_wp2_with (first
                        | (refine wpList_value_w (exec_load (T := 40) (X := (voteC v).toArray) rfl rfl Try.underlying40 rfl hiv HVS.out hA) (by simp [go_sem, Region.wanted, yielded]) ?_)
                        | (refine wpList_value_w (exec_alloc_agg (T := 40) rfl hiv hv0) (by simp [go_sem, Region.wanted, yielded]) ?_)
                        | (refine wpList_skip_w (exec_store_new (T := 40) (X := (voteC v).toArray) rfl rfl rfl rfl hiv HVS.out (voteC_one v) HVZ.out) rfl ?_)
                        | (refine wpList_value_w (exec_load (T := 32) (X := ida v.id) rfl rfl underI rfl hii HID.out hA3) (by simp [go_sem, Region.wanted, yielded]) ?_)
                        | (go_at_call 17; refine (put_any _ gb Bb n (Cnt.puts n Cnt.empty (rot.take j)) v.r v.k v.w v.id HL.out HP1.out.b).mono ?_; rintro e w4 ⟨rfl, hC4, hF4⟩; have HP4 := Lib.hid (HP1.out.putB HS.out hC4 hF4); clear hC4 hF4))
                      go_roundw
                      case rel => exact ⟨j + 1, by go_num, by omega, by rw [HSN.out]; exact HP4.out⟩
                      case measure => simp [intOf]; omega
                    · obtain rfl : j = own.length := by omega
                      have d3 : decide ((own.length : Int) < (own.length : Int)) = false := by simp
                      have hP4 : Ord w ga gb Ba Bb n m (Cnt.puts n Cnt.empty own) (Cnt.puts n Cnt.empty own) A2 rot wr := by
                        have := hP
                        rw [← hrl, List.take_length, HPT.out] at this
                        exact this
                      clear hP hP3 HPT
                      generalize Cnt.puts n Cnt.empty own = V at *
                      go_wp2
                      go_loopw [20] (fun i0 W => ∃ r : Int, 0 ≤ r ∧ r ≤ 12 ∧ i0 = .int .i64 r ∧ Ord w ga gb Ba Bb n m V V A2 rot W) (fun i0 _ => (12 - intOf i0).toNat)
                      case atStart => exact ⟨0, by omega, by omega, rfl, hP4⟩
                      case round =>
                        obtain ⟨r, hr1, hr2, rfl, hP⟩ := hrel
                        clear hP4
                        by_cases hrlt : r < 12
                        · have hPP := hP
                          clear hP
                          go_wp2
                          go_loopw [21] (fun i0 W => ∃ k : Int, 0 ≤ k ∧ k ≤ 2 ∧ i0 = .int .i64 k ∧ Ord w ga gb Ba Bb n m V V A2 rot W) (fun i0 _ => (2 - intOf i0).toNat)
                          case atStart => exact ⟨0, by omega, by omega, rfl, hPP⟩
                          case round =>
                            obtain ⟨k, hk1, hk2, rfl, hP⟩ := hrel
                            clear hPP
                            by_cases hklt : k < 2
                            · obtain ⟨x, hx⟩ : ∃ x, (Cnt.sure n V r k).getD Cnt.z = x := ⟨_, rfl⟩
                              obtain ⟨sb, hsb⟩ : ∃ sb, (Cnt.sure n V r k).isSome = sb := ⟨_, rfl⟩
                              have hxl : x.length = 32 := hx ▸ sure_len hP.a r k
                              have HXS := Lib.hid (show ii.size = (ida x).size by rw [hz1, ida_size, hxl])
                              have HXZ := Lib.hid (show (ida Cnt.z).size = (ida x).size by rw [ida_size, ida_size, hxl]; rfl)
                              have HXL := Lib.hid hxl
                              have HX := Lib.hid hx
                              have HSB := Lib.hid hsb
                              have HP := Lib.hid hP
                              clear hxl hx hsb hP
                              go_wp2_with (first
                                | (go_at_call 18; first | (have h9 := HP3; clear h9; refine (sureT_any _ gb Bb n V r k x sb HX.out HSB.out HP3.out.b).mono ?_; rintro e w4 ⟨rfl, hN4⟩; have HP4 := Lib.hid (HP3.out.new (hN4.then_alloc (.cells (ida x) 32))); have HB4 := Lib.hid (Blk.new w4 32 (ida x)); have HB34 := Lib.hid (HB3.out.fr (hN4.then_alloc (.cells (ida x) 32)) id); clear hN4) | (refine (sureT_any _ ga Ba n V r k x sb HX.out HSB.out HP.out.a).mono ?_; rintro e w3 ⟨rfl, hN3⟩; have HP3 := Lib.hid (HP.out.new (hN3.then_alloc (.cells (ida x) 32))); have HB3 := Lib.hid (Blk.new w3 32 (ida x)); clear hN3))
                                | (refine wpList_value_w (exec_alloc_agg (T := 32) rfl hii hz0) (by simp [go_sem, Region.wanted, yielded]) ?_)
                                | (refine wpList_skip_w (exec_store_new (T := 32) (X := ida x) rfl rfl rfl rfl hii HXS.out (ida_one x) HXZ.out) rfl ?_)
                                | (refine wpList_value_w (exec_load (T := 32) (X := ida x) rfl rfl underI rfl hii HXS.out HB34.out.at0) (by simp [go_sem, Region.wanted, yielded]) ?_)
                                | (refine wpList_value_w (exec_load (T := 32) (X := ida x) rfl rfl underI rfl hii HXS.out HB4.out.at0) (by simp [go_sem, Region.wanted, yielded]) ?_)
                                | (refine wpList_value_w (exec_neq_is (T := 32) (a := x) (b := x) (c := false) (bne_self_eq_false x) rfl rfl rfl underI (by kernel_rfl) (fun w => by kernel_rfl) HXL.out HXL.out (by kernel_rfl)) (by simp [go_sem, Region.wanted, yielded]) ?_)
                                | (go_at_call 21; first | (have h9 := HP5; clear h9; refine (all_any _ gb Bb n V r k HP5.out.b).mono ?_; rintro e w6 ⟨rfl, hN6⟩; have HP6 := Lib.hid (HP5.out.new hN6); clear hN6) | (refine (all_any _ ga Ba n V r k HP4.out.a).mono ?_; rintro e w5 ⟨rfl, hN5⟩; have HP5 := Lib.hid (HP4.out.new hN5); clear hN5)))
                              go_roundw
                              case rel => exact ⟨k + 1, by omega, by omega, rfl, HP6.out⟩
                              case measure => simp [intOf]; omega
                            · obtain rfl : k = 2 := by omega
                              have d4 : decide ((2 : Int) < 2) = false := by decide
                              go_wp2
                              go_roundw
                              case rel => exact ⟨r + 1, by omega, by omega, rfl, hP⟩
                              case measure => simp [intOf]; omega
                        · obtain rfl : r = 12 := by omega
                          have d5 : decide ((12 : Int) < 12) = false := by decide
                          go_wp2
                          go_ret
                          exact ⟨rfl, new_below hP.fr⟩
              · by_cases g2 : (own.length : Int) < t
                · have e2 : decide ((own.length : Int) < t) = true := by simpa using g2
                  have t0 : (0 : Int) ≤ (0 : Int) := by omega
                  have t1 : (0 : Int) ≤ (own.length : Int) := by omega
                  obtain ⟨v1, x1, A2, c2, x2, q1, q2, hV2, hN2, hA2⟩ := turn_votes wr.drew Ao co own (hP.vo.fr (Fr.drew (fun _ => False) wr) (fun _ h => h.elim)) (by omega) hco ((0 : Int)).toNat (by omega)
                  have HV2 := Lib.hid (And.intro hV2 (And.intro hN2 hA2))
                  have HP := Lib.hid hP
                  have HCO := Lib.hid hco
                  clear hV2 hN2 hA2 hP hco
                  go_wp2
                  refine wp_region_all (by kernel_rfl) (by kernel_rfl) [.slice (some ⟨wr.heap.size, 0, none⟩) 0 0, .slice Ao own.length co, .int .i64 ((0 : Int)), tailOf Ao own.length co ((0 : Int)).toNat, v1, .slice Ao own.length co, .int .i64 ((0 : Int)), headOf Ao co ((0 : Int)).toNat, .slice A2 own.length c2, .int .i64 own.length, .int .i64 0] (by kernel_rfl) (Turned wr.drew (wr.drew.alloc (.cells #[] 40)) x1 x2) _ (by simp [putAll, Act.put]; rfl) rfl ?hops ?after
                  case hops =>
                    refine ⟨?_, ?_, ?_, ?_, ?_, ?_, ?_, ?_, ?_, ?_, ?_, trivial⟩
                    all_goals
                      rintro L W' hs hd hn hT
                      obtain ⟨a0, a1, a2, a3, a4, a5, a6, a7, a8, a9, a10, rfl⟩ := arr11 hs
                      simp [Region.binds] at hd hn
                      clear hs
                    · have hW : a4 = false ∧ a8 = false ∧ W' = wr.drew := by revert hT; rw [hn]; cases a4 <;> cases a8 <;> simp [Turned]
                      obtain ⟨rfl, rfl, rfl⟩ := hW
                      exact held_want rfl (held_value (exec_slice0 rfl) rfl)
                    · refine held_want rfl ?_; unfold opHeld; go_simp; first | done | exact hT | exact ⟨rfl, hT⟩
                    · refine held_want rfl ?_; unfold opHeld; go_simp; first | done | exact hT | exact ⟨rfl, hT⟩
                    · exact held_want rfl (held_value (exec_tail (t := (0 : Int)) t0 t1 rfl rfl rfl) hT)
                    · obtain ⟨rfl, rfl⟩ := hd
                      have hW : a8 = false ∧ W' = wr.drew.alloc (.cells #[] 40) := by revert hT; rw [hn]; cases a8 <;> simp [Turned]
                      obtain ⟨rfl, rfl⟩ := hW
                      subst hn
                      exact held_want rfl (held_value (exec_append q1 rfl rfl rfl rfl) rfl)
                    · refine held_want rfl ?_; unfold opHeld; go_simp; first | done | exact hT | exact ⟨rfl, hT⟩
                    · refine held_want rfl ?_; unfold opHeld; go_simp; first | done | exact hT | exact ⟨rfl, hT⟩
                    · exact held_want rfl (held_value (exec_head (t := (0 : Int)) t0 t1 HCO.out rfl rfl rfl) hT)
                    · obtain ⟨rfl, rfl, _⟩ := hd
                      have hW : a0 = true ∧ W' = x1 := by revert hT; rw [hn]; cases a0 <;> simp [Turned]
                      obtain ⟨rfl, rfl⟩ := hW
                      subst hn
                      exact held_want rfl (held_value (exec_append q2 rfl rfl rfl rfl) rfl)
                    · subst hd
                      refine held_want rfl ?_; unfold opHeld; go_simp; first | done | exact hT | exact ⟨rfl, hT⟩
                    · refine held_want rfl ?_; unfold opHeld; go_simp; first | done | exact hT | exact ⟨rfl, hT⟩
                  case after =>
                    rintro L W' hs hal hT
                    obtain ⟨a0, a1, a2, a3, a4, a5, a6, a7, a8, a9, a10, rfl⟩ := arr11 hs
                    have z0 : a0 = true := hal 0
                    have z4 : a4 = true := hal 4
                    have z8 : a8 = true := hal 8
                    subst z0 z4 z8
                    have hT' : W' = x2 := hT
                    subst hT'
                    clear hal hs q1 q2
                    obtain ⟨hV2, hN2, hA2⟩ := HV2.out
                    have hwm := HP.out.a.glt
                    have hP3 : Ord w ga gb Ba Bb n m (Cnt.puts n Cnt.empty own) Cnt.empty A2 (own.drop ((0 : Int)).toNat ++ own.take ((0 : Int)).toNat) W' :=
                      ⟨(HP.out.new (Fr.drew (fun _ => False) wr)).a.fr hN2 id (fun _ _ _ _ => id), (HP.out.new (Fr.drew (fun _ => False) wr)).b.fr hN2 id (fun _ _ _ _ => id), hV2, (fun a e => by have h1 := hA2 a e; have h2 : m ≤ wr.drew.heap.size := HP.out.lm; omega), Nat.le_trans HP.out.lm hN2.size, (HP.out.fr.trans (Fr.drew (fun _ => False) wr) (fun _ h => h.elim)).trans hN2 (fun _ h => h.elim)⟩
                    have hrl : (own.drop ((0 : Int)).toNat ++ own.take ((0 : Int)).toNat).length = own.length := by rw [List.length_append, List.length_drop, List.length_take]; omega
                    have HPT := Lib.hid (Cnt.puts_turn (n := n) (V := Cnt.empty) HU.out ((0 : Int)).toNat)
                    clear hV2 hN2 hA2 HV2 HP
                    generalize (own.drop ((0 : Int)).toNat ++ own.take ((0 : Int)).toNat) = rot at *
                    go_wp2
                    go_loopw [112] (fun i0 W => ∃ j : Nat, i0 = .int .i64 j ∧ j ≤ own.length ∧ Ord w ga gb Ba Bb n m (Cnt.puts n Cnt.empty own) (Cnt.puts n Cnt.empty (rot.take j)) A2 rot W) (fun i0 _ => own.length - (intOf i0).toNat)
                    case atStart => exact ⟨0, rfl, by omega, hP3⟩
                    case round =>
                      obtain ⟨j, rfl, hj, hP⟩ := hrel
                      by_cases hlt : j < own.length
                      · obtain ⟨b, off, rfl, hb, hc⟩ := hP.vo.rd (by rw [hrl]; omega)
                        have hlr : j < rot.length := by rw [hrl]; exact hlt
                        have hA := hc j hlr
                        have hvl := hP.vo.len _ (List.getElem_mem hlr)
                        have HSN := Lib.hid (Cnt.puts_snoc (n := n) (V := Cnt.empty) hlr)
                        have hlt' : (j : Int) < (own.length : Int) := by omega
                        generalize rot[j] = v at *
                        have HL := Lib.hid hvl
                        have HVS := Lib.hid (show iv.size = (voteC v).toArray.size by rw [hv1]; simp [voteC_length v hvl])
                        have HVZ := Lib.hid (show (voteC ⟨0, 0, 0, Cnt.z⟩).toArray.size = (voteC v).toArray.size by simp [voteC_length v hvl]; rfl)
                        have HID := Lib.hid (show ii.size = (ida v.id).size by rw [hz1, ida_size, hvl])
                        have hP1 := hP.new (Fr.alloc (fun _ => False) wr (.cells (voteC v).toArray 40))
                        have hX := voteAt (Blk.new wr 40 (voteC v).toArray).at0
                        simp only [Nat.zero_add] at hX
                        obtain ⟨k0, k1, k2, hA3⟩ := hX
                        have HP1 := Lib.hid hP1
                        clear hvl hc hP hP1
                        go_wp2_with (first
                          | (refine wpList_value_w (exec_load (T := 40) (X := (voteC v).toArray) rfl rfl Try.underlying40 rfl hiv HVS.out hA) (by simp [go_sem, Region.wanted, yielded]) ?_)
                          | (refine wpList_value_w (exec_alloc_agg (T := 40) rfl hiv hv0) (by simp [go_sem, Region.wanted, yielded]) ?_)
                          | (refine wpList_skip_w (exec_store_new (T := 40) (X := (voteC v).toArray) rfl rfl rfl rfl hiv HVS.out (voteC_one v) HVZ.out) rfl ?_)
                          | (refine wpList_value_w (exec_load (T := 32) (X := ida v.id) rfl rfl underI rfl hii HID.out hA3) (by simp [go_sem, Region.wanted, yielded]) ?_)
                          | (go_at_call 17; refine (put_any _ gb Bb n (Cnt.puts n Cnt.empty (rot.take j)) v.r v.k v.w v.id HL.out HP1.out.b).mono ?_; rintro e w4 ⟨rfl, hC4, hF4⟩; have HP4 := Lib.hid (HP1.out.putB HS.out hC4 hF4); clear hC4 hF4))
                        go_roundw
                        case rel => exact ⟨j + 1, by go_num, by omega, by rw [HSN.out]; exact HP4.out⟩
                        case measure => simp [intOf]; omega
                      · obtain rfl : j = own.length := by omega
                        have d3 : decide ((own.length : Int) < (own.length : Int)) = false := by simp
                        have hP4 : Ord w ga gb Ba Bb n m (Cnt.puts n Cnt.empty own) (Cnt.puts n Cnt.empty own) A2 rot wr := by
                          have := hP
                          rw [← hrl, List.take_length, HPT.out] at this
                          exact this
                        clear hP hP3 HPT
                        generalize Cnt.puts n Cnt.empty own = V at *
                        go_wp2
                        go_loopw [20] (fun i0 W => ∃ r : Int, 0 ≤ r ∧ r ≤ 12 ∧ i0 = .int .i64 r ∧ Ord w ga gb Ba Bb n m V V A2 rot W) (fun i0 _ => (12 - intOf i0).toNat)
                        case atStart => exact ⟨0, by omega, by omega, rfl, hP4⟩
                        case round =>
                          obtain ⟨r, hr1, hr2, rfl, hP⟩ := hrel
                          clear hP4
                          by_cases hrlt : r < 12
                          · have hPP := hP
                            clear hP
                            go_wp2
                            go_loopw [21] (fun i0 W => ∃ k : Int, 0 ≤ k ∧ k ≤ 2 ∧ i0 = .int .i64 k ∧ Ord w ga gb Ba Bb n m V V A2 rot W) (fun i0 _ => (2 - intOf i0).toNat)
                            case atStart => exact ⟨0, by omega, by omega, rfl, hPP⟩
                            case round =>
                              obtain ⟨k, hk1, hk2, rfl, hP⟩ := hrel
                              clear hPP
                              by_cases hklt : k < 2
                              · obtain ⟨x, hx⟩ : ∃ x, (Cnt.sure n V r k).getD Cnt.z = x := ⟨_, rfl⟩
                                obtain ⟨sb, hsb⟩ : ∃ sb, (Cnt.sure n V r k).isSome = sb := ⟨_, rfl⟩
                                have hxl : x.length = 32 := hx ▸ sure_len hP.a r k
                                have HXS := Lib.hid (show ii.size = (ida x).size by rw [hz1, ida_size, hxl])
                                have HXZ := Lib.hid (show (ida Cnt.z).size = (ida x).size by rw [ida_size, ida_size, hxl]; rfl)
                                have HXL := Lib.hid hxl
                                have HX := Lib.hid hx
                                have HSB := Lib.hid hsb
                                have HP := Lib.hid hP
                                clear hxl hx hsb hP
                                go_wp2_with (first
                                  | (go_at_call 18; first | (have h9 := HP3; clear h9; refine (sureT_any _ gb Bb n V r k x sb HX.out HSB.out HP3.out.b).mono ?_; rintro e w4 ⟨rfl, hN4⟩; have HP4 := Lib.hid (HP3.out.new (hN4.then_alloc (.cells (ida x) 32))); have HB4 := Lib.hid (Blk.new w4 32 (ida x)); have HB34 := Lib.hid (HB3.out.fr (hN4.then_alloc (.cells (ida x) 32)) id); clear hN4) | (refine (sureT_any _ ga Ba n V r k x sb HX.out HSB.out HP.out.a).mono ?_; rintro e w3 ⟨rfl, hN3⟩; have HP3 := Lib.hid (HP.out.new (hN3.then_alloc (.cells (ida x) 32))); have HB3 := Lib.hid (Blk.new w3 32 (ida x)); clear hN3))
                                  | (refine wpList_value_w (exec_alloc_agg (T := 32) rfl hii hz0) (by simp [go_sem, Region.wanted, yielded]) ?_)
                                  | (refine wpList_skip_w (exec_store_new (T := 32) (X := ida x) rfl rfl rfl rfl hii HXS.out (ida_one x) HXZ.out) rfl ?_)
                                  | (refine wpList_value_w (exec_load (T := 32) (X := ida x) rfl rfl underI rfl hii HXS.out HB34.out.at0) (by simp [go_sem, Region.wanted, yielded]) ?_)
                                  | (refine wpList_value_w (exec_load (T := 32) (X := ida x) rfl rfl underI rfl hii HXS.out HB4.out.at0) (by simp [go_sem, Region.wanted, yielded]) ?_)
                                  | (refine wpList_value_w (exec_neq_is (T := 32) (a := x) (b := x) (c := false) (bne_self_eq_false x) rfl rfl rfl underI (by kernel_rfl) (fun w => by kernel_rfl) HXL.out HXL.out (by kernel_rfl)) (by simp [go_sem, Region.wanted, yielded]) ?_)
                                  | (go_at_call 21; first | (have h9 := HP5; clear h9; refine (all_any _ gb Bb n V r k HP5.out.b).mono ?_; rintro e w6 ⟨rfl, hN6⟩; have HP6 := Lib.hid (HP5.out.new hN6); clear hN6) | (refine (all_any _ ga Ba n V r k HP4.out.a).mono ?_; rintro e w5 ⟨rfl, hN5⟩; have HP5 := Lib.hid (HP4.out.new hN5); clear hN5)))
                                go_roundw
                                case rel => exact ⟨k + 1, by omega, by omega, rfl, HP6.out⟩
                                case measure => simp [intOf]; omega
                              · obtain rfl : k = 2 := by omega
                                have d4 : decide ((2 : Int) < 2) = false := by decide
                                go_wp2
                                go_roundw
                                case rel => exact ⟨r + 1, by omega, by omega, rfl, hP⟩
                                case measure => simp [intOf]; omega
                          · obtain rfl : r = 12 := by omega
                            have d5 : decide ((12 : Int) < 12) = false := by decide
                            go_wp2
                            go_ret
                            exact ⟨rfl, new_below hP.fr⟩
                · have e3 : decide ((own.length : Int) < t) = false := by simpa using g2
                  have e4 : decide (t < 0) = false := by simpa using g1
                  have t0 : (0 : Int) ≤ t := by omega
                  have t1 : t ≤ (own.length : Int) := by omega
                  obtain ⟨v1, x1, A2, c2, x2, q1, q2, hV2, hN2, hA2⟩ := turn_votes wr.drew Ao co own (hP.vo.fr (Fr.drew (fun _ => False) wr) (fun _ h => h.elim)) (by omega) hco (t).toNat (by omega)
                  have HV2 := Lib.hid (And.intro hV2 (And.intro hN2 hA2))
                  have HP := Lib.hid hP
                  have HCO := Lib.hid hco
                  clear hV2 hN2 hA2 hP hco
                  go_wp2
                  refine wp_region_all (by kernel_rfl) (by kernel_rfl) [.slice (some ⟨wr.heap.size, 0, none⟩) 0 0, .slice Ao own.length co, .int .i64 (t), tailOf Ao own.length co (t).toNat, v1, .slice Ao own.length co, .int .i64 (t), headOf Ao co (t).toNat, .slice A2 own.length c2, .int .i64 own.length, .int .i64 0] (by kernel_rfl) (Turned wr.drew (wr.drew.alloc (.cells #[] 40)) x1 x2) _ (by simp [putAll, Act.put]; rfl) rfl ?hops ?after
                  case hops =>
                    refine ⟨?_, ?_, ?_, ?_, ?_, ?_, ?_, ?_, ?_, ?_, ?_, trivial⟩
                    all_goals
                      rintro L W' hs hd hn hT
                      obtain ⟨a0, a1, a2, a3, a4, a5, a6, a7, a8, a9, a10, rfl⟩ := arr11 hs
                      simp [Region.binds] at hd hn
                      clear hs
                    · have hW : a4 = false ∧ a8 = false ∧ W' = wr.drew := by revert hT; rw [hn]; cases a4 <;> cases a8 <;> simp [Turned]
                      obtain ⟨rfl, rfl, rfl⟩ := hW
                      exact held_want rfl (held_value (exec_slice0 rfl) rfl)
                    · refine held_want rfl ?_; unfold opHeld; go_simp; first | done | exact hT | exact ⟨rfl, hT⟩
                    · refine held_want rfl ?_; unfold opHeld; go_simp; first | done | exact hT | exact ⟨rfl, hT⟩
                    · exact held_want rfl (held_value (exec_tail (t := t) t0 t1 rfl rfl rfl) hT)
                    · obtain ⟨rfl, rfl⟩ := hd
                      have hW : a8 = false ∧ W' = wr.drew.alloc (.cells #[] 40) := by revert hT; rw [hn]; cases a8 <;> simp [Turned]
                      obtain ⟨rfl, rfl⟩ := hW
                      subst hn
                      exact held_want rfl (held_value (exec_append q1 rfl rfl rfl rfl) rfl)
                    · refine held_want rfl ?_; unfold opHeld; go_simp; first | done | exact hT | exact ⟨rfl, hT⟩
                    · refine held_want rfl ?_; unfold opHeld; go_simp; first | done | exact hT | exact ⟨rfl, hT⟩
                    · exact held_want rfl (held_value (exec_head (t := t) t0 t1 HCO.out rfl rfl rfl) hT)
                    · obtain ⟨rfl, rfl, _⟩ := hd
                      have hW : a0 = true ∧ W' = x1 := by revert hT; rw [hn]; cases a0 <;> simp [Turned]
                      obtain ⟨rfl, rfl⟩ := hW
                      subst hn
                      exact held_want rfl (held_value (exec_append q2 rfl rfl rfl rfl) rfl)
                    · subst hd
                      refine held_want rfl ?_; unfold opHeld; go_simp; first | done | exact hT | exact ⟨rfl, hT⟩
                    · refine held_want rfl ?_; unfold opHeld; go_simp; first | done | exact hT | exact ⟨rfl, hT⟩
                  case after =>
                    rintro L W' hs hal hT
                    obtain ⟨a0, a1, a2, a3, a4, a5, a6, a7, a8, a9, a10, rfl⟩ := arr11 hs
                    have z0 : a0 = true := hal 0
                    have z4 : a4 = true := hal 4
                    have z8 : a8 = true := hal 8
                    subst z0 z4 z8
                    have hT' : W' = x2 := hT
                    subst hT'
                    clear hal hs q1 q2
                    obtain ⟨hV2, hN2, hA2⟩ := HV2.out
                    have hwm := HP.out.a.glt
                    have hP3 : Ord w ga gb Ba Bb n m (Cnt.puts n Cnt.empty own) Cnt.empty A2 (own.drop (t).toNat ++ own.take (t).toNat) W' :=
                      ⟨(HP.out.new (Fr.drew (fun _ => False) wr)).a.fr hN2 id (fun _ _ _ _ => id), (HP.out.new (Fr.drew (fun _ => False) wr)).b.fr hN2 id (fun _ _ _ _ => id), hV2, (fun a e => by have h1 := hA2 a e; have h2 : m ≤ wr.drew.heap.size := HP.out.lm; omega), Nat.le_trans HP.out.lm hN2.size, (HP.out.fr.trans (Fr.drew (fun _ => False) wr) (fun _ h => h.elim)).trans hN2 (fun _ h => h.elim)⟩
                    have hrl : (own.drop (t).toNat ++ own.take (t).toNat).length = own.length := by rw [List.length_append, List.length_drop, List.length_take]; omega
                    have HPT := Lib.hid (Cnt.puts_turn (n := n) (V := Cnt.empty) HU.out (t).toNat)
                    clear hV2 hN2 hA2 HV2 HP
                    generalize (own.drop (t).toNat ++ own.take (t).toNat) = rot at *
                    go_wp2
                    go_loopw [112] (fun i0 W => ∃ j : Nat, i0 = .int .i64 j ∧ j ≤ own.length ∧ Ord w ga gb Ba Bb n m (Cnt.puts n Cnt.empty own) (Cnt.puts n Cnt.empty (rot.take j)) A2 rot W) (fun i0 _ => own.length - (intOf i0).toNat)
                    case atStart => exact ⟨0, rfl, by omega, hP3⟩
                    case round =>
                      obtain ⟨j, rfl, hj, hP⟩ := hrel
                      by_cases hlt : j < own.length
                      · obtain ⟨b, off, rfl, hb, hc⟩ := hP.vo.rd (by rw [hrl]; omega)
                        have hlr : j < rot.length := by rw [hrl]; exact hlt
                        have hA := hc j hlr
                        have hvl := hP.vo.len _ (List.getElem_mem hlr)
                        have HSN := Lib.hid (Cnt.puts_snoc (n := n) (V := Cnt.empty) hlr)
                        have hlt' : (j : Int) < (own.length : Int) := by omega
                        generalize rot[j] = v at *
                        have HL := Lib.hid hvl
                        have HVS := Lib.hid (show iv.size = (voteC v).toArray.size by rw [hv1]; simp [voteC_length v hvl])
                        have HVZ := Lib.hid (show (voteC ⟨0, 0, 0, Cnt.z⟩).toArray.size = (voteC v).toArray.size by simp [voteC_length v hvl]; rfl)
                        have HID := Lib.hid (show ii.size = (ida v.id).size by rw [hz1, ida_size, hvl])
                        have hP1 := hP.new (Fr.alloc (fun _ => False) wr (.cells (voteC v).toArray 40))
                        have hX := voteAt (Blk.new wr 40 (voteC v).toArray).at0
                        simp only [Nat.zero_add] at hX
                        obtain ⟨k0, k1, k2, hA3⟩ := hX
                        have HP1 := Lib.hid hP1
                        clear hvl hc hP hP1
                        go_wp2_with (first
                          | (refine wpList_value_w (exec_load (T := 40) (X := (voteC v).toArray) rfl rfl Try.underlying40 rfl hiv HVS.out hA) (by simp [go_sem, Region.wanted, yielded]) ?_)
                          | (refine wpList_value_w (exec_alloc_agg (T := 40) rfl hiv hv0) (by simp [go_sem, Region.wanted, yielded]) ?_)
                          | (refine wpList_skip_w (exec_store_new (T := 40) (X := (voteC v).toArray) rfl rfl rfl rfl hiv HVS.out (voteC_one v) HVZ.out) rfl ?_)
                          | (refine wpList_value_w (exec_load (T := 32) (X := ida v.id) rfl rfl underI rfl hii HID.out hA3) (by simp [go_sem, Region.wanted, yielded]) ?_)
                          | (go_at_call 17; refine (put_any _ gb Bb n (Cnt.puts n Cnt.empty (rot.take j)) v.r v.k v.w v.id HL.out HP1.out.b).mono ?_; rintro e w4 ⟨rfl, hC4, hF4⟩; have HP4 := Lib.hid (HP1.out.putB HS.out hC4 hF4); clear hC4 hF4))
                        go_roundw
                        case rel => exact ⟨j + 1, by go_num, by omega, by rw [HSN.out]; exact HP4.out⟩
                        case measure => simp [intOf]; omega
                      · obtain rfl : j = own.length := by omega
                        have d3 : decide ((own.length : Int) < (own.length : Int)) = false := by simp
                        have hP4 : Ord w ga gb Ba Bb n m (Cnt.puts n Cnt.empty own) (Cnt.puts n Cnt.empty own) A2 rot wr := by
                          have := hP
                          rw [← hrl, List.take_length, HPT.out] at this
                          exact this
                        clear hP hP3 HPT
                        generalize Cnt.puts n Cnt.empty own = V at *
                        go_wp2
                        go_loopw [20] (fun i0 W => ∃ r : Int, 0 ≤ r ∧ r ≤ 12 ∧ i0 = .int .i64 r ∧ Ord w ga gb Ba Bb n m V V A2 rot W) (fun i0 _ => (12 - intOf i0).toNat)
                        case atStart => exact ⟨0, by omega, by omega, rfl, hP4⟩
                        case round =>
                          obtain ⟨r, hr1, hr2, rfl, hP⟩ := hrel
                          clear hP4
                          by_cases hrlt : r < 12
                          · have hPP := hP
                            clear hP
                            go_wp2
                            go_loopw [21] (fun i0 W => ∃ k : Int, 0 ≤ k ∧ k ≤ 2 ∧ i0 = .int .i64 k ∧ Ord w ga gb Ba Bb n m V V A2 rot W) (fun i0 _ => (2 - intOf i0).toNat)
                            case atStart => exact ⟨0, by omega, by omega, rfl, hPP⟩
                            case round =>
                              obtain ⟨k, hk1, hk2, rfl, hP⟩ := hrel
                              clear hPP
                              by_cases hklt : k < 2
                              · obtain ⟨x, hx⟩ : ∃ x, (Cnt.sure n V r k).getD Cnt.z = x := ⟨_, rfl⟩
                                obtain ⟨sb, hsb⟩ : ∃ sb, (Cnt.sure n V r k).isSome = sb := ⟨_, rfl⟩
                                have hxl : x.length = 32 := hx ▸ sure_len hP.a r k
                                have HXS := Lib.hid (show ii.size = (ida x).size by rw [hz1, ida_size, hxl])
                                have HXZ := Lib.hid (show (ida Cnt.z).size = (ida x).size by rw [ida_size, ida_size, hxl]; rfl)
                                have HXL := Lib.hid hxl
                                have HX := Lib.hid hx
                                have HSB := Lib.hid hsb
                                have HP := Lib.hid hP
                                clear hxl hx hsb hP
                                go_wp2_with (first
                                  | (go_at_call 18; first | (have h9 := HP3; clear h9; refine (sureT_any _ gb Bb n V r k x sb HX.out HSB.out HP3.out.b).mono ?_; rintro e w4 ⟨rfl, hN4⟩; have HP4 := Lib.hid (HP3.out.new (hN4.then_alloc (.cells (ida x) 32))); have HB4 := Lib.hid (Blk.new w4 32 (ida x)); have HB34 := Lib.hid (HB3.out.fr (hN4.then_alloc (.cells (ida x) 32)) id); clear hN4) | (refine (sureT_any _ ga Ba n V r k x sb HX.out HSB.out HP.out.a).mono ?_; rintro e w3 ⟨rfl, hN3⟩; have HP3 := Lib.hid (HP.out.new (hN3.then_alloc (.cells (ida x) 32))); have HB3 := Lib.hid (Blk.new w3 32 (ida x)); clear hN3))
                                  | (refine wpList_value_w (exec_alloc_agg (T := 32) rfl hii hz0) (by simp [go_sem, Region.wanted, yielded]) ?_)
                                  | (refine wpList_skip_w (exec_store_new (T := 32) (X := ida x) rfl rfl rfl rfl hii HXS.out (ida_one x) HXZ.out) rfl ?_)
                                  | (refine wpList_value_w (exec_load (T := 32) (X := ida x) rfl rfl underI rfl hii HXS.out HB34.out.at0) (by simp [go_sem, Region.wanted, yielded]) ?_)
                                  | (refine wpList_value_w (exec_load (T := 32) (X := ida x) rfl rfl underI rfl hii HXS.out HB4.out.at0) (by simp [go_sem, Region.wanted, yielded]) ?_)
                                  | (refine wpList_value_w (exec_neq_is (T := 32) (a := x) (b := x) (c := false) (bne_self_eq_false x) rfl rfl rfl underI (by kernel_rfl) (fun w => by kernel_rfl) HXL.out HXL.out (by kernel_rfl)) (by simp [go_sem, Region.wanted, yielded]) ?_)
                                  | (go_at_call 21; first | (have h9 := HP5; clear h9; refine (all_any _ gb Bb n V r k HP5.out.b).mono ?_; rintro e w6 ⟨rfl, hN6⟩; have HP6 := Lib.hid (HP5.out.new hN6); clear hN6) | (refine (all_any _ ga Ba n V r k HP4.out.a).mono ?_; rintro e w5 ⟨rfl, hN5⟩; have HP5 := Lib.hid (HP4.out.new hN5); clear hN5)))
                                go_roundw
                                case rel => exact ⟨k + 1, by omega, by omega, rfl, HP6.out⟩
                                case measure => simp [intOf]; omega
                              · obtain rfl : k = 2 := by omega
                                have d4 : decide ((2 : Int) < 2) = false := by decide
                                go_wp2
                                go_roundw
                                case rel => exact ⟨r + 1, by omega, by omega, rfl, hP⟩
                                case measure => simp [intOf]; omega
                          · obtain rfl : r = 12 := by omega
                            have d5 : decide ((12 : Int) < 12) = false := by decide
                            go_wp2
                            go_ret
                            exact ⟨rfl, new_below hP.fr⟩
    · have d60 : decide ((60 : Int) < (l.length : Int)) = true := by simp; omega
      go_enter Try.func5, Try.ntmps5
      go_wp2_with (first
        | (go_at_call 14; refine (counts_any _).mono ?_; rintro e w1 ⟨rfl, hN1⟩)
        | (go_at_call 15; refine (rfaults_is n f HF.out _).mono ?_; rintro e w' ⟨rfl, rfl⟩))
      go_ret
      exact ⟨rfl, new_below hN1⟩
  · have hf : Cnt.faults n = -1 := by unfold Cnt.faults; omega
    have HF := Lib.hid hf
    clear hf hn
    go_enter Try.func5, Try.ntmps5
    go_wp2_with (first
      | (go_at_call 14; refine (counts_any _).mono ?_; rintro e w1 ⟨rfl, hN1⟩)
      | (go_at_call 15; refine (rfaults_is n (-1) HF.out _).mono ?_; rintro e w' ⟨rfl, rfl⟩))
    go_ret
    exact ⟨rfl, new_below hN1⟩
end Go.Proofs.YtepmlmfacpbhkaaR
