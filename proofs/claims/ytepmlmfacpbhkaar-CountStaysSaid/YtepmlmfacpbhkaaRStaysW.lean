/- CountStays, walked. (Printed by gen_stays.py.) -/
import Derived.Test.YtepmlmfacpbhkaaRStaysA
import Derived.Test.YtepmlmfacpbhkaaRPlaysW
namespace Go.Proofs.YtepmlmfacpbhkaaR
open Go.RowKit Go.Shelf
set_option linter.unusedVariables false

section
variable {w : World} {g : Nat} {B : Nat → Nat → Nat} {n : Nat} {V : Cnt.Tab} {m1 m2 q : Nat} {S M : Int → Int → Option Value} {X : Array Value} {x y : Cnt.Vid} {b3 b4 b6 : Nat} {W W' : World} {r k : Int} {p : Nat}
/-- what stands while a round is asked -/
abbrev AsksS (w : World) (g : Nat) (B : Nat → Nat → Nat) (n : Nat) (V : Cnt.Tab) (m1 m2 q : Nat) (S M : Int → Int → Option Value) (b3 b4 b6 : Nat) (X : Array Value) (x y : Cnt.Vid) (W : World) : Prop :=
  Stays w g B n V m1 m2 q S M W ∧ Blk W b3 47 X ∧ Blk W b4 32 (ida x) ∧ Blk W b6 32 (ida y)
theorem AsksS.new (h : AsksS w g B n V m1 m2 q S M b3 b4 b6 X x y W) (f : New W W') : AsksS w g B n V m1 m2 q S M b3 b4 b6 X x y W' := ⟨h.1.new f, h.2.1.fr f id, h.2.2.1.fr f id, h.2.2.2.fr f id⟩
theorem AsksS.all (h : AsksS w g B n V m1 m2 q S M b3 b4 b6 X x y W) :
    CallsIn Fence.wide p Try.prog 21 #[.pointer (some ⟨g, 0, none⟩), .int .i64 r, .int .i64 k] W fun e w'' => e = .returned (.int .i64 ((Cnt.castsAt n V r k).length : Nat)) ∧ AsksS w g B n V m1 m2 q S M b3 b4 b6 X x y w'' :=
  (callsIn_wide.2 (all_any W g B n V r k h.1.c)).mono fun e w'' ⟨he, hn⟩ => ⟨he, h.new hn⟩
end
set_option maxHeartbeats 8000000 in
set_option maxRecDepth 20000 in
theorem countStays_walk (n : Int) (A : Option Addr) (c : Nat) (l : List Cnt.Vote) (w : World) (hl : VotesAt w A l) (hm : l.length ≤ maxLen) (hnum : ∀ v ∈ l, Num v.r ∧ Num v.k ∧ Num v.w) :
    Calls Try.prog 6 #[.int .i64 n, .slice A l.length c] w fun e w' => e = .returned (.bool true) ∧ Below w.heap.size w w' := by
  obtain ⟨ii, hii, hz0, hz1, hz2⟩ := info_parts infoI
  obtain ⟨iv, hiv, hv0, hv1, hv2⟩ := info_parts infoVo
  obtain ⟨ip, hip, hp0, hp1, hp2⟩ := info_parts infoPl
  unfold maxLen at hm
  clear hnum
  by_cases hn : n = 1 ∨ n = 4 ∨ n = 7
  · obtain ⟨n, rfl⟩ : ∃ n' : Nat, n = n' := ⟨n.toNat, by omega⟩
    have hn' : n = 1 ∨ n = 4 ∨ n = 7 := by omega
    obtain ⟨f, hf⟩ : ∃ f : Nat, Cnt.faults n = f := by rcases hn' with rfl | rfl | rfl; exact ⟨0, rfl⟩; exact ⟨1, rfl⟩; exact ⟨2, rfl⟩
    have HF := Lib.hid hf
    have HN' := Lib.hid hn'
    clear hf hn hn'
    by_cases h60 : l.length ≤ 60
    · have d60 : decide ((60 : Int) < (l.length : Int)) = false := by simp; omega
      go_enter Try.func6, Try.ntmps6
      go_wp2_with (first
        | (go_at_call 14; refine (counts_any _).mono ?_; rintro e w1 ⟨rfl, hN1⟩; have HN1 := Lib.hid hN1; clear hN1)
        | (go_at_call 15; refine (rfaults_is n f HF.out _).mono ?_; rintro e w' ⟨rfl, rfl⟩)
        | (go_at_call 16; refine (new_any _ n HN'.out).mono ?_; rintro e w2 ⟨rfl, hC, hN2⟩; have HC := Lib.hid (And.intro hC hN2); clear hC hN2)
        | (refine wpList_value_w (exec_makeMapT rfl) (by simp [go_sem, Region.wanted, yielded]) ?_))
      obtain ⟨hC, hN2⟩ := HC.out
      have hzw : w.heap.size ≤ w1.heap.size := HN1.out.size
      have hgc := hC.glt
      have f3 : New w2 (w2.alloc (.map #[] 0)) := Fr.alloc _ _ _
      have f4 : New (w2.alloc (.map #[] 0)) ((w2.alloc (.map #[] 0)).alloc (.map #[] 0)) := Fr.alloc _ _ _
      have hS : Spread w w1.heap.size (fun r k => w1.heap.size + 1 + (r * 2 + k)) w2.heap.size (w2.heap.size + 1) := by
        refine ⟨fun j hj => ?_, by omega, by omega, by omega, by omega, by omega⟩
        have h1 := hj.new
        have hlt : j < w2.heap.size := by
          obtain ⟨r, k, hr, hk, rfl⟩ := hj
          exact hC.blt hr hk
        exact ⟨by omega, by omega, by omega⟩
      have hT : Stays w w1.heap.size (fun r k => w1.heap.size + 1 + (r * 2 + k)) n Cnt.empty w2.heap.size (w2.heap.size + 1) 0 (fun _ _ => none) (fun _ _ => none) ((w2.alloc (.map #[] 0)).alloc (.map #[] 0)) :=
        ⟨(hC.fr f3 id (fun _ _ _ _ => id)).fr f4 id (fun _ _ _ _ => id), (Tabled.made w2).fr f4 id, by have := Tabled.made (w2.alloc (.map #[] 0)); simpa using this, ((HN1.out.trans hN2 (fun _ h => h.elim)).trans f3 (fun _ h => h.elim)).trans f4 (fun _ h => h.elim)⟩
      have hK := Keeps.start n Cnt.empty
      clear hC hN2 HC HN1 hzw hgc f3 f4
      generalize (fun r k => w1.heap.size + 1 + (r * 2 + k)) = B at *
      generalize w1.heap.size = g at *
      generalize (w2.alloc (.map #[] 0)).alloc (.map #[] 0) = W0 at *
      generalize w2.heap.size + 1 = m2 at *
      generalize w2.heap.size = m1 at *
      have HS := Lib.hid hS
      have HT := Lib.hid hT
      have HK := Lib.hid hK
      clear hS hT hK
      go_loopw [39] (fun i0 W => ∃ (j : Nat) (V : Cnt.Tab) (S M : Int → Int → Option Value), i0 = .int .i64 j ∧ j ≤ l.length ∧ Keeps n V S M ∧ Stays w g B n V m1 m2 (j * 48) S M W) (fun i0 _ => l.length - (intOf i0).toNat)
      case atStart => exact ⟨0, _, _, _, rfl, by omega, HK.out, HT.out⟩
      case round =>
        obtain ⟨j, V, S, M, rfl, hj, hK, hT⟩ := hrel
        clear HT HK
        by_cases hlt : j < l.length
        · obtain ⟨b, off, rfl, hb, hc⟩ := (hl.fr hT.fr (fun _ h => h.elim)).rd (by omega)
          have hA := hc j hlt
          have hvl := hl.len _ (List.getElem_mem hlt)
          have hlt' : (j : Int) < (l.length : Int) := by omega
          generalize l[j] = v at *
          have HL := Lib.hid hvl
          have HVS := Lib.hid (show iv.size = (voteC v).toArray.size by rw [hv1]; simp [voteC_length v hvl])
          have HVZ := Lib.hid (show (voteC ⟨0, 0, 0, Cnt.z⟩).toArray.size = (voteC v).toArray.size by simp [voteC_length v hvl]; rfl)
          have HID := Lib.hid (show ii.size = (ida v.id).size by rw [hz1, ida_size, hvl])
          have hT1 := hT.new (Fr.alloc (fun _ => False) wr (.cells (voteC v).toArray 40))
          have hX := voteAt (Blk.new wr 40 (voteC v).toArray).at0
          simp only [Nat.zero_add] at hX
          obtain ⟨k0, k1, k2, hA3⟩ := hX
          have HT1 := Lib.hid hT1
          have hK1 := Keeps.put HN'.out hK v
          have HK1 := Lib.hid hK1
          clear hvl hc hT hT1 hK hK1
          go_wp2_with (first
            | (refine wpList_value_w (exec_load (T := 40) (X := (voteC v).toArray) rfl rfl Try.underlying40 rfl hiv HVS.out hA) (by simp [go_sem, Region.wanted, yielded]) ?_)
            | (refine wpList_value_w (exec_alloc_agg (T := 40) rfl hiv hv0) (by simp [go_sem, Region.wanted, yielded]) ?_)
            | (refine wpList_skip_w (exec_store_new (T := 40) (X := (voteC v).toArray) rfl rfl rfl rfl hiv HVS.out (voteC_one v) HVZ.out) rfl ?_)
            | (refine wpList_value_w (exec_load (T := 32) (X := ida v.id) rfl rfl underI rfl hii HID.out hA3) (by simp [go_sem, Region.wanted, yielded]) ?_)
            | (go_at_call 17; refine (put_any _ g B n V v.r v.k v.w v.id HL.out HT1.out.c).mono ?_; rintro e w4 ⟨rfl, hC4, hF4⟩; have HT4 := Lib.hid (show Stays w g B n (Cnt.putOf n V v) m1 m2 (j * 48) S M w4 from HT1.out.put HS.out hC4 hF4); clear hC4 hF4))
          have hT4 := HT4.out
          have hK4 := HK1.out
          clear HT4 HK1 HT1 hA hA3 k0 k1 k2 HVS HVZ HID
          generalize Cnt.putOf n V v = V' at *
          go_loopw [11] (fun i0 W => ∃ (r : Nat) (S M : Int → Int → Option Value), i0 = .int .i64 r ∧ r ≤ 12 ∧ Keeps n V' S M ∧ Stays w g B n V' m1 m2 (j * 48 + r * 4) S M W) (fun i0 _ => 12 - (intOf i0).toNat)
          case atStart => exact ⟨0, _, _, rfl, by omega, hK4, hT4⟩
          case round =>
            obtain ⟨r, S, M, rfl, hr, hK, hT⟩ := hrel
            clear hT4 hK4
            by_cases hrlt : r < 12
            · have hrlt' : (r : Int) < 12 := by omega
              have HT := Lib.hid hT
              have HK := Lib.hid hK
              clear hT hK
              go_wp2
              go_loopw [12] (fun i0 W => ∃ (k : Nat) (S M : Int → Int → Option Value), i0 = .int .i64 k ∧ k ≤ 2 ∧ Keeps n V' S M ∧ Stays w g B n V' m1 m2 (j * 48 + r * 4 + k * 2) S M W) (fun i0 _ => 2 - (intOf i0).toNat)
              case atStart => exact ⟨0, _, _, rfl, by omega, HK.out, HT.out⟩
              case round =>
                obtain ⟨k, S, M, rfl, hk, hK, hT⟩ := hrel
                clear HT HK
                by_cases hklt : k < 2
                · have hklt' : (k : Int) < 2 := by omega
                  obtain ⟨x, hx⟩ : ∃ x, (Cnt.sure n V' r k).getD Cnt.z = x := ⟨_, rfl⟩
                  obtain ⟨sb, hsb⟩ : ∃ sb, (Cnt.sure n V' r k).isSome = sb := ⟨_, rfl⟩
                  obtain ⟨mq, hmq, hmN⟩ : ∃ mq : Nat, (M r k).getD (.int .i64 0) = .int .i64 mq ∧ mq ≤ (Cnt.castsAt n V' r k).length := by
                    cases hM : M r k with
                    | none => exact ⟨0, rfl, Nat.zero_le _⟩
                    | some v =>
                      obtain ⟨q, rfl, hq⟩ := hK.m _ _ _ hM
                      exact ⟨q, rfl, hq⟩
                  have hNn := Cnt.len_le n V' r k
                  have c1 : decide (((Cnt.castsAt n V' r k).length : Int) < (mq : Int)) = false := by simp; omega
                  have c2 : decide ((n : Int) < ((Cnt.castsAt n V' r k).length : Int)) = false := by simp; omega
                  have hxl : x.length = 32 := hx ▸ sure_len hT.c r k
                  have HXS := Lib.hid (show ii.size = (ida x).size by rw [hz1, ida_size, hxl])
                  have HXZ := Lib.hid (show (ida Cnt.z).size = (ida x).size by rw [ida_size, ida_size, hxl]; rfl)
                  have HXL := Lib.hid hxl
                  have HX := Lib.hid hx
                  have HSB := Lib.hid hsb
                  have HMQ := Lib.hid hmq
                  have HWR := Lib.hid (num_small (a := (r : Int)) (by omega) (by omega))
                  have HWK := Lib.hid (num_small (a := (k : Int)) (by omega) (by omega))
                  have HP1 := Lib.hid hp1
                  have HB1 := Lib.hid (Blk.new wr 47 #[.int .i64 (r : Nat), .int .i64 (k : Nat)])
                  have HT1 := Lib.hid (hT.new (Fr.alloc (fun _ => False) wr (.cells #[.int .i64 (r : Nat), .int .i64 (k : Nat)] 47)))
                  have HNE := Lib.hid (show wr.heap.size ≠ m2 ∧ wr.heap.size ≠ m1 from ⟨Nat.ne_of_gt hT.m.lt, Nat.ne_of_gt hT.s.lt⟩)
                  have HK := Lib.hid hK
                  have HMN := Lib.hid hmN
                  have HNN := Lib.hid hNn
                  clear hxl hmq hmN hNn hT hp1
                  cases hS : S r k with
                  | none =>
                    have HLS := Lib.hid (show (S r k).getD (.agg (ida Cnt.z)) = .agg (ida Cnt.z) ∧ (S r k).isSome = false by rw [hS]; exact ⟨rfl, rfl⟩)
                    have HYS := Lib.hid (show ii.size = (ida Cnt.z).size by rw [hz1]; rfl)
                    clear hS hx hsb hK
                    go_wp2_with (first
                      | (refine wpList_value_w (exec_build2 (a := (r : Nat)) (b := (k : Nat)) rfl rfl rfl) (by simp [go_sem, Region.wanted, yielded]) ?_)
                      | (refine wpList_value_w (exec_alloc_agg (T := 47) rfl hip hp0) (by simp [go_sem, Region.wanted, yielded]) ?_)
                      | (refine wpList_skip_w (exec_store_new (T := 47) (X := #[.int .i64 (r : Nat), .int .i64 (k : Nat)]) rfl rfl rfl rfl hip HP1.out (by intro u hu; simp at hu; rcases hu with rfl | rfl <;> rfl) rfl) rfl ?_)
                      | (go_at_call 18; refine (sureT_any _ g B n V' r k x sb HX.out HSB.out HT1.out.c).mono ?_; rintro e w3 ⟨rfl, hN3⟩; have HT3 := Lib.hid (HT1.out.new (hN3.then_alloc (.cells (ida x) 32))); have HB3 := Lib.hid (HB1.out.fr (hN3.then_alloc (.cells (ida x) 32)) id); have HB4 := Lib.hid (Blk.new w3 32 (ida x)); have HB6 := Lib.hid (show Blk ((w3.alloc (.cells (ida x) 32)).alloc (.cells (ida Cnt.z) 32)) (w3.heap.size + 1) 32 (ida Cnt.z) by have := Blk.new (w3.alloc (.cells (ida x) 32)) 32 (ida Cnt.z); simpa using this); clear hN3)
                      | (refine wpList_value_w (exec_alloc_agg (T := 32) rfl hii hz0) (by simp [go_sem, Region.wanted, yielded]) ?_)
                      | (refine wpList_skip_w (exec_store_new (T := 32) (X := ida x) rfl rfl rfl rfl hii HXS.out (ida_one x) HXZ.out) rfl ?_)
                      | (refine wpList_skip_w (exec_store_new (T := 32) (X := ida Cnt.z) rfl rfl rfl rfl hii HYS.out (ida_one Cnt.z) rfl) rfl ?_)
                      | (refine wpList_value_w (exec_load (T := 47) (X := #[.int .i64 (r : Nat), .int .i64 (k : Nat)]) rfl rfl Try.underlying47 rfl hip HP1.out HB3.out.at0) (by simp [go_sem, Region.wanted, yielded]) ?_)
                      | (refine wpList_value_w (exec_look_ok (HT3.out.lookS HWR.out HWK.out HLS.out.1 HLS.out.2) rfl rfl rfl) (by simp [go_sem, Region.wanted, yielded]) ?_))
                    have fz : New (w3.alloc (.cells (ida x) 32)) ((w3.alloc (.cells (ida x) 32)).alloc (.cells (ida (Cnt.z)) 32)) := Fr.alloc _ _ _
                    have hQ0 : AsksS w g B n V' m1 m2 (j * 48 + r * 4 + k * 2) S M wr.heap.size w3.heap.size (w3.heap.size + 1) #[.int .i64 (r : Nat), .int .i64 (k : Nat)] x (Cnt.z) ((w3.alloc (.cells (ida x) 32)).alloc (.cells (ida (Cnt.z)) 32)).drew := AsksS.new ⟨HT3.out.new fz, HB3.out.fr fz id, HB4.out.fr fz id, HB6.out⟩ (Fr.drew _ _)
                    refine wp_region_all (by kernel_rfl) (by kernel_rfl) [.bool false, .bool false, undef, undef, undef, undef, undef, undef, undef, .bool false, .bool false, .pointer (some ⟨g, 0, none⟩), .int .i64 (r : Nat), .int .i64 (k : Nat), .int .i64 ((Cnt.castsAt n V' r k).length : Nat), .map (some m2), .agg #[.int .i64 (r : Nat), .int .i64 (k : Nat)], .int .i64 mq, .bool false, .bool false, .bool false, .pointer (some ⟨g, 0, none⟩), .int .i64 (r : Nat), .int .i64 (k : Nat), .int .i64 ((Cnt.castsAt n V' r k).length : Nat), .int .i64 (n : Nat), .bool false, .bool false] (by kernel_rfl) (fun _ W' => AsksS w g B n V' m1 m2 (j * 48 + r * 4 + k * 2) S M wr.heap.size w3.heap.size (w3.heap.size + 1) #[.int .i64 (r : Nat), .int .i64 (k : Nat)] x (Cnt.z) W') _ (by simp [putAll, Act.put]; rfl) hQ0 ?hops3 ?after3
                    case hops3 =>
                      clear hQ0 fz HT3 HB3 HB4 HB6
                      refine ⟨?_, ?_, ?_, ?_, ?_, ?_, ?_, ?_, ?_, ?_, ?_, ?_, ?_, ?_, ?_, ?_, ?_, ?_, ?_, ?_, ?_, ?_, ?_, ?_, ?_, ?_, ?_, ?_, trivial⟩
                      all_goals
                        rintro L W' hs hd hn hP
                        have HSS := Lib.hid hP
                        have hA3 := hP.2.1.at0
                        have hA4 := hP.2.2.1.at0
                        have hA6 := hP.2.2.2.at0
                        clear hP hs hd hn
                        first
                          | exact held_not rfl ⟨rfl, HSS.out⟩
                          | exact held_want rfl (held_value (exec_load (T := 47) (X := #[.int .i64 (r : Nat), .int .i64 (k : Nat)]) rfl rfl Try.underlying47 rfl hip HP1.out hA3) HSS.out)
                          | exact held_want rfl (held_value (exec_look (HSS.out.1.lookM HWR.out HWK.out HMQ.out) rfl rfl rfl) HSS.out)
                          | (refine held_want rfl ?_; unfold opHeld; go_simp; first | done | exact HSS.out | exact ⟨rfl, HSS.out⟩ | exact ⟨HMN.out, HSS.out⟩ | exact ⟨HNN.out, HSS.out⟩ | exact AsksS.all HSS.out)
                    case after3 =>
                      rintro L W' hs hal hP
                      have hA3 := hP.2.1.at0
                      have hA4 := hP.2.2.1.at0
                      have HP := Lib.hid hP
                      clear hs hal hP hQ0 fz HT3 HB3 HB4 HB6
                      cases sb with
                      | true =>
                        have HSX := Lib.hid (show Cnt.sure n V' r k = some x by
                          have h1 := HX.out
                          have h2 := HSB.out
                          cases hc : Cnt.sure n V' r k with
                          | none => rw [hc] at h2; cases h2
                          | some x' => rw [hc] at h1; exact congrArg some h1)
                        obtain ⟨W5, hr5, hS5, f5⟩ := HP.out.1.setS HS.out (by simp only [maxLen]; omega) HWR.out HWK.out (.agg (ida x))
                        have HS5 := Lib.hid hS5
                        have HB5 := Lib.hid (HP.out.2.1.fr f5 HNE.out.2)
                        clear hS5 f5
                        go_wp2_with (first
                          | (refine wpList_value_w (exec_load (T := 47) (X := #[.int .i64 (r : Nat), .int .i64 (k : Nat)]) rfl rfl Try.underlying47 rfl hip HP1.out hA3) (by simp [go_sem, Region.wanted, yielded]) ?_)
                          | (refine wpList_value_w (exec_load (T := 32) (X := ida x) rfl rfl underI rfl hii HXS.out hA4) (by simp [go_sem, Region.wanted, yielded]) ?_)
                          | (refine wpList_skip_w (exec_update hr5 rfl rfl rfl rfl) rfl ?_))
                        have HK5 := Lib.hid (HK.out.sure HSX.out)
                        have HL0 : Laid w g B n V' m1 m2 (j * 48 + r * 4 + k * 2 + 1) (upd S r k (.agg (ida x))) M (upd M r k (.int .i64 ((Cnt.castsAt n V' r k).length : Nat))) wr.heap.size #[.int .i64 (r : Nat), .int .i64 (k : Nat)] (Array.replicate 7 false) W5.drew := ⟨(HB5.out).fr (Fr.drew (fun _ => False) _) id, (HS5.out).new (Fr.drew (fun _ => False) _)⟩
                        refine wp_region_all (by kernel_rfl) (by kernel_rfl) [.map (some m2), .agg #[.int .i64 (r : Nat), .int .i64 (k : Nat)], .pointer (some ⟨g, 0, none⟩), .int .i64 (r : Nat), .int .i64 (k : Nat), .int .i64 ((Cnt.castsAt n V' r k).length : Nat), undef] (by kernel_rfl) (Laid w g B n V' m1 m2 (j * 48 + r * 4 + k * 2 + 1) (upd S r k (.agg (ida x))) M (upd M r k (.int .i64 ((Cnt.castsAt n V' r k).length : Nat))) wr.heap.size #[.int .i64 (r : Nat), .int .i64 (k : Nat)]) _ (by simp [putAll, Act.put]; rfl) HL0 ?hops4 ?after4
                        case hops4 =>
                          refine ⟨?_, ?_, ?_, ?_, ?_, ?_, ?_, trivial⟩
                          all_goals
                            rintro L W' hs hd hn hT
                            obtain ⟨a0, a1, a2, a3, a4, a5, a6, rfl⟩ := arr7 hs
                            simp [Region.binds] at hd hn
                            clear hs hd
                          · refine held_want rfl ?_; unfold opHeld; go_simp; first | done | exact hT | exact ⟨rfl, hT⟩
                          · exact held_want rfl (held_value (exec_load (T := 47) (X := #[.int .i64 (r : Nat), .int .i64 (k : Nat)]) rfl rfl Try.underlying47 rfl hip HP1.out hT.1.at0) hT)
                          · refine held_want rfl ?_; unfold opHeld; go_simp; first | done | exact hT | exact ⟨rfl, hT⟩
                          · refine held_want rfl ?_; unfold opHeld; go_simp; first | done | exact hT | exact ⟨rfl, hT⟩
                          · refine held_want rfl ?_; unfold opHeld; go_simp; first | done | exact hT | exact ⟨rfl, hT⟩
                          · refine held_want rfl ?_; unfold opHeld; go_simp
                            exact (callsIn_wide.2 (all_any W' g B n V' r k hT.c)).mono fun e w'' ⟨he, hn⟩ => ⟨he, hT.new hn⟩
                          · subst hn
                            obtain ⟨W6, hr6, hS6, f6⟩ := Stays.setM HS.out hT.2 (by simp only [maxLen]; omega) HWR.out HWK.out (.int .i64 ((Cnt.castsAt n V' r k).length : Nat))
                            exact held_want rfl (held_skip (exec_update hr6 rfl rfl rfl rfl) ⟨hT.1.fr f6 HNE.out.1, hS6⟩)
                        case after4 =>
                          rintro L W' hs hal hT
                          obtain ⟨a0, a1, a2, a3, a4, a5, a6, rfl⟩ := arr7 hs
                          have z6 : a6 = true := hal 6
                          subst z6
                          have HT6 := Lib.hid hT.2
                          clear hs hal hT HL0
                          go_wp2
                          go_roundw
                          case rel => exact ⟨k + 1, _, _, by go_num, by omega, HK5.out.all r k, Stays.more HT6.out (by omega)⟩
                          case measure => simp [intOf]; omega
                      | false =>
                        go_wp2
                        have HK5 := Lib.hid (HK.out)
                        have HL0 : Laid w g B n V' m1 m2 (j * 48 + r * 4 + k * 2) S M (upd M r k (.int .i64 ((Cnt.castsAt n V' r k).length : Nat))) wr.heap.size #[.int .i64 (r : Nat), .int .i64 (k : Nat)] (Array.replicate 7 false) W'.drew := ⟨(HP.out.2.1).fr (Fr.drew (fun _ => False) _) id, (HP.out.1).new (Fr.drew (fun _ => False) _)⟩
                        refine wp_region_all (by kernel_rfl) (by kernel_rfl) [.map (some m2), .agg #[.int .i64 (r : Nat), .int .i64 (k : Nat)], .pointer (some ⟨g, 0, none⟩), .int .i64 (r : Nat), .int .i64 (k : Nat), .int .i64 ((Cnt.castsAt n V' r k).length : Nat), undef] (by kernel_rfl) (Laid w g B n V' m1 m2 (j * 48 + r * 4 + k * 2) S M (upd M r k (.int .i64 ((Cnt.castsAt n V' r k).length : Nat))) wr.heap.size #[.int .i64 (r : Nat), .int .i64 (k : Nat)]) _ (by simp [putAll, Act.put]; rfl) HL0 ?hops4 ?after4
                        case hops4 =>
                          refine ⟨?_, ?_, ?_, ?_, ?_, ?_, ?_, trivial⟩
                          all_goals
                            rintro L W' hs hd hn hT
                            obtain ⟨a0, a1, a2, a3, a4, a5, a6, rfl⟩ := arr7 hs
                            simp [Region.binds] at hd hn
                            clear hs hd
                          · refine held_want rfl ?_; unfold opHeld; go_simp; first | done | exact hT | exact ⟨rfl, hT⟩
                          · exact held_want rfl (held_value (exec_load (T := 47) (X := #[.int .i64 (r : Nat), .int .i64 (k : Nat)]) rfl rfl Try.underlying47 rfl hip HP1.out hT.1.at0) hT)
                          · refine held_want rfl ?_; unfold opHeld; go_simp; first | done | exact hT | exact ⟨rfl, hT⟩
                          · refine held_want rfl ?_; unfold opHeld; go_simp; first | done | exact hT | exact ⟨rfl, hT⟩
                          · refine held_want rfl ?_; unfold opHeld; go_simp; first | done | exact hT | exact ⟨rfl, hT⟩
                          · refine held_want rfl ?_; unfold opHeld; go_simp
                            exact (callsIn_wide.2 (all_any W' g B n V' r k hT.c)).mono fun e w'' ⟨he, hn⟩ => ⟨he, hT.new hn⟩
                          · subst hn
                            obtain ⟨W6, hr6, hS6, f6⟩ := Stays.setM HS.out hT.2 (by simp only [maxLen]; omega) HWR.out HWK.out (.int .i64 ((Cnt.castsAt n V' r k).length : Nat))
                            exact held_want rfl (held_skip (exec_update hr6 rfl rfl rfl rfl) ⟨hT.1.fr f6 HNE.out.1, hS6⟩)
                        case after4 =>
                          rintro L W' hs hal hT
                          obtain ⟨a0, a1, a2, a3, a4, a5, a6, rfl⟩ := arr7 hs
                          have z6 : a6 = true := hal 6
                          subst z6
                          have HT6 := Lib.hid hT.2
                          clear hs hal hT HL0
                          go_wp2
                          go_roundw
                          case rel => exact ⟨k + 1, _, _, by go_num, by omega, HK5.out.all r k, Stays.more HT6.out (by omega)⟩
                          case measure => simp [intOf]; omega
                  | some v0 =>
                    obtain ⟨x', e', hsx⟩ := hK.s _ _ _ hS
                    have ex : x = x' := by rw [← hx, hsx]; rfl
                    have es : sb = true := by rw [← hsb, hsx]; rfl
                    subst ex es
                    have HSX := Lib.hid hsx
                    have HLS := Lib.hid (show (S r k).getD (.agg (ida Cnt.z)) = .agg (ida x) ∧ (S r k).isSome = true by rw [hS, e']; exact ⟨rfl, rfl⟩)
                    have HYS := HXS
                    have HYZ := HXZ
                    clear hS e' hsx hx hsb hK
                    go_wp2_with (first
                      | (refine wpList_value_w (exec_build2 (a := (r : Nat)) (b := (k : Nat)) rfl rfl rfl) (by simp [go_sem, Region.wanted, yielded]) ?_)
                      | (refine wpList_value_w (exec_alloc_agg (T := 47) rfl hip hp0) (by simp [go_sem, Region.wanted, yielded]) ?_)
                      | (refine wpList_skip_w (exec_store_new (T := 47) (X := #[.int .i64 (r : Nat), .int .i64 (k : Nat)]) rfl rfl rfl rfl hip HP1.out (by intro u hu; simp at hu; rcases hu with rfl | rfl <;> rfl) rfl) rfl ?_)
                      | (go_at_call 18; refine (sureT_any _ g B n V' r k x true HX.out HSB.out HT1.out.c).mono ?_; rintro e w3 ⟨rfl, hN3⟩; have HT3 := Lib.hid (HT1.out.new (hN3.then_alloc (.cells (ida x) 32))); have HB3 := Lib.hid (HB1.out.fr (hN3.then_alloc (.cells (ida x) 32)) id); have HB4 := Lib.hid (Blk.new w3 32 (ida x)); have HB6 := Lib.hid (show Blk ((w3.alloc (.cells (ida x) 32)).alloc (.cells (ida x) 32)) (w3.heap.size + 1) 32 (ida x) by have := Blk.new (w3.alloc (.cells (ida x) 32)) 32 (ida x); simpa using this); clear hN3)
                      | (refine wpList_value_w (exec_alloc_agg (T := 32) rfl hii hz0) (by simp [go_sem, Region.wanted, yielded]) ?_)
                      | (refine wpList_skip_w (exec_store_new (T := 32) (X := ida x) rfl rfl rfl rfl hii HXS.out (ida_one x) HXZ.out) rfl ?_)
                      | (refine wpList_value_w (exec_load (T := 47) (X := #[.int .i64 (r : Nat), .int .i64 (k : Nat)]) rfl rfl Try.underlying47 rfl hip HP1.out HB3.out.at0) (by simp [go_sem, Region.wanted, yielded]) ?_)
                      | (refine wpList_value_w (exec_look_ok (HT3.out.lookS HWR.out HWK.out HLS.out.1 HLS.out.2) rfl rfl rfl) (by simp [go_sem, Region.wanted, yielded]) ?_))
                    have fz : New (w3.alloc (.cells (ida x) 32)) ((w3.alloc (.cells (ida x) 32)).alloc (.cells (ida (x)) 32)) := Fr.alloc _ _ _
                    have hQ0 : AsksS w g B n V' m1 m2 (j * 48 + r * 4 + k * 2) S M wr.heap.size w3.heap.size (w3.heap.size + 1) #[.int .i64 (r : Nat), .int .i64 (k : Nat)] x (x) ((w3.alloc (.cells (ida x) 32)).alloc (.cells (ida (x)) 32)).drew := AsksS.new ⟨HT3.out.new fz, HB3.out.fr fz id, HB4.out.fr fz id, HB6.out⟩ (Fr.drew _ _)
                    refine wp_region_all (by kernel_rfl) (by kernel_rfl) [.bool true, .bool true, .bool true, .bool false, .bool false, .agg (ida x), .agg (ida x), .bool false, .bool false, .bool false, .bool false, .pointer (some ⟨g, 0, none⟩), .int .i64 (r : Nat), .int .i64 (k : Nat), .int .i64 ((Cnt.castsAt n V' r k).length : Nat), .map (some m2), .agg #[.int .i64 (r : Nat), .int .i64 (k : Nat)], .int .i64 mq, .bool false, .bool false, .bool false, .pointer (some ⟨g, 0, none⟩), .int .i64 (r : Nat), .int .i64 (k : Nat), .int .i64 ((Cnt.castsAt n V' r k).length : Nat), .int .i64 (n : Nat), .bool false, .bool false] (by kernel_rfl) (fun _ W' => AsksS w g B n V' m1 m2 (j * 48 + r * 4 + k * 2) S M wr.heap.size w3.heap.size (w3.heap.size + 1) #[.int .i64 (r : Nat), .int .i64 (k : Nat)] x (x) W') _ (by simp [putAll, Act.put]; rfl) hQ0 ?hops3 ?after3
                    case hops3 =>
                      clear hQ0 fz HT3 HB3 HB4 HB6
                      refine ⟨?_, ?_, ?_, ?_, ?_, ?_, ?_, ?_, ?_, ?_, ?_, ?_, ?_, ?_, ?_, ?_, ?_, ?_, ?_, ?_, ?_, ?_, ?_, ?_, ?_, ?_, ?_, ?_, trivial⟩
                      all_goals
                        rintro L W' hs hd hn hP
                        have HSS := Lib.hid hP
                        have hA3 := hP.2.1.at0
                        have hA4 := hP.2.2.1.at0
                        have hA6 := hP.2.2.2.at0
                        clear hP hs hd hn
                        first
                          | exact held_not rfl ⟨rfl, HSS.out⟩
                          | exact held_want rfl (held_value (exec_load (T := 47) (X := #[.int .i64 (r : Nat), .int .i64 (k : Nat)]) rfl rfl Try.underlying47 rfl hip HP1.out hA3) HSS.out)
                          | exact held_want rfl (held_value (exec_look (HSS.out.1.lookM HWR.out HWK.out HMQ.out) rfl rfl rfl) HSS.out)
                          | exact held_want rfl (held_value (exec_load (T := 32) (X := ida x) rfl rfl underI rfl hii HXS.out hA4) HSS.out)
                          | exact held_want rfl (held_value (exec_load (T := 32) (X := ida x) rfl rfl underI rfl hii HXS.out hA6) HSS.out)
                          | exact held_want rfl (held_value (exec_neq_is (T := 32) (a := x) (b := x) (c := false) (bne_self_eq_false x) rfl rfl rfl underI (by kernel_rfl) (fun w => by kernel_rfl) HXL.out HXL.out (by kernel_rfl)) HSS.out)
                          | (refine held_want rfl ?_; unfold opHeld; go_simp; first | done | exact HSS.out | exact ⟨rfl, HSS.out⟩ | exact ⟨HMN.out, HSS.out⟩ | exact ⟨HNN.out, HSS.out⟩ | exact AsksS.all HSS.out)
                    case after3 =>
                      rintro L W' hs hal hP
                      have hA3 := hP.2.1.at0
                      have hA4 := hP.2.2.1.at0
                      have HP := Lib.hid hP
                      clear hs hal hP hQ0 fz HT3 HB3 HB4 HB6
                      obtain ⟨W5, hr5, hS5, f5⟩ := HP.out.1.setS HS.out (by simp only [maxLen]; omega) HWR.out HWK.out (.agg (ida x))
                      have HS5 := Lib.hid hS5
                      have HB5 := Lib.hid (HP.out.2.1.fr f5 HNE.out.2)
                      clear hS5 f5
                      go_wp2_with (first
                        | (refine wpList_value_w (exec_load (T := 47) (X := #[.int .i64 (r : Nat), .int .i64 (k : Nat)]) rfl rfl Try.underlying47 rfl hip HP1.out hA3) (by simp [go_sem, Region.wanted, yielded]) ?_)
                        | (refine wpList_value_w (exec_load (T := 32) (X := ida x) rfl rfl underI rfl hii HXS.out hA4) (by simp [go_sem, Region.wanted, yielded]) ?_)
                        | (refine wpList_skip_w (exec_update hr5 rfl rfl rfl rfl) rfl ?_))
                      have HK5 := Lib.hid (HK.out.sure HSX.out)
                      have HL0 : Laid w g B n V' m1 m2 (j * 48 + r * 4 + k * 2 + 1) (upd S r k (.agg (ida x))) M (upd M r k (.int .i64 ((Cnt.castsAt n V' r k).length : Nat))) wr.heap.size #[.int .i64 (r : Nat), .int .i64 (k : Nat)] (Array.replicate 7 false) W5.drew := ⟨(HB5.out).fr (Fr.drew (fun _ => False) _) id, (HS5.out).new (Fr.drew (fun _ => False) _)⟩
                      refine wp_region_all (by kernel_rfl) (by kernel_rfl) [.map (some m2), .agg #[.int .i64 (r : Nat), .int .i64 (k : Nat)], .pointer (some ⟨g, 0, none⟩), .int .i64 (r : Nat), .int .i64 (k : Nat), .int .i64 ((Cnt.castsAt n V' r k).length : Nat), undef] (by kernel_rfl) (Laid w g B n V' m1 m2 (j * 48 + r * 4 + k * 2 + 1) (upd S r k (.agg (ida x))) M (upd M r k (.int .i64 ((Cnt.castsAt n V' r k).length : Nat))) wr.heap.size #[.int .i64 (r : Nat), .int .i64 (k : Nat)]) _ (by simp [putAll, Act.put]; rfl) HL0 ?hops4 ?after4
                      case hops4 =>
                        refine ⟨?_, ?_, ?_, ?_, ?_, ?_, ?_, trivial⟩
                        all_goals
                          rintro L W' hs hd hn hT
                          obtain ⟨a0, a1, a2, a3, a4, a5, a6, rfl⟩ := arr7 hs
                          simp [Region.binds] at hd hn
                          clear hs hd
                        · refine held_want rfl ?_; unfold opHeld; go_simp; first | done | exact hT | exact ⟨rfl, hT⟩
                        · exact held_want rfl (held_value (exec_load (T := 47) (X := #[.int .i64 (r : Nat), .int .i64 (k : Nat)]) rfl rfl Try.underlying47 rfl hip HP1.out hT.1.at0) hT)
                        · refine held_want rfl ?_; unfold opHeld; go_simp; first | done | exact hT | exact ⟨rfl, hT⟩
                        · refine held_want rfl ?_; unfold opHeld; go_simp; first | done | exact hT | exact ⟨rfl, hT⟩
                        · refine held_want rfl ?_; unfold opHeld; go_simp; first | done | exact hT | exact ⟨rfl, hT⟩
                        · refine held_want rfl ?_; unfold opHeld; go_simp
                          exact (callsIn_wide.2 (all_any W' g B n V' r k hT.c)).mono fun e w'' ⟨he, hn⟩ => ⟨he, hT.new hn⟩
                        · subst hn
                          obtain ⟨W6, hr6, hS6, f6⟩ := Stays.setM HS.out hT.2 (by simp only [maxLen]; omega) HWR.out HWK.out (.int .i64 ((Cnt.castsAt n V' r k).length : Nat))
                          exact held_want rfl (held_skip (exec_update hr6 rfl rfl rfl rfl) ⟨hT.1.fr f6 HNE.out.1, hS6⟩)
                      case after4 =>
                        rintro L W' hs hal hT
                        obtain ⟨a0, a1, a2, a3, a4, a5, a6, rfl⟩ := arr7 hs
                        have z6 : a6 = true := hal 6
                        subst z6
                        have HT6 := Lib.hid hT.2
                        clear hs hal hT HL0
                        go_wp2
                        go_roundw
                        case rel => exact ⟨k + 1, _, _, by go_num, by omega, HK5.out.all r k, Stays.more HT6.out (by omega)⟩
                        case measure => simp [intOf]; omega
                · obtain rfl : k = 2 := by omega
                  have d4 : decide (((2 : Nat) : Int) < 2) = false := by decide
                  have HT := Lib.hid hT
                  have HK := Lib.hid hK
                  clear hT hK
                  go_wp2
                  go_roundw
                  case rel => exact ⟨r + 1, _, _, by go_num, by omega, HK.out, Stays.more HT.out (by omega)⟩
                  case measure => simp [intOf]; omega
            · obtain rfl : r = 12 := by omega
              have d5 : decide (((12 : Nat) : Int) < 12) = false := by decide
              have HT := Lib.hid hT
              have HK := Lib.hid hK
              clear hT hK
              go_wp2
              go_roundw
              case rel => exact ⟨j + 1, _, _, _, by go_num, by omega, HK.out, Stays.more HT.out (by omega)⟩
              case measure => simp [intOf]; omega
        · obtain rfl : j = l.length := by omega
          have d6 : decide ((l.length : Int) < (l.length : Int)) = false := by simp
          have HT := Lib.hid hT
          clear hT hK
          go_wp2
          go_ret
          exact ⟨rfl, new_below HT.out.fr⟩
    · have d60 : decide ((60 : Int) < (l.length : Int)) = true := by simp; omega
      go_enter Try.func6, Try.ntmps6
      go_wp2_with (first
        | (go_at_call 14; refine (counts_any _).mono ?_; rintro e w1 ⟨rfl, hN1⟩)
        | (go_at_call 15; refine (rfaults_is n f HF.out _).mono ?_; rintro e w' ⟨rfl, rfl⟩))
      go_ret
      exact ⟨rfl, new_below hN1⟩
  · have hf : Cnt.faults n = -1 := by unfold Cnt.faults; omega
    have HF := Lib.hid hf
    clear hf hn
    go_enter Try.func6, Try.ntmps6
    go_wp2_with (first
      | (go_at_call 14; refine (counts_any _).mono ?_; rintro e w1 ⟨rfl, hN1⟩)
      | (go_at_call 15; refine (rfaults_is n (-1) HF.out _).mono ?_; rintro e w' ⟨rfl, rfl⟩))
    go_ret
    exact ⟨rfl, new_below hN1⟩
end Go.Proofs.YtepmlmfacpbhkaaR
