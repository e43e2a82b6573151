/- The contract of once's Public: the public key. -/
import Derived.Test.YtepmlmfacpbhkaaROnceC
namespace Go.Proofs.YtepmlmfacpbhkaaR
open Go.RowKit Go.Shelf
set_option linter.unusedVariables false

def z4k : List UInt8 := List.replicate 4096 0
set_option maxRecDepth 100000 in
theorem infoH : (Try.prog.info? 96).map (fun i => (i.zero, i.size, i.bytes)) = some (some (.agg (ida z4k)), 4096, 4096) := by kernel_rfl
theorem infoK : (Try.prog.info? 62).map (fun i => (i.zero, i.size, i.bytes)) = some (some (.agg (keyC z32 0)), 33, 40) := by kernel_rfl
theorem underK : ∃ fs, Try.prog.underlying 62 = some (.struct fs) := ⟨_, Try.underlying62⟩
/-- bytes, as far as they are laid -/
def fillAt (P : List UInt8) (n : Nat) : List UInt8 := P.take n ++ List.replicate (4096 - n) 0
theorem fillAt_zero (P : List UInt8) : fillAt P 0 = z4k := by unfold fillAt z4k; rw [List.take_zero, List.nil_append]
theorem fillAt_all (P : List UInt8) (h : P.length = 4096) : fillAt P 4096 = P := by
  unfold fillAt
  rw [List.take_of_length_le (by omega)]
  simp
theorem fillAt_length (P : List UInt8) (n : Nat) (h : P.length = 4096) (hn : n ≤ 4096) : (fillAt P n).length = 4096 := by
  unfold fillAt
  simp
  omega
theorem fillAt_put (P X : List UInt8) (n : Nat) (h : P.length = 4096) (hn : n + 32 ≤ 4096) (hX : X = (P.drop n).take 32) :
    ((ida (fillAt P n)).toList.take n ++ (ida X).toList ++ (ida (fillAt P n)).toList.drop (n + (ida X).size)).toArray = ida (fillAt P (n + 32)) := by
  have hl : X.length = 32 := by rw [hX, List.length_take, List.length_drop]; omega
  have e1 : (fillAt P n).take n = P.take n := by
    unfold fillAt
    rw [List.take_append_of_le_length (by simp; omega), List.take_take, Nat.min_self]
  have e2 : (fillAt P n).drop (n + 32) = List.replicate (4096 - (n + 32)) 0 := by
    unfold fillAt
    rw [List.drop_append, List.drop_of_length_le (by simp; omega)]
    simp
    omega
  have e3 : fillAt P (n + 32) = (fillAt P n).take n ++ X ++ (fillAt P n).drop (n + 32) := by
    rw [e1, e2, hX]
    unfold fillAt
    rw [List.take_add]
  rw [e3, ida_size, hl]
  simp [ida]
theorem flat2_get {h : Nat → Nat → List UInt8} (hl : ∀ i s, (h i s).length = 32) (n i s : Nat) (hi : i < n) (hs : s < 2) : ((Once.flat2 h n).drop (i * 64 + s * 32)).take 32 = h i s := by
  induction n with
  | zero => omega
  | succ n ih =>
    have e2 : Once.flat2 h (n + 1) = Once.flat2 h n ++ (h n 0 ++ h n 1) := by
      unfold Once.flat2
      rw [List.range_succ, List.flatMap_append]
      simp
    have hfl := Once.flat2_length hl n
    rw [e2]
    by_cases hin : i < n
    · rw [List.drop_append_of_le_length (by omega), List.take_append_of_le_length (by rw [List.length_drop]; omega)]
      exact ih hin
    · obtain rfl : i = n := by omega
      rw [List.drop_append, List.drop_of_length_le (by omega), List.nil_append, show i * 64 + s * 32 - (Once.flat2 h i).length = s * 32 by omega]
      have h0 := hl i 0
      have h1 := hl i 1
      match s, hs with
      | 0, _ => rw [Nat.zero_mul, List.drop_zero, List.take_append_of_le_length (by omega), List.take_of_length_le (by omega)]
      | 1, _ => rw [Nat.one_mul, List.drop_append, List.drop_of_length_le (by omega), List.nil_append, h0, Nat.sub_self, List.drop_zero, List.take_of_length_le (by omega)]
/-- where the hidden secrets are laid: n bytes of P -/
def HidAt (W0 : World) (kb hb : Nat) (seed : List UInt8) (num : Int) (P : List UInt8) (n : Nat) (V : World) : Prop :=
  Blk V kb 62 (keyC seed num) ∧ Blk V hb 96 (ida (fillAt P n)) ∧ Fr (fun j => j = hb) W0 V
theorem HidAt.new {W0 : World} {kb hb : Nat} {seed : List UInt8} {num : Int} {P : List UInt8} {n : Nat} {V V' : World} (h : HidAt W0 kb hb seed num P n V) (f : New V V') : HidAt W0 kb hb seed num P n V' :=
  ⟨h.1.fr f id, h.2.1.fr f id, h.2.2.trans f (fun _ h => h.elim)⟩
theorem HidAt.put {W0 : World} {kb hb : Nat} {seed : List UInt8} {num : Int} {P : List UInt8} {n : Nat} {V : World} (h : HidAt W0 kb hb seed num P n V) (hne : kb ≠ hb) : HidAt W0 kb hb seed num P (n + 32) (V.setRow hb (ida (fillAt P (n + 32)))) :=
  ⟨h.1.fr ((Fr.refl (fun k => k = hb) V).setRow (g := hb) rfl _) hne, h.2.1.setRow _, h.2.2.setRow (g := hb) rfl _⟩
theorem keyC_size (seed : List UInt8) (num : Int) (h : seed.length = 32) : (keyC seed num).size = 33 := by simp [keyC, h]
def HidS (W0 : World) (kb hb : Nat) (seed : List UInt8) (num : Int) (P : List UInt8) (n : Nat) (L : Array Bool) (V : World) : Prop :=
  HidAt W0 kb hb seed num P (if L.getD 9 false then n + 32 else n) V
theorem HidS.list {W0 : World} {kb hb : Nat} {seed : List UInt8} {num : Int} {P : List UInt8} {n : Nat} {L : Array Bool} {V : World} (h : HidS W0 kb hb seed num P n L V) (i : Nat) (hi : i ≠ 9) : HidS W0 kb hb seed num P n (L.setIfInBounds i true) V := by
  unfold HidS at h ⊢
  rw [getD_set_ne false hi]
  exact h
theorem HidS.new {W0 : World} {kb hb : Nat} {seed : List UInt8} {num : Int} {P : List UInt8} {n : Nat} {L : Array Bool} {V V' : World} (h : HidS W0 kb hb seed num P n L V) (f : New V V') : HidS W0 kb hb seed num P n L V' := HidAt.new h f
set_option maxHeartbeats 2000000 in
set_option maxRecDepth 20000 in
theorem public_any (w : World) (seed : List UInt8) (num : Int) (hx : seed.length = 32) :
    Calls Try.prog 32 #[.agg (keyC seed num)] w fun e w' => e = .returned (.agg (ida (Once.pub seed num))) ∧ New w w' := by
  obtain ⟨ii, hii, hz0, hz1, hz2⟩ := info_parts infoID
  obtain ⟨ih, hih, hh0, hh1, hh2⟩ := info_parts infoH
  obtain ⟨ik, hik, hk0, hk1, hk2⟩ := info_parts infoK
  obtain ⟨fs, hfs⟩ := underK
  have HX := Lib.hid hx
  clear hx
  obtain ⟨P, hP⟩ : ∃ P, P = Once.flat2 (fun i s => Once.hide (Once.secret seed num i s)) 64 := ⟨_, rfl⟩
  have HPL := Lib.hid (show P.length = 4096 by rw [hP]; exact Once.flat2_length (fun _ _ => rfl) 64)
  have HPG := Lib.hid (show ∀ i s, i < 64 → s < 2 → Once.hide (Once.secret seed num i s) = (P.drop (i * 64 + s * 32)).take 32 from fun i s hi hs => by rw [hP]; exact (flat2_get (h := fun i s => Once.hide (Once.secret seed num i s)) (fun _ _ => rfl) 64 i s hi hs).symm)
  have HPP := Lib.hid (show Once.pub seed num = Once.sumFor Once.pPublic [P] by rw [hP]; rfl)
  clear hP
  go_enter Try.func32, Try.ntmps32
  go_wp2_with (first
    | (refine x_value (exec_box (T := 62) rfl rfl) (by simp [go_sem, Region.wanted]) ?_)
    | (refine x_value (x_alloc (T := 32) rfl hii hz0) (by simp [go_sem, Region.wanted]) ?_)
    | (refine x_value (x_alloc (T := 96) rfl hih hh0) (by simp [go_sem, Region.wanted]) ?_))
  have hk1' := ((Blk.new w 62 (keyC seed num)).alloc (.cells (ida z32) 32)).alloc (.cells (ida z4k) 96)
  have hr1 := (Blk.new (w.alloc (.cells (keyC seed num) 62)) 32 (ida z32)).alloc (.cells (ida z4k) 96)
  have hh1' := Blk.new ((w.alloc (.cells (keyC seed num) 62)).alloc (.cells (ida z32) 32)) 96 (ida z4k)
  have hN1 : New w (((w.alloc (.cells (keyC seed num) 62)).alloc (.cells (ida z32) 32)).alloc (.cells (ida z4k) 96)) := ((Fr.alloc _ w _).then_alloc _).then_alloc _
  rw [World.size_alloc] at hr1 hh1'
  rw [World.size_alloc] at hh1'
  have hH0 : HidAt (((w.alloc (.cells (keyC seed num) 62)).alloc (.cells (ida z32) 32)).alloc (.cells (ida z4k) 96)) w.heap.size (w.heap.size + 1 + 1) seed num P (0 * 64) (((w.alloc (.cells (keyC seed num) 62)).alloc (.cells (ida z32) 32)).alloc (.cells (ida z4k) 96)) :=
    ⟨hk1', by rw [Nat.zero_mul, fillAt_zero]; exact hh1', Fr.refl _ _⟩
  clear hk1' hh1'
  generalize ((w.alloc (.cells (keyC seed num) 62)).alloc (.cells (ida z32) 32)).alloc (.cells (ida z4k) 96) = W0 at *
  generalize hkb : w.heap.size = kb at *
  have HKB := Lib.hid hkb
  clear hkb
  go_loopw [6] (fun i V => ∃ k : Nat, i = .int .i64 k ∧ k ≤ 64 ∧ HidAt W0 kb (kb + 1 + 1) seed num P (k * 64) V) (fun i _ => 64 - (intOf i).toNat)
  case atStart => exact ⟨0, rfl, by omega, hH0⟩
  case round =>
    obtain ⟨k, rfl, hk, hH⟩ := hrel
    clear hH0
    by_cases hlt : k < 64
    · have hlt' : (k : Int) < 64 := by omega
      have hH2 : HidAt W0 kb (kb + 1 + 1) seed num P (k * 64 + 0 * 32) wr := hH
      clear hH
      go_wp2_with fail
      go_loopw [9] (fun i V => ∃ s : Nat, i = .int .i64 s ∧ s ≤ 2 ∧ HidAt W0 kb (kb + 1 + 1) seed num P (k * 64 + s * 32) V) (fun i _ => 2 - (intOf i).toNat)
      case atStart => exact ⟨0, rfl, by omega, hH2⟩
      case round =>
        obtain ⟨s, rfl, hs, hH⟩ := hrel
        clear hH2
        by_cases hls : s < 2
        · have hls' : (s : Int) < 2 := by omega
          go_wp2_with fail
          have hg := HPG.out k s hlt hls
          have HG := Lib.hid hg
          clear hg
          refine wp_region_all (by kernel_rfl) (by kernel_rfl) [.int .i64 k, .int .i64 s, .agg (keyC seed num), .int .i64 k, .int .i64 s, .agg (ida (Once.secret seed num k s)), .agg (ida (Once.hide (Once.secret seed num k s))), .pointer (some ⟨kb + 1 + 1, k * 64, none⟩), .pointer (some ⟨kb + 1 + 1, k * 64 + s * 32, none⟩), undef]
            (by kernel_rfl) (HidS W0 kb (kb + 1 + 1) seed num P (k * 64 + s * 32)) _ (by simp [putAll, Act.put]; rfl) (hH.new (Fr.drew _ wr)) ?hops ?after
          case hops =>
            refine ⟨?_, ?_, ?_, ?_, ?_, ?_, ?_, ?_, ?_, ?_, trivial⟩
            all_goals
              rintro L W' hz hd hn HS
              refine held_plain rfl ?_
            · have H2 := HS.list 0 (by decide)
              unfold opHeld
              go_simp
            · have H2 := HS.list 1 (by decide)
              unfold opHeld
              go_simp
            · exact held_value (exec_load (T := 62) (X := keyC seed num) (g := kb) (off := 0) rfl rfl hfs rfl hik (hk1.trans (keyC_size _ _ HX.out).symm) HS.1.at') (HS.list 2 (by decide))
            · have H2 := HS.list 3 (by decide)
              unfold opHeld
              go_simp
            · have H2 := HS.list 4 (by decide)
              unfold opHeld
              go_simp
            · unfold opHeld
              go_simp
              exact (show CallsIn Fence.wide 0 _ _ _ _ _ from (callsIn_wide.2 (secret_any W' seed num k s HX.out)).mono fun e w'' ⟨he, hw⟩ => ⟨he, (HS.new hw).list 5 (by decide)⟩)
            · unfold opHeld
              go_simp
              exact (show CallsIn Fence.wide 0 _ _ _ _ _ from (callsIn_wide.2 (hide_any W' _ rfl)).mono fun e w'' ⟨he, hw⟩ => ⟨he, (HS.new hw).list 6 (by decide)⟩)
            · have H2 := HS.list 7 (by decide)
              unfold opHeld
              go_simp
            · have H2 := HS.list 8 (by decide)
              unfold opHeld
              go_simp
            · have h9 := getD_no (i := 9) (by rw [hz]; decide) hn
              have HA : HidAt W0 kb (kb + 1 + 1) seed num P (k * 64 + s * 32) W' := by
                have := HS
                unfold HidS at this
                rw [h9] at this
                exact this
              have hp := fillAt_put P (Once.hide (Once.secret seed num k s)) (k * 64 + s * 32) HPL.out (by omega) HG.out
              have hsz : (ida (fillAt P (k * 64 + s * 32))).size = 4096 := by rw [ida_size]; exact fillAt_length P _ HPL.out (by omega)
              have hss : (ida (Once.hide (Once.secret seed num k s))).size = 32 := by rw [ida_size]; rfl
              refine held_skip (exec_store (T := 32) (X := ida (Once.hide (Once.secret seed num k s))) (g := kb + 1 + 1) (off := k * 64 + s * 32) rfl rfl rfl hii (hz1.trans hss.symm) (ida_one _) HA.2.1 (by rw [hsz, hss]; omega)) ?_
              rw [hp]
              unfold HidS
              rw [getD_set_self (by rw [hz]; decide), if_pos rfl]
              exact HA.put (by omega)
          case after =>
            rintro L W' hz hal HS
            have h9 : L.getD 9 false = true := by
              have := hal 9
              rw [Array.getD_eq_getD_getElem?] at this ⊢
              rw [Array.getElem?_eq_getElem (by rw [hz]; decide)] at this ⊢
              exact this
            unfold HidS at HS
            rw [h9, if_pos rfl] at HS
            go_wp2_with fail
            go_roundw
            case rel => exact ⟨s + 1, by go_num, by omega, by rw [show k * 64 + (s + 1) * 32 = k * 64 + s * 32 + 32 by omega]; exact HS⟩
            case measure => simp [intOf]; omega
        · obtain rfl : s = 2 := by omega
          have hH3 : HidAt W0 kb (kb + 1 + 1) seed num P ((k + 1) * 64) wr := by rw [show (k + 1) * 64 = k * 64 + 2 * 32 by omega]; exact hH
          clear hH hls hs
          go_wp2_with fail
          go_roundw
          case rel => exact ⟨k + 1, by go_num, by omega, hH3⟩
          case measure => simp [intOf]; omega
    · obtain rfl : k = 64 := by omega
      obtain ⟨hK, hB, hF⟩ := hH
      rw [fillAt_all P HPL.out] at hB
      have hj := join_any wr (kb + 1 + 1) P hB HPL.out
      rw [← HPP.out] at hj
      have HJ := Lib.hid hj
      have HR := Lib.hid (hr1.fr hF (by omega))
      have HN := Lib.hid (hN1.trans hF (fun j hj => .inr (by have := HKB.out; omega)))
      clear hK hB hF hj hlt hk
      have HS := Lib.hid (show (Once.pub seed num).length = 32 from rfl)
      have HIS := Lib.hid (show 32 = (ida (Once.pub seed num)).size by rw [ida_size]; exact HS.out.symm)
      have HZS := Lib.hid (show (ida z32).size = (ida (Once.pub seed num)).size by rw [ida_size, ida_size]; exact HS.out.symm)
      generalize hSS : Once.pub seed num = S at *
      have HE := Lib.hid hSS
      clear hSS
      go_wp2_with fail
      refine HJ.out.mono ?_
      rintro e w4 ⟨rfl, hN4⟩
      have hr4 := HR.out.fr hN4 id
      go_wp2_with (refine x_skip (exec_store_all (T := 32) (X := ida S) (g := kb + 1) (cs := ida z32) rfl rfl rfl hii (hz1.trans HIS.out) (ida_one _) hr4 HZS.out) rfl ?_)
      refine bodyPost_ret (x_results rfl HS.out rfl (hr4.setRow _)) rfl ⟨by rw [HE.out], ?_⟩
      exact (HN.out.trans hN4 fun _ h => h.elim).trans ((Fr.refl (fun k => k = kb + 1) w4).setRow (g := kb + 1) rfl _) (fun j hj => .inr (by have := HKB.out; omega))
end Go.Proofs.YtepmlmfacpbhkaaR
