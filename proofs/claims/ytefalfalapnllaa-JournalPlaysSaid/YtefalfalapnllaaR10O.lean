/- The contracts of the document's own, count and Record for journals. -/
import Derived.Test.YtefalfalapnllaaR10L
import Derived.Test.YtefalfalapnllaaJrnK
namespace Go.Proofs.Ytefalfalapnllaa
open Go.RowKit Go.Shelf
set_option linter.unusedVariables false
theorem jstr_take (a : List UInt8) (k : Nat) : (⟨a.toArray⟩ : ByteArray).extract 0 k = ⟨(a.take k).toArray⟩ := by
  apply ByteArray.ext
  rw [ByteArray.data_extract]
  simp
theorem jstr_app (a b : List UInt8) : (⟨a.toArray⟩ : ByteArray) ++ ⟨b.toArray⟩ = ⟨(a ++ b).toArray⟩ := by
  apply ByteArray.ext
  rw [ByteArray.data_append]
  simp
theorem jstr_cut (a : List UInt8) (i j : Nat) : (⟨a.toArray⟩ : ByteArray).extract i j = ⟨((a.drop i).take (j - i)).toArray⟩ := by
  apply ByteArray.ext
  rw [ByteArray.data_extract]
  simp
set_option maxHeartbeats 2000000 in
set_option maxRecDepth 20000 in
theorem r10own_any (w : World) (last d : List UInt8) (hl : last.length = 32) (hd : d.length ≤ 140737488354000) :
    Calls Try.prog 56 #[.agg (ida last), .string ⟨d.toArray⟩] w fun e w' => e = .returned (.string ⟨(Jrn.own last d).toArray⟩) ∧ New w w' := by
  obtain ⟨ii, hii, hz0, hz1, hz2⟩ := info_parts infoID
  have hb1 := Blk.new w 60 (ida last)
  have hN1 : New w (w.alloc (.cells (ida last) 60)) := Fr.alloc _ w _
  have HB := Lib.hid (show 32 = (ida last).size by rw [ida_size, hl])
  have HX := Lib.hid hl
  have hfor : ∀ w2 : World, Calls Try.prog 54 #[.string ⟨Jrn.pFront.toArray⟩, .slice (some ⟨w2.heap.size, 0, none⟩) 2 2] (w2.alloc (.cells #[.string ⟨last.toArray⟩, .string ⟨d.toArray⟩] 9)) fun e w' => e = .returned (.agg (ida (Once.sumFor Jrn.pFront [last, d]))) ∧ New (w2.alloc (.cells #[.string ⟨last.toArray⟩, .string ⟨d.toArray⟩] 9)) w' := fun w2 =>
    r1for_any (w2.alloc (.cells #[.string ⟨last.toArray⟩, .string ⟨d.toArray⟩] 9)) Jrn.pFront (some ⟨w2.heap.size, 0, none⟩) 2 [last, d] (lit_rd w2 (tv [last, d]) 9) (by simp [Once.forB, Once.len4, Jrn.pFront, hl]; omega)
  have hown : Jrn.own last d = (Once.sumFor Jrn.pFront [last, d]).take 16 := rfl
  have HSL := Lib.hid (Once.sumFor_length Jrn.pFront [last, d])
  have HF := Lib.hid hfor
  have HO := Lib.hid hown
  clear hfor hl hd hown
  generalize Once.sumFor Jrn.pFront [last, d] = S at *
  have HW := Lib.hid (show Blk (w.alloc (.cells (ida last) 60)) w.heap.size 60 (ida last) ∧ New w (w.alloc (.cells (ida last) 60)) from ⟨hb1, hN1⟩)
  clear hb1 hN1
  have hlen : (⟨S.toArray⟩ : ByteArray).size = 32 := HSL.out
  have hcut := jstr_take S 16
  go_enter Try.func56, Try.ntmps56
  go_wp2_with (first
    | (refine x_value (exec_box (T := 60) rfl rfl) (by simp [go_sem, Region.wanted, yielded]) ?_)
    | (refine x_value (exec_load (T := 60) (X := ida last) (g := w.heap.size) (off := 0) rfl rfl underID rfl hii (hz1.trans HB.out) HW.out.1.at') (by simp [go_sem, Region.wanted]) ?_))
  refine (text_any _ last HX.out).mono ?_
  rintro e w4 ⟨rfl, hN4⟩
  have HN := Lib.hid (HW.out.2.trans hN4 (fun _ h => h.elim))
  clear HW hN4
  go_wp2_with fail
  refine Calls.mono (show Calls Try.prog 54 #[.string ⟨Jrn.pFront.toArray⟩, .slice (some ⟨w4.heap.size, 0, none⟩) 2 2] (w4.alloc (.cells #[.string ⟨last.toArray⟩, .string ⟨d.toArray⟩] 9)) _ from HF.out w4) ?_
  rintro e w5 ⟨rfl, hN5⟩
  have HN5 := Lib.hid ((HN.out.then_alloc (.cells #[.string ⟨last.toArray⟩, .string ⟨d.toArray⟩] 9)).trans hN5 (fun _ h => h.elim))
  clear hN5 HN HF
  go_wp2_with fail
  refine (text_any _ S HSL.out).mono ?_
  rintro e w6 ⟨rfl, hN6⟩
  have HN6 := Lib.hid (HN5.out.trans hN6 (fun _ h => h.elim))
  clear HN5 hN6
  go_wp2_with fail
  go_ret
  exact ⟨by rw [HO.out]; rfl, HN6.out⟩
set_option maxHeartbeats 2000000 in
set_option maxRecDepth 20000 in
theorem r10count_any (w : World) (n : Nat) (hn : n < 16777216) :
    Calls Try.prog 63 #[.int .i64 n] w fun e w' => e = .returned (.string ⟨(Jrn.dig n).toArray⟩) ∧ New w w' := by
  have hdg : #[Value.int IntKind.u8 ((n : Int) / 65536 % 256), Value.int IntKind.u8 ((n : Int) / 256 % 256), Value.int IntKind.u8 ((n : Int) % 256)] = ((Jrn.dig n).map bv).toArray := by
    unfold Jrn.dig bv
    simp only [List.map_cons, List.map_nil, UInt8.toNat_ofNat']
    rw [show ((n / 65536 % 256 % 2 ^ 8 : Nat) : Int) = (n : Int) / 65536 % 256 by omega, show ((n / 256 % 256 % 2 ^ 8 : Nat) : Int) = (n : Int) / 256 % 256 by omega, show ((n % 256 % 2 ^ 8 : Nat) : Int) = (n : Int) % 256 by omega]
  have hcv := Rd.str 3 (Rd.lit w ((Jrn.dig n).map bv) 5 (0, 0))
  rw [← hdg, Jrn.dig_length] at hcv
  clear hdg
  go_enter Try.func63, Try.ntmps63
  go_wp2_with fail
  go_ret
  exact ⟨rfl, (Fr.refl _ _).then_alloc _⟩
set_option maxHeartbeats 2000000 in
set_option maxRecDepth 20000 in
theorem r10rec_any (w : World) (last d : List UInt8) (hl : last.length = 32) (hd : d.length < 16777216) :
    Calls Try.prog 57 #[.agg (ida last), .string ⟨d.toArray⟩] w fun e w' => e = .returned (.string ⟨(Jrn.recB last d).toArray⟩) ∧ New w w' := by
  obtain ⟨ii, hii, hz0, hz1, hz2⟩ := info_parts infoID
  have hb1 := Blk.new w 60 (ida last)
  have hN1 : New w (w.alloc (.cells (ida last) 60)) := Fr.alloc _ w _
  have HB := Lib.hid (show 32 = (ida last).size by rw [ida_size, hl])
  have hrec : Jrn.recB last d = Jrn.dig d.length ++ Jrn.own last (Jrn.dig d.length) ++ (Jrn.link last d).take 16 ++ d := rfl
  have hcount := fun w => r10count_any w d.length hd
  have hown := fun w => r10own_any w last (Jrn.dig d.length) hl (by rw [Jrn.dig_length]; omega)
  have hlink := fun w => r10link_any w last d hl (by omega)
  have hSL : (Jrn.link last d).length = 32 := rfl
  have hol : (Jrn.own last (Jrn.dig d.length)).length = 16 := rfl
  have hdl : (Jrn.dig d.length).length = 3 := rfl
  generalize Jrn.own last (Jrn.dig d.length) = ow at *
  generalize Jrn.dig d.length = dg at *
  generalize Jrn.link last d = S at *
  have hcut := jstr_take S 16
  have htl : (S.take 16).length = 16 := by rw [List.length_take]; omega
  generalize S.take 16 = lk at *
  rw [List.append_assoc, List.append_assoc] at hrec
  have hlen : (⟨S.toArray⟩ : ByteArray).size = 32 := hSL
  have htext := fun w => text_any w S hSL
  have hn1 : ¬ 9223372036854775807 < dg.length + ow.length := by omega
  have hn2 : ¬ 9223372036854775807 < dg.length + ow.length + lk.length := by omega
  have hn4 : ¬ 9223372036854775807 < dg.length + (ow.length + lk.length) + d.length := by omega
  have hn3 : ¬ 9223372036854775807 < dg.length + ow.length + lk.length + d.length := by omega
  have HC := Lib.hid hcount
  have HOW := Lib.hid hown
  have HLK := Lib.hid hlink
  have HTX := Lib.hid htext
  have HREC := Lib.hid hrec
  have HW := Lib.hid (show Blk (w.alloc (.cells (ida last) 60)) w.heap.size 60 (ida last) ∧ New w (w.alloc (.cells (ida last) 60)) from ⟨hb1, hN1⟩)
  clear hb1 hN1 hcount hown hlink htext hrec hSL hol hdl htl
  go_enter Try.func57, Try.ntmps57
  go_wp2_with (refine x_value (exec_box (T := 60) rfl rfl) (by simp [go_sem, Region.wanted, yielded]) ?_)
  refine (HC.out _).mono ?_
  rintro e w4 ⟨rfl, hN4⟩
  have HN := Lib.hid (show Blk w4 w.heap.size 60 (ida last) ∧ New w w4 from ⟨HW.out.1.fr hN4 id, HW.out.2.trans hN4 (fun _ h => h.elim)⟩)
  clear HW hN4
  go_wp2_with fail
  refine wp_region_all (by kernel_rfl) (by kernel_rfl) [.string ⟨dg.toArray⟩, .agg (ida last), .string ⟨dg.toArray⟩, .string ⟨ow.toArray⟩, .string ⟨(dg ++ ow).toArray⟩, .agg (ida last), .string ⟨d.toArray⟩, .agg (ida S), .string ⟨S.toArray⟩, .string ⟨lk.toArray⟩, .string ⟨(dg ++ (ow ++ lk)).toArray⟩, .string ⟨d.toArray⟩, .string ⟨(dg ++ (ow ++ (lk ++ d))).toArray⟩, .string ⟨(dg ++ (ow ++ (lk ++ d))).toArray⟩]
    (by kernel_rfl) (fun _ W' => Blk W' w.heap.size 60 (ida last) ∧ New w W') _ (by simp [putAll, Act.put]; rfl) ⟨HN.out.1.fr (Fr.drew (fun _ => False) _) id, HN.out.2.then_drew⟩ ?hops ?after
  case hops =>
    refine ⟨?_, ?_, ?_, ?_, ?_, ?_, ?_, ?_, ?_, ?_, ?_, ?_, ?_, ?_, trivial⟩
    all_goals
      rintro L W' hs hd hn hP
      have HP := Lib.hid hP
      clear hs hd hn hP
      first
        | exact jheld_want rfl (held_value (exec_load (T := 60) (X := ida last) (g := w.heap.size) (off := 0) rfl rfl underID rfl hii (hz1.trans HB.out) HP.out.1.at') HP.out)
        | (refine jheld_want rfl ?_; unfold opHeld; go_simp; first | done | exact HP.out | exact ⟨rfl, HP.out⟩ | exact ⟨by rw [jstr_app]; simp, HP.out⟩ | exact callsIn_wide.2 ((HOW.out W').mono fun _ _ ⟨he, hN⟩ => ⟨he, HP.out.1.fr hN id, HP.out.2.trans hN (fun _ h => h.elim)⟩) | exact callsIn_wide.2 ((HLK.out W').mono fun _ _ ⟨he, hN⟩ => ⟨he, HP.out.1.fr hN id, HP.out.2.trans hN (fun _ h => h.elim)⟩) | exact callsIn_wide.2 ((HTX.out W').mono fun _ _ ⟨he, hN⟩ => ⟨he, HP.out.1.fr hN id, HP.out.2.trans hN (fun _ h => h.elim)⟩))
  case after =>
    rintro L W5 hs hal2 hP
    have hfin := hP.2
    clear hs hal2 hP
    go_wp2_with fail
    go_ret
    exact ⟨by rw [HREC.out]; rfl, hfin⟩
end Go.Proofs.Ytefalfalapnllaa
