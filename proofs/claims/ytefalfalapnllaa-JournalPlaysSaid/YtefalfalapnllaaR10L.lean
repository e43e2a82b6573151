/- The contract of the document's Link for journals. -/
import Derived.Test.YtefalfalapnllaaR1T
import Derived.Test.YtefalfalapnllaaJrnA
namespace Go.Proofs.Ytefalfalapnllaa
open Go.RowKit Go.Shelf
set_option linter.unusedVariables false
set_option maxHeartbeats 2000000 in
set_option maxRecDepth 20000 in
theorem r10link_any (w : World) (last d : List UInt8) (hl : last.length = 32) (hd : d.length ≤ 140737488354000) :
    Calls Try.prog 40 #[.agg (ida last), .string ⟨d.toArray⟩] w fun e w' => e = .returned (.agg (ida (Jrn.link last d))) ∧ New w w' := by
  obtain ⟨ii, hii, hz0, hz1, hz2⟩ := info_parts infoID
  have hb1 := (Blk.new w 60 (ida last)).alloc (.cells (ida z32) 60)
  have hr1 := Blk.new (w.alloc (.cells (ida last) 60)) 60 (ida z32)
  have hN1 : New w ((w.alloc (.cells (ida last) 60)).alloc (.cells (ida z32) 60)) := (Fr.alloc _ w _).then_alloc _
  rw [World.size_alloc] at hr1
  have HB := Lib.hid (show 32 = (ida last).size by rw [ida_size, hl])
  have HS := Lib.hid (show (Jrn.link last d).length = 32 from rfl)
  have HIS := Lib.hid (show 32 = (ida (Jrn.link last d)).size by rw [ida_size]; exact HS.out.symm)
  have HZS := Lib.hid (show (ida z32).size = (ida (Jrn.link last d)).size by rw [ida_size, ida_size]; exact HS.out.symm)
  have HX := Lib.hid hl
  have HD := Lib.hid hd
  have hfor : ∀ w2 : World, Calls Try.prog 54 #[.string ⟨Jrn.pRecord.toArray⟩, .slice (some ⟨w2.heap.size, 0, none⟩) 2 2] (w2.alloc (.cells #[.string ⟨last.toArray⟩, .string ⟨d.toArray⟩] 9)) fun e w' => e = .returned (.agg (ida (Jrn.link last d))) ∧ New (w2.alloc (.cells #[.string ⟨last.toArray⟩, .string ⟨d.toArray⟩] 9)) w' := fun w2 =>
    r1for_any (w2.alloc (.cells #[.string ⟨last.toArray⟩, .string ⟨d.toArray⟩] 9)) Jrn.pRecord (some ⟨w2.heap.size, 0, none⟩) 2 [last, d] (lit_rd w2 (tv [last, d]) 9) (by simp [Once.forB, Once.len4, Jrn.pRecord, hl]; omega)
  have HF := Lib.hid hfor
  clear hfor hl hd
  generalize hS : Jrn.link last d = S at *
  clear hS
  have HW := Lib.hid (show Blk ((w.alloc (.cells (ida last) 60)).alloc (.cells (ida z32) 60)) w.heap.size 60 (ida last) ∧ Blk ((w.alloc (.cells (ida last) 60)).alloc (.cells (ida z32) 60)) (w.heap.size + 1) 60 (ida z32) ∧
    New w ((w.alloc (.cells (ida last) 60)).alloc (.cells (ida z32) 60)) from ⟨hb1, hr1, hN1⟩)
  clear hb1 hr1 hN1
  go_enter Try.func40, Try.ntmps40
  go_wp2_with (first
    | (refine x_value (exec_box (T := 60) rfl rfl) (by simp [go_sem, Region.wanted, yielded]) ?_)
    | (refine x_value (x_alloc (T := 60) rfl hii hz0) (by simp [go_sem, Region.wanted, yielded]) ?_)
    | (refine x_value (exec_load (T := 60) (X := ida last) (g := w.heap.size) (off := 0) rfl rfl underID rfl hii (hz1.trans HB.out) HW.out.1.at') (by simp [go_sem, Region.wanted]) ?_))
  refine (text_any _ last HX.out).mono ?_
  rintro e w4 ⟨rfl, hN4⟩
  obtain ⟨hb1, hr1, hN1⟩ := HW.out
  have hr4 := hr1.fr hN4 id
  have hN := hN1.trans hN4 (fun _ h => h.elim)
  clear hb1 hr1 hN1 HW hN4
  have HN := Lib.hid (show New w w4 ∧ Blk w4 (w.heap.size + 1) 60 (ida z32) from ⟨hN, hr4⟩)
  clear hN hr4
  go_wp2_with fail
  refine Calls.mono (show Calls Try.prog 54 #[.string ⟨Jrn.pRecord.toArray⟩, .slice (some ⟨w4.heap.size, 0, none⟩) 2 2] (w4.alloc (.cells #[.string ⟨last.toArray⟩, .string ⟨d.toArray⟩] 9)) _ from HF.out w4) ?_
  rintro e w5 ⟨rfl, hN5⟩
  have hN5' := (HN.out.1.then_alloc (.cells #[.string ⟨last.toArray⟩, .string ⟨d.toArray⟩] 9)).trans hN5 (fun _ h => h.elim)
  have hr5 := (HN.out.2.alloc (.cells #[.string ⟨last.toArray⟩, .string ⟨d.toArray⟩] 9)).fr hN5 id
  clear hN5 HN HF
  go_wp2_with (refine x_skip (exec_store_all (T := 60) (X := ida S) (g := w.heap.size + 1) (cs := ida z32) rfl rfl rfl hii (hz1.trans HIS.out) (ida_one _) hr5 HZS.out) rfl ?_)
  refine bodyPost_ret (x_results rfl HS.out rfl (hr5.setRow _)) rfl ⟨rfl, ?_⟩
  exact hN5'.trans ((Fr.refl (fun k => k = w.heap.size + 1) w5).setRow (g := w.heap.size + 1) rfl _) (fun j hj => .inr (by omega))
end Go.Proofs.Ytefalfalapnllaa
