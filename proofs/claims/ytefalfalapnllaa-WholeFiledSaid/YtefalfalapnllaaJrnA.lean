/- Package journal: how a journal lies in memory; the contracts of its small functions. -/
import Derived.Test.YtefalfalapnllaaJrnP
import Derived.Test.YtefalfalapnllaaGen
import Derived.Test.YtefalfalapnllaaLast
namespace Go.Proofs.Ytefalfalapnllaa
open Go.RowKit Go.Shelf
set_option linter.unusedVariables false
set_option maxHeartbeats 1000000 in
set_option maxRecDepth 20000 in
theorem link_any (w : World) (last : List UInt8) (hl : last.length = 32) (A : Option Addr) (c : Nat) (d : List UInt8) (hd : Rd w A (d.map bv)) (hdl : d.length < 1000000000000000000) :
    Calls Try.prog 46 #[.agg (ida last), .slice A d.length c] w fun e w' => e = .returned (.agg (ida (Jrn.link last d))) ∧ New w w' := by
  obtain ⟨ii, hii, hz0, hz1, hz2⟩ := info_parts infoID
  have hb1 := (Blk.new w 60 (ida last)).alloc (.cells (ida z32) 60)
  have hr1 := Blk.new (w.alloc (.cells (ida last) 60)) 60 (ida z32)
  have hN1 : New w ((w.alloc (.cells (ida last) 60)).alloc (.cells (ida z32) 60)) := (Fr.alloc _ w _).then_alloc _
  have hs1 : ((w.alloc (.cells (ida last) 60)).alloc (.cells (ida z32) 60)).heap.size = w.heap.size + 2 := by simp
  rw [World.size_alloc] at hr1
  have HW := Lib.hid (show Blk ((w.alloc (.cells (ida last) 60)).alloc (.cells (ida z32) 60)) w.heap.size 60 (ida last) ∧ Blk ((w.alloc (.cells (ida last) 60)).alloc (.cells (ida z32) 60)) (w.heap.size + 1) 60 (ida z32) ∧
    New w ((w.alloc (.cells (ida last) 60)).alloc (.cells (ida z32) 60)) ∧ ((w.alloc (.cells (ida last) 60)).alloc (.cells (ida z32) 60)).heap.size = w.heap.size + 2 from ⟨hb1, hr1, hN1, hs1⟩)
  have HX := Lib.hid hl
  have HD := Lib.hid hd
  have HDL := Lib.hid hdl
  clear hb1 hr1 hN1 hs1 hl hd hdl
  go_enter Try.func46, Try.ntmps46
  go_wp2_with (first
    | (refine x_value (exec_box (T := 60) rfl rfl) (by simp [go_sem, Region.wanted, yielded]) ?_)
    | (refine x_value (x_alloc (T := 60) rfl hii hz0) (by simp [go_sem, Region.wanted, yielded]) ?_))
  obtain ⟨hb1, hr1, hN1, hs1⟩ := HW.out
  clear HW
  generalize (w.alloc (.cells (ida last) 60)).alloc (.cells (ida z32) 60) = W2 at *
  have hP : PartsAt (W2.alloc (.cells #[.slice (some ⟨w.heap.size, 0, none⟩) 32 32, .slice A d.length c] 22)) (some ⟨w.heap.size + 2, 0, none⟩) [⟨some ⟨w.heap.size, 0, none⟩, 32, last⟩, ⟨A, c, d⟩] := by
    refine ⟨?_, fun p hp => ?_⟩
    · have := lit_rd W2 [.slice (some ⟨w.heap.size, 0, none⟩) 32 32, .slice A d.length c] 22
      rw [hs1] at this
      have e : ([⟨some ⟨w.heap.size, 0, none⟩, 32, last⟩, ⟨A, c, d⟩] : List Part).map Part.v = [.slice (some ⟨w.heap.size, 0, none⟩) 32 32, .slice A d.length c] := by simp [Part.v, HX.out]
      rw [e]
      exact this
    · simp at hp
      rcases hp with rfl | rfl
      · exact (once_lt hb1).alloc _
      · exact (HD.out.fr hN1 (fun _ _ => id)).alloc _
  have hfor := sumFor_any _ Jrn.pRecord (some ⟨w.heap.size + 2, 0, none⟩) 2 _ hP (by have := HDL.out; simp [Once.forB, Once.len4, Jrn.pRecord, HX.out]; omega) (by simp)
  have hid : Once.sumFor Jrn.pRecord (([⟨some ⟨w.heap.size, 0, none⟩, 32, last⟩, ⟨A, c, d⟩] : List Part).map (·.b)) = Jrn.link last d := rfl
  rw [hid] at hfor
  have hN3 := hN1.then_alloc (.cells #[.slice (some ⟨w.heap.size, 0, none⟩) 32 32, .slice A d.length c] 22)
  have hr3 := hr1.alloc (.cells #[.slice (some ⟨w.heap.size, 0, none⟩) 32 32, .slice A d.length c] 22)
  have HS := Lib.hid (show (Jrn.link last d).length = 32 from rfl)
  have HIS := Lib.hid (show 32 = (ida (Jrn.link last d)).size by rw [ida_size]; exact HS.out.symm)
  have HZS := Lib.hid (show (ida z32).size = (ida (Jrn.link last d)).size by rw [ida_size, ida_size]; exact HS.out.symm)
  clear hid hP hb1 hr1 hN1
  generalize hS : Jrn.link last d = S at *
  have HE := Lib.hid hS
  refine Calls.mono (show Calls Try.prog 45 #[.string ⟨Jrn.pRecord.toArray⟩, .slice (some ⟨w.heap.size + 2, 0, none⟩) 2 2] (W2.alloc (.cells #[.slice (some ⟨w.heap.size, 0, none⟩) 32 32, .slice A d.length c] 22)) _ from hfor) ?_
  rintro e w4 ⟨rfl, hN4⟩
  have hr4 := hr3.fr hN4 id
  clear hr3 hfor hS
  go_wp2_with (refine x_skip (exec_store_all (T := 60) (X := ida S) (g := w.heap.size + 1) (cs := ida z32) rfl rfl rfl hii (hz1.trans HIS.out) (ida_one _) hr4 HZS.out) rfl ?_)
  refine bodyPost_ret (x_results rfl HS.out rfl (hr4.setRow _)) rfl ⟨by rw [HE.out], ?_⟩
  exact ((hN3.trans hN4 fun _ h => h.elim).trans ((Fr.refl (fun k => k = w.heap.size + 1) w4).setRow (g := w.heap.size + 1) rfl _) (fun j hj => .inr (by omega)))
/-- two appends of a drawn region, one behind the other -/
def AppAt (i j : Nat) (w0 w1 w2 : World) (L : Array Bool) (W' : World) : Prop := (L.getD j false = true → L.getD i false = true) ∧ W' = (if L.getD j false then w2 else if L.getD i false then w1 else w0)
theorem AppAt.list {i j : Nat} {w0 w1 w2 : World} {L : Array Bool} {W' : World} (h : AppAt i j w0 w1 w2 L W') (k : Nat) (h1 : k ≠ i) (h2 : k ≠ j) : AppAt i j w0 w1 w2 (L.setIfInBounds k true) W' := by
  unfold AppAt at h ⊢
  rw [getD_set_ne false h1, getD_set_ne false h2]
  exact h
theorem exec_app {P : Program} {o : Oper} {ev : Operand → Value} {w w' : World} {s x : Operand} {t : TypeId} {v1 v2 v : Value} (ho : o.op = .call { callee := .builtin .append, args := #[s, x], argTypes := #[t, t] }) (hs : ev s = v1) (hx : ev x = v2)
    (hr : (Builtin.append_ #[t, t] o.type #[v1, v2]).run P w = .ok v w') : (execOp ev o).run P w = .ok (.value v) w' := by
  unfold execOp
  simp only [ho, resolve, invoke, builtin, Sem.run_bind, Sem.run_pure, Result.andThen_ok, List.map_toArray, List.map_cons, List.map_nil, hs, hx, hr]
theorem rd_take {w : World} {A : Option Addr} {l : List UInt8} (h : Rd w A (l.map bv)) (n : Nat) : Rd w A ((l.take n).map bv) := by
  intro h0
  have h1 : 0 < (l.map bv).length := by
    simp at h0 ⊢
    omega
  obtain ⟨b, off, e, hb, hc⟩ := h h1
  refine ⟨b, off, e, hb, fun j hj => ?_⟩
  have hj' : j < (l.map bv).length := by
    simp at hj ⊢
    omega
  rw [hc j hj']
  simp
/-- bytes of the call's own -/
structure RowN (w0 W : World) (A : Option Addr) (c : Nat) (bs : List UInt8) : Prop where
  row : Row W 5 A c (bs.map bv)
  fr : New w0 W
  new : ∀ k, ab A = some k → w0.heap.size ≤ k
theorem infoByte : (Try.prog.info? 5).map (fun i => (i.zero, i.size, i.bytes)) = some (some (.int .u8 0), 1, 1) := by kernel_rfl
theorem RowN.more {w0 W : World} {A : Option Addr} {c : Nat} {bs : List UInt8} (h : RowN w0 W A c bs) {W' : World} (hN : New W W') {A' : Option Addr} {c' : Nat} {ys : List UInt8} (hy : Rd W' A' (ys.map bv)) (hl : bs.length + ys.length ≤ 140737488355328) :
    ∃ A2 c2 w', (Builtin.append_ #[22, 22] 22 #[.slice A bs.length c, .slice A' ys.length c']).run Try.prog W' = .ok (.slice A2 (bs.length + ys.length) c2) w' ∧ RowN w0 w' A2 c2 (bs ++ ys) ∧ Fr (fun k => some k = ab A) W' w' := by
  obtain ⟨ie, hie, he0, he1, he2⟩ := info_parts infoByte
  have hs := hN.size
  have hs0 := h.fr.size
  obtain ⟨A2, c2, w', hrun, hrow, hfr, hA2⟩ := run_append_rd (P := Try.prog) W' 22 22 5 ie _ 1 Try.underlying22 hie he0 he1 he2 rfl A c (bs.map bv) (h.row.fr hN (fun _ _ => id)) A' c' (ys.map bv) hy
    (fun u hu => by obtain ⟨b, _, rfl⟩ := List.mem_map.1 hu; rfl) (by simp [maxLen]; omega) (by simp; omega)
  refine ⟨A2, c2, w', by simpa using hrun, ⟨by rw [List.map_append]; exact hrow, (h.fr.trans hN (fun _ h => h.elim)).trans hfr (fun k hk => .inr (h.new k hk.symm)), fun k hk => ?_⟩, hfr⟩
  rcases hA2 k hk with h1 | h1
  · exact h.new k h1
  · omega
theorem RowN.then_new {w0 W W' : World} {A : Option Addr} {c : Nat} {bs : List UInt8} (h : RowN w0 W A c bs) (f : New W W') : RowN w0 W' A c bs := ⟨h.row.fr f (fun _ _ => id), h.fr.trans f (fun _ h => h.elim), h.new⟩
/-- a row that is made out of known bytes -/
theorem RowN.lit (w0 W : World) (h : New w0 W) (bs : List UInt8) (hl : bs.length ≤ 1000000) : RowN w0 (W.alloc (.cells (ida bs) 5)) (some ⟨W.heap.size, 0, none⟩) bs.length bs := by
  have hs := h.size
  refine ⟨?_, h.then_alloc _, fun k hk => ?_⟩
  · have hr : Row (W.alloc (.cells (ida bs) 5)) 5 (some ⟨W.heap.size, 0, none⟩) (ida bs).size (bs.map bv) := Row.mk (Blk.new W 5 (ida bs)) (by simp [ida_size]) (by simp [maxLen, ida_size]; omega) (by simp only [ida, List.length_map]; exact List.take_of_length_le (by simp))
    rwa [ida_size] at hr
  · simp [ab] at hk
    omega
theorem ida_dig (n : Nat) : ida (Jrn.dig n) = #[.int .u8 ((n : Int) / 65536 % 256), .int .u8 ((n : Int) / 256 % 256), .int .u8 ((n : Int) % 256)] := by
  simp [ida, Jrn.dig, bv]
set_option maxHeartbeats 2000000 in
set_option maxRecDepth 20000 in
theorem front_any (w : World) (last : List UInt8) (hl : last.length = 32) (A : Option Addr) (c : Nat) (d : List UInt8) (hd : Rd w A (d.map bv)) (hdl : d.length < 1000000000) :
    Calls Try.prog 50 #[.agg (ida last), .slice A d.length c] w fun e w' => ∃ A2 c2, e = .returned (.slice A2 35 c2) ∧ RowN w w' A2 c2 (Jrn.dig d.length ++ Jrn.own last (Jrn.dig d.length) ++ (Jrn.link last d).take 16) := by
  obtain ⟨ii, hii, hz0, hz1, hz2⟩ := info_parts infoID
  have HX := Lib.hid hl
  have HXI := Lib.hid (show 32 = (ida last).size by rw [ida_size, hl])
  have HD := Lib.hid hd
  have HDL := Lib.hid hdl
  have hdl' : (d.length : Int) < 1000000000 := by omega
  clear hl hd hdl
  go_enter Try.func50, Try.ntmps50
  go_wp2_with (refine x_value (exec_box (T := 60) rfl rfl) (by simp [go_sem, Region.wanted, yielded]) ?_)
  have hb1 := ((Blk.new w 60 (ida last)).alloc (.cells (ida (Jrn.dig d.length)) 5)).alloc (.cells #[.slice (some ⟨w.heap.size, 0, none⟩) 32 32, .slice (some ⟨w.heap.size + 1, 0, none⟩) 3 3] 22)
  have hD0 := (RowN.lit w (w.alloc (.cells (ida last) 60)) (Fr.alloc _ w _) (Jrn.dig d.length) (by rw [Jrn.dig_length]; omega)).then_new (Fr.alloc (fun _ => False) _ (.cells #[.slice (some ⟨w.heap.size, 0, none⟩) 32 32, .slice (some ⟨w.heap.size + 1, 0, none⟩) 3 3] 22))
  rw [World.size_alloc] at hD0
  have hP0 := lit_rd ((w.alloc (.cells (ida last) 60)).alloc (.cells (ida (Jrn.dig d.length)) 5)) [.slice (some ⟨w.heap.size, 0, none⟩) 32 32, .slice (some ⟨w.heap.size + 1, 0, none⟩) 3 3] 22
  rw [World.size_alloc, World.size_alloc] at hP0
  rw [← ida_dig]
  have hb1' := hb1
  generalize ((w.alloc (.cells (ida last) 60)).alloc (.cells (ida (Jrn.dig d.length)) 5)).alloc (.cells #[.slice (some ⟨w.heap.size, 0, none⟩) 32 32, .slice (some ⟨w.heap.size + 1, 0, none⟩) 3 3] 22) = W3 at *
  have hP : PartsAt W3 (some ⟨w.heap.size + 1 + 1, 0, none⟩) [⟨some ⟨w.heap.size, 0, none⟩, 32, last⟩, ⟨some ⟨w.heap.size + 1, 0, none⟩, 3, Jrn.dig d.length⟩] := by
    refine ⟨?_, fun p hp => ?_⟩
    · have e : ([⟨some ⟨w.heap.size, 0, none⟩, 32, last⟩, ⟨some ⟨w.heap.size + 1, 0, none⟩, 3, Jrn.dig d.length⟩] : List Part).map Part.v = [.slice (some ⟨w.heap.size, 0, none⟩) 32 32, .slice (some ⟨w.heap.size + 1, 0, none⟩) 3 3] := by simp [Part.v, HX.out, Jrn.dig_length]
      rw [e]
      exact hP0
    · simp at hp
      rcases hp with rfl | rfl
      · exact once_lt hb1
      · exact hD0.row.rd
  have hfor := sumFor_any W3 Jrn.pFront (some ⟨w.heap.size + 1 + 1, 0, none⟩) 2 _ hP (by simp [Once.forB, Once.len4, Jrn.pFront, HX.out, Jrn.dig_length]) (by simp)
  have hid : Once.sumFor Jrn.pFront (([⟨some ⟨w.heap.size, 0, none⟩, 32, last⟩, ⟨some ⟨w.heap.size + 1, 0, none⟩, 3, Jrn.dig d.length⟩] : List Part).map (·.b)) = Once.sumFor Jrn.pFront [last, Jrn.dig d.length] := rfl
  rw [hid] at hfor
  refine Calls.mono (show Calls Try.prog 45 #[.string ⟨Jrn.pFront.toArray⟩, .slice (some ⟨w.heap.size + 1 + 1, 0, none⟩) 2 2] W3 _ from hfor) ?_
  rintro e w4 ⟨rfl, hN4⟩
  have hOL : (Once.sumFor Jrn.pFront [last, Jrn.dig d.length]).length = 32 := rfl
  have hown : Jrn.own last (Jrn.dig d.length) = (Once.sumFor Jrn.pFront [last, Jrn.dig d.length]).take 16 := rfl
  have HOWN := Lib.hid hown
  generalize Once.sumFor Jrn.pFront [last, Jrn.dig d.length] = S at *
  have HSL := Lib.hid hOL
  have HIS := Lib.hid (show 32 = (ida S).size by rw [ida_size]; exact hOL.symm)
  have HZS := Lib.hid (show (ida z32).size = (ida S).size by rw [ida_size, ida_size]; exact hOL.symm)
  have hD4 := hD0.then_new hN4
  have hb4 := hb1.fr hN4 id
  have hO5 := Blk.new w4 60 (ida S)
  have hD5 := hD4.then_new (Fr.alloc (fun _ => False) w4 (.cells (ida S) 60))
  have HB5 := Lib.hid (hb4.alloc (.cells (ida S) 60)).at'
  clear hfor hid hP hP0 hb1 hb1' hD0 hD4 hb4 hN4 hOL hown
  go_wp2_with (first
    | (refine x_value (x_alloc (T := 60) rfl hii hz0) (by simp [go_sem, Region.wanted]) ?_)
    | (refine x_skip (exec_store_new (T := 60) (X := ida S) (Z := ida z32) rfl rfl rfl rfl hii (hz1.trans HIS.out) (ida_one _) HZS.out) rfl ?_)
    | (refine x_value (exec_load (T := 60) (X := ida last) (g := w.heap.size) (off := 0) rfl rfl underID rfl hii (hz1.trans HXI.out) HB5.out) (by simp [go_sem, Region.wanted]) ?_))
  refine (link_any _ last HX.out A c d (HD.out.fr hD5.fr (fun _ _ => id)) (by have := HDL.out; omega)).mono ?_
  rintro e w6 ⟨rfl, hN6⟩
  have hLL : (Jrn.link last d).length = 32 := rfl
  generalize hLK : Jrn.link last d = K at *
  have HLK := Lib.hid hLK
  have HKL := Lib.hid hLL
  have HKS := Lib.hid (show 32 = (ida K).size by rw [ida_size]; exact hLL.symm)
  have HKZ := Lib.hid (show (ida z32).size = (ida K).size by rw [ida_size, ida_size]; exact hLL.symm)
  have hD6 := hD5.then_new hN6
  have hO6 := hO5.fr hN6 id
  have hg1 : w.heap.size + 1 < w6.heap.size := hD6.row.lt rfl
  have hL7 := Blk.new w6 60 (ida K)
  have hD7 := hD6.then_new (Fr.alloc (fun _ => False) w6 (.cells (ida K) 60))
  have hO7 := hO6.alloc (.cells (ida K) 60)
  clear hLK hLL hD5 hD6 hO5 hO6 hN6 HB5
  go_wp2_with (first
    | (refine x_value (x_alloc (T := 60) rfl hii hz0) (by simp [go_sem, Region.wanted]) ?_)
    | (refine x_skip (exec_store_new (T := 60) (X := ida K) (Z := ida z32) rfl rfl rfl rfl hii (hz1.trans HKS.out) (ida_one _) HKZ.out) rfl ?_))
  generalize w6.alloc (.cells (ida K) 60) = W7 at *
  generalize w4.heap.size = go_ at *
  generalize w6.heap.size = gl at *
  have hrO := rd_take (once_lt hO7) 16
  have hrL := rd_take (once_lt hL7) 16
  have hS16 : (S.take 16).length = 16 := by rw [List.length_take, HSL.out]; rfl
  have hK16 : (K.take 16).length = 16 := by rw [List.length_take, HKL.out]; rfl
  have hD8 : RowN w W7.drew (some ⟨w.heap.size + 1, 0, none⟩) (Jrn.dig d.length).length (Jrn.dig d.length) := hD7.then_new (Fr.drew _ W7)
  obtain ⟨A2, c2, w8, hrun2, hR2, hf2⟩ := hD8.more (Fr.refl (fun _ => False) W7.drew) (c' := 32) (hrO.fr (Fr.drew (fun _ => False) W7) (fun _ _ => id)) (by rw [hS16, Jrn.dig_length]; omega)
  have hrL8 : Rd w8 (some ⟨gl, 0, none⟩) ((K.take 16).map bv) := (hrL.fr (Fr.drew (fun _ => False) W7) (fun _ _ => id)).fr hf2 (fun k hk e => by simp [ab] at hk e; omega)
  obtain ⟨A3, c3, w9, hrun3, hR3, hf3⟩ := hR2.more (Fr.refl (fun _ => False) w8) (c' := 32) hrL8 (by rw [List.length_append, hS16, hK16, Jrn.dig_length]; omega)
  rw [List.length_append, hS16, hK16, Jrn.dig_length] at hrun3
  rw [hS16, Jrn.dig_length] at hrun2
  have HR3 := Lib.hid hR3
  clear hD7 hD8 hR2 hR3 hf2 hf3 hrO hrL hrL8 hO7 hL7
  conv => arg 3; simp [Act.put, go_sem]
  refine wp_region_all (by kernel_rfl) (by kernel_rfl) [.slice (some ⟨w.heap.size + 1, 0, none⟩) 3 3, .slice (some ⟨go_, 0, none⟩) 16 32, .slice A2 19 c2, .slice (some ⟨gl, 0, none⟩) 16 32, .slice A3 35 c3, .slice A3 35 c3]
    (by kernel_rfl) (AppAt 2 4 W7.drew w8 w9) _ (by simp [putAll, Act.put]; rfl) ⟨fun h => by simp at h, by simp⟩ ?hops ?after
  case hops =>
    refine ⟨?_, ?_, ?_, ?_, ?_, ?_, trivial⟩
    all_goals
      rintro L W' hs hd hn HS
      refine held_plain rfl ?_
    · have H2 := HS.list 0 (by decide) (by decide)
      unfold opHeld
      go_simp
    · have H2 := HS.list 1 (by decide) (by decide)
      unfold opHeld
      go_simp
    · have h3 := getD_no (i := 2) (by rw [hs]; decide) hn
      have h6 : L.getD 4 false = false := by
        cases h : L.getD 4 false with
        | false => rfl
        | true => have := HS.1 h; rw [h3] at this; cases this
      obtain ⟨_, rfl⟩ : True ∧ W' = W7.drew := ⟨trivial, by have := HS.2; rw [h6, h3] at this; exact this⟩
      refine held_value (exec_app rfl rfl rfl hrun2) ⟨fun _ => getD_set_self (by rw [hs]; decide), ?_⟩
      rw [getD_set_ne false (by decide), h6, getD_set_self (by rw [hs]; decide)]
      rfl
    · have H2 := HS.list 3 (by decide) (by decide)
      unfold opHeld
      go_simp
    · have h3 : L.getD 2 false = true := hd ⟨2, .data⟩ (by simp) rfl
      have h6 := getD_no (i := 4) (by rw [hs]; decide) hn
      obtain ⟨_, rfl⟩ : True ∧ W' = w8 := ⟨trivial, by have := HS.2; rw [h6, h3] at this; exact this⟩
      refine held_value (exec_app rfl rfl rfl hrun3) ⟨fun _ => by rw [getD_set_ne false (by decide)]; exact h3, ?_⟩
      rw [getD_set_self (by rw [hs]; decide)]
      rfl
    · have H2 := HS.list 5 (by decide) (by decide)
      unfold opHeld
      go_simp
  case after =>
    rintro L W' hs hal HS
    have h6 : L.getD 4 false = true := by
      have := hal 4
      rw [Array.getD_eq_getD_getElem?] at this ⊢
      rw [Array.getElem?_eq_getElem (by rw [hs]; decide)] at this ⊢
      exact this
    obtain ⟨_, rfl⟩ : True ∧ W' = w9 := ⟨trivial, by have := HS.2; rw [h6] at this; exact this⟩
    clear HS hal hs h6 hrun2 hrun3
    go_wp2_with fail
    go_ret
    refine ⟨A3, c3, rfl, ?_⟩
    rw [HLK.out, HOWN.out]
    exact HR3.out
/-- the cells of a journal -/
def jc (p : Nat) (A : Option Addr) (n c : Nat) (last : List UInt8) (down : Bool) : Array Value := (Value.pointer (some ⟨p, 0, none⟩) :: Value.slice A n c :: (last.map bv ++ [Value.bool down])).toArray
theorem jc_size (p : Nat) (A : Option Addr) (n c : Nat) (last : List UInt8) (down : Bool) (h : last.length = 32) : (jc p A n c last down).size = 35 := by simp [jc, h]
/-- at block q lies a journal over the slab at p; all its blocks are in G -/
structure JAt (w : World) (G : Nat → Prop) (q p : Nat) (rs : List (List UInt8)) (last : List UInt8) (down : Bool) (A : Option Addr) (c : Nat) (ps : List Part) : Prop where
  blk : Blk w q 92 (jc p A ps.length c last down)
  row : Row w 22 A c (ps.map Part.v)
  data : ps.map (·.b) = rs
  each : ∀ x ∈ ps, Rd w x.a (x.b.map bv)
  gq : G q
  ga : ∀ k, ab A = some k → G k ∧ k ≠ q
  gp : ∀ x ∈ ps, 0 < x.b.length → ∀ k, ab x.a = some k → G k ∧ k ≠ q ∧ ab A ≠ some k
  glt : ∀ k, G k → k < w.heap.size
  len : last.length = 32
section
variable {w w' : World} {G : Nat → Prop} {q p : Nat} {rs : List (List UInt8)} {last : List UInt8} {down : Bool} {A : Option Addr} {c : Nat} {ps : List Part}
theorem JAt.fr {S : Nat → Prop} (h : JAt w G q p rs last down A c ps) (f : Fr S w w') (hS : ∀ k, G k → ¬ S k) : JAt w' G q p rs last down A c ps :=
  ⟨h.blk.fr f (hS q h.gq), h.row.fr f (fun k hk => hS k (h.ga k hk).1), h.data, fun x hx => (h.each x hx).fr' f (fun h0 k hk => hS k (h.gp x hx (by simpa using h0) k hk).1), h.gq, h.ga, h.gp, fun k hk => Nat.lt_of_lt_of_le (h.glt k hk) f.size, h.len⟩
theorem JAt.new (h : JAt w G q p rs last down A c ps) (f : New w w') : JAt w' G q p rs last down A c ps := h.fr f (fun _ _ => id)
theorem JAt.c0 (h : JAt w G q p rs last down A c ps) : w.cell? ⟨q, 0, none⟩ = some (.pointer (some ⟨p, 0, none⟩)) := h.blk.cell 0
theorem JAt.c1 (h : JAt w G q p rs last down A c ps) : w.cell? ⟨q, 1, none⟩ = some (.slice A ps.length c) := h.blk.cell 1
theorem JAt.c34 (h : JAt w G q p rs last down A c ps) : w.cell? ⟨q, 34, none⟩ = some (.bool down) := by
  rw [h.blk.cell 34]
  simp [jc, h.len]
theorem JAt.at2 (h : JAt w G q p rs last down A c ps) : At w q 2 (ida last) := fun j hj => by
  rw [ida_size] at hj
  rw [h.blk.cell (2 + j)]
  rw [show 2 + j = j + 1 + 1 by omega]
  simp only [jc, ida, List.getElem?_toArray, List.getElem?_cons_succ, List.getElem_toArray, List.getElem_map]
  rw [List.getElem?_append_left (by simpa using hj), List.getElem?_map, List.getElem?_eq_getElem hj]
  rfl
theorem JAt.rd2 (h : JAt w G q p rs last down A c ps) : Rd w (some ⟨q, 2, none⟩) (last.map bv) := fun h0 =>
  ⟨q, 2, rfl, h.blk.lt, fun j hj => by
    have := h.at2 j (by simpa [ida] using hj)
    rw [this]
    simp [ida]⟩
theorem JAt.pslen (h : JAt w G q p rs last down A c ps) : ps.length = rs.length := by rw [← h.data]; simp
end
theorem j_Len {w : World} {G : Nat → Prop} {q p : Nat} {rs : List (List UInt8)} {last : List UInt8} {down : Bool} {A : Option Addr} {c : Nat} {ps : List Part} (h : JAt w G q p rs last down A c ps) :
    Calls Try.prog 35 #[.pointer (some ⟨q, 0, none⟩)] w fun e w' => e = .returned (.int .i64 (rs.length : Int)) ∧ w = w' := by
  have c1 := h.c1
  have hl := h.pslen
  rw [← hl]
  clear h hl
  go_enter Try.func35, Try.ntmps35
  go_wp2
  go_ret
  exact ⟨rfl, rfl⟩
set_option maxRecDepth 20000 in
theorem j_Last {w : World} {G : Nat → Prop} {q p : Nat} {rs : List (List UInt8)} {last : List UInt8} {down : Bool} {A : Option Addr} {c : Nat} {ps : List Part} (h : JAt w G q p rs last down A c ps) :
    Calls Try.prog 39 #[.pointer (some ⟨q, 0, none⟩)] w fun e w' => e = .returned (.agg (ida last)) ∧ New w w' := by
  obtain ⟨ii, hii, hz0, hz1, hz2⟩ := info_parts infoID
  have HA := Lib.hid ((h.new (Fr.alloc _ w (.cells (ida z32) 60))).at2)
  have HX := Lib.hid (show 32 = (ida last).size by rw [ida_size, h.len])
  have HZ := Lib.hid (show (ida z32).size = (ida last).size by rw [ida_size, ida_size, h.len]; rfl)
  have HL := Lib.hid h.len
  have hr1 := Blk.new w 60 (ida z32)
  have hq := h.blk.lt
  clear h
  go_enter Try.func39, Try.ntmps39
  go_wp2_with (first
    | (refine x_value (x_alloc (T := 60) rfl hii hz0) (by simp [go_sem, Region.wanted]) ?_)
    | (refine x_value (exec_load (T := 60) (X := ida last) (g := q) (off := 2) rfl rfl underID rfl hii (hz1.trans HX.out) HA.out) (by simp [go_sem, Region.wanted]) ?_)
    | (refine x_skip (exec_store_all (T := 60) (X := ida last) (g := w.heap.size) (cs := ida z32) rfl rfl rfl hii (hz1.trans HX.out) (ida_one _) hr1 HZ.out) rfl ?_))
  refine bodyPost_ret (x_results rfl HL.out rfl (hr1.setRow _)) rfl ⟨rfl, ?_⟩
  exact (Fr.alloc (fun _ => False) w _).trans ((Fr.refl (fun k => k = w.heap.size) _).setRow (g := w.heap.size) rfl _) (fun j hj => .inr (by omega))
end Go.Proofs.Ytefalfalapnllaa
