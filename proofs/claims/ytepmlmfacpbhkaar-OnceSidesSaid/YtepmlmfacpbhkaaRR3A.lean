/- The contracts of the document's hide and secret. -/
import Derived.Test.YtepmlmfacpbhkaaRR1T
namespace Go.Proofs.YtepmlmfacpbhkaaR
open Go.RowKit Go.Shelf
set_option linter.unusedVariables false
set_option maxHeartbeats 1000000 in
set_option maxRecDepth 20000 in
theorem r3hide_any (w : World) (x : List UInt8) (hx : x.length = 32) :
    Calls Try.prog 49 #[.agg (ida x)] w fun e w' => e = .returned (.agg (ida (Once.hide x))) ∧ New w w' := by
  obtain ⟨ii, hii, hz0, hz1, hz2⟩ := info_parts infoID
  have hb1 := (Blk.new w 32 (ida x)).alloc (.cells (ida z32) 32)
  have hr1 := Blk.new (w.alloc (.cells (ida x) 32)) 32 (ida z32)
  have hN1 : New w ((w.alloc (.cells (ida x) 32)).alloc (.cells (ida z32) 32)) := (Fr.alloc _ w _).then_alloc _
  rw [World.size_alloc] at hr1
  have HX := Lib.hid hx
  have HXI := Lib.hid (show 32 = (ida x).size by rw [ida_size, hx])
  clear hx
  have HL1 := Lib.hid hb1.at'
  have HR1 := Lib.hid hr1
  have HN1 := Lib.hid hN1
  clear hb1 hr1 hN1
  go_enter Try.func49, Try.ntmps49
  go_wp2_with (first
    | (refine x_value (exec_box (T := 32) rfl rfl) (by simp [go_sem, Region.wanted, yielded]) ?_)
    | (refine x_value (x_alloc (T := 32) rfl hii hz0) (by simp [go_sem, Region.wanted, yielded]) ?_)
    | (refine x_value (exec_load (T := 32) (X := ida x) (g := w.heap.size) (off := 0) rfl rfl underID rfl hii (hz1.trans HXI.out) HL1.out) (by simp [go_sem, Region.wanted]) ?_))
  refine (text_any _ x HX.out).mono ?_
  rintro e w2 ⟨rfl, hN2⟩
  have hr2 := HR1.out.fr hN2 id
  have hN3 := HN1.out.trans hN2 fun _ h => h.elim
  clear HL1 HR1 HN1 hN2
  have hfor := r1for_any (w2.alloc (.cells #[.string ⟨x.toArray⟩] 9)) Once.pHide (some ⟨w2.heap.size, 0, none⟩) 1 [x] (lit_rd w2 (tv [x]) 9) (by simp [Once.forB, Once.len4, Once.pHide, HX.out])
  have hid : Once.sumFor Once.pHide [x] = Once.hide x := rfl
  rw [hid] at hfor
  have HF := Lib.hid hfor
  have HR := Lib.hid (hr2.alloc (.cells #[.string ⟨x.toArray⟩] 9))
  have HN := Lib.hid (hN3.then_alloc (.cells #[.string ⟨x.toArray⟩] 9))
  have HS := Lib.hid (show (Once.hide x).length = 32 from rfl)
  have HIS := Lib.hid (show 32 = (ida (Once.hide x)).size by rw [ida_size]; exact HS.out.symm)
  have HZS := Lib.hid (show (ida z32).size = (ida (Once.hide x)).size by rw [ida_size, ida_size]; exact HS.out.symm)
  clear hid hfor hr2 hN3
  generalize hS : Once.hide x = S at *
  have HE := Lib.hid hS
  clear hS
  go_wp2_with fail
  refine Calls.mono (show Calls Try.prog 51 #[.string ⟨Once.pHide.toArray⟩, .slice (some ⟨w2.heap.size, 0, none⟩) 1 1] (w2.alloc (.cells #[.string ⟨x.toArray⟩] 9)) _ from HF.out) ?_
  rintro e w4 ⟨rfl, hN4⟩
  have hr4 := HR.out.fr hN4 id
  clear HF
  go_wp2_with (refine x_skip (exec_store_all (T := 32) (X := ida S) (g := w.heap.size + 1) (cs := ida z32) rfl rfl rfl hii (hz1.trans HIS.out) (ida_one _) hr4 HZS.out) rfl ?_)
  refine bodyPost_ret (x_results rfl HS.out rfl (hr4.setRow _)) rfl ⟨by rw [HE.out], ?_⟩
  exact ((HN.out.trans hN4 fun _ h => h.elim).trans ((Fr.refl (fun k => k = w.heap.size + 1) w4).setRow (g := w.heap.size + 1) rfl _) (fun j hj => .inr (by omega)))
theorem exec_conv {P : Program} {ev : Operand → Value} {o : Oper} {w w' : World} {S D : TypeId} {x : Operand} {a v : Value} (ho : o.op = .convert S D x) (hx : ev x = a) (hr : (convert S D a).run P w = .ok v w') : (execOp ev o).run P w = .ok (.value v) w' := by
  unfold execOp
  simp [ho, hx, hr]
theorem fourV {low bit side : Nat} (hl : low < 65536) (hb : bit < 256) (hs : side < 256) : (#[.int .u8 ((low : Int) / 256), .int .u8 ((low : Int) % 256), .int .u8 (bit : Int), .int .u8 (side : Int)] : Array Value) = ([UInt8.ofNat (low / 256), UInt8.ofNat (low % 256), UInt8.ofNat bit, UInt8.ofNat side].map bv).toArray := by
  have e : ∀ n : Nat, n < 256 → Value.int .u8 (n : Int) = bv (UInt8.ofNat n) := fun n hn => by
    unfold bv
    congr 1
    rw [UInt8.toNat_ofNat', Nat.mod_eq_of_lt hn]
  simp only [List.map_cons, List.map_nil]
  rw [← e _ hb, ← e _ hs, ← e (low / 256) (by omega), ← e (low % 256) (by omega)]
  rfl
/-- where the secret's region lays its two rows -/
structure R3G where
  a : Nat
  b : Nat
def r3V (seed sec : List UInt8) (low bit side : Nat) (g : R3G) : List Value :=
  [.agg (ida seed), .string ⟨seed.toArray⟩, .int .i64 (low : Int), .int .i64 ((low : Int) / 256), .int .u8 ((low : Int) / 256), .int .i64 (low : Int), .int .i64 ((low : Int) % 256), .int .u8 ((low : Int) % 256), .int .i64 (bit : Int), .int .u8 (bit : Int), .int .i64 (side : Int), .int .u8 (side : Int),
    .slice (some ⟨g.a, 0, none⟩) 4 4, .string ⟨[UInt8.ofNat (low / 256), UInt8.ofNat (low % 256), UInt8.ofNat bit, UInt8.ofNat side].toArray⟩, .slice (some ⟨g.b, 0, none⟩) 2 2, .agg (ida sec), undef]
def R3S (w0 : World) (kb rb : Nat) (seed four sec : List UInt8) (L : Array Bool) (g : R3G) (W : World) : Prop :=
  Blk W kb 32 (ida seed) ∧ Fr (fun j => j = rb) w0 W ∧ Blk W rb 32 (ida (if L.getD 16 false = true then sec else z32)) ∧
  (L.getD 12 false = true → w0.heap.size ≤ g.a ∧ Rd W (some ⟨g.a, 0, none⟩) (four.map bv)) ∧
  (L.getD 14 false = true → w0.heap.size ≤ g.b ∧ Rd W (some ⟨g.b, 0, none⟩) (tv [seed, four]))
section
variable {w0 : World} {kb rb : Nat} {seed four sec : List UInt8} {L : Array Bool} {g : R3G} {W : World}
theorem R3S.list (h : R3S w0 kb rb seed four sec L g W) (i : Nat) (h1 : i ≠ 12) (h2 : i ≠ 14) (h3 : i ≠ 16) : R3S w0 kb rb seed four sec (L.setIfInBounds i true) g W := by
  unfold R3S at h ⊢
  rw [getD_set_ne false h1, getD_set_ne false h2, getD_set_ne false h3]
  exact h
theorem R3S.new {W' : World} (h : R3S w0 kb rb seed four sec L g W) (f : New W W') : R3S w0 kb rb seed four sec L g W' := by
  obtain ⟨a, b, c, d, e⟩ := h
  exact ⟨a.fr f id, b.trans f (fun _ h => h.elim), c.fr f id, fun x => ⟨(d x).1, (d x).2.fr f (fun _ _ => id)⟩, fun x => ⟨(e x).1, (e x).2.fr f (fun _ _ => id)⟩⟩
theorem R3S.a (h : R3S w0 kb rb seed four sec L g W) (hz : L.size = 17) (h12 : L.getD 12 false = false) (t : TypeId) : R3S w0 kb rb seed four sec (L.setIfInBounds 12 true) ⟨W.heap.size, g.b⟩ (W.alloc (.cells (four.map bv).toArray t)) := by
  obtain ⟨a, b, c, d, e⟩ := h
  unfold R3S
  rw [getD_set_ne false (show 12 ≠ 14 by decide), getD_set_ne false (show 12 ≠ 16 by decide)]
  exact ⟨a.alloc _, b.then_alloc _, c.alloc _, fun _ => ⟨b.size, lit_rd W _ t⟩, fun x => ⟨(e x).1, (e x).2.alloc _⟩⟩
theorem R3S.b (h : R3S w0 kb rb seed four sec L g W) (hz : L.size = 17) (h14 : L.getD 14 false = false) (t : TypeId) : R3S w0 kb rb seed four sec (L.setIfInBounds 14 true) ⟨g.a, W.heap.size⟩ (W.alloc (.cells #[.string ⟨seed.toArray⟩, .string ⟨four.toArray⟩] t)) := by
  obtain ⟨a, b, c, d, e⟩ := h
  unfold R3S
  rw [getD_set_ne false (show 14 ≠ 12 by decide), getD_set_ne false (show 14 ≠ 16 by decide)]
  exact ⟨a.alloc _, b.then_alloc _, c.alloc _, fun x => ⟨(d x).1, (d x).2.alloc _⟩, fun _ => ⟨b.size, lit_rd W (tv [seed, four]) t⟩⟩
theorem R3S.c (h : R3S w0 kb rb seed four sec L g W) (hz : L.size = 17) (hk : kb ≠ rb ∧ rb < w0.heap.size) : R3S w0 kb rb seed four sec (L.setIfInBounds 16 true) g (W.setRow rb (ida sec)) := by
  obtain ⟨a, b, c, d, e⟩ := h
  have hf : Fr (fun j => j = rb) W (W.setRow rb (ida sec)) := (Fr.refl (fun j => j = rb) W).setRow (g := rb) rfl _
  unfold R3S
  rw [getD_set_ne false (show 16 ≠ 12 by decide), getD_set_ne false (show 16 ≠ 14 by decide), getD_set_self (by rw [hz]; decide), if_pos rfl]
  refine ⟨a.fr hf hk.1, b.trans hf (fun j hj => .inl hj), c.setRow _, fun x => ⟨(d x).1, (d x).2.fr hf (fun k hk' e' => ?_)⟩, fun x => ⟨(e x).1, (e x).2.fr hf (fun k hk' e' => ?_)⟩⟩
  · simp [ab] at hk'
    have := (d x).1
    omega
  · simp [ab] at hk'
    have := (e x).1
    omega
end
/-- a number's two lowest bytes, as the document reckons them -/
theorem low_num (num : Int) : ∃ low : Nat, low < 65536 ∧ ((num.tmod 65536 < 0 ∧ num.tmod 65536 + 65536 = (low : Int)) ∨ (¬ num.tmod 65536 < 0 ∧ num.tmod 65536 = (low : Int))) ∧ Once.two num = [UInt8.ofNat (low / 256), UInt8.ofNat (low % 256)] ∧ -65536 < num.tmod 65536 ∧ num.tmod 65536 < 65536 := by
  have h1 : num.tmod 65536 = if num < 0 ∧ num % 65536 ≠ 0 then num % 65536 - 65536 else num % 65536 := by
    rw [Int.tmod_eq_emod]
    split <;> rename_i h
    · rw [if_neg (by rcases h with h | h <;> omega)]
      simp
    · rw [if_pos (by omega)]
      rfl
  refine ⟨(num % 65536).toNat, by omega, ?_, ?_, ?_, ?_⟩
  · rw [h1]
    split <;> omega
  · unfold Once.two
    have e1 : (num / 256 % 256).toNat = (num % 65536).toNat / 256 := by omega
    have e2 : (num % 256).toNat = (num % 65536).toNat % 256 := by omega
    rw [e1, e2]
  · rw [h1]; split <;> omega
  · rw [h1]; split <;> omega
attribute [local irreducible] opGhost
set_option maxHeartbeats 4000000 in
set_option maxRecDepth 20000 in
theorem r3secret_any (w : World) (seed : List UInt8) (num : Int) (bit side : Nat) (hx : seed.length = 32) (hb : bit < 256) (hs : side < 256) :
    Calls Try.prog 50 #[.agg (ida seed), .int .i64 num, .int .i64 bit, .int .i64 side] w fun e w' => e = .returned (.agg (ida (Once.secret seed num bit side))) ∧ New w w' := by
  obtain ⟨ii, hii, hz0, hz1, hz2⟩ := info_parts infoID
  have hb1 := (Blk.new w 32 (ida seed)).alloc (.cells (ida z32) 32)
  have hr1 := Blk.new (w.alloc (.cells (ida seed) 32)) 32 (ida z32)
  have hN1 : New w ((w.alloc (.cells (ida seed) 32)).alloc (.cells (ida z32) 32)) := (Fr.alloc _ w _).then_alloc _
  have hs1 : ((w.alloc (.cells (ida seed) 32)).alloc (.cells (ida z32) 32)).heap.size = w.heap.size + 2 := by simp
  rw [World.size_alloc] at hr1
  obtain ⟨low, hlow, hcase, htwo, hr1', hr2'⟩ := low_num num
  have HX := Lib.hid hx
  have HXI := Lib.hid (show 32 = (ida seed).size by rw [ida_size, hx])
  have HLW := Lib.hid hlow
  have HBT := Lib.hid hb
  have HSD := Lib.hid hs
  have HSEC := Lib.hid (show Once.sumFor Once.pSecret [seed, [UInt8.ofNat (low / 256), UInt8.ofNat (low % 256), UInt8.ofNat bit, UInt8.ofNat side]] = Once.secret seed num bit side by unfold Once.secret; rw [htwo]; rfl)
  have HL1 := Lib.hid hb1
  have HR1 := Lib.hid hr1
  have HN1 := Lib.hid hN1
  have HZ1 := Lib.hid hs1
  clear hx hb1 hr1 hN1 hs1 htwo
  have hlo0 : (low : Int) < 65536 := by omega
  go_enter Try.func50, Try.ntmps50
  generalize hmod : num.tmod 65536 = r at *
  go_upto_region 1 with (first
    | (refine x_value (exec_box (T := 32) rfl rfl) (by simp [go_sem, Region.wanted, yielded]) ?_)
    | (refine x_value (x_alloc (T := 32) rfl hii hz0) (by simp [go_sem, Region.wanted, yielded]) ?_))
  have hb1 := HL1.out
  have hr1 := HR1.out
  have HSZ := Lib.hid (show w.heap.size ≠ w.heap.size + 1 ∧ w.heap.size + 1 < ((w.alloc (.cells (ida seed) 32)).alloc (.cells (ida z32) 32)).heap.size by rw [HZ1.out]; omega)
  clear HL1 HR1 HZ1
  generalize (w.alloc (.cells (ida seed) 32)).alloc (.cells (ida z32) 32) = W2 at *
  have h0S : R3S W2 w.heap.size (w.heap.size + 1) seed [UInt8.ofNat (low / 256), UInt8.ofNat (low % 256), UInt8.ofNat bit, UInt8.ofNat side] (Once.secret seed num bit side) (Array.replicate 17 false) ⟨0, 0⟩ W2.drew := ⟨hb1, Fr.drew _ W2, (show Blk W2 _ _ _ by simpa using hr1), fun h => by simp at h, fun h => by simp at h⟩
  have H0S := Lib.hid h0S
  clear hb1 hr1 h0S
  have hw3 : IntKind.i64.wrap ((low : Int) / 256) = (low : Int) / 256 := IntWalk.i64_in _ (by omega)
  have hw4 : IntKind.u8.wrap ((low : Int) / 256) = (low : Int) / 256 := by rw [IntKind.wrap_u8]; omega
  have hw6 : (low : Int).tmod 256 = (low : Int) % 256 := Int.tmod_eq_emod_of_nonneg (by omega)
  have hw7 : IntKind.u8.wrap ((low : Int) % 256) = (low : Int) % 256 := by rw [IntKind.wrap_u8]; omega
  have hw9 : IntKind.u8.wrap (bit : Int) = (bit : Int) := by rw [IntKind.wrap_u8]; omega
  have hw11 : IntKind.u8.wrap (side : Int) = (side : Int) := by rw [IntKind.wrap_u8]; omega
  rcases hcase with ⟨h1, h2⟩ | ⟨h1, h2⟩
  · go_upto_region 4 with fail
    refine wp_region_ghost (by kernel_rfl) (by kernel_rfl) (r3V seed (Once.secret seed num bit side) low bit side) (fun _ => rfl) (by kernel_rfl) (R3S W2 w.heap.size (w.heap.size + 1) seed [UInt8.ofNat (low / 256), UInt8.ofNat (low % 256), UInt8.ofNat bit, UInt8.ofNat side] (Once.secret seed num bit side)) ⟨0, 0⟩ H0S.out _ (by funext g; simp [r3V, putAll, Act.put]; rfl) ?hops ?after
    case hops =>
      refine ⟨?_, ?_, ?_, ?_, ?_, ?_, ?_, ?_, ?_, ?_, ?_, ?_, ?_, ?_, ?_, ?_, ?_, trivial⟩
      all_goals
        intro g L W' hz hd hn HS
        refine held_plain rfl ?_
      · exact ghost_value (exec_load (T := 32) (X := ida seed) (g := w.heap.size) (off := 0) rfl rfl underID rfl hii (hz1.trans HXI.out) HS.1.at') (ghost_keep (vs := r3V seed (Once.secret seed num bit side) low bit side) (S := R3S W2 w.heap.size (w.heap.size + 1) seed [UInt8.ofNat (low / 256), UInt8.ofNat (low % 256), UInt8.ofNat bit, UInt8.ofNat side] (Once.secret seed num bit side)) (g := g) (i := 0) rfl (HS.list 0 (by decide) (by decide) (by decide)))
      · have hc := text_any W' seed HX.out
        clear hd hn hz
        unfold opGhost
        go_simp
        exact (show CallsIn Fence.wide 0 _ _ _ _ _ from (callsIn_wide.2 hc).mono fun e w'' ⟨he, hw⟩ => ⟨_, he, ghost_keep (vs := r3V seed (Once.secret seed num bit side) low bit side) (S := R3S W2 w.heap.size (w.heap.size + 1) seed [UInt8.ofNat (low / 256), UInt8.ofNat (low % 256), UInt8.ofNat bit, UInt8.ofNat side] (Once.secret seed num bit side)) (g := g) (i := 1) rfl ((HS.new hw).list 1 (by decide) (by decide) (by decide))⟩)
      · have H2 := ghost_keep (vs := r3V seed (Once.secret seed num bit side) low bit side) (S := R3S W2 w.heap.size (w.heap.size + 1) seed [UInt8.ofNat (low / 256), UInt8.ofNat (low % 256), UInt8.ofNat bit, UInt8.ofNat side] (Once.secret seed num bit side)) (g := g) (i := 2) rfl (HS.list 2 (by decide) (by decide) (by decide))
        clear hd hn hz HS
        unfold opGhost
        go_simp
      · have H2 := ghost_keep (vs := r3V seed (Once.secret seed num bit side) low bit side) (S := R3S W2 w.heap.size (w.heap.size + 1) seed [UInt8.ofNat (low / 256), UInt8.ofNat (low % 256), UInt8.ofNat bit, UInt8.ofNat side] (Once.secret seed num bit side)) (g := g) (i := 3) rfl (HS.list 3 (by decide) (by decide) (by decide))
        clear hd hn hz HS
        unfold opGhost
        go_simp
      · have H2 := ghost_keep (vs := r3V seed (Once.secret seed num bit side) low bit side) (S := R3S W2 w.heap.size (w.heap.size + 1) seed [UInt8.ofNat (low / 256), UInt8.ofNat (low % 256), UInt8.ofNat bit, UInt8.ofNat side] (Once.secret seed num bit side)) (g := g) (i := 4) rfl (HS.list 4 (by decide) (by decide) (by decide))
        clear hd hn hz HS
        unfold opGhost
        go_simp
      · have H2 := ghost_keep (vs := r3V seed (Once.secret seed num bit side) low bit side) (S := R3S W2 w.heap.size (w.heap.size + 1) seed [UInt8.ofNat (low / 256), UInt8.ofNat (low % 256), UInt8.ofNat bit, UInt8.ofNat side] (Once.secret seed num bit side)) (g := g) (i := 5) rfl (HS.list 5 (by decide) (by decide) (by decide))
        clear hd hn hz HS
        unfold opGhost
        go_simp
      · have H2 := ghost_keep (vs := r3V seed (Once.secret seed num bit side) low bit side) (S := R3S W2 w.heap.size (w.heap.size + 1) seed [UInt8.ofNat (low / 256), UInt8.ofNat (low % 256), UInt8.ofNat bit, UInt8.ofNat side] (Once.secret seed num bit side)) (g := g) (i := 6) rfl (HS.list 6 (by decide) (by decide) (by decide))
        clear hd hn hz HS
        unfold opGhost
        go_simp
      · have H2 := ghost_keep (vs := r3V seed (Once.secret seed num bit side) low bit side) (S := R3S W2 w.heap.size (w.heap.size + 1) seed [UInt8.ofNat (low / 256), UInt8.ofNat (low % 256), UInt8.ofNat bit, UInt8.ofNat side] (Once.secret seed num bit side)) (g := g) (i := 7) rfl (HS.list 7 (by decide) (by decide) (by decide))
        clear hd hn hz HS
        unfold opGhost
        go_simp
      · have H2 := ghost_keep (vs := r3V seed (Once.secret seed num bit side) low bit side) (S := R3S W2 w.heap.size (w.heap.size + 1) seed [UInt8.ofNat (low / 256), UInt8.ofNat (low % 256), UInt8.ofNat bit, UInt8.ofNat side] (Once.secret seed num bit side)) (g := g) (i := 8) rfl (HS.list 8 (by decide) (by decide) (by decide))
        clear hd hn hz HS
        unfold opGhost
        go_simp
      · have H2 := ghost_keep (vs := r3V seed (Once.secret seed num bit side) low bit side) (S := R3S W2 w.heap.size (w.heap.size + 1) seed [UInt8.ofNat (low / 256), UInt8.ofNat (low % 256), UInt8.ofNat bit, UInt8.ofNat side] (Once.secret seed num bit side)) (g := g) (i := 9) rfl (HS.list 9 (by decide) (by decide) (by decide))
        clear hd hn hz HS
        unfold opGhost
        go_simp
      · have H2 := ghost_keep (vs := r3V seed (Once.secret seed num bit side) low bit side) (S := R3S W2 w.heap.size (w.heap.size + 1) seed [UInt8.ofNat (low / 256), UInt8.ofNat (low % 256), UInt8.ofNat bit, UInt8.ofNat side] (Once.secret seed num bit side)) (g := g) (i := 10) rfl (HS.list 10 (by decide) (by decide) (by decide))
        clear hd hn hz HS
        unfold opGhost
        go_simp
      · have H2 := ghost_keep (vs := r3V seed (Once.secret seed num bit side) low bit side) (S := R3S W2 w.heap.size (w.heap.size + 1) seed [UInt8.ofNat (low / 256), UInt8.ofNat (low % 256), UInt8.ofNat bit, UInt8.ofNat side] (Once.secret seed num bit side)) (g := g) (i := 11) rfl (HS.list 11 (by decide) (by decide) (by decide))
        clear hd hn hz HS
        unfold opGhost
        go_simp
      · have H2 : ∃ g', r3V seed (Once.secret seed num bit side) low bit side g' = (r3V seed (Once.secret seed num bit side) low bit side g).set 12 (.slice (some ⟨W'.heap.size, 0, none⟩) 4 4) ∧ R3S W2 w.heap.size (w.heap.size + 1) seed [UInt8.ofNat (low / 256), UInt8.ofNat (low % 256), UInt8.ofNat bit, UInt8.ofNat side] (Once.secret seed num bit side) (L.setIfInBounds 12 true) g' (W'.alloc (.cells #[.int .u8 ((low : Int) / 256), .int .u8 ((low : Int) % 256), .int .u8 (bit : Int), .int .u8 (side : Int)] 5)) :=
          ⟨⟨W'.heap.size, g.b⟩, rfl, by rw [fourV HLW.out HBT.out HSD.out]; exact HS.a hz (getD_no (by rw [hz]; decide) hn) 5⟩
        clear hd hn hz HS
        unfold opGhost
        go_simp
      · have h12 : L.getD 12 false = true := hd ⟨12, .data⟩ (by simp) rfl
        have hstr := run_str_rd (P := Try.prog) W' 66 5 Try.underlying66 Try.underlying5 (some ⟨g.a, 0, none⟩) 4 [UInt8.ofNat (low / 256), UInt8.ofNat (low % 256), UInt8.ofNat bit, UInt8.ofNat side] (HS.2.2.2.1 h12).2 9 Try.underlying9
        have hstr2 : (convert 66 9 (.slice (some ⟨g.a, 0, none⟩) 4 4)).run Try.prog W' = .ok (.string ⟨[UInt8.ofNat (low / 256), UInt8.ofNat (low % 256), UInt8.ofNat bit, UInt8.ofNat side].toArray⟩) W' := hstr
        have H2 := ghost_keep (vs := r3V seed (Once.secret seed num bit side) low bit side) (S := R3S W2 w.heap.size (w.heap.size + 1) seed [UInt8.ofNat (low / 256), UInt8.ofNat (low % 256), UInt8.ofNat bit, UInt8.ofNat side] (Once.secret seed num bit side)) (g := g) (i := 13) rfl (HS.list 13 (by decide) (by decide) (by decide))
        have HC := Lib.hid hstr2
        clear hd hn hz HS hstr hstr2
        exact ghost_value (exec_conv rfl rfl HC.out) H2
      · have H2 : ∃ g', r3V seed (Once.secret seed num bit side) low bit side g' = (r3V seed (Once.secret seed num bit side) low bit side g).set 14 (.slice (some ⟨W'.heap.size, 0, none⟩) 2 2) ∧ R3S W2 w.heap.size (w.heap.size + 1) seed [UInt8.ofNat (low / 256), UInt8.ofNat (low % 256), UInt8.ofNat bit, UInt8.ofNat side] (Once.secret seed num bit side) (L.setIfInBounds 14 true) g' (W'.alloc (.cells #[.string ⟨seed.toArray⟩, .string ⟨[UInt8.ofNat (low / 256), UInt8.ofNat (low % 256), UInt8.ofNat bit, UInt8.ofNat side].toArray⟩] 9)) :=
          ⟨⟨g.a, W'.heap.size⟩, rfl, HS.b hz (getD_no (by rw [hz]; decide) hn) 9⟩
        clear hd hn hz HS
        unfold opGhost
        go_simp
      · have h14 : L.getD 14 false = true := hd ⟨14, .data⟩ (by simp) rfl
        have hfor := r1for_any W' Once.pSecret (some ⟨g.b, 0, none⟩) 2 [seed, [UInt8.ofNat (low / 256), UInt8.ofNat (low % 256), UInt8.ofNat bit, UInt8.ofNat side]] (HS.2.2.2.2 h14).2 (by simp [Once.forB, Once.len4, Once.pSecret, HX.out])
        rw [HSEC.out] at hfor
        clear hd hn hz
        unfold opGhost
        go_simp
        exact (show CallsIn Fence.wide 0 _ _ _ _ _ from (callsIn_wide.2 hfor).mono fun e w'' ⟨he, hw⟩ => ⟨_, he, ghost_keep (vs := r3V seed (Once.secret seed num bit side) low bit side) (S := R3S W2 w.heap.size (w.heap.size + 1) seed [UInt8.ofNat (low / 256), UInt8.ofNat (low % 256), UInt8.ofNat bit, UInt8.ofNat side] (Once.secret seed num bit side)) (g := g) (i := 15) rfl ((HS.new hw).list 15 (by decide) (by decide) (by decide))⟩)
      · have h16 := getD_no (i := 16) (by rw [hz]; decide) hn
        have hB := HS.2.2.1
        rw [h16, if_neg (by decide)] at hB
        have hsl : (Once.secret seed num bit side).length = 32 := rfl
        exact ghost_skip (exec_store_all (T := 32) (X := ida (Once.secret seed num bit side)) (g := w.heap.size + 1) (cs := ida z32) rfl rfl rfl hii (hz1.trans (by rw [ida_size]; exact hsl.symm)) (ida_one _) hB (by rw [ida_size, ida_size]; exact hsl.symm)) (ghost_keep (vs := r3V seed (Once.secret seed num bit side) low bit side) (S := R3S W2 w.heap.size (w.heap.size + 1) seed [UInt8.ofNat (low / 256), UInt8.ofNat (low % 256), UInt8.ofNat bit, UInt8.ofNat side] (Once.secret seed num bit side)) (g := g) (i := 16) rfl (HS.c hz HSZ.out))
    case after =>
      intro g L W4 hz hal HS
      have h16 : L.getD 16 false = true := by
        have := hal 16
        rw [Array.getD_eq_getD_getElem?] at this ⊢
        rw [Array.getElem?_eq_getElem (by rw [hz]; decide)] at this ⊢
        exact this
      have hr := HS.2.2.1
      rw [h16, if_pos rfl] at hr
      have hf := HS.2.1
      have HR := Lib.hid hr
      have HF := Lib.hid hf
      clear HS hr hf hal hz h16
      go_wp2_with fail
      refine bodyPost_ret (x_results rfl rfl rfl HR.out) rfl ⟨rfl, HN1.out.trans HF.out (fun j hj => .inr (by omega))⟩
  · subst h2
    go_upto_region 4 with fail
    refine wp_region_ghost (by kernel_rfl) (by kernel_rfl) (r3V seed (Once.secret seed num bit side) low bit side) (fun _ => rfl) (by kernel_rfl) (R3S W2 w.heap.size (w.heap.size + 1) seed [UInt8.ofNat (low / 256), UInt8.ofNat (low % 256), UInt8.ofNat bit, UInt8.ofNat side] (Once.secret seed num bit side)) ⟨0, 0⟩ H0S.out _ (by funext g; simp [r3V, putAll, Act.put]; rfl) ?hops ?after
    case hops =>
      refine ⟨?_, ?_, ?_, ?_, ?_, ?_, ?_, ?_, ?_, ?_, ?_, ?_, ?_, ?_, ?_, ?_, ?_, trivial⟩
      all_goals
        intro g L W' hz hd hn HS
        refine held_plain rfl ?_
      · exact ghost_value (exec_load (T := 32) (X := ida seed) (g := w.heap.size) (off := 0) rfl rfl underID rfl hii (hz1.trans HXI.out) HS.1.at') (ghost_keep (vs := r3V seed (Once.secret seed num bit side) low bit side) (S := R3S W2 w.heap.size (w.heap.size + 1) seed [UInt8.ofNat (low / 256), UInt8.ofNat (low % 256), UInt8.ofNat bit, UInt8.ofNat side] (Once.secret seed num bit side)) (g := g) (i := 0) rfl (HS.list 0 (by decide) (by decide) (by decide)))
      · have hc := text_any W' seed HX.out
        clear hd hn hz
        unfold opGhost
        go_simp
        exact (show CallsIn Fence.wide 0 _ _ _ _ _ from (callsIn_wide.2 hc).mono fun e w'' ⟨he, hw⟩ => ⟨_, he, ghost_keep (vs := r3V seed (Once.secret seed num bit side) low bit side) (S := R3S W2 w.heap.size (w.heap.size + 1) seed [UInt8.ofNat (low / 256), UInt8.ofNat (low % 256), UInt8.ofNat bit, UInt8.ofNat side] (Once.secret seed num bit side)) (g := g) (i := 1) rfl ((HS.new hw).list 1 (by decide) (by decide) (by decide))⟩)
      · have H2 := ghost_keep (vs := r3V seed (Once.secret seed num bit side) low bit side) (S := R3S W2 w.heap.size (w.heap.size + 1) seed [UInt8.ofNat (low / 256), UInt8.ofNat (low % 256), UInt8.ofNat bit, UInt8.ofNat side] (Once.secret seed num bit side)) (g := g) (i := 2) rfl (HS.list 2 (by decide) (by decide) (by decide))
        clear hd hn hz HS
        unfold opGhost
        go_simp
      · have H2 := ghost_keep (vs := r3V seed (Once.secret seed num bit side) low bit side) (S := R3S W2 w.heap.size (w.heap.size + 1) seed [UInt8.ofNat (low / 256), UInt8.ofNat (low % 256), UInt8.ofNat bit, UInt8.ofNat side] (Once.secret seed num bit side)) (g := g) (i := 3) rfl (HS.list 3 (by decide) (by decide) (by decide))
        clear hd hn hz HS
        unfold opGhost
        go_simp
      · have H2 := ghost_keep (vs := r3V seed (Once.secret seed num bit side) low bit side) (S := R3S W2 w.heap.size (w.heap.size + 1) seed [UInt8.ofNat (low / 256), UInt8.ofNat (low % 256), UInt8.ofNat bit, UInt8.ofNat side] (Once.secret seed num bit side)) (g := g) (i := 4) rfl (HS.list 4 (by decide) (by decide) (by decide))
        clear hd hn hz HS
        unfold opGhost
        go_simp
      · have H2 := ghost_keep (vs := r3V seed (Once.secret seed num bit side) low bit side) (S := R3S W2 w.heap.size (w.heap.size + 1) seed [UInt8.ofNat (low / 256), UInt8.ofNat (low % 256), UInt8.ofNat bit, UInt8.ofNat side] (Once.secret seed num bit side)) (g := g) (i := 5) rfl (HS.list 5 (by decide) (by decide) (by decide))
        clear hd hn hz HS
        unfold opGhost
        go_simp
      · have H2 := ghost_keep (vs := r3V seed (Once.secret seed num bit side) low bit side) (S := R3S W2 w.heap.size (w.heap.size + 1) seed [UInt8.ofNat (low / 256), UInt8.ofNat (low % 256), UInt8.ofNat bit, UInt8.ofNat side] (Once.secret seed num bit side)) (g := g) (i := 6) rfl (HS.list 6 (by decide) (by decide) (by decide))
        clear hd hn hz HS
        unfold opGhost
        go_simp
      · have H2 := ghost_keep (vs := r3V seed (Once.secret seed num bit side) low bit side) (S := R3S W2 w.heap.size (w.heap.size + 1) seed [UInt8.ofNat (low / 256), UInt8.ofNat (low % 256), UInt8.ofNat bit, UInt8.ofNat side] (Once.secret seed num bit side)) (g := g) (i := 7) rfl (HS.list 7 (by decide) (by decide) (by decide))
        clear hd hn hz HS
        unfold opGhost
        go_simp
      · have H2 := ghost_keep (vs := r3V seed (Once.secret seed num bit side) low bit side) (S := R3S W2 w.heap.size (w.heap.size + 1) seed [UInt8.ofNat (low / 256), UInt8.ofNat (low % 256), UInt8.ofNat bit, UInt8.ofNat side] (Once.secret seed num bit side)) (g := g) (i := 8) rfl (HS.list 8 (by decide) (by decide) (by decide))
        clear hd hn hz HS
        unfold opGhost
        go_simp
      · have H2 := ghost_keep (vs := r3V seed (Once.secret seed num bit side) low bit side) (S := R3S W2 w.heap.size (w.heap.size + 1) seed [UInt8.ofNat (low / 256), UInt8.ofNat (low % 256), UInt8.ofNat bit, UInt8.ofNat side] (Once.secret seed num bit side)) (g := g) (i := 9) rfl (HS.list 9 (by decide) (by decide) (by decide))
        clear hd hn hz HS
        unfold opGhost
        go_simp
      · have H2 := ghost_keep (vs := r3V seed (Once.secret seed num bit side) low bit side) (S := R3S W2 w.heap.size (w.heap.size + 1) seed [UInt8.ofNat (low / 256), UInt8.ofNat (low % 256), UInt8.ofNat bit, UInt8.ofNat side] (Once.secret seed num bit side)) (g := g) (i := 10) rfl (HS.list 10 (by decide) (by decide) (by decide))
        clear hd hn hz HS
        unfold opGhost
        go_simp
      · have H2 := ghost_keep (vs := r3V seed (Once.secret seed num bit side) low bit side) (S := R3S W2 w.heap.size (w.heap.size + 1) seed [UInt8.ofNat (low / 256), UInt8.ofNat (low % 256), UInt8.ofNat bit, UInt8.ofNat side] (Once.secret seed num bit side)) (g := g) (i := 11) rfl (HS.list 11 (by decide) (by decide) (by decide))
        clear hd hn hz HS
        unfold opGhost
        go_simp
      · have H2 : ∃ g', r3V seed (Once.secret seed num bit side) low bit side g' = (r3V seed (Once.secret seed num bit side) low bit side g).set 12 (.slice (some ⟨W'.heap.size, 0, none⟩) 4 4) ∧ R3S W2 w.heap.size (w.heap.size + 1) seed [UInt8.ofNat (low / 256), UInt8.ofNat (low % 256), UInt8.ofNat bit, UInt8.ofNat side] (Once.secret seed num bit side) (L.setIfInBounds 12 true) g' (W'.alloc (.cells #[.int .u8 ((low : Int) / 256), .int .u8 ((low : Int) % 256), .int .u8 (bit : Int), .int .u8 (side : Int)] 5)) :=
          ⟨⟨W'.heap.size, g.b⟩, rfl, by rw [fourV HLW.out HBT.out HSD.out]; exact HS.a hz (getD_no (by rw [hz]; decide) hn) 5⟩
        clear hd hn hz HS
        unfold opGhost
        go_simp
      · have h12 : L.getD 12 false = true := hd ⟨12, .data⟩ (by simp) rfl
        have hstr := run_str_rd (P := Try.prog) W' 66 5 Try.underlying66 Try.underlying5 (some ⟨g.a, 0, none⟩) 4 [UInt8.ofNat (low / 256), UInt8.ofNat (low % 256), UInt8.ofNat bit, UInt8.ofNat side] (HS.2.2.2.1 h12).2 9 Try.underlying9
        have hstr2 : (convert 66 9 (.slice (some ⟨g.a, 0, none⟩) 4 4)).run Try.prog W' = .ok (.string ⟨[UInt8.ofNat (low / 256), UInt8.ofNat (low % 256), UInt8.ofNat bit, UInt8.ofNat side].toArray⟩) W' := hstr
        have H2 := ghost_keep (vs := r3V seed (Once.secret seed num bit side) low bit side) (S := R3S W2 w.heap.size (w.heap.size + 1) seed [UInt8.ofNat (low / 256), UInt8.ofNat (low % 256), UInt8.ofNat bit, UInt8.ofNat side] (Once.secret seed num bit side)) (g := g) (i := 13) rfl (HS.list 13 (by decide) (by decide) (by decide))
        have HC := Lib.hid hstr2
        clear hd hn hz HS hstr hstr2
        exact ghost_value (exec_conv rfl rfl HC.out) H2
      · have H2 : ∃ g', r3V seed (Once.secret seed num bit side) low bit side g' = (r3V seed (Once.secret seed num bit side) low bit side g).set 14 (.slice (some ⟨W'.heap.size, 0, none⟩) 2 2) ∧ R3S W2 w.heap.size (w.heap.size + 1) seed [UInt8.ofNat (low / 256), UInt8.ofNat (low % 256), UInt8.ofNat bit, UInt8.ofNat side] (Once.secret seed num bit side) (L.setIfInBounds 14 true) g' (W'.alloc (.cells #[.string ⟨seed.toArray⟩, .string ⟨[UInt8.ofNat (low / 256), UInt8.ofNat (low % 256), UInt8.ofNat bit, UInt8.ofNat side].toArray⟩] 9)) :=
          ⟨⟨g.a, W'.heap.size⟩, rfl, HS.b hz (getD_no (by rw [hz]; decide) hn) 9⟩
        clear hd hn hz HS
        unfold opGhost
        go_simp
      · have h14 : L.getD 14 false = true := hd ⟨14, .data⟩ (by simp) rfl
        have hfor := r1for_any W' Once.pSecret (some ⟨g.b, 0, none⟩) 2 [seed, [UInt8.ofNat (low / 256), UInt8.ofNat (low % 256), UInt8.ofNat bit, UInt8.ofNat side]] (HS.2.2.2.2 h14).2 (by simp [Once.forB, Once.len4, Once.pSecret, HX.out])
        rw [HSEC.out] at hfor
        clear hd hn hz
        unfold opGhost
        go_simp
        exact (show CallsIn Fence.wide 0 _ _ _ _ _ from (callsIn_wide.2 hfor).mono fun e w'' ⟨he, hw⟩ => ⟨_, he, ghost_keep (vs := r3V seed (Once.secret seed num bit side) low bit side) (S := R3S W2 w.heap.size (w.heap.size + 1) seed [UInt8.ofNat (low / 256), UInt8.ofNat (low % 256), UInt8.ofNat bit, UInt8.ofNat side] (Once.secret seed num bit side)) (g := g) (i := 15) rfl ((HS.new hw).list 15 (by decide) (by decide) (by decide))⟩)
      · have h16 := getD_no (i := 16) (by rw [hz]; decide) hn
        have hB := HS.2.2.1
        rw [h16, if_neg (by decide)] at hB
        have hsl : (Once.secret seed num bit side).length = 32 := rfl
        exact ghost_skip (exec_store_all (T := 32) (X := ida (Once.secret seed num bit side)) (g := w.heap.size + 1) (cs := ida z32) rfl rfl rfl hii (hz1.trans (by rw [ida_size]; exact hsl.symm)) (ida_one _) hB (by rw [ida_size, ida_size]; exact hsl.symm)) (ghost_keep (vs := r3V seed (Once.secret seed num bit side) low bit side) (S := R3S W2 w.heap.size (w.heap.size + 1) seed [UInt8.ofNat (low / 256), UInt8.ofNat (low % 256), UInt8.ofNat bit, UInt8.ofNat side] (Once.secret seed num bit side)) (g := g) (i := 16) rfl (HS.c hz HSZ.out))
    case after =>
      intro g L W4 hz hal HS
      have h16 : L.getD 16 false = true := by
        have := hal 16
        rw [Array.getD_eq_getD_getElem?] at this ⊢
        rw [Array.getElem?_eq_getElem (by rw [hz]; decide)] at this ⊢
        exact this
      have hr := HS.2.2.1
      rw [h16, if_pos rfl] at hr
      have hf := HS.2.1
      have HR := Lib.hid hr
      have HF := Lib.hid hf
      clear HS hr hf hal hz h16
      go_wp2_with fail
      refine bodyPost_ret (x_results rfl rfl rfl HR.out) rfl ⟨rfl, HN1.out.trans HF.out (fun j hj => .inr (by omega))⟩
end Go.Proofs.YtepmlmfacpbhkaaR
