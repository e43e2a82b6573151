/- Package pack: Read takes what Write made. -/
import Derived.Test.YtefalfalapnllaaFilZ
import Derived.Test.YtefalfalapnllaaFilV
import Derived.WalkMore
namespace Go.Proofs.Ytefalfalapnllaa
open Go.RowKit Go.Shelf
set_option linter.unusedVariables false
attribute [local go_sem] Oper.semAt_some
attribute [local irreducible] opHeld
theorem results_cell2 {fn : Func} {w : World} {tmps : Array Value} {t u : Tmp} {b : Nat} {X : Array Value} {T : TypeId} {v : Value} (hr : fn.results = #[.cell t T, .tmp u]) (l6 : (loadVar T ⟨b, 0, none⟩).run Try.prog w = .ok (.agg X) w) (ht : tmps.getD t undef = .pointer (some ⟨b, 0, none⟩)) (hu : tmps.getD u undef = v) :
    (results fn tmps).run Try.prog w = .ok (.tuple #[.agg X, v]) w := by
  rw [Array.getD_eq_getD_getElem?] at ht hu
  simp only [results, hr]
  simp [ht, hu, asAddr, l6]
theorem info5p : (Try.prog.info? 108).map (fun i => (i.zero, i.size, i.bytes)) = some (some (.agg #[.pointer none, .pointer none, .pointer none, .pointer none, .pointer none]), 5, 40) := by kernel_rfl
/-- where the drawn region stands that checks the message -/
def ckS (W0 : World) (r : Nat) (L : Array Bool) (W' : World) : Prop :=
  (L.getD 5 false = true → ∀ i ∈ [0, 1, 2], L.getD i true = true) ∧ (L.getD 5 false = false → New W0 W') ∧ (L.getD 5 false = true → Fr (fun j => j = r) W0 W' ∧ ∃ v, Blk W' r 106 #[v, .int .i64 0])
theorem ckS.keep {W0 W' : World} {r i : Nat} {L : Array Bool} (h : ckS W0 r L W') (hi : i ≠ 5) (hn : L.getD i true = false) : ckS W0 r (L.setIfInBounds i true) W' := by
  unfold ckS
  rw [getD_set_ne false hi]
  refine ⟨fun hm j hj => ?_, h.2⟩
  have := h.1 hm j hj
  by_cases e : i = j
  · subst e; rw [hn] at this; cases this
  · rw [getD_set_ne true e]; exact this
theorem ckS.need {W0 W' : World} {r i : Nat} {L : Array Bool} (h : ckS W0 r L W') (hi : i ∈ [0, 1, 2]) (hn : L.getD i true = false) : New W0 W' := by
  refine h.2.1 ?_
  cases e : L.getD 5 false with
  | false => rfl
  | true => have := h.1 e i hi; rw [hn] at this; cases this
theorem ckS.move {W0 W' W'' : World} {r i : Nat} {L : Array Bool} (h : ckS W0 r L W') (hi : i ∈ [0, 1, 2]) (hi5 : i ≠ 5) (hn : L.getD i true = false) (f : New W' W'') : ckS W0 r (L.setIfInBounds i true) W'' := by
  have h5 : L.getD 5 false = false := by
    cases e : L.getD 5 false with
    | false => rfl
    | true => have := h.1 e i hi; rw [hn] at this; cases this
  unfold ckS
  rw [getD_set_ne false hi5, h5]
  exact ⟨fun e => (by cases e), fun _ => (h.2.1 h5).trans f (fun _ h => h.elim), fun e => (by cases e)⟩
theorem ckS.last {W0 W'' : World} {r : Nat} {L : Array Bool} (hz : L.size = 6) (hall : ∀ i ∈ [0, 1, 2], L.getD i true = true) (f : Fr (fun j => j = r) W0 W'') {v : Value} (hB : Blk W'' r 106 #[v, .int .i64 0]) : ckS W0 r (L.setIfInBounds 5 true) W'' := by
  unfold ckS
  rw [getD_set_self (by omega)]
  refine ⟨fun _ i hi => ?_, fun e => (by cases e), fun _ => ⟨f, v, hB⟩⟩
  rw [getD_set_ne true (fun e => by subst e; simp at hi)]
  exact hall i hi
/-- what stands between two rounds -/
def RdI (W5 : World) (k : Int) (mb r : Nat) (fs : List (UInt8 × List UInt8)) (i : Nat) (W : World) : Prop :=
  (∃ (A : Option Addr) (n c : Nat), MsgOk k A n c mb W ∧ n ≤ 64 ∧ ((∀ f ∈ fs.take i, f.1 ≠ 8) → A = none ∧ n = 0 ∧ c = 0)) ∧ Fr (fun j => j = mb ∨ j = r ∨ W5.heap.size ≤ j) W5 W
theorem msg_fr {k : Int} {A : Option Addr} {n c mb : Nat} {W V : World} {S : Nat → Prop} (h : MsgOk k A n c mb W) (f : Fr S W V) (hs : ¬ S mb) : MsgOk k A n c mb V := by
  obtain ⟨n1, n2, n3, n4, n5, id, Ad, nd, cd, hB, h⟩ := h
  exact ⟨n1, n2, n3, n4, n5, id, Ad, nd, cd, hB.fr f hs, h⟩
set_option maxHeartbeats 16000000 in
set_option maxRecDepth 200000 in
theorem pk_read (w : World) (k n1 n2 n3 n4 n5 : Int) (id data : List UInt8) (ids : List (List UInt8)) (A : Option Addr) (c : Nat)
    (hk : 1 ≤ k ∧ k ≤ 31) (hoks : okN n1 ∧ okN n2 ∧ okN n3 ∧ okN n4 ∧ okN n5) (hid : id.length = 32) (hdl : data.length ≤ 131072) (hil : ids.length ≤ 64) (hie : ∀ x ∈ ids, x.length = 32)
    (hR : Rd w A ((Pk.msgB ⟨k, [n1, n2, n3, n4, n5], id, data, ids⟩).map bv)) (hc : (Pk.msgB ⟨k, [n1, n2, n3, n4, n5], id, data, ids⟩).length ≤ c) :
    Calls Try.prog 37 #[.slice A (Pk.msgB ⟨k, [n1, n2, n3, n4, n5], id, data, ids⟩).length c] w fun e w' => (∃ X : Array Value, e = .returned (.tuple #[.agg X, .int .i64 0]) ∧ X.size = 41 ∧ ∀ v ∈ X.toList, v.oneCell' = true) ∧ New w w' := by
  have hns : ∀ n ∈ [n1, n2, n3, n4, n5], okN n := by
    intro n hn
    simp only [List.mem_cons, List.not_mem_nil, or_false] at hn
    rcases hn with rfl | rfl | rfl | rfl | rfl
    · exact hoks.1
    · exact hoks.2.1
    · exact hoks.2.2.1
    · exact hoks.2.2.2.1
    · exact hoks.2.2.2.2
  have hfo := fields_ok (k := k) hns rfl hid hdl hil hie
  have hfg := fields_good (k := k) hns rfl hid hdl hil hie
  have hmb : Pk.msgB ⟨k, [n1, n2, n3, n4, n5], id, data, ids⟩ = UInt8.ofNat k.toNat :: Pk.fieldsB (Pk.fields ⟨k, [n1, n2, n3, n4, n5], id, data, ids⟩) := rfl
  rw [hmb] at hR hc ⊢
  generalize Pk.fields ⟨k, [n1, n2, n3, n4, n5], id, data, ids⟩ = fs at *
  clear hmb hns hoks hid hdl hil hie
  have hfl : (Pk.fieldsB fs).length ≤ 8 * 131076 := Nat.le_trans (fieldsB_le _ hfo.2) (Nat.mul_le_mul_right _ hfo.1)
  have hs : ∀ i j (hi : i < fs.length) (hj : j < fs.length), i < j → fs[i].1.toNat < fs[j].1.toNat := fun i j hi hj hij => List.pairwise_iff_getElem.1 hfg.2 i j hi hj hij
  have htag : ∀ f ∈ fs, 1 ≤ f.1.toNat ∧ f.1.toNat ≤ 8 := fun f hf => by
    rcases hfg.1 f hf with ⟨i, n, hi, e, _⟩ | ⟨e, _⟩ | ⟨e, _⟩ | ⟨e, _⟩
    · rw [e, UInt8.toNat_ofNat']; omega
    · rw [e]; decide
    · rw [e]; decide
    · rw [e]; decide
  have hlen : (UInt8.ofNat k.toNat :: Pk.fieldsB fs).length = (Pk.fieldsB fs).length + 1 := rfl
  rw [hlen] at hc ⊢
  obtain ⟨g, o, rfl, hgw, hcell⟩ := hR (by simp)
  have k0 := hcell 0 (by simp)
  rw [Nat.add_zero] at k0
  have hkv : bv (UInt8.ofNat k.toNat) = Value.int .u8 k := by
    unfold bv
    congr 1
    rw [UInt8.toNat_ofNat']
    omega
  simp only [List.map_cons, List.getElem_cons_zero, hkv] at k0
  have hRt := rd_dropO hR c 1 (by rw [hlen]; exact hc)
  rw [List.drop_one, List.tail_cons] at hRt
  have hsl : ∀ V, (Instr.slice 22 (.slice (some ⟨g, o, none⟩) ((Pk.fieldsB fs).length + 1) c) (some (.int .i64 1)) none none).run Try.prog V = .ok (.slice (some ⟨g, slO o c 1, none⟩) (Pk.fieldsB fs).length (c - 1)) V := fun V => by
    have := sl_drop g o ((Pk.fieldsB fs).length + 1) c 1 (by omega) hc V
    rwa [Nat.add_sub_cancel] at this
  have hz : ((((Pk.fieldsB fs).length : Int) + 1) == 0) = false := beq_false_of_ne (by omega)
  have hkm : k % 18446744073709551616 = k := by omega
  have hlm : (((Pk.fieldsB fs).length + 1 : Nat) : Int) = ((Pk.fieldsB fs).length : Int) + 1 := by omega
  have hsq := all_any 5 (by decide)
  obtain ⟨im, him, hm0, hm1, hm2⟩ := info_parts infoMsg
  obtain ⟨ip, hip, hp0, hp1, hp2⟩ := info_parts info5p
  have HRt := Lib.hid hRt
  have HFG := Lib.hid hfg
  have HFO := Lib.hid hfo
  have HS := Lib.hid hs
  have HTG := Lib.hid htag
  have HFL := Lib.hid hfl
  have HSQ := Lib.hid hsq
  have hms0 : (mc 0 0 0 0 0 0 z32 none 0 0 none 0 0 none 0 0).size = 41 := rfl
  have hmsk : (mc k 0 0 0 0 0 z32 none 0 0 none 0 0 none 0 0).size = 41 := rfl
  obtain ⟨M0, hM0⟩ : ∃ M0, mc 0 0 0 0 0 0 z32 none 0 0 none 0 0 none 0 0 = M0 := ⟨_, rfl⟩
  obtain ⟨Mk, hMk⟩ : ∃ Mk, mc k 0 0 0 0 0 z32 none 0 0 none 0 0 none 0 0 = Mk := ⟨_, rfl⟩
  have hone : ∀ v ∈ Mk.toList, v.oneCell' = true := by
    rw [← hMk]
    intro v hv
    unfold mc at hv
    simp [z32] at hv
    rcases hv with rfl | rfl | rfl | rfl <;> rfl
  have hbm := fun (o : Oper) (ev : Operand → Value) (w : World) (x : Operand) (ho : o.op = .build 64 #[(0, x)]) (hx : ev x = .int .i64 k) => exec_build_msg (w := w) ho hx
  rw [hMk] at hbm hmsk
  rw [hM0] at hm0 hms0
  have HMK := Lib.hid hMk
  have HBM := Lib.hid hbm
  have HONE := Lib.hid hone
  have HMSK := Lib.hid (show im.size = Mk.size by rw [hm1, hmsk])
  have HMS0 := Lib.hid (show M0.size = Mk.size by rw [hms0, hmsk])
  have hgT : g < w.heap.size := hgw
  clear hR hcell hkv hRt hfg hfo hs htag hfl hsq hM0 hMk hone hbm hlen
  generalize hN : (Pk.fieldsB fs).length = N at *
  have HN := Lib.hid hN
  clear hN
  have hN9 : N ≤ 1048608 := HFL.out
  refine (callsIn_wide (n := 6)).1 ?_
  refine callsIn_of_wp_marks Try.func37 rfl trivial ?_ rfl
  simp only [Try.ntmps37, List.size_toArray, List.length_cons, List.length_nil, Nat.reduceAdd, Nat.reduceSub, Array.replicate_succ, Array.replicate_zero, List.push_toArray, List.append_toArray, List.nil_append, List.cons_append]
  gi_wp2_with (first
    | (refine x_value_in (x_alloc (T := 64) rfl him hm0) (fun _ h => by cases h) (fun _ h => by cases h) (by simp [go_sem, Region.wanted, yielded]) ?_)
    | (refine x_value_in (HBM.out _ _ _ _ rfl rfl) (fun _ h => by cases h) (fun _ h => by cases h) (by simp [go_sem, Region.wanted, yielded]) ?_)
    | (refine x_skip_in (exec_store_new (T := 64) (X := Mk) (Z := M0) rfl rfl rfl rfl him HMSK.out HONE.out HMS0.out) (fun _ h => by cases h) (fun _ h => by cases h) rfl ?_)
    | (refine x_value_in (exec_box (T := 106) rfl rfl) (fun _ h => by cases h) (fun _ h => by cases h) (by simp [go_sem, Region.wanted, yielded]) ?_))
  refine wpIn_wide.2 (wp_scope_straight ((wpIn_wide (n := 6)).1 ?_))
  gi_wp2_with (first
    | (refine x_value_in (x_alloc (T := 64) rfl him hm0) (fun _ h => by cases h) (fun _ h => by cases h) (by simp [go_sem, Region.wanted, yielded]) ?_)
    | (refine x_value_in (HBM.out _ _ _ _ rfl rfl) (fun _ h => by cases h) (fun _ h => by cases h) (by simp [go_sem, Region.wanted, yielded]) ?_)
    | (refine x_skip_in (exec_store_new (T := 64) (X := Mk) (Z := M0) rfl rfl rfl rfl him HMSK.out HONE.out HMS0.out) (fun _ h => by cases h) (fun _ h => by cases h) rfl ?_)
    | (refine x_value_in (exec_box (T := 106) rfl rfl) (fun _ h => by cases h) (fun _ h => by cases h) (by simp [go_sem, Region.wanted, yielded]) ?_))
  apply wpIn_label
  obtain ⟨W5, hW5⟩ : ∃ W5, ((((w.alloc (.cells M0 64)).alloc (.cells Mk 64)).alloc (.cells #[.slice (some ⟨g, slO o c 1, none⟩) N (c - 1), .int .i64 0] 106)).alloc (.cells #[.pointer (some ⟨w.heap.size + 1 + 1, 0, none⟩)] 104)).alloc (.cells #[.pointer (some ⟨w.heap.size + 1, 1, none⟩), .pointer (some ⟨w.heap.size + 1, 2, none⟩), .pointer (some ⟨w.heap.size + 1, 3, none⟩), .pointer (some ⟨w.heap.size + 1, 4, none⟩), .pointer (some ⟨w.heap.size + 1, 5, none⟩)] 108) = W5 := ⟨_, rfl⟩
  have hN5 : New w W5 := hW5 ▸ (((((Fr.alloc _ w _).then_alloc _).then_alloc _).then_alloc _).then_alloc _)
  have hsz5 : W5.heap.size = w.heap.size + 5 := by rw [← hW5]; simp
  have hres : Blk W5 w.heap.size 64 M0 := hW5 ▸ ((((Blk.new w 64 M0).alloc _).alloc _).alloc _).alloc _
  have hmB : Blk W5 (w.heap.size + 1) 64 Mk := by
    have := ((((Blk.new (w.alloc (.cells M0 64)) 64 Mk).alloc (.cells #[.slice (some ⟨g, slO o c 1, none⟩) N (c - 1), .int .i64 0] 106)).alloc (.cells #[.pointer (some ⟨w.heap.size + 1 + 1, 0, none⟩)] 104)).alloc (.cells #[.pointer (some ⟨w.heap.size + 1, 1, none⟩), .pointer (some ⟨w.heap.size + 1, 2, none⟩), .pointer (some ⟨w.heap.size + 1, 3, none⟩), .pointer (some ⟨w.heap.size + 1, 4, none⟩), .pointer (some ⟨w.heap.size + 1, 5, none⟩)] 108))
    rw [World.size_alloc] at this
    exact hW5 ▸ this
  have hrB : Blk W5 (w.heap.size + 1 + 1) 106 (rdc g (slO o c 1) N (c - 1)) := by
    have := (((Blk.new ((w.alloc (.cells M0 64)).alloc (.cells Mk 64)) 106 #[.slice (some ⟨g, slO o c 1, none⟩) N (c - 1), .int .i64 0])).alloc (.cells #[.pointer (some ⟨w.heap.size + 1 + 1, 0, none⟩)] 104)).alloc (.cells #[.pointer (some ⟨w.heap.size + 1, 1, none⟩), .pointer (some ⟨w.heap.size + 1, 2, none⟩), .pointer (some ⟨w.heap.size + 1, 3, none⟩), .pointer (some ⟨w.heap.size + 1, 4, none⟩), .pointer (some ⟨w.heap.size + 1, 5, none⟩)] 108)
    rw [World.size_alloc, World.size_alloc] at this
    exact hW5 ▸ this
  have hrbB : Blk W5 (w.heap.size + 1 + 1 + 1) 104 #[.pointer (some ⟨w.heap.size + 1 + 1, 0, none⟩)] := by
    have := (Blk.new (((w.alloc (.cells M0 64)).alloc (.cells Mk 64)).alloc (.cells #[.slice (some ⟨g, slO o c 1, none⟩) N (c - 1), .int .i64 0] 106)) 104 #[.pointer (some ⟨w.heap.size + 1 + 1, 0, none⟩)]).alloc (.cells #[.pointer (some ⟨w.heap.size + 1, 1, none⟩), .pointer (some ⟨w.heap.size + 1, 2, none⟩), .pointer (some ⟨w.heap.size + 1, 3, none⟩), .pointer (some ⟨w.heap.size + 1, 4, none⟩), .pointer (some ⟨w.heap.size + 1, 5, none⟩)] 108)
    rw [World.size_alloc, World.size_alloc, World.size_alloc] at this
    exact hW5 ▸ this
  have hnB : Blk W5 (w.heap.size + 1 + 1 + 1 + 1) 108 #[.pointer (some ⟨w.heap.size + 1, 1, none⟩), .pointer (some ⟨w.heap.size + 1, 2, none⟩), .pointer (some ⟨w.heap.size + 1, 3, none⟩), .pointer (some ⟨w.heap.size + 1, 4, none⟩), .pointer (some ⟨w.heap.size + 1, 5, none⟩)] := by
    have := Blk.new ((((w.alloc (.cells M0 64)).alloc (.cells Mk 64)).alloc (.cells #[.slice (some ⟨g, slO o c 1, none⟩) N (c - 1), .int .i64 0] 106)).alloc (.cells #[.pointer (some ⟨w.heap.size + 1 + 1, 0, none⟩)] 104)) 108 #[.pointer (some ⟨w.heap.size + 1, 1, none⟩), .pointer (some ⟨w.heap.size + 1, 2, none⟩), .pointer (some ⟨w.heap.size + 1, 3, none⟩), .pointer (some ⟨w.heap.size + 1, 4, none⟩), .pointer (some ⟨w.heap.size + 1, 5, none⟩)]
    rw [World.size_alloc, World.size_alloc, World.size_alloc, World.size_alloc] at this
    exact hW5 ▸ this
  rw [hW5]
  have hrb0 := hrbB.cell 0
  simp at hrb0
  have hall := pk_all W5 (w.heap.size + 1 + 1)
  have HALL := Lib.hid hall
  clear hW5 hall
  generalize hmb : w.heap.size + 1 = mb at *
  generalize hr : mb + 1 = r at *
  generalize hrb : r + 1 = rb at *
  generalize hnb : rb + 1 = nb at *
  gi_wp2_with fail
  refine ⟨trivial, CallsIn.mono (show CallsIn Fence.wide 5 _ _ _ _ _ from callsIn_wide.2 HALL.out) ?_⟩
  rintro e w6 ⟨rfl, rfl⟩
  gi_wp2_with fail
  have hcap := Blk.new W5 104 #[.pointer (some ⟨r, 0, none⟩)]
  have hN6 : New w (W5.alloc (.cells #[.pointer (some ⟨r, 0, none⟩)] 104)) := hN5.then_alloc _
  have hsz6 : (W5.alloc (.cells #[.pointer (some ⟨r, 0, none⟩)] 104)).heap.size = W5.heap.size + 1 := World.size_alloc _ _
  have hres6 := hres.alloc (.cells #[.pointer (some ⟨r, 0, none⟩)] 104)
  have hmB6 := hmB.alloc (.cells #[.pointer (some ⟨r, 0, none⟩)] 104)
  have hrB6 := hrB.alloc (.cells #[.pointer (some ⟨r, 0, none⟩)] 104)
  have hrbB6 := hrbB.alloc (.cells #[.pointer (some ⟨r, 0, none⟩)] 104)
  have hnB6 := hnB.alloc (.cells #[.pointer (some ⟨r, 0, none⟩)] 104)
  clear hres hmB hrB hrbB hnB HALL hrb0 hN5
  generalize W5.alloc (.cells #[.pointer (some ⟨r, 0, none⟩)] 104) = W6 at *
  rw [hsz5] at hcap hsz6
  generalize hcb : w.heap.size + 5 = cb at *
  clear hsz5
  clear W5
  rw [← HMK.out] at hmB6
  have hmok : MsgOk k none 0 0 mb W6 := ⟨0, 0, 0, 0, 0, z32, none, 0, 0, hmB6, ⟨⟨by decide, by decide⟩, ⟨by decide, by decide⟩, ⟨by decide, by decide⟩, ⟨by decide, by decide⟩, ⟨by decide, by decide⟩⟩, rfl, by decide⟩
  have HRES := Lib.hid hres6
  have HRBB := Lib.hid hrbB6
  have HNB := Lib.hid hnB6
  have HN6 := Lib.hid hN6
  have hmbs : mb < W6.heap.size := by omega
  clear hres6 hrbB6 hnB6 hmB6 HONE HBM
  refine wpIn_rangeFunc_U (xs := fs) (Enc := EncR r) (O := fun j => j = r) rfl (by decide) (gf := 61) (lb := #[.pointer (some ⟨cb, 0, none⟩)]) rfl trivial (enters_of Try.func61 (by kernel_rfl) rfl)
    (HSQ.out cb r g (slO o c 1) (c - 1) fs (fun f hf => ⟨Nat.lt_of_le_of_lt (HFO.out.2 f hf) (by decide), Nat.le_trans (HTG.out f hf).2 (by decide)⟩) HS.out (fun f hf => (HTG.out f hf).1) (by have := HFL.out; have := HN.out; omega)) (fun X Y ⟨v, hv⟩ hf => ⟨v, hv.fr hf (by omega)⟩)
    (fun j => j = mb) (fun j hj => ⟨by omega, fun h => by omega⟩) (fun j hj => by omega) (fun W hW => ?pz) (fun i x args W h => by obtain ⟨_, _, _, rfl, _⟩ := h; rfl)
    (fun i _ W => RdI W6 k mb r fs i W) (fun i U X Y h f => ?abide) ⟨⟨none, 0, 0, hmok, by omega, fun _ => ⟨rfl, rfl, rfl⟩⟩, Fr.refl _ _⟩ ?round ?done
  case pz =>
    refine ⟨hcap.fr hW (fun h => h), HN.out.symm ▸ hrB6.fr hW (fun h => h), HRt.out.fr (HN6.out.trans hW (fun _ h => h.elim)) (fun _ _ h => h), by have := HN.out; omega, by have := hW.size; omega, by omega, by omega, fun h => by omega, fun h => by omega⟩
  case abide =>
    obtain ⟨⟨A, n, c', h1, h2, h3⟩, h4⟩ := h
    refine ⟨⟨A, n, c', msg_fr h1 f (fun h => by omega), h2, h3⟩, h4.trans f (fun j hj => ?_)⟩
    rcases hj with h | h
    · exact .inl (.inr (.inl h))
    · exact .inl (.inr (.inr h.1))
  case round =>
    rintro l i ⟨t, d⟩ args U W K hx henc hI hsz hU hK
    obtain ⟨g', o', c', rfl, hRd', hdc, -⟩ := henc W (Fr.refl _ _)
    have hgu : ∀ V, Fr (fun j => (j = mb ∨ j = W6.heap.size + 1) ∨ U j) W V → Rd V (some ⟨g', o', none⟩) (d.map bv) ∧ ∃ v, Blk V r 106 #[v, .int .i64 0] := fun V hV => by
      obtain ⟨g2, o2, c2, e, h1, _, h2⟩ := henc V hV
      simp only [Array.mk.injEq, List.cons.injEq, Value.slice.injEq, Option.some.injEq, Addr.mk.injEq, and_true, true_and] at e
      obtain ⟨⟨rfl, rfl⟩, _⟩ := e
      exact ⟨h1, h2⟩
    conv => arg 6; simp
    gi_wp2_with fail
    refine hK _ _ (Fr.refl _ _) (fun W3 hf3 => ?_)
    clear hK henc
    obtain ⟨⟨A0, an, ac, hM, han, hseen⟩, hFI⟩ := hI
    obtain ⟨hRd3, hr3⟩ := hgu W3 (hf3.mono (fun j hj => .inl (.inl (.inr hj))))
    have hfW : Fr (fun j => j = mb ∨ j = r ∨ W6.heap.size ≤ j) W6 W3 := hFI.trans hf3 (fun j hj => .inr (by have : j = W6.heap.size + 1 := hj; omega))
    have hC : RdW mb r rb nb W3 := ⟨HRBB.out.fr hfW (fun h => by omega), hr3, HNB.out.fr hfW (fun h => by omega), by omega, by omega, by omega⟩
    have hM3 : MsgOk k A0 an ac mb W3 := msg_fr hM hf3 (fun h => by have : mb = W6.heap.size + 1 := h; omega)
    have hgm : 0 < d.length → g' ≠ mb := fun hd0 e => by
      obtain ⟨_, _, _, _, _, _, _, _, _, hB, _⟩ := hM
      obtain ⟨g2, o2, e2, _, hc2⟩ := (hgu (W.setRow mb #[]) ((Fr.refl _ W).setRow (g := mb) (.inl (.inl rfl)) _)).1 (by simpa using hd0)
      cases e2
      have := hc2 0 (by simpa using hd0)
      rw [e, (hB.setRow #[]).cell] at this
      simp at this
    have htk : ∀ f ∈ fs.take i, f ∈ fs.take (i + 1) := fun f hf => by rw [List.take_add_one]; exact List.mem_append_left _ hf
    have hlast : (t, d) ∈ fs.take (i + 1) := by rw [List.take_add_one, hx]; simp
    have hpre : t = 8 → ∀ f ∈ fs.take i, f.1 ≠ 8 := fun ht f hf h8 => by
      obtain ⟨j, hj, e⟩ := List.mem_take_iff_getElem.1 hf
      obtain ⟨hi', e'⟩ := List.getElem?_eq_some_iff.1 hx
      have := HS.out j i (by omega) hi' (by omega)
      rw [e, e', h8, ht] at this
      exact Nat.lt_irrefl _ this
    have hsame : ∀ W', MsgOk k A0 an ac mb W' → Fr (fun j => j = mb) W3 W' → ∃ U' : Nat → Prop, RdI W6 k mb r fs (i + 1) W' ∧ (∀ j, U' j → U j ∨ W.heap.size ≤ j) ∧ (∀ j, U' j → j < W'.heap.size) ∧ Fr (fun j => j = mb ∨ U j ∨ W.heap.size ≤ j) W3 W' := fun W' hm' hf' =>
      ⟨fun _ => False, ⟨⟨A0, an, ac, hm', han, fun h => hseen fun f hf => h f (htk f hf)⟩, hfW.trans hf' (fun j hj => .inl (.inl hj))⟩, fun _ h => h.elim, fun _ h => h.elim, hf'.mono (fun j hj => .inl (.inl hj))⟩
    have HM3 := Lib.hid hM3
    have HC3 := Lib.hid hC
    have HSM := Lib.hid hsame
    rcases HFG.out.1 (t, d) (List.mem_of_getElem? hx) with ⟨i0, m, hi0, ht, hm0, hm, hd⟩ | ⟨ht, hd, hdz⟩ | ⟨ht, hd0, hd⟩ | ⟨ht, q, hq0, hq, hd⟩
    · simp only at ht hd
      subst ht hd
      have hgm' := hgm (List.length_pos_iff.2 (Pk.numB_ne m hm0))
      clear hsame hM3 hC hpre hlast htk hgm hgu hM hseen hx
      refine rd_num (c := _) ?hc l mb r rb nb g' o' c' i0 m k A0 an ac W3 HM3 HC3 hi0 hm0 hm hRd3 hgm' _ ?htag _ _ _ _ _ _ _ _ _ _ _ _ _ _ _ _ _ _ _ _ _ _ _ _ _ _ _ _ _ _ _ _ _ _ _ _ _ _ _ _ _ _ _ _ _ _ _ _ _ _ _ _ _ _ _ _ _ _ _ _ _ _ _ _ _ _ _ _ _ _ _ _ _ _ _ _ _ _ _ _ _ _ _ _ _ _ _ _ _ _ _ _ _ _ _ _ _ _ _ _ _ _ _ _ _ _ _ _ _ _ _ _ _ _ _ _ _ _ _ _ _ _ _ _ _ _ _ _ _ _ _ _ _ _ _ _ _ _ _ _ _ _ _ _ _ _ _ _ _ _ _ _ _ _ _ _ _ _ _ _ _ _ _ _ _ _ _ _ _ (Lib.hid fun tmps W' hm' hf' => ?_)
      case hc => kernel_rfl
      case htag => rw [UInt8.toNat_ofNat']; omega
      exact HSM.out W' hm' hf'
    · simp only at ht hd hdz
      subst ht
      have hgm' := hgm (by omega)
      clear hsame hM3 hC hpre hlast htk hgm hgu hM hseen hx
      rw [hd]
      refine rd_id (c := _) ?hc2 l mb r rb nb g' o' c' d k A0 an ac W3 HM3 HC3 hd hdz hRd3 hgm' _ _ _ _ _ _ _ _ _ _ _ _ _ _ _ _ _ _ _ _ _ _ _ _ _ _ _ _ _ _ _ _ _ _ _ _ _ _ _ _ _ _ _ _ _ _ _ _ _ _ _ _ _ _ _ _ _ _ _ _ _ _ _ _ _ _ _ _ _ _ _ _ _ _ _ _ _ _ _ _ _ _ _ _ _ _ _ _ _ _ _ _ _ _ _ _ _ _ _ _ _ _ _ _ _ _ _ _ _ _ _ _ _ _ _ _ _ _ _ _ _ _ _ _ _ _ _ _ _ _ _ _ _ _ _ _ _ _ _ _ _ _ _ _ _ _ _ _ _ _ _ _ _ _ _ _ _ _ _ _ _ _ _ _ _ _ _ _ _ (Lib.hid fun tmps W' hm' hf' => ?_)
      case hc2 => kernel_rfl
      exact HSM.out W' hm' hf'
    · simp only at ht hd hd0
      subst ht
      have hgm' := hgm (List.length_pos_iff.2 hd0)
      clear hsame hM3 hC hpre hlast htk hgm hgu hM hseen hx
      refine rd_data (c := _) ?hc3 l mb r rb nb g' o' c' d k A0 an ac W3 HM3 HC3 hd hd0 hRd3 hgm' _ _ _ _ _ _ _ _ _ _ _ _ _ _ _ _ _ _ _ _ _ _ _ _ _ _ _ _ _ _ _ _ _ _ _ _ _ _ _ _ _ _ _ _ _ _ _ _ _ _ _ _ _ _ _ _ _ _ _ _ _ _ _ _ _ _ _ _ _ _ _ _ _ _ _ _ _ _ _ _ _ _ _ _ _ _ _ _ _ _ _ _ _ _ _ _ _ _ _ _ _ _ _ _ _ _ _ _ _ _ _ _ _ _ _ _ _ _ _ _ _ _ _ _ _ _ _ _ _ _ _ _ _ _ _ _ _ _ _ _ _ _ _ _ _ _ _ _ _ _ _ _ _ _ _ _ _ _ _ _ _ _ _ _ _ _ _ _ _ (Lib.hid fun tmps W' hm' hf' => ?_)
      case hc3 => kernel_rfl
      exact HSM.out W' hm' hf'
    · simp only at ht hd
      subst ht
      have hgm' := hgm (by omega)
      obtain ⟨rfl, rfl, rfl⟩ := hseen (hpre rfl)
      have HLA := Lib.hid hlast
      have HFW := Lib.hid hfW
      clear hsame hM3 hC hpre htk hgm hgu hM hseen hx HSM hlast hfW
      refine rd_ids (c := _) ?hc4 l mb r rb nb g' o' c' q d k W3 HM3 HC3 hq0 hq hd hRd3 hdc hgm' _ _ _ _ _ _ _ _ _ _ _ _ _ _ _ _ _ _ _ _ _ _ _ _ _ _ _ _ _ _ _ _ _ _ _ _ _ _ _ _ _ _ _ _ _ _ _ _ _ _ _ _ _ _ _ _ _ _ _ _ _ _ _ _ _ _ _ _ _ _ _ _ _ _ _ _ _ _ _ _ _ _ _ _ _ _ _ _ _ _ _ _ _ _ _ _ _ _ _ _ _ _ _ _ _ _ _ _ _ _ _ _ _ _ _ _ _ _ _ _ _ _ _ _ _ _ _ _ _ _ _ _ _ _ _ _ _ _ _ _ _ _ _ _ _ _ _ _ _ _ _ _ _ _ _ _ _ _ _ _ _ _ _ _ _ _ _ _ _ (Lib.hid fun tmps W' A' ac' hm' hf' => ?_)
      case hc4 => kernel_rfl
      exact ⟨fun _ => False, ⟨⟨A', q, ac', hm', hq, fun h => absurd rfl (h _ HLA.out)⟩, HFW.out.trans hf' (fun j hj => .inl (.inl hj))⟩, fun _ h => h.elim, fun _ h => h.elim, hf'.mono (fun j hj => .inl (.inl hj))⟩
  case done =>
    rintro D U W hD hI ⟨v, hrv⟩ hd
    obtain ⟨⟨A0, an, ac, ⟨m1, m2, m3, m4, m5, id', Ad, nd, cdd, hB, hok, hid', hnd⟩, han, -⟩, hFI⟩ := hI
    have hrbW := HRBB.out.fr hFI (fun h => by omega)
    have hresW := HRES.out.fr hFI (fun h => by omega)
    have b0 := hrbW.cell 0
    have b1 := hrv.cell 1
    simp at b0 b1
    have hck := fun V => pk_check V k m1 m2 m3 m4 m5 id' Ad nd cdd A0 an ac none 0 hid' hnd han
    have hms : im.size = (mc k m1 m2 m3 m4 m5 id' Ad nd cdd A0 an ac none 0 0).size := by rw [mc_size hid', hm1]
    have hone : ∀ v ∈ (mc k m1 m2 m3 m4 m5 id' Ad nd cdd A0 an ac none 0 0).toList, v.oneCell' = true := by
      intro v hv
      unfold mc at hv
      simp at hv
      rcases hv with rfl | rfl | rfl | rfl | rfl | rfl | ⟨a, _, rfl⟩ | rfl | rfl | rfl <;> rfl
    have HCK := Lib.hid hck
    have HMS := Lib.hid hms
    have HONE := Lib.hid hone
    have HOK := Lib.hid hok
    obtain ⟨X, hX⟩ : ∃ X, mc k m1 m2 m3 m4 m5 id' Ad nd cdd A0 an ac none 0 0 = X := ⟨_, rfl⟩
    rw [hX] at hB HCK HMS HONE
    clear hck hms hone hok hX
    gi_upto_region 36 with fail
    refine wpIn_region_all (fun _ => trivial) rfl (by kernel_rfl) (by kernel_rfl) [.pointer (some ⟨r, 0, none⟩), .agg X, .int .i64 0, .pointer (some ⟨r, 0, none⟩), .pointer (some ⟨r, 1, none⟩), undef] (by kernel_rfl) (ckS W.drew r) _ (by simp [putAll, Act.put]; rfl) ⟨fun h => by simp at h, fun _ => Fr.refl _ _, fun h => by simp at h⟩ ?hops ?after
    case hops =>
      refine ⟨?_, ?_, ?_, ?_, ?_, ?_, trivial⟩
      all_goals
        rintro L W' hz hd' hn HS
        refine held_plain rfl ?_
      · have hN := HS.need (by decide) hn
        have H2 := HS.keep (by decide) hn
        have c0 := ((show Blk W.drew rb 104 _ from hrbW).fr hN (fun h => h)).cell 0
        simp at c0
        clear hd' hn HS
        unfold opHeld
        go_simp
      · have hN := HS.need (by decide) hn
        have H2 := HS.keep (by decide) hn
        exact held_value (exec_load (T := 64) (X := X) (g := mb) (off := 0) rfl rfl Try.underlying64 rfl him HMS.out ((show Blk W.drew mb 64 X from hB).fr hN (fun h => h)).at') H2
      · have hc := HCK.out W'
        have H2 := fun W'' (f : New W' W'') => HS.move (by decide) (by decide) hn f
        clear hd' hn HS
        unfold opHeld
        go_simp
        refine (show CallsIn Fence.wide 5 _ _ _ _ _ from (callsIn_wide.2 hc).mono ?_)
        rintro e w'' ⟨code, rfl, hcode, hN⟩
        obtain rfl := hcode.2 ⟨hk, HOK.out⟩
        exact ⟨rfl, H2 w'' hN⟩
      · have H2 := HS.keep (by decide) hn
        clear hd' hn HS
        unfold opHeld
        go_simp
      · have H2 := HS.keep (by decide) hn
        clear hd' hn HS
        unfold opHeld
        go_simp
      · have hall : ∀ i ∈ [0, 1, 2], L.getD i true = true := by
          intro i hi
          simp only [List.mem_cons, List.not_mem_nil, or_false] at hi
          obtain rfl | rfl | rfl := hi
          all_goals exact getD_of_both (hd' ⟨_, .phase⟩ (by simp) rfl)
        have hN := HS.2.1 (getD_no (by rw [hz]; decide) hn)
        have hB' := (show Blk W.drew r 106 #[v, .int .i64 0] from hrv).fr hN (fun h => h)
        have hset := hB'.set 1 (.int .i64 0)
        have c1 := hB'.cell 1
        have f1 := hB'.frozen 1
        simp at c1 hset
        have H2 := ckS.last hz hall ((hN.mono (T := fun j => j = r) (fun _ h => h.elim)).then_set (p := ⟨r, 1, none⟩) rfl (.int .i64 0)) hset
        clear hd' hn HS hset hN hall
        unfold opHeld
        go_simp
    case after =>
      intro L w' hz hall HS
      have h5 : L.getD 5 false = true := by
        have := hall 5
        rw [Array.getD_eq_getD_getElem?] at this ⊢
        rw [Array.getElem?_eq_getElem (by rw [hz]; decide)] at this ⊢
        exact this
      obtain ⟨hFr, v2, hr2⟩ := HS.2.2 h5
      have hFrW : Fr (fun j => j = r) W w' := (Fr.drew (fun j => j = r) W).trans hFr (fun j hj => .inl hj)
      have e0 := (hrbW.fr hFrW (fun h => by have : rb = r := h; omega)).cell 0
      have e1 := hr2.cell 1
      simp at e0 e1
      have hBw := hB.fr hFrW (fun h => by have : mb = r := h; omega)
      have hRw := hresW.fr hFrW (fun h => by have : w.heap.size = r := h; omega)
      have HBW := Lib.hid hBw.at'
      have HRW := Lib.hid hRw
      have HSZ := Lib.hid (show M0.size = X.size by rw [HMS0.out, ← HMSK.out, HMS.out])
      have hDr : D ≠ r ∧ D ≠ w.heap.size := by omega
      have hdF : (w'.setRow w.heap.size X).heap[D]? = some (.deferred (some [])) := by
        rw [setRow_other _ _ _ _ hDr.2, hFrW.block D (Array.getElem?_eq_some_iff.1 hd).1 hDr.1]
        exact hd
      have HATF := Lib.hid (hRw.setRow X)
      have hNF : New w ((w'.setRow w.heap.size X).putObj D (.deferred none)) :=
        (((HN6.out.trans hFI (fun j hj => .inr (by omega))).trans hFrW (fun j hj => .inr (by have : j = r := hj; omega))).trans ((Fr.refl (fun j => j = w.heap.size) w').setRow (g := w.heap.size) rfl X) (fun j hj => .inr (by have : j = w.heap.size := hj; omega))).trans (Fr.putObj (S := fun j => j = D) _ rfl _) (fun j hj => .inr (by have : j = D := hj; omega))
      have HNF := Lib.hid hNF
      clear hNF hBw hRw hFr hFrW HS hall hz h5 hB hresW hrbW hrv b0 b1 hFI
      gi_wp2_with (first
        | (refine x_value_in (exec_load (T := 64) (X := X) (g := mb) (off := 0) rfl rfl Try.underlying64 rfl him HMS.out HBW.out) (fun _ h => by cases h) (fun _ h => by cases h) (by simp [go_sem, Region.wanted, yielded]) ?_)
        | (refine x_skip_in (exec_store_all (T := 64) (X := X) (g := w.heap.size) (cs := M0) rfl rfl rfl him HMS.out HONE.out HRW.out HSZ.out) (fun _ h => by cases h) (fun _ h => by cases h) rfl ?_))
      rw [Exit.noGoto_ret]
      refine ⟨by simp, .inl ⟨_, _, rfl, run_takeDeferred hdF, ?_⟩⟩
      refine ⟨_, results_cell2 rfl (x_loadVar Try.underlying64 rfl him HMS.out (HATF.out.fr (Fr.putObj (S := fun j => j = D) _ rfl _) (fun h => hDr.2 h.symm)).at') rfl rfl, ⟨X, rfl, by have := HMS.out; omega, HONE.out⟩, ?_⟩
      exact HNF.out
end Go.Proofs.Ytefalfalapnllaa
