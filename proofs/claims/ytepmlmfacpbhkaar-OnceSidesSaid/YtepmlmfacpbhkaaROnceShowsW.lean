/- OnceShows, walked. -/
import Derived.Test.YtepmlmfacpbhkaaROnceH
namespace Go.Proofs.YtepmlmfacpbhkaaR
open Go.RowKit Go.Shelf
set_option linter.unusedVariables false

theorem once_below {w w' : World} (h : New w w') : Below w.heap.size w w' := Fr.below h (Nat.le_refl _) (fun _ h => h.elim)
theorem key_one (seed : List UInt8) (num : Int) : ∀ v ∈ (keyC seed num).toList, v.oneCell' = true := fun v hv => by
  have hv' : v ∈ seed.map bv ++ [Value.int .i64 num] := by simpa [keyC] using hv
  rcases List.mem_append.1 hv' with h | h
  · obtain ⟨b, _, rfl⟩ := List.mem_map.1 h
    rfl
  · simp at h
    subst h
    rfl
theorem exec_eql_same {o : Oper} {ev : Operand → Value} {w : World} {x y : Operand} {ty : TypeId} {a : List UInt8} (ho : o.op = .binOp .eql 32 x y ty) (hx : ev x = .agg (ida a)) (hy : ev y = .agg (ida a)) (ha : a.length = 32) :
    (execOp ev o).run Try.prog w = .ok (.value (.bool true)) w := by
  rw [exec_eql (T := 32) ho hx hy underID (by kernel_rfl) sizeB ha ha guardID, beq_self_eq_true]
/-- the key stands, and nothing that was there has turned -/
def KeyS (w0 : World) (kb : Nat) (seed : List UInt8) (num : Int) (L : Array Bool) (W : World) : Prop := Blk W kb 62 (keyC seed num) ∧ New w0 W
theorem KeyS.new {w0 : World} {kb : Nat} {seed : List UInt8} {num : Int} {L L' : Array Bool} {W W' : World} (h : KeyS w0 kb seed num L W) (f : New W W') : KeyS w0 kb seed num L' W' := ⟨h.1.fr f id, h.2.trans f (fun _ h => h.elim)⟩
theorem KeyS.list {w0 : World} {kb : Nat} {seed : List UInt8} {num : Int} {L : Array Bool} {W : World} (h : KeyS w0 kb seed num L W) (L' : Array Bool) : KeyS w0 kb seed num L' W := h
set_option maxHeartbeats 4000000 in
set_option maxRecDepth 20000 in
theorem onceShows_walk (seed : List UInt8) (num : Int) (A : Option Addr) (c : Nat) (t : List UInt8) (w : World) (hx : seed.length = 32) (hR : Rd w A (t.map bv)) (hl : t.length ≤ 140737488351232) :
    Calls Try.prog 9 #[.agg (ida seed), .int .i64 num, .slice A t.length c] w fun e w' => e = .returned (.bool true) ∧ Below w.heap.size w w' := by
  obtain ⟨ii, hii, hz0, hz1, hz2⟩ := info_parts infoID
  obtain ⟨ik, hik, hk0, hk1, hk2⟩ := info_parts infoK
  obtain ⟨fs, hfs⟩ := underK
  have hll : t.length < 1000000000000000000 := by omega
  have HX := Lib.hid hx
  have HXI := Lib.hid (show 32 = (ida seed).size by rw [ida_size, hx])
  have HR := Lib.hid hR
  have HLL := Lib.hid hll
  have HKS := Lib.hid (keyC_size seed num hx)
  have HKZ := Lib.hid (show (keyC z32 0).size = (keyC seed num).size by rw [keyC_size _ _ hx]; rfl)
  clear hx hR hl hll
  go_enter Try.func9, Try.ntmps9
  go_wp2_with (first
    | (refine x_value (exec_box (T := 32) rfl rfl) (by simp [go_sem, Region.wanted]) ?_))
  have hS1 := Blk.new w 32 (ida seed)
  have hN1 : New w (w.alloc (.cells (ida seed) 32)) := Fr.alloc _ w _
  generalize w.alloc (.cells (ida seed) 32) = W1 at *
  refine (signs_any W1).mono ?_
  rintro e w2 ⟨rfl, hN2⟩
  have hS2 := (hS1.fr hN2 id).at'
  have hN3 := hN1.trans hN2 fun _ h => h.elim
  have hK3 := Blk.new w2 62 (keyC seed num)
  have HK3 := Lib.hid hK3
  have HN3 := Lib.hid (hN3.then_alloc (.cells (keyC seed num) 62))
  clear hS1 hN1 hN2 hN3 hK3
  go_wp2_with (first
    | (refine x_value (exec_load (T := 32) (X := ida seed) (g := w.heap.size) (off := 0) rfl rfl underID rfl hii (hz1.trans HXI.out) hS2) (by simp [go_sem, Region.wanted]) ?_)
    | (refine x_value (exec_build_key (seed := seed) (num := num) rfl rfl rfl HX.out) (by simp [go_sem, Region.wanted]) ?_)
    | (refine x_value (x_alloc (T := 62) rfl hik hk0) (by simp [go_sem, Region.wanted]) ?_)
    | (refine x_skip (exec_store_new (T := 62) (X := keyC seed num) (Z := keyC z32 0) rfl rfl rfl rfl hik (hk1.trans HKS.out.symm) (key_one _ _) HKZ.out) rfl ?_))
  have hK3 := HK3.out
  have hN3 := HN3.out
  clear HK3 HN3 hS2
  generalize hkb : w2.heap.size = kb at *
  have HKB := Lib.hid hkb
  clear hkb
  generalize w2.alloc (.cells (keyC seed num) 62) = W3 at *
  have hsh : ∀ i, (Once.shown seed num t i).length = 32 := fun _ => rfl
  have hot : ∀ i, (Once.other seed num t i).length = 32 := fun _ => rfl
  have hown : Once.shows (Once.shown seed num t) (Once.other seed num t) t = Once.pub seed num := Once.shows_own _ _ _
  have HSH := Lib.hid hsh
  have HOT := Lib.hid hot
  have HOWN := Lib.hid hown
  clear hsh hot hown
  obtain ⟨S, hS⟩ : ∃ S, S = sigL (Once.shown seed num t) (Once.other seed num t) := ⟨_, rfl⟩
  have HSS := Lib.hid hS
  clear hS
  obtain ⟨p, hp⟩ : ∃ p, p = Once.pub seed num := ⟨_, rfl⟩
  have HPL := Lib.hid (show p.length = 32 by rw [hp]; rfl)
  have HP := Lib.hid hp
  clear hp
  conv => arg 3; simp [Act.put, go_sem]
  have h0S : KeyS W3 kb seed num (Array.replicate 9 false) W3.drew := ⟨hK3, Fr.drew _ W3⟩
  have HRW : ∀ W, New W3 W → Rd W A (t.map bv) := fun W hW => HR.out.fr (hN3.trans hW fun _ h => h.elim) (fun _ _ => id)
  have HRW2 := Lib.hid HRW
  have HN3 := Lib.hid hN3
  clear HRW hN3 hK3
  refine wp_region_all (by kernel_rfl) (by kernel_rfl) [.agg (keyC seed num), .slice A t.length c, .agg (ida S), .slice A t.length c, .agg (ida p), .agg (keyC seed num), .agg (ida p), .bool true, .bool true]
    (by kernel_rfl) (KeyS W3 kb seed num) _ (by simp [putAll, Act.put]; rfl) h0S ?hops ?after
  case hops =>
    refine ⟨?_, ?_, ?_, ?_, ?_, ?_, ?_, ?_, ?_, trivial⟩
    all_goals
      rintro L W' hz hd hn HS
      refine held_plain rfl ?_
    · exact held_value (exec_load (T := 62) (X := keyC seed num) (g := kb) (off := 0) rfl rfl hfs rfl hik (hk1.trans HKS.out.symm) HS.1.at') HS
    · clear hd hn hz
      unfold opHeld
      go_simp
      exact HS
    · have hc := sign_any W' seed num HX.out A c t (HRW2.out _ HS.2) HLL.out
      rw [← HSS.out] at hc
      clear hd hn hz
      unfold opHeld
      go_simp
      exact (show CallsIn Fence.wide 0 _ _ _ _ _ from (callsIn_wide.2 hc).mono fun e w'' ⟨he, hw⟩ => ⟨he, HS.new hw⟩)
    · clear hd hn hz
      unfold opHeld
      go_simp
      exact HS
    · have hc := shows_any W' _ _ HSH.out HOT.out A c t (HRW2.out _ HS.2) HLL.out
      rw [← HSS.out, HOWN.out, ← HP.out] at hc
      clear hd hn hz
      unfold opHeld
      go_simp
      exact (show CallsIn Fence.wide 0 _ _ _ _ _ from (callsIn_wide.2 hc).mono fun e w'' ⟨he, hw⟩ => ⟨he, HS.new hw⟩)
    · exact held_value (exec_load (T := 62) (X := keyC seed num) (g := kb) (off := 0) rfl rfl hfs rfl hik (hk1.trans HKS.out.symm) HS.1.at') HS
    · have hc := public_any W' seed num HX.out
      rw [← HP.out] at hc
      clear hd hn hz
      unfold opHeld
      go_simp
      exact (show CallsIn Fence.wide 0 _ _ _ _ _ from (callsIn_wide.2 hc).mono fun e w'' ⟨he, hw⟩ => ⟨he, HS.new hw⟩)
    · exact held_value (exec_eql_same rfl rfl rfl HPL.out) HS
    · clear hd hn hz
      unfold opHeld
      go_simp
      exact HS
  case after =>
    rintro L W' hz hal HS
    have hN := HS.2
    clear HS hz hal
    go_wp2_with fail
    go_ret
    exact ⟨rfl, once_below (HN3.out.trans hN (fun _ h => h.elim))⟩
end Go.Proofs.YtepmlmfacpbhkaaR
