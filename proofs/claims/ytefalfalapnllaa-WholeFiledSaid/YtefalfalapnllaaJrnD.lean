/- Package journal: the contract of Write. -/
import Derived.Test.YtefalfalapnllaaJrnBM
namespace Go.Proofs.Ytefalfalapnllaa
open Go.RowKit Go.Shelf
set_option linter.unusedVariables false
attribute [local irreducible] opGhost
set_option maxHeartbeats 4000000 in
set_option maxRecDepth 20000 in
theorem j_Write {w : World} {F G : Nat → Prop} {q p : Nat} {s : SlabS} {rs : List (List UInt8)} {last : List UInt8} {down : Bool} {A : Option Addr} {c : Nat} {ps : List Part} (hS : SlabAt w F p s) (h : JAt w G q p rs last down A c ps) (hFG : ∀ k, F k → ¬ G k)
    (A0 : Option Addr) (c0 : Nat) (d : List UInt8) (hd : Rd w A0 (d.map bv)) (hdF : 0 < d.length → ∀ k, ab A0 = some k → ¬ F k ∧ ¬ G k) (hdl : d.length ≤ 100000000) (hrl : rs.length < 1000000) :
    Calls Try.prog 34 #[.pointer (some ⟨q, 0, none⟩), .slice A0 d.length c0] w fun e w' => e = .returned (.int .i64 (JS.write ⟨s, rs, last, down⟩ d).2) ∧ WritePost w F G q p (JS.write ⟨s, rs, last, down⟩ d).1 w' := by
  have hc34 := h.c34
  have hsame : WritePost w F G q p ⟨s, rs, last, down⟩ w := ⟨F, G, A, c, ps, hS, h, Gr.refl _ _, Gr.refl _ _, hFG, Fr.refl _ _⟩
  by_cases hdown : down = true
  · subst hdown
    have e : JS.write ⟨s, rs, last, true⟩ d = (⟨s, rs, last, true⟩, 90) := by unfold JS.write; rw [if_pos rfl]
    rw [e]
    have HP := Lib.hid hsame
    clear e hsame hS h hd hdF hFG
    go_enter Try.func34, Try.ntmps34
    go_wp2_with fail
    go_ret
    exact ⟨rfl, HP.out⟩
  have hdn : down = false := by simpa using hdown
  subst hdn
  by_cases hlong : 262144 < d.length
  · have e : JS.write ⟨s, rs, last, false⟩ d = (⟨s, rs, last, false⟩, 2) := by unfold JS.write; rw [if_neg (by simp), if_pos hlong]
    rw [e]
    have HP := Lib.hid hsame
    have hlong' : (262144 : Int) < (d.length : Int) := by omega
    clear e hsame hS h hd hdF hFG hlong hdown
    go_enter Try.func34, Try.ntmps34
    go_wp2_with fail
    go_ret
    exact ⟨rfl, HP.out⟩
  have hsh : decide ((d.length : Int) > 262144) = false := by simp; omega
  have hsh2 : decide ((262144 : Int) < (d.length : Int)) = false := by simp; omega
  clear hsame hdown
  obtain ⟨fr, hfr⟩ : ∃ fr, fr = Jrn.dig d.length ++ Jrn.own last (Jrn.dig d.length) ++ (Jrn.link last d).take 16 := ⟨_, rfl⟩
  obtain ⟨rec, hrec⟩ : ∃ rec, rec = Jrn.recB last d := ⟨_, rfl⟩
  have hrf : rec = fr ++ d := by rw [hrec, hfr]; rfl
  have hfl : fr.length = 35 := by rw [hfr]; simp [Jrn.dig_length, Jrn.own_length, Jrn.link_length]
  have hJ : JS.write ⟨s, rs, last, false⟩ d = if (s.append rec).2 ≠ 0 then (⟨(s.append rec).1, rs, last, (s.append rec).2 == 90⟩, (s.append rec).2)
      else if (s.append rec).1.sync.2 ≠ 0 then (⟨(s.append rec).1.sync.1, rs, last, (s.append rec).1.sync.2 == 90⟩, (s.append rec).1.sync.2) else (⟨(s.append rec).1.sync.1, rs ++ [d], Jrn.link last d, false⟩, 0) := by
    unfold JS.write
    rw [if_neg (by simp), if_neg hlong, hrec]
  have HJ := Lib.hid hJ
  have HH := Lib.hid h
  have HS := Lib.hid hS
  have HD := Lib.hid hd
  have HDF := Lib.hid hdF
  have HFG := Lib.hid hFG
  have HFR := Lib.hid hfr
  have HRF := Lib.hid hrf
  have HFL := Lib.hid hfl
  have HRL := Lib.hid (show rec.length = 35 + d.length by rw [hrf, List.length_append, hfl])
  obtain ⟨ii, hii, hz0, hz1, hz2⟩ := info_parts infoID
  have HLI := Lib.hid (show 32 = (ida last).size by rw [ida_size, h.len])
  have h0S : writeS w.drew F p s fr rec (Array.replicate 14 false) ⟨none, 0, none, 0, 0, 0⟩ w.drew := ⟨⟨fun h => by simp at h, fun h => by simp at h, fun h => by simp at h, fun h => by simp at h, fun h => by simp at h⟩, by rw [if_neg (by simp), if_neg (by simp), if_neg (by simp)]; exact Fr.refl _ _⟩
  clear hJ h hS hd hdF hFG hfr hrec hrf hfl hlong
  go_enter Try.func34, Try.ntmps34
  go_upto_region 5 with fail
  refine wp_region_ghost (by kernel_rfl) (by kernel_rfl) (writeV q p last A0 d.length c0 (35 + d.length)) (fun _ => rfl) (by kernel_rfl) (writeS w.drew F p s fr rec) ⟨none, 0, none, 0, 0, 0⟩ h0S _ (by funext g; simp [writeV, putAll, Act.put]; rfl) ?hops ?after
  case hops =>
    refine ⟨?_, ?_, ?_, ?_, ?_, ?_, ?_, ?_, ?_, ?_, ?_, ?_, ?_, ?_, trivial⟩
    all_goals
      intro g L W' hz hd hn HS2
      refine held_plain rfl ?_
    · have H2 := ghost_keep (vs := writeV q p last A0 d.length c0 (35 + d.length)) (S := writeS w.drew F p s fr rec) (g := g) (i := 0) rfl (HS2.list 0 (by decide) (by decide) (by decide) (by decide))
      clear hd hn hz HS2
      unfold opGhost
      go_simp
    · have H2 := ghost_keep (vs := writeV q p last A0 d.length c0 (35 + d.length)) (S := writeS w.drew F p s fr rec) (g := g) (i := 1) rfl (HS2.list 1 (by decide) (by decide) (by decide) (by decide))
      clear hd hn hz HS2
      unfold opGhost
      go_simp
    · have H2 := ghost_keep (vs := writeV q p last A0 d.length c0 (35 + d.length)) (S := writeS w.drew F p s fr rec) (g := g) (i := 2) rfl (HS2.list 2 (by decide) (by decide) (by decide) (by decide))
      clear hd hn hz HS2
      unfold opGhost
      go_simp
    · have hN := HS2.new (HS2.no12 (.inl (getD_no (by rw [hz]; decide) hn)))
      have c0' := (HH.out.new (Fr.drew _ w)).new hN |>.c0
      have H2 := ghost_keep (vs := writeV q p last A0 d.length c0 (35 + d.length)) (S := writeS w.drew F p s fr rec) (g := g) (i := 3) rfl (HS2.list 3 (by decide) (by decide) (by decide) (by decide))
      clear hd hn hz HS2 hN
      unfold opGhost
      go_simp
    · have H2 := ghost_keep (vs := writeV q p last A0 d.length c0 (35 + d.length)) (S := writeS w.drew F p s fr rec) (g := g) (i := 4) rfl (HS2.list 4 (by decide) (by decide) (by decide) (by decide))
      clear hd hn hz HS2
      unfold opGhost
      go_simp
    · have H2 := ghost_keep (vs := writeV q p last A0 d.length c0 (35 + d.length)) (S := writeS w.drew F p s fr rec) (g := g) (i := 5) rfl (HS2.list 5 (by decide) (by decide) (by decide) (by decide))
      clear hd hn hz HS2
      unfold opGhost
      go_simp
    · have H2 := ghost_keep (vs := writeV q p last A0 d.length c0 (35 + d.length)) (S := writeS w.drew F p s fr rec) (g := g) (i := 6) rfl (HS2.list 6 (by decide) (by decide) (by decide) (by decide))
      clear hd hn hz HS2
      unfold opGhost
      go_simp
    · have hN := HS2.new (HS2.no12 (.inr (.inl (getD_no (by rw [hz]; decide) hn))))
      have ha := (HH.out.new (Fr.drew _ w)).new hN |>.at2
      exact ghost_value (exec_load (T := 60) (X := ida last) (g := q) (off := 2) rfl rfl underID rfl hii (hz1.trans HLI.out) ha) (ghost_keep (vs := writeV q p last A0 d.length c0 (35 + d.length)) (S := writeS w.drew F p s fr rec) (g := g) (i := 7) rfl (HS2.list 7 (by decide) (by decide) (by decide) (by decide)))
    · have H2 := ghost_keep (vs := writeV q p last A0 d.length c0 (35 + d.length)) (S := writeS w.drew F p s fr rec) (g := g) (i := 8) rfl (HS2.list 8 (by decide) (by decide) (by decide) (by decide))
      clear hd hn hz HS2
      unfold opGhost
      go_simp
    · have h9 : L.getD 9 false = false := getD_no (by rw [hz]; decide) hn
      have h12 := HS2.no12 (.inr (.inr (.inl h9)))
      have h13 : L.getD 13 false = false := by
        cases e : L.getD 13 false with
        | false => rfl
        | true => have := (HS2.1.2.2.2.2 e).1; rw [h12] at this; cases this
      have hN := HS2.new h12
      have h11 : L.getD 11 false = false := by
        cases e : L.getD 11 false with
        | false => rfl
        | true => have := HS2.1.2.1 e; rw [h9] at this; cases this
      have h7 : L.getD 7 false = true := hd ⟨7, .data⟩ (by simp) rfl
      have hc := front_any W' last HH.out.len A0 c0 d (HD.out.fr ((Fr.drew (fun _ => False) w).trans hN fun _ h => h.elim) (fun _ _ => id)) (by omega)
      rw [← HFR.out] at hc
      clear hd hn
      unfold opGhost
      go_simp
      refine (show CallsIn Fence.wide 0 _ _ _ _ _ from (callsIn_wide.2 hc).mono ?_)
      rintro e w'' ⟨A2, c2, rfl, hR⟩
      refine ⟨_, rfl, ⟨A2, c2, g.A3, g.c3, g.code, g.code2⟩, rfl, ⟨⟨fun x => ?_, fun x => ?_, fun x => ?_, fun _ => getD_mono h7, fun x => ?_⟩, ?_⟩⟩
      · rw [getD_set_ne false (by decide), h12] at x; cases x
      · rw [getD_set_ne false (by decide), h11] at x; cases x
      · rw [getD_set_ne false (by decide), h12] at x; cases x
      · rw [getD_set_ne false (by decide), h13] at x; cases x
      · rw [getD_set_ne false (show 9 ≠ 12 by decide), h12, if_neg (by decide), getD_set_ne false (show 9 ≠ 11 by decide), h11, if_neg (by decide), getD_set_self (by rw [hz]; decide), if_pos rfl]
        exact ⟨hR.row, hN.trans hR.fr fun _ h => h.elim, fun k hk => Nat.le_trans hN.size (hR.new k hk)⟩
    · have H2 := ghost_keep (vs := writeV q p last A0 d.length c0 (35 + d.length)) (S := writeS w.drew F p s fr rec) (g := g) (i := 10) rfl (HS2.list 10 (by decide) (by decide) (by decide) (by decide))
      clear hd hn hz HS2
      unfold opGhost
      go_simp
    · have h11 : L.getD 11 false = false := getD_no (by rw [hz]; decide) hn
      have h12 := HS2.no12 (.inr (.inr (.inr h11)))
      have h13 : L.getD 13 false = false := by
        cases e : L.getD 13 false with
        | false => rfl
        | true => have := (HS2.1.2.2.2.2 e).1; rw [h12] at this; cases this
      have h9 : L.getD 9 false = true := hd ⟨9, .data⟩ (by simp) rfl
      have hR := HS2.2
      rw [h12, if_neg (by decide), h11, if_neg (by decide), h9, if_pos rfl] at hR
      obtain ⟨A3, c3, w3, hrun, hR3, hf3⟩ := hR.more (Fr.refl (fun _ => False) W') (c' := c0) (HD.out.fr ((Fr.drew (fun _ => False) w).trans hR.fr fun _ h => h.elim) (fun _ _ => id)) (by rw [HFL.out]; omega)
      rw [HFL.out] at hrun
      rw [← HRF.out] at hR3
      refine ghost_value (exec_app rfl rfl rfl hrun) ⟨⟨g.A2, g.c2, A3, c3, g.code, g.code2⟩, rfl, ⟨⟨fun x => ?_, fun _ => getD_mono h9, fun x => ?_, fun x => getD_mono (HS2.1.2.2.2.1 h9), fun x => ?_⟩, ?_⟩⟩
      · rw [getD_set_ne false (by decide), h12] at x; cases x
      · rw [getD_set_ne false (by decide), h12] at x; cases x
      · rw [getD_set_ne false (by decide), h13] at x; cases x
      · rw [getD_set_ne false (show 11 ≠ 12 by decide), h12, if_neg (by decide), getD_set_self (by rw [hz]; decide), if_pos rfl]
        exact hR3
    · have h12 : L.getD 12 false = false := getD_no (by rw [hz]; decide) hn
      have h13 : L.getD 13 false = false := by
        cases e : L.getD 13 false with
        | false => rfl
        | true => have := (HS2.1.2.2.2.2 e).1; rw [h12] at this; cases this
      have h11 : L.getD 11 false = true := hd ⟨11, .data⟩ (by simp) rfl
      have h3 : L.getD 3 false = true := hd ⟨3, .data⟩ (by simp) rfl
      have hR := HS2.2
      rw [h12, if_neg (by decide), h11, if_pos rfl] at hR
      have hNw := (Fr.drew (fun _ => False) w).trans hR.fr fun _ h => h.elim
      have hSW := HS.out.fr hNw (fun _ _ => id)
      have hc := slab_Append_all hSW g.A3 g.c3 rec hR.row.rd (fun _ k hk hF => by
        have h1 := hR.new k hk
        have h2 := HS.out.lt k hF
        have h3 := (Fr.drew (fun _ => False) w).size
        omega)
      rw [HRL.out] at hc
      clear hd hn
      unfold opGhost
      go_simp
      refine (show CallsIn Fence.wide 0 _ _ _ _ _ from (callsIn_wide.2 hc).mono ?_)
      rintro e w'' ⟨rfl, ⟨F', hF', hg⟩, hf⟩
      refine ⟨_, rfl, ⟨g.A2, g.c2, g.A3, g.c3, (s.append rec).2, g.code2⟩, rfl, ⟨⟨fun _ => getD_mono h11, fun x => getD_mono (HS2.1.2.1 h11), fun _ => getD_mono h3, fun x => getD_mono (HS2.1.2.2.2.1 (HS2.1.2.1 h11)), fun x => (by rw [getD_set_ne false (by decide), h13] at x; cases x)⟩, ?_⟩⟩
      rw [getD_set_self (by rw [hz]; decide), if_pos rfl]
      refine ⟨rfl, ⟨F', hF', fun k hk => (hg k hk).elim .inl fun h => .inr (Nat.le_trans hR.fr.size h)⟩, ?_⟩
      exact (hR.fr.mono (T := F) fun _ h => h.elim).trans hf (fun _ h => .inl h)
    · have h12 : L.getD 12 false = true := hd ⟨12, .data⟩ (by simp) rfl
      have H2 : ∃ g', writeV q p last A0 d.length c0 (35 + d.length) g' = (writeV q p last A0 d.length c0 (35 + d.length) g).set 13 (.int .i64 g.code) ∧ writeS w.drew F p s fr rec (L.setIfInBounds 13 true) g' W' := by
        refine ⟨⟨g.A2, g.c2, g.A3, g.c3, g.code, g.code⟩, rfl, ⟨⟨?_, ?_, ?_, ?_, fun _ => ⟨getD_mono h12, rfl⟩⟩, ?_⟩⟩
        · rw [getD_set_ne false (by decide), getD_set_ne false (by decide)]; exact HS2.1.1
        · rw [getD_set_ne false (by decide), getD_set_ne false (by decide)]; exact HS2.1.2.1
        · rw [getD_set_ne false (by decide), getD_set_ne false (by decide)]; exact HS2.1.2.2.1
        · rw [getD_set_ne false (by decide), getD_set_ne false (by decide)]; exact HS2.1.2.2.2.1
        · rw [getD_set_ne false (by decide), getD_set_ne false (by decide), getD_set_ne false (by decide)]; exact HS2.2
      clear hd hn hz HS2
      unfold opGhost
      go_simp
  case after =>
    intro g L W4 hz hal HS2
    have h12 : L.getD 12 false = true := by
      have := hal 12
      rw [Array.getD_eq_getD_getElem?] at this ⊢
      rw [Array.getElem?_eq_getElem (by rw [hz]; decide)] at this ⊢
      exact this
    have h13 : L.getD 13 false = true := by
      have := hal 13
      rw [Array.getD_eq_getD_getElem?] at this ⊢
      rw [Array.getElem?_eq_getElem (by rw [hz]; decide)] at this ⊢
      exact this
    have hc2 := (HS2.1.2.2.2.2 h13).2
    have hA := HS2.2
    rw [h12, if_pos rfl] at hA
    obtain ⟨hcode, ⟨F1, hS1, hG1⟩, hf1⟩ := hA
    clear HS2 hal hz h12 h13 h0S
    obtain ⟨A2, c2, A3, c3, code, code2⟩ := g
    change code = _ at hcode
    change code2 = code at hc2
    subst hc2
    subst hcode
    dsimp only
    have hJ4 : JAt W4 G q p rs last false A c ps := (HH.out.new (Fr.drew _ w)).fr hf1 (fun k hG hF => HFG.out k hF hG)
    have hF1 : ∀ k, F1 k → F k ∨ w.heap.size ≤ k := fun k hk => hG1 k hk
    have hFG1 : ∀ k, F1 k → ¬ G k := fun k hk hG => by
      rcases hF1 k hk with h | h
      · exact HFG.out k h hG
      · have := HH.out.glt k hG
        omega
    have hfw : Fr F w W4 := ((Fr.drew (fun _ => False) w).mono (T := F) fun _ h => h.elim).trans hf1 (fun _ h => .inl h)
    clear hf1 hG1
    generalize hs1 : (s.append rec).1 = s1 at *
    generalize he1 : (s.append rec).2 = e1 at *
    by_cases h1 : e1 = 0
    · subst h1
      have HJ2 := Lib.hid (show JS.write ⟨s, rs, last, false⟩ d = if s1.sync.2 ≠ 0 then (⟨s1.sync.1, rs, last, s1.sync.2 == 90⟩, s1.sync.2) else (⟨s1.sync.1, rs ++ [d], Jrn.link last d, false⟩, 0) by rw [HJ.out, if_neg (by simp)])
      have c0' := hJ4.c0
      have HJ4 := Lib.hid hJ4
      have HS1 := Lib.hid hS1
      have HF1 := Lib.hid hF1
      have HFG1 := Lib.hid hFG1
      have HFW := Lib.hid hfw
      clear hJ4 hS1 hF1 hFG1 hfw HJ hc34
      go_wp2_with fail
      refine (slab_Sync_all HS1.out).mono ?_
      rintro e w5 ⟨rfl, hS5, hf5⟩
      clear c0'
      have hJ5 : JAt w5 G q p rs last false A c ps := HJ4.out.fr hf5 (fun k hG hF => HFG1.out k hF hG)
      have hfw5 : Fr (fun k => F k ∨ w.heap.size ≤ k) w w5 := (HFW.out.mono (T := fun k => F k ∨ w.heap.size ≤ k) fun _ h => .inl (.inl h)).trans hf5 (fun k hk => .inl (HF1.out k hk))
      generalize hs2 : s1.sync.1 = s2 at *
      generalize he2 : s1.sync.2 = e2 at *
      by_cases h2 : e2 = 0
      · subst h2
        have HJ3 := Lib.hid (show JS.write ⟨s, rs, last, false⟩ d = (⟨s2, rs ++ [d], Jrn.link last d, false⟩, 0) by rw [HJ2.out, if_neg (by simp)])
        obtain ⟨U0, hU0⟩ : ∃ U0, U0 = w5.drew := ⟨_, rfl⟩
        have hdw : Rd U0 A0 (d.map bv) := hU0 ▸ (HD.out.fr' hfw5 (fun h0 k hk e => by
          have h1 := HDF.out (by simpa using h0) k hk
          rcases e with e | e
          · exact h1.1 e
          · have := HD.out.lt h0 k hk
            omega)).fr (Fr.drew (fun _ => False) w5) (fun _ _ => id)
        obtain ⟨A4, c4, wA, hrunA, hRA, hNA⟩ := copy_run U0 U0 (Fr.refl _ _) A0 c0 d hdw (by omega)
        obtain ⟨A5, c5, wB, hrunB, hcB, hzB, hfB, hJB⟩ := (show JAt U0 G q p rs last false A c ps from hU0 ▸ hJ5.new (Fr.drew _ w5)).more hRA hrl
        have HN1 := Lib.hid (show New U0 (U0.alloc (.cells #[] 5)) from Fr.alloc _ _ _)
        have HN2 := Lib.hid hNA
        have HN3 := Lib.hid (hNA.then_alloc (.cells #[.slice A4 d.length c4] 22))
        have HJD := Lib.hid (show JAt U0 G q p rs last false A c ps from hU0 ▸ hJ5.new (Fr.drew _ w5))
        have HU0 := Lib.hid hU0
        have HDW := Lib.hid hdw
        have HJ6 := Lib.hid hJB
        have HFR6 := Lib.hid hfB
        have HS5 := Lib.hid hS5
        have HF5 := Lib.hid hfw5
        clear hU0 hJ5 hfw5 hdw hRA hNA hfB hJB hS5 hf5 HJ4 HJ2
        go_upto_region 11 with fail
        refine wp_region_all (by kernel_rfl) (by kernel_rfl) [.pointer (some ⟨q, 0, none⟩), .pointer (some ⟨q, 0, none⟩), .pointer (some ⟨q, 0, none⟩), .pointer (some ⟨q, 1, none⟩), .slice A ps.length c, .slice (some ⟨U0.heap.size, 0, none⟩) 0 0, .slice A0 d.length c0, .slice A4 d.length c4, .slice (some ⟨wA.heap.size, 0, none⟩) 1 1, .slice A5 (ps.length + 1) c5, .pointer (some ⟨q, 0, none⟩), .pointer (some ⟨q, 1, none⟩), undef]
          (by kernel_rfl) (MoreAt U0 (U0.alloc (.cells #[] 5)) wA (wA.alloc (.cells #[.slice A4 d.length c4] 22)) wB (wB.setCell ⟨q, 1, none⟩ (.slice A5 (ps.length + 1) c5))) _ (by simp [putAll, Act.put]; rfl) (by rw [← HU0.out]; exact MoreAt.zero _ _ _ _ _ _) ?hops ?after
        case hops =>
          refine ⟨?_, ?_, ?_, ?_, ?_, ?_, ?_, ?_, ?_, ?_, ?_, ?_, ?_, trivial⟩
          all_goals
            rintro L W' hz hd hn HSM
            refine held_plain rfl ?_
          · have H2 := HSM.list 0 (by decide) (by decide) (by decide) (by decide) (by decide)
            clear hd hn hz HSM
            unfold opHeld
            go_simp
          · have H2 := HSM.list 1 (by decide) (by decide) (by decide) (by decide) (by decide)
            clear hd hn hz HSM
            unfold opHeld
            go_simp
          · have H2 := HSM.list 2 (by decide) (by decide) (by decide) (by decide) (by decide)
            clear hd hn hz HSM
            unfold opHeld
            go_simp
          · have H2 := HSM.list 3 (by decide) (by decide) (by decide) (by decide) (by decide)
            clear hd hn hz HSM
            unfold opHeld
            go_simp
          · have hN := HSM.early (getD_no (by rw [hz]; decide) hn) HN1.out HN2.out HN3.out
            have c1' := (HJD.out.new hN).c1
            have H2 := HSM.list 4 (by decide) (by decide) (by decide) (by decide) (by decide)
            clear hd hn hz HSM hN
            unfold opHeld
            go_simp
          · obtain ⟨hW, H2⟩ := HSM.at5 hz (getD_no (by rw [hz]; decide) hn)
            clear HSM hd hn hz
            subst hW
            unfold opHeld
            go_simp
          · have H2 := HSM.list 6 (by decide) (by decide) (by decide) (by decide) (by decide)
            clear hd hn hz HSM
            unfold opHeld
            go_simp
          · obtain ⟨hW, H2⟩ := HSM.at7 hz (getD_no (by rw [hz]; decide) hn) (hd ⟨5, .data⟩ (by simp) rfl)
            clear HSM hd hn hz
            subst hW
            exact held_value (exec_app rfl rfl rfl hrunA) H2
          · obtain ⟨hW, H2⟩ := HSM.at8 hz (getD_no (by rw [hz]; decide) hn) (hd ⟨7, .data⟩ (by simp) rfl)
            clear HSM hd hn hz
            subst hW
            unfold opHeld
            go_simp
          · obtain ⟨hW, H2⟩ := HSM.at9 hz (getD_no (by rw [hz]; decide) hn) (hd ⟨8, .data⟩ (by simp) rfl) (hd ⟨4, .data⟩ (by simp) rfl)
            clear HSM hd hn hz
            subst hW
            exact held_value (exec_app rfl rfl rfl hrunB) H2
          · have H2 := HSM.list 10 (by decide) (by decide) (by decide) (by decide) (by decide)
            clear hd hn hz HSM
            unfold opHeld
            go_simp
          · have H2 := HSM.list 11 (by decide) (by decide) (by decide) (by decide) (by decide)
            clear hd hn hz HSM
            unfold opHeld
            go_simp
          · obtain ⟨hW, H2⟩ := HSM.at12 hz (getD_no (by rw [hz]; decide) hn) (hd ⟨9, .data⟩ (by simp) rfl)
            clear HSM hd hn hz
            subst hW
            unfold opHeld
            go_simp
        case after =>
          rintro L W' hz hal HSM
          have hW := HSM.last hz hal
          clear HSM hz hal
          subst hW
          have hJ6 := HJ6.out
          have hq6 := hJ6.blk.lt
          have hfr6 := HFR6.out
          obtain ⟨W6, hW6⟩ : ∃ W6, W6 = wB.setCell ⟨q, 1, none⟩ (.slice A5 (ps.length + 1) c5) := ⟨_, rfl⟩
          rw [← hW6] at hJ6 hfr6 hq6 ⊢
          have hdr6 : Rd W6 A0 (d.map bv) := HDW.out.fr' hfr6 (fun h0 k hk hG => (HDF.out (by simpa using h0) k hk).2 hG)
          have HJ6' := Lib.hid hJ6
          have HFR6' := Lib.hid hfr6
          have HL6 := Lib.hid hJ6.at2
          have hcl := link_any W6 last HH.out.len A0 c0 d hdr6 (by omega)
          have hKL : (Jrn.link last d).length = 32 := rfl
          generalize hK : Jrn.link last d = K at *
          have HCL := Lib.hid hcl
          have HKL := Lib.hid hKL
          have HKS := Lib.hid (show (ida K).size = 32 by rw [ida_size, hKL])
          clear hW6 hJ6 hfr6 hq6 hdr6 hcl hKL hrunA hrunB hcB hzB HJ6 HFR6 HJD HN1 HN2 HN3
          go_wp2_with (refine x_value (exec_load (T := 60) (X := ida last) (g := q) (off := 2) rfl rfl underID rfl hii (hz1.trans HLI.out) HL6.out) (by simp [go_sem, Region.wanted]) ?_)
          refine HCL.out.mono ?_
          rintro e w7 ⟨rfl, hN7⟩
          have hJ7 := HJ6'.out.new hN7
          have HB7 := Lib.hid hJ7.blk
          have HJ7 := Lib.hid hJ7
          have HN7 := Lib.hid hN7
          have HZ7 := Lib.hid (show (jc p A5 (ps ++ [(⟨A4, c4, d⟩ : Part)]).length c5 last false).size = 35 from jc_size _ _ _ _ _ _ HH.out.len)
          have HP7 := Lib.hid (jc_last p A5 (ps ++ [(⟨A4, c4, d⟩ : Part)]).length c5 last K false HH.out.len HKL.out)
          clear hJ7 hN7 HCL HL6
          go_wp2_with (refine x_skip (exec_store (T := 60) (X := ida K) (g := q) (off := 2) rfl rfl rfl hii (hz1.trans HKS.out.symm) (ida_one _) HB7.out (by rw [HZ7.out, HKS.out]; omega)) rfl ?_; rw [HP7.out])
          go_ret
          rw [HJ3.out]
          have hsz : U0.heap.size = w5.heap.size := by rw [HU0.out]; rfl
          have hll : (ps ++ [(⟨A4, c4, d⟩ : Part)]).length = ps.length + 1 := by simp
          have hfin := HJ7.out.setLast K HKL.out
          rw [hll] at hfin
          have hq7 : Fr (fun k => k = q) w7 (w7.setRow q (jc p A5 (ps.length + 1) c5 K false)) := (Fr.refl (fun k => k = q) w7).setRow (g := q) rfl _
          have hw5 := HF5.out.size
          refine ⟨rfl, F1, Grown U0 wB G, A5, c5, ps ++ [⟨A4, c4, d⟩], ?_, hfin, HF1.out, fun k hk => ?_, fun k hk hg => ?_, ?_⟩
          · exact (((((HS5.out.fr (Fr.drew (fun _ => False) w5) (fun _ _ => id)) |> fun h => (HU0.out ▸ h : SlabAt U0 F1 p s2)).fr HFR6'.out (fun k hk hG => HFG1.out k hk hG)).fr HN7.out (fun _ _ => id)).fr hq7 (fun k hk e => HFG1.out k hk (e ▸ HH.out.gq)))
          · rcases hk with h | h
            · exact .inl h
            · exact .inr (by omega)
          · rcases hg with h | h
            · exact HFG1.out k hk h
            · have := HS5.out.lt k hk
              omega
          · have f1 : Fr (fun k => F k ∨ G k) w U0 := HU0.out ▸ (HF5.out.mono (T := fun k => F k ∨ G k) fun _ h => h.elim (fun h => .inl (.inl h)) .inr).trans (Fr.drew (fun _ => False) w5) (fun _ h => h.elim)
            exact ((f1.trans HFR6'.out (fun _ h => .inl (.inr h))).trans HN7.out (fun _ h => h.elim)).trans hq7 (fun k hk => .inl (.inr (hk ▸ HH.out.gq)))
      · have HJ3 := Lib.hid (show JS.write ⟨s, rs, last, false⟩ d = (⟨s2, rs, last, e2 == 90⟩, e2) by rw [HJ2.out, if_pos h2])
        have hq1 : (e2 == 0) = false := by simpa using h2
        have hq2 : (e2 != 0) = true := by simpa using h2
        have c34 := hJ5.c34
        have f34 := hJ5.blk.frozen 34
        have HJ5 := Lib.hid hJ5
        have HS5 := Lib.hid hS5
        have HF5 := Lib.hid hf5
        clear hJ5 hS5 hf5 hfw5 h2
        go_wp2_with fail
        go_ret
        rw [HJ3.out]
        refine ⟨rfl, F1, G, A, c, ps, HS5.out.fr (Fr.setCell (S := fun k => k = q) w5 rfl _) (fun k hk e => HFG1.out k hk (e ▸ HJ5.out.gq)), HJ5.out.setDown _, HF1.out, Gr.refl _ _, HFG1.out, ?_⟩
        exact (((HFW.out.mono (T := fun k => F k ∨ G k) fun _ h => .inl (.inl h)).trans HF5.out (fun k hk => (HF1.out k hk).elim (fun h => .inl (.inl h)) .inr)).trans (Fr.setCell (S := fun k => k = q) w5 rfl _) (fun k hk => .inl (.inr (hk ▸ HJ5.out.gq))))
    · have HJ2 := Lib.hid (show JS.write ⟨s, rs, last, false⟩ d = (⟨s1, rs, last, e1 == 90⟩, e1) by rw [HJ.out, if_pos h1])
      have hq1 : (e1 == 0) = false := by simpa using h1
      have hq2 : (e1 != 0) = true := by simpa using h1
      have c34 := hJ4.c34
      have f34 := hJ4.blk.frozen 34
      have HJ4 := Lib.hid hJ4
      have HS1 := Lib.hid hS1
      have HF1 := Lib.hid hF1
      have HFG1 := Lib.hid hFG1
      have HFW := Lib.hid hfw
      clear hJ4 hS1 hF1 hFG1 hfw HJ hc34 h1
      go_wp2_with fail
      go_ret
      rw [HJ2.out]
      refine ⟨rfl, F1, G, A, c, ps, HS1.out.fr (Fr.setCell (S := fun k => k = q) W4 rfl _) (fun k hk e => HFG1.out k hk (e ▸ HJ4.out.gq)), HJ4.out.setDown _, HF1.out, Gr.refl _ _, HFG1.out, ?_⟩
      exact (HFW.out.mono (T := fun k => F k ∨ G k) fun _ h => .inl (.inl h)).trans (Fr.setCell (S := fun k => k = q) W4 rfl _) (fun k hk => .inl (.inr (hk ▸ HJ4.out.gq)))
end Go.Proofs.Ytefalfalapnllaa
