/- The contract of the document's Of: the sum of a text. -/
import Derived.Test.YtefalfalapnllaaR1OA
import Derived.Test.YtefalfalapnllaaGen
namespace Go.Proofs.Ytefalfalapnllaa
open Go.RowKit Go.Shelf
set_option linter.unusedVariables false
attribute [local go_sem] v_s2 v_s3 v_s4 v_s5 v_s6 v_s7 v_not q_xor q_and q_or q_not q_s2 q_s3 q_s4 q_s5 q_s6 q_s7 q_m2 q_m4 q_m6 q_m7 q_d8 q_d1024
/-- a state after the first blocks -/
def stAt (F : List UInt8) (i : Nat) : Sha.St := ((List.range i).map (Sha.full F)).foldl Sha.take Sha.start
theorem stAt_succ (F : List UInt8) (i : Nat) : stAt F (i + 1) = Sha.take (stAt F i) (Sha.full F i) := by
  unfold stAt
  rw [List.range_succ, List.map_append, List.foldl_append]
  rfl
theorem sum_filled (s : List UInt8) : Sha.sum s = (stAt (Sha.filled s) ((Sha.filled s).length / 64)).bytes := by
  unfold Sha.sum stAt
  rw [Sha.blocks_filled]
theorem run_make64 (w : World) : (Instr.makeSlice 133 (.int .i64 64) (.int .i64 64)).run Try.prog w = .ok (.slice (some ⟨w.heap.size, 0, none⟩) 64 64) (w.alloc (.cells z64u 135)) := by kernel_rfl
attribute [local go_sem] run_make64
set_option maxHeartbeats 4000000 in
set_option maxRecDepth 100000 in
theorem r1of_any (w : World) (s : List UInt8) (hl : s.length ≤ 140737488355000) :
    Calls Try.prog 62 #[.string ⟨s.toArray⟩] w fun e w' => e = .returned (.agg (ida (Sha.sum s))) ∧ New w w' := by
  obtain ⟨ii, hii, hz0, hz1, hz2⟩ := info_parts infoID
  have hfl := Sha.filled_length s
  have hpl := Sha.padN_lt s.length
  have hsum := sum_filled s
  have hF64 : (Sha.filled s).length = 64 * ((Sha.filled s).length / 64) := by
    unfold Sha.padN at hfl
    omega
  have hfil := filled_any (w.alloc (.cells (ida z32) 60)) s hl
  generalize Sha.filled s = F at *
  generalize hN : F.length / 64 = N at *
  have HSUM := Lib.hid hsum
  have HF64 := Lib.hid hF64
  have HFL := Lib.hid (show F.length < 200000000000000 by omega)
  have HFIL := Lib.hid hfil
  clear hfl hpl hsum hF64 hl hN hfil
  go_enter Try.func62, Try.ntmps62
  go_wp2_with (first
    | (refine x_value (x_alloc (T := 60) rfl hii hz0) (by simp [go_sem, Region.wanted, yielded]) ?_)
    | (go_at_call 66; refine HFIL.out.mono ?_; rintro e w2 ⟨rfl, hN2⟩)
    | (go_at_call 67; refine (parts_any w2).mono ?_; rintro e w3 ⟨rfl, rfl⟩))
  have hN3 : New w w2 := (Fr.alloc _ w _).trans hN2 fun _ h => h.elim
  have hR2 : Blk w2 w.heap.size 60 (ida z32) := (Blk.new w 60 (ida z32)).fr hN2 id
  rw [← wl_start]
  have hR4 := (hR2.alloc (.cells (wl Sha.kTab) 135)).alloc (.cells (wl (lst Sha.start)) 135)
  have hK4 := (Blk.new w2 135 (wl Sha.kTab)).alloc (.cells (wl (lst Sha.start)) 135)
  have hH4 := Blk.new (w2.alloc (.cells (wl Sha.kTab) 135)) 135 (wl (lst Sha.start))
  have hN4 := (hN3.then_alloc (.cells (wl Sha.kTab) 135)).then_alloc (.cells (wl (lst Sha.start)) 135)
  have hrw : w.heap.size < w2.heap.size := hR2.lt
  rw [World.size_alloc] at hH4
  have hs4 : ((w2.alloc (.cells (wl Sha.kTab) 135)).alloc (.cells (wl (lst Sha.start)) 135)).heap.size = w2.heap.size + 2 := by simp
  clear hN2 hN3 hR2 HFIL
  generalize (w2.alloc (.cells (wl Sha.kTab) 135)).alloc (.cells (wl (lst Sha.start)) 135) = w4 at *
  obtain ⟨hb, hhb⟩ : ∃ hb, hb = w2.heap.size + 1 := ⟨_, rfl⟩
  have HHB := Lib.hid hhb
  rw [← hhb] at hH4 ⊢
  clear hhb
  have hH4' : Blk w4 hb 135 (wl (lst (stAt F 0))) := hH4
  go_loopw [7] (fun at_ W => ∃ i : Nat, at_ = .int .i64 (64 * (i : Int)) ∧ i ≤ N ∧ Blk W hb 135 (wl (lst (stAt F i))) ∧ Fr (fun j => j = hb) w4 W) (fun at_ _ => 64 * N - (intOf at_).toNat)
  case atStart => exact ⟨0, rfl, by omega, hH4', Fr.refl _ _⟩
  case round =>
    obtain ⟨i, rfl, hi, hH, hf⟩ := hrel
    clear hH4 hH4'
    have hfl := HF64.out
    by_cases hlt : i < N
    · have hlt2 : decide (64 * (i : Int) < (F.length : Int)) = true := by rw [decide_eq_true_eq]; omega
      have HL := Lib.hid hlt
      clear hfl hlt
      go_upto_block 2 with fail
      rw [← wl_none (Sha.full F i)]
      have hK5 := (hK4.fr hf (by have := HHB.out; omega)).alloc (.cells (wl (made (Sha.full F i) 0)) 135)
      have hH5 := hH.alloc (.cells (wl (made (Sha.full F i) 0)) 135)
      have hw5 := Blk.new wr 135 (wl (made (Sha.full F i) 0))
      have hf5 := hf.trans (Fr.alloc (fun _ => False) wr (.cells (wl (made (Sha.full F i) 0)) 135)) (fun _ h => h.elim)
      have hgh : hb < wr.heap.size := hH.lt
      have hg4 : w4.heap.size ≤ wr.heap.size := hf.size
      have hgk : w2.heap.size < hb := by have := HHB.out; omega
      have hsu := stAt_succ F i
      have hbl : (Sha.full F i).length = 64 := Sha.full_length F i (by have := HF64.out; have := HL.out; omega)
      have hbg : ∀ j, j < 64 → F[64 * i + j]? = some ((Sha.full F i).getD j 0) := fun j hj => by
        have h1 : (Sha.full F i)[j]? = F[64 * i + j]? := by
          unfold Sha.full
          rw [List.getElem?_take_of_lt hj, List.getElem?_drop]
        rw [← h1, List.getD_eq_getElem?_getD, List.getElem?_eq_getElem (by rw [hbl]; exact hj)]
        rfl
      have HSU := Lib.hid hsu
      have HBL := Lib.hid hbl
      have HBG := Lib.hid hbg
      clear hK4 hH hf hsu hbl hbg hR4 hN4
      generalize wr.alloc (.cells (wl (made (Sha.full F i) 0)) 135) = w5 at *
      generalize hgw : wr.heap.size = gw at *
      clear hgw
      generalize Sha.full F i = blk at *
      refine of_words (c := _) ?hc2 gw i F blk w5 HFL HBG hw5 _ _ _ _ _ _ _ _ _ _ _ _ _ _ _ _ _ _ _ _ _ _ _ _ _ _ _ _ _ _ _ _ _ _ _ _ _ _ _ _ _ _ _ _ _ _ _ _ _ _ _ _ _ _ _ _ _ _ _ _ _ _ _ _ _ _ _ _ _ _ _ _ _ _ _ _ _ _ _ _ _ _ _ _ _ _ _ _ _ _ _ _ _ _ _ _ _ _ _ _ _ _ _ _ _ _ _ _ _ _ _ _ _ _ _ _ _ _ _ _ _ _ _ _ _ _ _ _ _ _ _ _ _ _ _ _ _ _ _ _ _ _ _ _ _ _ _ _ _ _ _ _ _ _ _ _ _ _ _ _ _ _ _ _ _ _ _ _ _ _ _ _ _ _ _ _ _ _ _ _ _ _ _ _ _ _ _ _ _ _ _ _ _ _ _ _ _ _ _ _ _ _ _ _ _ _ _ _ _ _ _ _ _ _ _ _ _ _ _ _ _ _ _ _ _ _ _ _ _ _ _ _ _ _ _ _ _ _ _ _ _ _ _ _ _ _ _ _ _ _ _ _ _ _ _ _ _ _ _ _ _ _ _ _ _ _ _ _ ?_
      case hc2 => kernel_rfl
      clear hw5
      intro p9 p10 p11 p12 p13 p14 p35 p36 p37 p38 p39 p40 p41 p42 p43 p44 p45 p46 p47 p48 p49 p50 p51 p52 p53 p54 p55 p56 p57 p58 p59 p60 p61 p62 p63 p64 p65 p66 p67 p68 p69 p70 p71 p72 p73 p74 p75 p76 p77 p78 p79 p80 p81 p82 p83 p84 p85 p86 p87 p88 p89 p90 p91 p92 p93 p94 p95 p96 p97 p98 p99 p100 p101 p102 p103 p104 p105 p106 p107 p108 wr hw hf
      have hH6 : Blk wr hb 135 (wl (lst (stAt F i))) := hH5.fr hf (by omega)
      have hK6 : Blk wr w2.heap.size 135 (wl Sha.kTab) := hK5.fr hf (by omega)
      have hf6 : Fr (fun j => j = hb) w4 wr := hf5.trans hf (fun x hx => .inr (by omega))
      have hgw : gw < wr.heap.size := hw.lt
      have HSU2 := Lib.hid (show stAt F (i + 1) = (stAt F i).plus (Sha.rounds blk (stAt F i) 64) from HSU.out)
      clear hH5 hK5 hf5 hf HSU HBG hg4 HBL hs4
      generalize stAt F i = st at *
      obtain ⟨gv0, c0, w6, hrun, hv0, hg0, hN6⟩ := append_words wr hb st hH6
      go_upto_block 6 with (first | (at_builtin; refine wpList_append_run hrun rfl rfl _ _ rfl rfl rfl ?_))
      have hH7 := hH6.fr hN6 id
      have hK7 := hK6.fr hN6 id
      have hw7 := hw.fr hN6 id
      have hf7 := hf6.trans hN6 (fun _ h => h.elim)
      have hs6 := hN6.size
      clear hrun hH6 hK6 hw hf6
      refine of_rounds (c := _) ?hc6 gw w2.heap.size gv0 c0 wr.heap.size blk st w6 hK7 hw7 hv0 hg0 hs6 _ _ _ _ _ _ _ _ _ _ _ _ _ _ _ _ _ _ _ _ _ _ _ _ _ _ _ _ _ _ _ _ _ _ _ _ _ _ _ _ _ _ _ _ _ _ _ _ _ _ _ _ _ _ _ _ _ _ _ _ _ _ _ _ _ _ _ _ _ _ _ _ _ _ _ _ _ _ _ _ _ _ _ _ _ _ _ _ _ _ _ _ _ _ _ _ _ _ _ _ _ _ _ _ _ _ _ _ _ _ _ _ _ _ _ _ _ _ _ _ _ _ _ _ _ _ _ _ _ _ _ _ _ _ _ _ _ _ _ _ _ _ _ _ _ _ _ _ _ _ _ _ _ _ _ _ _ _ _ _ _ _ _ _ _ _ _ _ _ _ _ _ _ _ _ _ _ _ _ _ _ _ _ _ _ _ _ _ _ _ _ _ _ _ _ _ _ _ _ _ _ _ _ _ _ _ _ _ _ _ _ _ _ _ _ _ _ _ _ _ _ _ _ _ _ _ _ _ _ _ _ _ _ _ _ _ _ _ _ _ _ _ _ _ _ _ _ _ _ _ _ _ _ _ _ _ _ _ _ _ _ _ _ _ _ _ _ _ ?_
      case hc6 => kernel_rfl
      clear hv0 hg0 hK7 hw7
      intro g cc q16 q17 q18 q19 q20 q112 q113 q114 q115 q116 q117 q118 q119 q120 q121 q122 q123 q124 q125 q126 q127 q128 q129 q130 q131 q132 q133 q134 q135 q136 q137 q138 q139 q140 q141 q142 q143 q144 q145 q146 q147 q148 q149 q150 q151 q152 q153 q154 q155 q156 q157 q158 q159 q160 q161 q162 q163 q164 q165 q166 q167 q168 q169 q170 q171 q172 q173 q174 q175 q176 q177 q178 q179 q180 q181 q182 q183 q184 q185 q186 q187 q188 q189 q190 q191 q192 q193 q194 q195 q196 q197 q198 q199 q200 q201 q202 q203 q204 q205 q206 q207 q208 q209 q210 q211 q212 q213 q214 q215 q216 q217 q218 q219 q220 q221 q222 q223 q224 q225 q226 q227 q228 q229 q230 q231 q232 q233 w7 hv hg hNr
      have hH8 : Blk w7 hb 135 (wl (mix st (Sha.rounds blk st 64) 0)) := hH7.fr hNr id
      have hf8 : Fr (fun j => j = hb) w4 w7 := hf7.trans hNr fun _ h => h.elim
      have hend : st.plus (Sha.rounds blk st 64) = stAt F (i + 1) := HSU2.out.symm
      have HEND := Lib.hid hend
      clear hend hH7 hf7 HSU2 hNr hN6
      generalize Sha.rounds blk st 64 = v at *
      go_upto_block 8 with fail
      refine of_adding (c := _) ?hc8 hb g cc st v w7 hH8 hv (by omega) _ _ _ _ _ _ _ _ _ _ _ _ _ _ _ _ _ _ _ _ _ _ _ _ _ _ _ _ _ _ _ _ _ _ _ _ _ _ _ _ _ _ _ _ _ _ _ _ _ _ _ _ _ _ _ _ _ _ _ _ _ _ _ _ _ _ _ _ _ _ _ _ _ _ _ _ _ _ _ _ _ _ _ _ _ _ _ _ _ _ _ _ _ _ _ _ _ _ _ _ _ _ _ _ _ _ _ _ _ _ _ _ _ _ _ _ _ _ _ _ _ _ _ _ _ _ _ _ _ _ _ _ _ _ _ _ _ _ _ _ _ _ _ _ _ _ _ _ _ _ _ _ _ _ _ _ _ _ _ _ _ _ _ _ _ _ _ _ _ _ _ _ _ _ _ _ _ _ _ _ _ _ _ _ _ _ _ _ _ _ _ _ _ _ _ _ _ _ _ _ _ _ _ _ _ _ _ _ _ _ _ _ _ _ _ _ _ _ _ _ _ _ _ _ _ _ _ _ _ _ _ _ _ _ _ _ _ _ _ _ _ _ _ _ _ _ _ _ _ _ _ _ _ _ _ _ _ _ _ _ _ _ _ _ _ _ _ _ _ ?_
      case hc8 => kernel_rfl
      clear hH8 hv
      intro r21 r234 r235 r236 r237 r238 r239 r240 r241 r242 r243 r244 r245 r246 r247 r248 r249 r250 r251 w8 hx hf
      rw [HEND.out] at hx
      have hfin := hf8.trans hf (fun _ h => .inl h)
      clear hf hf8
      have m64 : IntKind.i64.wrap (64 * (i : Int) + 64) = 64 * ((i + 1 : Nat) : Int) := by
        rw [IntWalk.i64_in _ (by have := HF64.out; have := HFL.out; have := HL.out; omega)]
        omega
      go_wp2_with fail
      have hiN := HL.out
      refine ⟨⟨i + 1, by rfl, by omega, hx, hfin⟩, ?_⟩
      simp only [intOf]
      omega
    · obtain rfl : i = N := by omega
      have hlt2 : decide (64 * (i : Int) < (F.length : Int)) = false := by rw [decide_eq_false_iff_not]; omega
      clear hfl hlt hi
      go_wp2_with (first
        | (refine x_value (x_alloc (T := 60) rfl hii hz0) (by simp [go_sem, Region.wanted, yielded]) ?_)
        | (refine x_value (x_build0 (T := 60) (Z := ida z32) rfl hii hz0 underID (fun w => by kernel_rfl)) (by simp [go_sem, Region.wanted, yielded]) ?_)
        | (refine x_skip (exec_store_new (T := 60) (X := ida z32) (Z := ida z32) rfl rfl rfl rfl hii (hz1.trans x_sl32) (ida_one _) rfl) rfl ?_))
      have hf' := hf
      have hr0 := hR4.fr hf (by have := HHB.out; omega)
      have hNw := hN4.trans hf (fun j hj => .inr (by have := HHB.out; omega))
      have hgh : hb < wr.heap.size := hH.lt
      have hrh : w.heap.size < hb := by have := HHB.out; omega
      have hr1 := hr0.alloc (.cells (ida z32) 60)
      have hs1 := hH.alloc (.cells (ida z32) 60)
      have hi1 : Blk (wr.alloc (.cells (ida z32) 60)) wr.heap.size 60 (ida (idAt (stAt F i).bytes 0)) := Blk.new _ _ _
      have hN1 := hNw.then_alloc (.cells (ida z32) 60)
      clear hr0 hR4 hNw hN4 hf hf' hH hK4 hs4
      generalize wr.alloc (.cells (ida z32) 60) = W1 at *
      generalize hib : wr.heap.size = ib at *
      have hwib : w.heap.size < ib := by omega
      generalize stAt F i = st at *
      have HBL := Lib.hid (show st.bytes.length = 32 from rfl)
      have HG := Lib.hid (bytes_get st)
      clear hib
      go_loopw [23] (fun n V => ∃ k : Nat, n = .int .i64 k ∧ k ≤ 32 ∧ Blk V ib 60 (ida (idAt st.bytes k)) ∧ Fr (fun j => j = ib) W1 V) (fun n _ => 32 - (intOf n).toNat)
      case atStart => exact ⟨0, rfl, by omega, hi1, Fr.refl _ _⟩
      case round =>
        obtain ⟨k, rfl, hk, hL, hF⟩ := hrel
        clear hi1
        by_cases h32 : k < 32
        · obtain ⟨a, b, hka, ha, hb4⟩ : ∃ a b : Nat, k = 4 * a + b ∧ a < 8 ∧ b < 4 := ⟨k / 4, k % 4, by omega, by omega, by omega⟩
          have hq : ((k : Int) / 4) = (a : Int) := by omega
          have hm : ((k : Int) % 4) = (b : Int) := by omega
          have hsg := wl_cell (hs1.fr hF (by omega)) (j := a) (by simp [lst]; omega)
          have hget := HG.out a b ha hb4
          rw [← hka] at hget
          generalize (lst st).getD a 0 = x at *
          have hst := ida_set' hL k (wbyte x b)
          rw [idAt_set _ _ _ HBL.out hget] at hst
          have hft := hF.then_set (p := ⟨ib, k, none⟩) rfl (bv (wbyte x b))
          have hc := ida_cell hL (j := k) (by rw [idAt_length _ _ HBL.out hk]; exact h32)
          have hfz := hL.frozen k
          have hk32 : (k : Int) < 32 := by omega
          have ha8 : (a : Int) < 8 := by omega
          have HN := Lib.hid (show Blk (wr.setCell ⟨ib, k, none⟩ (bv (wbyte x b))) ib 60 (ida (idAt st.bytes (k + 1))) ∧ Fr (fun j => j = ib) W1 (wr.setCell ⟨ib, k, none⟩ (bv (wbyte x b))) from ⟨hst, hft⟩)
          have hbw : ((wbyte x b).toNat : Int) % 256 = ((wbyte x b).toNat : Int) := by have := UInt8.toNat_lt (wbyte x b); omega
          clear hst hft hL hF hs1 hget hka hr1 hN1
          obtain rfl | rfl | rfl | rfl : b = 0 ∨ b = 1 ∨ b = 2 ∨ b = 3 := by omega
          all_goals
            go_wp2_with fail
            refine ⟨⟨k + 1, by rfl, by omega, ?_⟩, ?_⟩
            · first
                | rw [show Value.int .u8 ((x.toNat : Int) / 16777216 % 256) = bv (wbyte x 0) from wbyte_v x 0 16777216 (by decide)]
                | rw [wb1]
                | rw [wb2]
                | rw [wb3]
              exact HN.out
            · change 32 - (intOf (.int .i64 ((k : Int) + 1))).toNat < 32 - (intOf (.int .i64 k)).toNat
              simp [intOf]
              omega
        · obtain rfl : k = 32 := by omega
          clear h32 hk
          have hid : idAt st.bytes 32 = st.bytes := by unfold idAt; simp [Sha.St.bytes, Sha.wordB]
          rw [hid] at hL
          have hrF := hr1.fr hF (by omega)
          go_wp2_with (first
            | (refine x_value (exec_load (T := 60) (X := ida st.bytes) (g := ib) (off := 0) rfl rfl underID rfl hii (hz1.trans rfl) hL.at') (by simp [go_sem, Region.wanted]) ?_)
            | (refine x_skip (exec_store_all (T := 60) (X := ida st.bytes) (g := w.heap.size) (cs := ida z32) rfl rfl rfl hii (hz1.trans rfl) (ida_one _) hrF rfl) rfl ?_))
          refine bodyPost_ret (x_results rfl rfl rfl (hrF.setRow _)) rfl ⟨by rw [HSUM.out], ?_⟩
          exact (hN1.trans hF (fun j hj => .inr (by omega))).trans ((Fr.refl (fun k => k = w.heap.size) wr).setRow (g := w.heap.size) rfl _) (fun j hj => .inr (by omega))
end Go.Proofs.Ytefalfalapnllaa
