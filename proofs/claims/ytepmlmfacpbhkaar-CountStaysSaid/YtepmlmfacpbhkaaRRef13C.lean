/- The document's answer for votes: Sure, Ahead. -/
import Derived.Test.YtepmlmfacpbhkaaRRef13B
namespace Go.Proofs.YtepmlmfacpbhkaaR
open Go.RowKit Go.Shelf
set_option linter.unusedVariables false

/-- two byte arrays, held against each other: unlike -/
theorem exec_neq {P : Program} {o : Oper} {ev : Operand → Value} {w : World} {T e : TypeId} {m : Nat} {x y : Operand} {ty : TypeId} {a b : List UInt8} (ho : o.op = .binOp .neq T x y ty) (hx : ev x = .agg (ida a)) (hy : ev y = .agg (ida b))
    (ht : P.underlying T = some (.array m e)) (he : P.underlying e = some (.int .u8)) (hsz : ∀ w, (sizeOf e).run P w = .ok 1 w) (ha : a.length = m) (hb : b.length = m) (hg : P.eqGuardType P.depth T = false) :
    (execOp ev o).run P w = .ok (.value (.bool (a != b))) w := by
  have h1 : (binOp .eql T (.agg (ida a)) (.agg (ida b))).run P w = .ok (.bool (a == b)) w := run_eql_bytes (P := P) w T e m ht he hsz a b ha hb
  have h2 : (binOp .neq T (.agg (ida a)) (.agg (ida b))).run P w = .ok (.bool (a != b)) w := by
    simp only [binOp, Sem.run_bind] at h1 ⊢
    cases hq : (Op.equal T (.agg (ida a)) (.agg (ida b))).run P w with
    | ok v w' =>
      rw [hq] at h1
      simp at h1
      obtain ⟨rfl, rfl⟩ := h1
      simp [bne]
    | halt x w' =>
      rw [hq] at h1
      simp at h1
  unfold execOp
  simp [ho, hx, hy, eqGuard, hg, run_program, h2]
/-- a sum out of memory, and a bool -/
theorem idb_results {fn : Func} {w : World} {tmps : Array Value} {t s : Tmp} {b : Nat} {x : Cnt.Vid} {v : Value} (hr : fn.results = #[.cell t 32, .tmp s]) (hx : x.length = 32) (ht : tmps.getD t undef = .pointer (some ⟨b, 0, none⟩)) (hs : tmps.getD s undef = v) (hb : Blk w b 32 (ida x)) :
    (results fn tmps).run Try.prog w = .ok (.tuple #[.agg (ida x), v]) w := by
  obtain ⟨ii, hii, hz0, hz1, hz2⟩ := info_parts infoI
  have l6 := run_loadVar_agg (P := Try.prog) (T := 32) underI rfl hii (hz1.trans (by rw [ida_size]; exact hx.symm)) hb.at0
  rw [Array.getD_eq_getD_getElem?] at ht hs
  simp only [results, hr]
  simp [ht, hs, asAddr, l6]
/-- who is looked for -/
def isSure (n : Nat) (l : List Cnt.Vote) (r k : Int) (v : Cnt.Vote) : Bool := v.r == r && v.k == k && decide (Cnt.need n ≤ (Cnt.rfor l r k v.id : Int))
theorem rsure_drop (n : Nat) (l : List Cnt.Vote) (r k : Int) (j : Nat) (h : j < l.length) : (l.drop j).find? (isSure n l r k) = if isSure n l r k l[j] then some l[j] else (l.drop (j + 1)).find? (isSure n l r k) := by
  rw [List.drop_eq_getElem_cons h, List.find?_cons]
  split <;> simp_all

set_option maxHeartbeats 4000000 in
set_option maxRecDepth 20000 in
theorem rsure_any (w : World) (A : Option Addr) (c n : Nat) (l : List Cnt.Vote) (r k : Int) (h : VotesAt w A l) (hm : l.length ≤ maxLen) :
    Calls Try.prog 23 #[.int .i64 n, .slice A l.length c, .int .i64 r, .int .i64 k] w fun e w' => e = .returned (sureV (Cnt.rsure n l r k)) ∧ New w w' := by
  obtain ⟨ii, hii, hz0, hz1, hz2⟩ := info_parts infoI
  have hmm := hm
  unfold maxLen at hm
  have hf : -1 ≤ Cnt.faults n ∧ Cnt.faults n ≤ 2 := by unfold Cnt.faults; repeat (split <;> try omega)
  have hN : New w (w.alloc (.cells (ida Cnt.z) 32)) := Fr.alloc _ w _
  have hB := Blk.new w 32 (ida Cnt.z)
  go_enter Try.func23, Try.ntmps23
  go_wp2_with (refine wpList_value_w (exec_alloc_agg (T := 32) rfl hii hz0) (by simp [go_sem, Region.wanted, yielded]) ?_)
  obtain ⟨W1, hW1⟩ : ∃ W1, w.alloc (.cells (ida Cnt.z) 32) = W1 := ⟨_, rfl⟩
  obtain ⟨rb, hrb⟩ : ∃ xb, w.heap.size = xb := ⟨_, rfl⟩
  rw [hW1] at hN hB
  rw [hrb] at hB
  rw [hW1, hrb]
  have hrw : w.heap.size ≤ rb := by omega
  clear hW1 hrb
  go_loopw [10] (fun i0 W => ∃ j : Nat, i0 = .int .i64 j ∧ j ≤ l.length ∧ Cnt.rsure n l r k = ((l.drop j).find? (isSure n l r k)).map (·.id) ∧ Blk W rb 32 (ida Cnt.z) ∧ New w W) (fun i0 _ => l.length - (intOf i0).toNat)
  case atStart => exact ⟨0, rfl, by omega, rfl, hB, hN⟩
  case round =>
    obtain ⟨j, rfl, hj, hfi, hB, hN⟩ := hrel
    by_cases hlt : j < l.length
    · have h1 := h.fr hN (fun _ h => h.elim)
      have hVA := Lib.hid h1
      obtain ⟨b, off, rfl, hb, hc⟩ := h1.rd (by omega)
      obtain ⟨k0, k1, k2, hA⟩ := voteAt (hc j hlt)
      have hlt' : (j : Int) < (l.length : Int) := by omega
      have hl := h.len _ (List.getElem_mem hlt)
      have hd := rsure_drop n l r k j hlt
      have hor := Cnt.rfor l r k l[j].id
      have hcl : (Cnt.rfor l r k l[j].id : Int) ≤ l.length := by have := List.length_filter_le (fun v : Cnt.Vote => v.r == r && v.k == k && v.id == l[j].id) l; unfold Cnt.rfor; omega
      generalize l[j] = v at *
      have HF := Lib.hid (hfi.trans (by rw [hd]))
      have HL := Lib.hid hl
      have HV := Lib.hid (show 32 = (ida v.id).size by rw [ida_size]; exact hl.symm)
      have HZ := Lib.hid (show (ida Cnt.z).size = (ida v.id).size by rw [ida_size, ida_size, hl]; rfl)
      have HBN := Lib.hid (And.intro hB hN)
      clear hc hl k2 hd hfi hor hB hN h1
      by_cases q1 : v.r = r
      · by_cases q2 : v.k = k
        · by_cases q3 : Cnt.need n ≤ (Cnt.rfor l r k v.id : Int)
          · have e3 : isSure n l r k v = true := by simp [isSure, q1, q2, q3]
            have S1 := Lib.hid (show Cnt.rsure n l r k = some v.id by rw [HF.out, e3]; rfl)
            have q3' : 2 * Cnt.faults n + 1 ≤ (Cnt.rfor l r k v.id : Int) := q3
            subst q1 q2
            clear e3 q3
            go_wp2_with (first
              | (refine wpList_value_w (exec_load (T := 32) (X := ida v.id) rfl rfl underI rfl hii (hz1.trans HV.out) hA) (by simp [go_sem, Region.wanted, yielded]) ?_)
              | (go_at_call 26; refine (rfor_any _ _ c l v.r v.k v.id HL.out hVA.out hmm).mono ?_; rintro e w3 ⟨rfl, hN3⟩; have hB3 := HBN.out.1.fr hN3 id; have HN3 := Lib.hid hN3; have hA3 := hA.fr hN3 hb id; have hf3 := hB3.frozen 0; have k03 : w3.cell? ⟨b, off + j * 35, none⟩ = some (.int .i64 v.r) := (hN3.cell (p := ⟨b, off + j * 35, none⟩) hb id).trans k0; clear hN3)
              | (go_at_call 15; refine (rfaults_any n _).mono ?_; rintro e w4 ⟨rfl, rfl⟩)
              | (refine wpList_value_w (exec_load (T := 32) (X := ida v.id) rfl rfl underI rfl hii (hz1.trans HV.out) hA3) (by simp [go_sem, Region.wanted, yielded]) ?_)
              | (refine wpList_skip_w (exec_store_all (T := 32) (X := ida v.id) (cs := ida Cnt.z) rfl rfl rfl hii (hz1.trans HV.out) (ida_one _) hB3 HZ.out) rfl ?_))
            exact bodyPost_ret (idb_results rfl HL.out rfl rfl (hB3.setRow _)) rfl ⟨by rw [S1.out]; rfl, ((HBN.out.2.trans HN3.out (fun _ h => h.elim)).mono (T := fun j => w.heap.size ≤ j) fun _ h => h.elim).setRow (g := rb) hrw _ |>.mono fun j hj => .inr hj⟩
          · have e3 : isSure n l r k v = false := by simp [isSure, q3]
            have S1 := Lib.hid (show Cnt.rsure n l r k = ((l.drop (j + 1)).find? (isSure n l r k)).map (·.id) by rw [HF.out, e3]; rfl)
            have q3' : decide (2 * Cnt.faults n + 1 ≤ (Cnt.rfor l r k v.id : Int)) = false := by have : ¬ 2 * Cnt.faults n + 1 ≤ (Cnt.rfor l r k v.id : Int) := q3; simpa using this
            subst q1 q2
            clear e3 q3
            go_wp2_with (first
              | (refine wpList_value_w (exec_load (T := 32) (X := ida v.id) rfl rfl underI rfl hii (hz1.trans HV.out) hA) (by simp [go_sem, Region.wanted, yielded]) ?_)
              | (go_at_call 26; refine (rfor_any _ _ c l v.r v.k v.id HL.out hVA.out hmm).mono ?_; rintro e w3 ⟨rfl, hN3⟩; have HN3 := Lib.hid hN3; clear hN3)
              | (go_at_call 15; refine (rfaults_any n _).mono ?_; rintro e w4 ⟨rfl, rfl⟩))
            go_roundw
            case rel => exact ⟨j + 1, by go_num, by omega, S1.out, HBN.out.1.fr HN3.out id, HBN.out.2.trans HN3.out (fun _ h => h.elim)⟩
            case measure => simp [intOf]; omega
        · have d2 : (v.k == k) = false := by simpa using q2
          have e3 : isSure n l r k v = false := by simp [isSure, d2]
          have S1 := Lib.hid (show Cnt.rsure n l r k = ((l.drop (j + 1)).find? (isSure n l r k)).map (·.id) by rw [HF.out, e3]; rfl)
          subst q1
          clear e3
          go_wp2
          go_roundw
          case rel => exact ⟨j + 1, by go_num, by omega, S1.out, HBN.out.1, HBN.out.2⟩
          case measure => simp [intOf]; omega
      · have d1 : (v.r == r) = false := by simpa using q1
        have e3 : isSure n l r k v = false := by simp [isSure, d1]
        have S1 := Lib.hid (show Cnt.rsure n l r k = ((l.drop (j + 1)).find? (isSure n l r k)).map (·.id) by rw [HF.out, e3]; rfl)
        clear e3
        go_wp2
        go_roundw
        case rel => exact ⟨j + 1, by go_num, by omega, S1.out, HBN.out.1, HBN.out.2⟩
        case measure => simp [intOf]; omega
    · obtain rfl : j = l.length := by omega
      have d1 : decide ((l.length : Int) < (l.length : Int)) = false := by simp
      have S1 := Lib.hid (show Cnt.rsure n l r k = none by rw [hfi]; simp)
      clear hfi
      go_wp2_with (first
        | (refine wpList_value_w (exec_build0 (T := 32) rfl hii hz0 underI (s := 1) (fun w => by kernel_rfl)) (by simp [go_sem, Region.wanted, yielded]) ?_)
        | (refine wpList_skip_w (exec_store_all (T := 32) (X := ida Cnt.z) (cs := ida Cnt.z) rfl rfl rfl hii hz1 (ida_one _) hB rfl) rfl ?_))
      exact bodyPost_ret (idb_results rfl rfl rfl rfl (hB.setRow _)) rfl ⟨by rw [S1.out]; rfl, (hN.mono (T := fun j => w.heap.size ≤ j) fun _ h => h.elim).setRow (g := rb) hrw _ |>.mono fun j hj => .inr hj⟩
end Go.Proofs.YtepmlmfacpbhkaaR
