/- Nil, Get, and the small head of the statements of count. -/
import Derived.Test.YtepmlmfacpbhkaaRCntG
namespace Go.Proofs.YtepmlmfacpbhkaaR
open Go.RowKit Go.Shelf
set_option linter.unusedVariables false

namespace Cnt
def nilId : Vid := List.replicate 31 0 ++ [1]
def id7 : Vid := 7 :: List.replicate 31 0
def id8 : Vid := 8 :: List.replicate 31 0
/-- the first j of four vote for 7 in round 2 -/
def tab7 (j : Nat) : Tab := fun r k v => if r = 2 ∧ k = 1 ∧ v < j then some id7 else none
theorem put7 (j : Nat) (h : j < 3) : put 4 (tab7 j) 2 1 j id7 = (tab7 (j + 1), 0) := by
  have h1 : right 4 2 1 j = true := by simp [right]; omega
  have h2 : id7 ≠ z := by decide
  have h3 : (tab7 j 2 1 j).isSome = false := by simp [tab7]
  unfold put
  have e2 : (2 : Int).toNat = 2 := rfl
  have e1 : (1 : Int).toNat = 1 := rfl
  rw [h1, if_neg (by simp [h2]), e2, e1, Int.toNat_natCast, if_neg (by rw [h3]; simp)]
  congr 1
  funext r k v
  unfold Tab.put tab7
  by_cases hr : r = 2 ∧ k = 1
  · obtain ⟨rfl, rfl⟩ := hr
    by_cases hv : v = j
    · simp [hv]
    · by_cases hv2 : v < j
      · simp [hv, hv2, show v < j + 1 by omega]
      · simp [hv, hv2, show ¬ v < j + 1 by omega]
  · have a1 : ¬ (r = 2 ∧ k = 1 ∧ v = j) := fun h => hr ⟨h.1, h.2.1⟩
    have a2 : ¬ (r = 2 ∧ k = 1 ∧ v < j) := fun h => hr ⟨h.1, h.2.1⟩
    have a3 : ¬ (r = 2 ∧ k = 1 ∧ v < j + 1) := fun h => hr ⟨h.1, h.2.1⟩
    rw [if_neg a1, if_neg a2, if_neg a3]
theorem tab7_0 : tab7 0 = empty := by funext r k v; simp [tab7, empty]
theorem sure7 : sure 4 (tab7 3) 2 1 = some id7 := by decide +kernel
theorem ahead7 : ahead 4 (tab7 3) 0 = some 2 := by decide +kernel
theorem twice7 : put 4 (tab7 3) 2 1 0 id8 = (tab7 3, 5) := by
  have h1 : right 4 2 1 0 = true := by decide
  have h2 : id8 ≠ z := by decide
  unfold put
  rw [h1, if_neg (by simp [h2]), if_pos (by decide +kernel)]
end Cnt

section
variable {o : Oper} {a : Act} {w : World}
theorem exec_build7 (ho : o.op = .build 32 #[(0, .const (.int .u8 7))]) : (execOp a.eval o).run Try.prog w = .ok (.value (.agg (ida Cnt.id7))) w := by
  obtain ⟨dst, op, type, pos, after, guard⟩ := o
  cases ho
  kernel_rfl
theorem exec_build8 (ho : o.op = .build 32 #[(0, .const (.int .u8 8))]) : (execOp a.eval o).run Try.prog w = .ok (.value (.agg (ida Cnt.id8))) w := by
  obtain ⟨dst, op, type, pos, after, guard⟩ := o
  cases ho
  kernel_rfl
theorem exec_buildN (ho : o.op = .build 32 #[(31, .const (.int .u8 1))]) : (execOp a.eval o).run Try.prog w = .ok (.value (.agg (ida Cnt.nilId))) w := by
  obtain ⟨dst, op, type, pos, after, guard⟩ := o
  cases ho
  kernel_rfl
end
/-- a sum that is handed back out of memory -/
theorem id_results {fn : Func} {w : World} {tmps : Array Value} {t : Tmp} {b : Nat} {x : Cnt.Vid} (hr : fn.results = #[.cell t 32]) (hx : x.length = 32) (ht : tmps.getD t undef = .pointer (some ⟨b, 0, none⟩)) (hb : Blk w b 32 (ida x)) :
    (results fn tmps).run Try.prog w = .ok (.agg (ida x)) w := by
  obtain ⟨ii, hii, hz0, hz1, hz2⟩ := info_parts infoI
  have l6 := run_loadVar_agg (P := Try.prog) (T := 32) underI rfl hii (hz1.trans (by rw [ida_size]; exact hx.symm)) hb.at0
  rw [Array.getD_eq_getD_getElem?] at ht
  simp only [results, hr]
  simp [ht, asAddr, l6]
theorem wpList_skip_w {P : Program} {ops : Array Oper} {rest : List Oper} {o : Oper} {a : Act} {w w' : World} {Q : Exit → Act → World → Prop} (hr : (execOp a.eval o).run P w = .ok .skip w') (hgd : o.guard = none) (h : wpList P ops Q rest (a.put o.dst undef) w') :
    wpList P ops Q (o :: rest) a w := wpList_of_skip hgd hr h
theorem nil_any (w : World) : Calls Try.prog 40 #[] w fun e w' => e = .returned (.agg (ida Cnt.nilId)) ∧ New w w' := by
  obtain ⟨ii, hii, hz0, hz1, hz2⟩ := info_parts infoI
  have hN : New w (w.alloc (.cells (ida Cnt.nilId) 32)) := Fr.alloc _ w _
  go_enter Try.func40, Try.ntmps40
  go_wp2_with (first
    | (refine wpList_value_w (exec_alloc_agg (T := 32) rfl hii hz0) (by simp [go_sem, Region.wanted, yielded]) ?_)
    | (refine wpList_value_w (exec_buildN rfl) (by simp [go_sem, Region.wanted, yielded]) ?_)
    | (refine wpList_skip_w (exec_store_new (T := 32) (X := ida Cnt.nilId) rfl rfl rfl rfl hii hz1 (ida_one _) rfl) rfl ?_))
  exact bodyPost_ret (id_results rfl rfl rfl (Blk.new w 32 (ida Cnt.nilId))) rfl ⟨rfl, hN⟩
theorem ida_set {w : World} {g : Nat} {t : TypeId} {l : List UInt8} (h : Blk w g t (ida l)) (j : Nat) (x : UInt8) : Blk (w.setCell ⟨g, j, none⟩ (bv x)) g t (ida (l.set j x)) := by
  have := h.set j (bv x)
  have e : (ida l).setIfInBounds j (bv x) = ida (l.set j x) := by simp [ida, List.map_set]
  rwa [e] at this
set_option maxRecDepth 20000 in
theorem rnil_any (w : World) : Calls Try.prog 41 #[] w fun e w' => e = .returned (.agg (ida Cnt.nilId)) ∧ New w w' := by
  obtain ⟨ii, hii, hz0, hz1, hz2⟩ := info_parts infoI
  have hN : New w ((w.alloc (.cells (ida Cnt.z) 32)).alloc (.cells (ida Cnt.z) 32)) := (Fr.alloc _ w _).then_alloc _
  have hB0 := (Blk.new w 32 (ida Cnt.z)).alloc (.cells (ida Cnt.z) 32)
  have hB1 := Blk.new (w.alloc (.cells (ida Cnt.z) 32)) 32 (ida Cnt.z)
  rw [World.size_alloc] at hB1
  have hc := hB1.cell 31
  have hf := hB1.frozen 31
  have hz31 : (ida Cnt.z)[31]? = some (.int .u8 0) := rfl
  rw [hz31] at hc
  have e31 : (ida Cnt.z).setIfInBounds 31 (.int .u8 1) = ida Cnt.nilId := rfl
  have hS0 := (Blk.new w 32 (ida Cnt.z)).alloc (.cells (ida Cnt.nilId) 32)
  have hS1 := Blk.new (w.alloc (.cells (ida Cnt.z) 32)) 32 (ida Cnt.nilId)
  rw [World.size_alloc] at hS1
  have hA := hS1.at0
  have HF : Fr (fun j => w.heap.size ≤ j) w ((w.alloc (.cells (ida Cnt.z) 32)).alloc (.cells (ida Cnt.nilId) 32)) := (Fr.alloc _ w _).then_alloc _
  clear hB0 hB1 hz31
  go_enter Try.func41, Try.ntmps41
  go_wp2_with (first
    | (refine wpList_value_w (exec_alloc_agg (T := 32) rfl hii hz0) (by simp [go_sem, Region.wanted, yielded]) ?_)
    | (refine wpList_value_w (exec_build0 (T := 32) rfl hii hz0 underI (s := 1) (fun w => by kernel_rfl)) (by simp [go_sem, Region.wanted, yielded]) ?_)
    | (refine wpList_value_w (exec_load (T := 32) (X := ida Cnt.nilId) rfl rfl underI rfl hii hz1 hA) (by simp [go_sem, Region.wanted, yielded]) ?_)
    | (refine wpList_skip_w (exec_store_new (T := 32) (X := ida Cnt.z) rfl rfl (by simp) rfl hii hz1 (ida_one _) rfl) rfl ?_)
    | (refine wpList_skip_w (exec_store_all (T := 32) (X := ida Cnt.nilId) (cs := ida Cnt.z) rfl rfl rfl hii hz1 (ida_one _) hS0 rfl) rfl ?_))
  exact bodyPost_ret (id_results rfl rfl rfl (hS0.setRow _)) rfl ⟨rfl, (HF.setRow (g := w.heap.size) (Nat.le_refl _) _).mono fun j hj => .inr hj⟩
end Go.Proofs.YtepmlmfacpbhkaaR
