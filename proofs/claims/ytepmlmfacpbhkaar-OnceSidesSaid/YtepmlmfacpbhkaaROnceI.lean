/- Signatures, pairs of sums: held against themselves they are the same. -/
import Derived.Test.YtepmlmfacpbhkaaROnceG
namespace Go.Proofs.YtepmlmfacpbhkaaR
open Go.RowKit Go.Shelf
set_option linter.unusedVariables false

set_option maxHeartbeats 400000
theorem run_partL {w : World} {T : TypeId} {i : TypeInfo} {d : TypeDesc} {n : Nat} (hu : Try.prog.underlying T = some d) (hd : (match d with | .struct _ | .array _ _ => true | _ => false) = true) (hi : Try.prog.info? T = some i) (hs : i.size = n) (X : List UInt8) (off : Nat) :
    (part T (ida X) off).run Try.prog w = .ok (.agg (ida ((X.drop off).take n))) w := by
  have hagg : (isAgg T).run Try.prog w = .ok true w := by
    unfold isAgg
    rw [Sem.run_bind, run_underlying hu w]
    cases d <;> simp_all
  have he : (ida X).extract off (off + n) = ida ((X.drop off).take n) := by
    apply Array.ext'
    simp [ida, List.map_take, List.map_drop, List.drop_take]
  simp [part, Sem.run_bind, hagg, sizeOf, typeInfo, hi, hs, he]
/-- parts in a row, held against themselves -/
theorem run_equalIn_row {P : Program} (w : World) (d : Nat) (T E : TypeId) (n m : Nat) (hT : P.underlying T = some (.array n E)) (hsz : ∀ w, (sizeOf E).run P w = .ok m w) (xs : Array Value) (vi : Nat → Value)
    (hp : ∀ i, i < n → (part E xs (i * m)).run P w = .ok (vi i) w) (he : ∀ i, i < n → (Op.equalIn d E (vi i) (vi i)).run P w = .ok true w) : (Op.equalIn (d + 1) T (.agg xs) (.agg xs)).run P w = .ok true w := by
  rw [Op.equalIn]
  simp only [Sem.run_bind, run_underlying hT, Result.andThen_ok, hsz, Std.Legacy.Range.forIn_eq_forIn_range', Std.Legacy.Range.size, Nat.sub_zero, Nat.add_sub_cancel, Nat.div_one]
  have hl : ∀ i ∈ List.range' 0 n 1, i < n := fun i hi => by simpa using (List.mem_range'_1.1 hi).2
  generalize List.range' 0 n 1 = l at hl ⊢
  induction l with
  | nil => simp
  | cons i l ih =>
    have hi : i < n := hl i (by simp)
    simp only [List.forIn_cons, Sem.run_bind, hp i hi, he i hi, Result.andThen_ok]
    simp only [Bool.not_true, Bool.false_eq_true, if_false, Sem.run_pure, Result.andThen_ok]
    exact ih fun j hj => hl j (by simp [hj])
theorem sizeID (w : World) : (sizeOf 32).run Try.prog w = .ok 32 w := by kernel_rfl
/-- sums in a row, held against themselves -/
theorem run_equalIn_sums (w : World) (d : Nat) (T : TypeId) (n : Nat) (hT : Try.prog.underlying T = some (.array n 32)) (X : List UInt8) (hX : X.length = n * 32) :
    (Op.equalIn (d + 3) T (.agg (ida X)) (.agg (ida X))).run Try.prog w = .ok true w := by
  obtain ⟨ii, hii, hz0, hz1, hz2⟩ := info_parts infoID
  refine run_equalIn_row w (d + 2) T 32 n 32 hT sizeID (ida X) (fun i => .agg (ida ((X.drop (i * 32)).take 32))) (fun i hi => run_partL underID rfl hii hz1 X (i * 32)) (fun i hi => ?_)
  have hxl : ((X.drop (i * 32)).take 32).length = 32 := by rw [List.length_take, List.length_drop]; omega
  have := run_equalIn_bytes (P := Try.prog) w d 32 5 32 underID Try.underlying5 sizeB _ _ hxl hxl
  rw [beq_self_eq_true] at this
  exact this
theorem under67 : Try.prog.underlying 67 = some (.array 64 32) := by kernel_rfl
set_option maxRecDepth 100000 in
theorem info67 : (Try.prog.info? 67).map (fun i => (i.zero, i.size, i.bytes)) = some (some (.agg (ida (List.replicate 2048 0))), 2048, 2048) := by kernel_rfl
theorem fieldsSig : ((Try.prog.fieldsOf 69).toList.map fun f => (f.type, f.offset, f.name == "_")) = [(67, 0, false), (67, 2048, false)] := by kernel_rfl
theorem stoodSig : Try.prog.stoodInHeld 69 = false := by kernel_rfl
theorem underSigF : Try.prog.underlying 69 = some (.struct (Try.prog.fieldsOf 69)) := by kernel_rfl
theorem run_eqFields_row {P : Program} (w : World) (d : Nat) (xs : Array Value) (vi : Field → Value) : ∀ fs : List Field, (∀ f ∈ fs, f.name ≠ "_" ∧ (part f.type xs f.offset).run P w = .ok (vi f) w ∧ (Op.equalIn d f.type (vi f) (vi f)).run P w = .ok true w) →
    (Op.eqFields d xs xs fs).run P w = .ok true w
  | [], _ => by simp [Op.eqFields]
  | f :: fs, h => by
    obtain ⟨hn, hp, he⟩ := h f (List.mem_cons_self ..)
    rw [Op.eqFields, if_pos hn]
    simp only [Sem.run_bind, hp, he, Result.andThen_ok]
    simp only [Bool.not_true, Bool.false_eq_true, if_false]
    exact run_eqFields_row w d xs vi fs fun g hg => h g (List.mem_cons_of_mem _ hg)
theorem run_eqFields_sums (w : World) (d : Nat) (X : List UInt8) (fs : List Field) (h : ∀ f ∈ fs, f.type = 67 ∧ f.offset + 2048 ≤ X.length ∧ (f.name == "_") = false) :
    (Op.eqFields (d + 3) (ida X) (ida X) fs).run Try.prog w = .ok true w := by
  obtain ⟨i67, hi67, h0, h1, h2⟩ := info_parts info67
  refine run_eqFields_row w (d + 3) (ida X) (fun f => .agg (ida ((X.drop f.offset).take 2048))) fs fun f hf => ?_
  obtain ⟨h3, h4, h5⟩ := h f hf
  refine ⟨?_, ?_, ?_⟩
  · intro e
    rw [e] at h5
    simp at h5
  · rw [h3]
    exact run_partL under67 rfl hi67 h1 X f.offset
  · rw [h3]
    exact run_equalIn_sums w d 67 64 under67 ((X.drop f.offset).take 2048) (by rw [List.length_take, List.length_drop]; omega)
theorem guardSig : Try.prog.eqGuardType Try.prog.depth 69 = false := by kernel_rfl
theorem guardPair : Try.prog.eqGuardType Try.prog.depth 74 = false := by kernel_rfl
theorem exec_eql_sig {o : Oper} {ev : Operand → Value} {w : World} {x y : Operand} {ty : TypeId} {S : List UInt8} (ho : o.op = .binOp .eql 69 x y ty) (hx : ev x = .agg (ida S)) (hy : ev y = .agg (ida S)) (hS : S.length = 4096) :
    (execOp ev o).run Try.prog w = .ok (.value (.bool true)) w := by
  have h1 : (Op.equalIn (9999 + 1) 69 (.agg (ida S)) (.agg (ida S))).run Try.prog w = .ok true w := by
    rw [run_equalIn_struct w 9999 _ _ _ underSigF stoodSig]
    refine run_eqFields_sums w 9996 S _ fun f hf => ?_
    have hm := List.mem_map_of_mem (f := fun f : Field => (f.type, f.offset, f.name == "_")) hf
    rw [fieldsSig] at hm
    simp only [List.mem_cons, List.not_mem_nil, or_false, Prod.mk.injEq] at hm
    rcases hm with ⟨a, b, c⟩ | ⟨a, b, c⟩
    · exact ⟨a, by omega, c⟩
    · exact ⟨a, by omega, c⟩
  have this : (binOp .eql 69 (.agg (ida S)) (.agg (ida S))).run Try.prog w = .ok (.bool true) w := by
    rw [run_eql_struct, h1]
    rfl
  unfold execOp
  simp [ho, hx, hy, eqGuard, guardSig, run_program, this]
theorem exec_neq_pair {o : Oper} {ev : Operand → Value} {w : World} {x y : Operand} {ty : TypeId} {S : List UInt8} (ho : o.op = .binOp .neq 74 x y ty) (hx : ev x = .agg (ida S)) (hy : ev y = .agg (ida S)) (hS : S.length = 64) :
    (execOp ev o).run Try.prog w = .ok (.value (.bool false)) w := by
  have h1 : (Op.equalIn (9997 + 3) 74 (.agg (ida S)) (.agg (ida S))).run Try.prog w = .ok true w := run_equalIn_sums w 9997 _ 2 Try.underlying74 S hS
  have this : (binOp .neq 74 (.agg (ida S)) (.agg (ida S))).run Try.prog w = .ok (.bool false) w := by
    rw [run_neq_struct, h1]
    rfl
  unfold execOp
  simp [ho, hx, hy, eqGuard, guardPair, run_program, this]
end Go.Proofs.YtepmlmfacpbhkaaR
