/- Records bound to each other by sums, plain: how they lie, and how they are read again. No program in sight. -/
import Derived.Test.YtefalfalapnllaaOnceP
namespace Go.Proofs.Ytefalfalapnllaa.Jrn
open Sha
def zero : List UInt8 := List.replicate 32 0
def pRecord : List UInt8 := [114, 101, 99, 111, 114, 100]
def pFront : List UInt8 := [102, 114, 111, 110, 116]
/-- a length in three bytes -/
def dig (n : Nat) : List UInt8 := [UInt8.ofNat (n / 65536 % 256), UInt8.ofNat (n / 256 % 256), UInt8.ofNat (n % 256)]
def num (b : List UInt8) : Nat := (b.getD 0 0).toNat * 65536 + (b.getD 1 0).toNat * 256 + (b.getD 2 0).toNat
theorem dig_length (n : Nat) : (dig n).length = 3 := rfl
theorem num_dig (n : Nat) (t : List UInt8) (h : n < 16777216) : num (dig n ++ t) = n := by
  unfold num dig
  simp only [List.cons_append, List.getD_cons_zero, List.getD_cons_succ, UInt8.toNat_ofNat']
  omega
theorem num_lt (b : List UInt8) : num b < 16777216 := by
  unfold num
  have := UInt8.toNat_lt (b.getD 0 0)
  have := UInt8.toNat_lt (b.getD 1 0)
  have := UInt8.toNat_lt (b.getD 2 0)
  omega
theorem dig_num (b : List UInt8) (h : 3 ≤ b.length) : dig (num b) = b.take 3 := by
  match b, h with
  | x :: y :: z :: t, _ =>
    have hx := UInt8.toNat_lt x
    have hy := UInt8.toNat_lt y
    have hz := UInt8.toNat_lt z
    have e0 : ∀ (c : UInt8) (n : Nat), n = c.toNat → UInt8.ofNat n = c := fun c n h => by rw [h, UInt8.ofNat_toNat]
    unfold dig num
    simp only [List.getD_cons_zero, List.getD_cons_succ, List.take_succ_cons, List.take_zero]
    rw [e0 x _ (by omega), e0 y _ (by omega), e0 z _ (by omega)]
/-- the short sum of a length -/
def own (last dg : List UInt8) : List UInt8 := (Once.sumFor pFront [last, dg]).take 16
def link (last data : List UInt8) : List UInt8 := Once.sumFor pRecord [last, data]
theorem own_length (last dg : List UInt8) : (own last dg).length = 16 := rfl
theorem link_length (last data : List UInt8) : (link last data).length = 32 := rfl
/-- a record as it lies there -/
def recB (last data : List UInt8) : List UInt8 := dig data.length ++ own last (dig data.length) ++ (link last data).take 16 ++ data
theorem recB_length (last data : List UInt8) : (recB last data).length = 35 + data.length := by
  unfold recB
  simp [dig_length, own_length, link_length]
  omega
inductive Res where
  | torn
  | stop (n : Nat) (rs : List (List UInt8)) (last : List UInt8)
/-- the record's data that is read at a place -/
def dataAt (b : List UInt8) (a : Nat) : List UInt8 := (b.drop (a + 35)).take (num (b.drop a))
def scan (b : List UInt8) : Nat → Nat → List (List UInt8) → List UInt8 → Res
  | 0, a, rs, l => .stop a rs l
  | f + 1, a, rs, l =>
    if b.length < a + 35 then .stop a rs l
    else if (b.drop (a + 3)).take 16 ≠ own l ((b.drop a).take 3) then .torn
    else if b.length < a + 35 + num (b.drop a) then .stop a rs l
    else if (b.drop (a + 19)).take 16 ≠ (link l (dataAt b a)).take 16 then .torn
    else scan b f (a + 35 + num (b.drop a)) (rs ++ [dataAt b a]) (link l (dataAt b a))
def opened (b : List UInt8) : Res := scan b b.length 0 [] zero
theorem scan_fuel (b : List UInt8) : ∀ (f g a : Nat) (rs : List (List UInt8)) (l : List UInt8), b.length ≤ a + f → b.length ≤ a + g → scan b f a rs l = scan b g a rs l
  | 0, 0, a, rs, l, _, _ => rfl
  | 0, g + 1, a, rs, l, h, _ => by
    unfold scan
    rw [if_pos (by omega)]
  | f + 1, 0, a, rs, l, _, h => by
    unfold scan
    rw [if_pos (by omega)]
  | f + 1, g + 1, a, rs, l, h1, h2 => by
    unfold scan
    split
    · rfl
    split
    · rfl
    split
    · rfl
    split
    · rfl
    exact scan_fuel b f g _ _ _ (by omega) (by omega)
/-- a step of the reading -/
theorem scan_short {b : List UInt8} {f a : Nat} {rs : List (List UInt8)} {l : List UInt8} (h : b.length < a + 35) : scan b f a rs l = .stop a rs l := by
  cases f with
  | zero => rfl
  | succ f => unfold scan; rw [if_pos h]
theorem scan_own {b : List UInt8} {f a : Nat} {rs : List (List UInt8)} {l : List UInt8} (hf : b.length ≤ a + f) (h : ¬ b.length < a + 35) (h1 : (b.drop (a + 3)).take 16 ≠ own l ((b.drop a).take 3)) : scan b f a rs l = .torn := by
  cases f with
  | zero => omega
  | succ f => unfold scan; rw [if_neg h, if_pos h1]
theorem scan_long {b : List UInt8} {f a : Nat} {rs : List (List UInt8)} {l : List UInt8} (hf : b.length ≤ a + f) (h : ¬ b.length < a + 35) (h1 : (b.drop (a + 3)).take 16 = own l ((b.drop a).take 3)) (h2 : b.length < a + 35 + num (b.drop a)) : scan b f a rs l = .stop a rs l := by
  cases f with
  | zero => rfl
  | succ f => unfold scan; rw [if_neg h, if_neg (not_not_intro h1), if_pos h2]
theorem scan_link {b : List UInt8} {f a : Nat} {rs : List (List UInt8)} {l : List UInt8} (hf : b.length ≤ a + f) (h : ¬ b.length < a + 35) (h1 : (b.drop (a + 3)).take 16 = own l ((b.drop a).take 3)) (h2 : ¬ b.length < a + 35 + num (b.drop a))
    (h3 : (b.drop (a + 19)).take 16 ≠ (link l (dataAt b a)).take 16) : scan b f a rs l = .torn := by
  cases f with
  | zero => omega
  | succ f => unfold scan; rw [if_neg h, if_neg (not_not_intro h1), if_neg h2, if_pos h3]
theorem scan_next {b : List UInt8} {f a : Nat} {rs : List (List UInt8)} {l : List UInt8} (hf : b.length ≤ a + f) (h : ¬ b.length < a + 35) (h1 : (b.drop (a + 3)).take 16 = own l ((b.drop a).take 3)) (h2 : ¬ b.length < a + 35 + num (b.drop a))
    (h3 : (b.drop (a + 19)).take 16 = (link l (dataAt b a)).take 16) : scan b f a rs l = scan b b.length (a + 35 + num (b.drop a)) (rs ++ [dataAt b a]) (link l (dataAt b a)) := by
  cases f with
  | zero => omega
  | succ f =>
    conv => lhs; unfold scan
    rw [if_neg h, if_neg (not_not_intro h1), if_neg h2, if_neg (not_not_intro h3)]
    exact scan_fuel b _ _ _ _ _ (by omega) (by omega)
/-- the parts of a record that lies at a place -/
theorem rec_parts (pre l d t : List UInt8) (hd : d.length < 16777216) (b : List UInt8) (hb : b = pre ++ (recB l d ++ t)) :
    num (b.drop pre.length) = d.length ∧ (b.drop pre.length).take 3 = dig d.length ∧ (b.drop (pre.length + 3)).take 16 = own l (dig d.length) ∧ (b.drop (pre.length + 19)).take 16 = (link l d).take 16 ∧ dataAt b pre.length = d := by
  have e0 : b.drop pre.length = recB l d ++ t := by rw [hb, List.drop_left]
  have e : ∀ k, b.drop (pre.length + k) = (recB l d ++ t).drop k := fun k => by rw [← List.drop_drop, e0]
  have r : recB l d ++ t = dig d.length ++ (own l (dig d.length) ++ ((link l d).take 16 ++ (d ++ t))) := by unfold recB; simp
  have n0 : num (b.drop pre.length) = d.length := by rw [e0, r]; exact num_dig _ _ hd
  have o16 : (own l (dig d.length)).length = 16 := rfl
  have l16 : ((link l d).take 16).length = 16 := rfl
  have d3 : (recB l d ++ t).drop 3 = own l (dig d.length) ++ ((link l d).take 16 ++ (d ++ t)) := by rw [r]; rfl
  have d19 : (recB l d ++ t).drop 19 = (link l d).take 16 ++ (d ++ t) := by
    rw [show 19 = 3 + 16 from rfl, ← List.drop_drop, d3, List.drop_left' o16]
  have d35 : (recB l d ++ t).drop 35 = d ++ t := by
    rw [show 35 = 19 + 16 from rfl, ← List.drop_drop, d19, List.drop_left' l16]
  refine ⟨n0, ?_, ?_, ?_, ?_⟩
  · rw [e0, r]
    rfl
  · rw [e, d3, List.take_left' o16]
  · rw [e, d19, List.take_left' l16]
  · unfold dataAt
    rw [n0, e, d35, List.take_left' rfl]
/-- a whole record is read -/
theorem scan_rec (pre l d t : List UInt8) (hd : d.length < 16777216) (b : List UInt8) (hb : b = pre ++ (recB l d ++ t)) (f : Nat) (hf : b.length ≤ pre.length + f) (rs : List (List UInt8)) :
    scan b f pre.length rs l = scan b b.length (pre ++ recB l d).length (rs ++ [d]) (link l d) := by
  obtain ⟨p1, p2, p3, p4, p5⟩ := rec_parts pre l d t hd b hb
  have hl : b.length = pre.length + (35 + d.length + t.length) := by rw [hb, List.length_append, List.length_append, recB_length]
  rw [scan_next hf (by omega) (by rw [p3, p2]) (by rw [p1]; omega) (by rw [p4, p5]), p1, p5]
  rw [List.length_append, recB_length]
  congr 1
  omega
/-- records, one behind the other -/
def all (l : List UInt8) : List (List UInt8) → List UInt8
  | [] => []
  | d :: ds => recB l d ++ all (link l d) ds
def lastOf (l : List UInt8) (ds : List (List UInt8)) : List UInt8 := ds.foldl link l
theorem all_append (l : List UInt8) (ds es : List (List UInt8)) : all l (ds ++ es) = all l ds ++ all (lastOf l ds) es := by
  induction ds generalizing l with
  | nil => rfl
  | cons d ds ih =>
    show recB l d ++ all (link l d) (ds ++ es) = _
    rw [ih]
    simp [all, lastOf]
theorem lastOf_append (l : List UInt8) (ds : List (List UInt8)) (d : List UInt8) : lastOf l (ds ++ [d]) = link (lastOf l ds) d := by unfold lastOf; rw [List.foldl_append]; rfl
theorem lastOf_length (l : List UInt8) (hl : l.length = 32) (ds : List (List UInt8)) : (lastOf l ds).length = 32 := by
  induction ds generalizing l with
  | nil => exact hl
  | cons d ds ih => exact ih (link l d) rfl
theorem scan_all (t : List UInt8) : ∀ (ds : List (List UInt8)) (pre l : List UInt8) (b : List UInt8) (hb : b = pre ++ (all l ds ++ t)) (hd : ∀ d ∈ ds, d.length < 16777216) (f : Nat) (hf : b.length ≤ pre.length + f) (rs : List (List UInt8)),
    scan b f pre.length rs l = scan b b.length (pre ++ all l ds).length (rs ++ ds) (lastOf l ds)
  | [], pre, l, b, hb, hd, f, hf, rs => by
    simp only [all, List.append_nil, lastOf, List.foldl_nil]
    exact scan_fuel b _ _ _ _ _ hf (by omega)
  | d :: ds, pre, l, b, hb, hd, f, hf, rs => by
    have hb2 : b = pre ++ (recB l d ++ (all (link l d) ds ++ t)) := by rw [hb]; simp [all]
    rw [scan_rec pre l d _ (hd d (by simp)) b hb2 f hf rs]
    have hb3 : b = (pre ++ recB l d) ++ (all (link l d) ds ++ t) := by rw [hb2]; simp
    rw [scan_all t ds (pre ++ recB l d) (link l d) b hb3 (fun x hx => hd x (by simp [hx])) b.length (by omega) (rs ++ [d])]
    simp [all, lastOf]
/-- what is no whole record is not read, and is not taken for a spoilt one -/
theorem scan_part (pre l d : List UInt8) (k : Nat) (hk : k < (recB l d).length) (hd : d.length < 16777216) (b : List UInt8) (hb : b = pre ++ (recB l d).take k) (f : Nat) (hf : b.length ≤ pre.length + f) (rs : List (List UInt8)) :
    scan b f pre.length rs l = .stop pre.length rs l := by
  rw [recB_length] at hk
  have hlt : ((recB l d).take k).length = k := by rw [List.length_take, recB_length]; omega
  have hl : b.length = pre.length + k := by rw [hb, List.length_append, hlt]
  by_cases h35 : k < 35
  · exact scan_short (by omega)
  · obtain ⟨p1, p2, p3, _, _⟩ := rec_parts pre l d [] hd (pre ++ (recB l d ++ [])) rfl
    have e0 : b.drop pre.length = (recB l d).take k := by rw [hb, List.drop_left]
    have e0' : (pre ++ (recB l d ++ [])).drop pre.length = recB l d := by rw [List.drop_left]; simp
    have q2 : (b.drop pre.length).take 3 = dig d.length := by
      rw [e0, List.take_take, ← p2, e0']
      congr 1
      omega
    have q1 : num (b.drop pre.length) = d.length := by
      have h3 := dig_num (b.drop pre.length) (by rw [e0, hlt]; omega)
      rw [q2] at h3
      have := congrArg (fun x => num (x ++ [])) h3
      rw [num_dig _ _ (num_lt _), num_dig _ _ hd] at this
      exact this
    have q3 : (b.drop (pre.length + 3)).take 16 = own l (dig d.length) := by
      rw [← p3, ← List.drop_drop, ← List.drop_drop, e0, e0', List.drop_take, List.take_take]
      congr 1
      omega
    exact scan_long hf (by omega) (by rw [q3, q2]) (by rw [q1]; omega)
theorem opened_all (ds : List (List UInt8)) (hd : ∀ d ∈ ds, d.length < 16777216) : opened (all zero ds) = .stop (all zero ds).length ds (lastOf zero ds) := by
  unfold opened
  have := scan_all [] ds [] zero (all zero ds) (by simp) hd (all zero ds).length (by simp) []
  simp only [List.nil_append, List.length_nil] at this
  rw [this]
  exact scan_short (by omega)
theorem opened_part (ds : List (List UInt8)) (d : List UInt8) (k : Nat) (hd : ∀ d ∈ ds, d.length < 16777216) (hd' : d.length < 16777216) (hk : k < (recB (lastOf zero ds) d).length) :
    opened (all zero ds ++ (recB (lastOf zero ds) d).take k) = .stop (all zero ds).length ds (lastOf zero ds) := by
  unfold opened
  have := scan_all ((recB (lastOf zero ds) d).take k) ds [] zero _ rfl hd (all zero ds ++ (recB (lastOf zero ds) d).take k).length (by simp) []
  simp only [List.nil_append, List.length_nil] at this
  rw [this]
  exact scan_part (all zero ds) (lastOf zero ds) d k hk hd' _ rfl _ (by omega) ds
end Go.Proofs.Ytefalfalapnllaa.Jrn
