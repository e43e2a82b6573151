/- One key's public key, and what its signature shows of another text, reckoned by the kernel: they differ. -/
import Derived.Test.YtefalfalapnllaaOnceP
namespace Go.Proofs.Ytefalfalapnllaa.Once
open Sha

/-- what a message is filled up with -/
def padB (n : Nat) : List UInt8 := 128 :: zeros (if n % 64 < 56 then 55 - n % 64 else 119 - n % 64) ++ lenB n
theorem full_flat (c : List UInt8) (n : Nat) (h : n ≤ c.length / 64) : ((List.range n).map (full c)).flatten = c.take (64 * n) := by
  induction n with
  | zero => simp
  | succ n ih =>
    rw [List.range_succ, List.map_append, List.flatten_append, ih (by omega)]
    simp only [List.map_cons, List.map_nil, List.flatten_cons, List.flatten_nil, List.append_nil, full]
    rw [show 64 * (n + 1) = 64 * n + 64 by omega, List.take_add]
theorem blocks_flat (c : List UInt8) : (blocks c).flatten = c ++ padB c.length := by
  unfold blocks
  rw [List.flatten_append, full_flat c _ (Nat.le_refl _)]
  have hr := rest_length c
  have e : c.take (64 * (c.length / 64)) ++ rest c = c := List.take_append_drop _ _
  unfold tail padB
  by_cases h : c.length % 64 < 56
  · rw [if_pos (by omega), if_pos h, hr]
    simp only [List.flatten_cons, List.flatten_nil, List.append_nil, ← List.append_assoc]
    rw [e]
  · rw [if_neg (by omega), if_neg h, hr]
    have hz : zeros (119 - c.length % 64) = zeros (63 - c.length % 64) ++ zeros 56 := by
      unfold zeros
      rw [List.replicate_append_replicate]
      congr 1
      have := Nat.mod_lt c.length (show 0 < 64 by decide)
      omega
    rw [hz]
    simp only [List.flatten_cons, List.flatten_nil, List.append_nil, ← List.append_assoc, List.cons_append]
    rw [e]
    simp
theorem blocks_count (c : List UInt8) : (blocks c).length = (c.length + 8) / 64 + 1 := by
  unfold blocks tail
  have hr := rest_length c
  rw [List.length_append, List.length_map, List.length_range]
  split
  · simp; omega
  · simp; omega
/-- a sum, out of the message's number and its length -/
def NS (C n : Nat) : Nat := N.out (N.run (Nat.add (Nat.mul C (Nat.pow 256 (padB n).length)) (nb (padB n))) (Nat.add (Nat.div (Nat.add n 8) 64) 1) (Nat.add (Nat.div (Nat.add n 8) 64) 1))
theorem sum_NS (c : List UInt8) (C n : Nat) (hC : nb c = C) (hn : c.length = n) : nb (sum c) = NS C n := by
  subst hC hn
  unfold NS
  exact sum_nb c _ _ (by rw [blocks_flat, nb_append]; rfl) (blocks_count c)
theorem p2 : (256 : Nat) ^ 2 = 65536 := by decide +kernel
theorem p32 : (256 : Nat) ^ 32 = 115792089237316195423570985008687907853269984665640564039457584007913129639936 := by decide +kernel
theorem p64 : (256 : Nat) ^ (32 + 32) = 13407807929942597099574024998205846127479365820592393377723561443721764030073546976801874298166903427690031858186486050853753882811946569946433649006084096 := by decide +kernel

attribute [irreducible] NS
/-- the key of which the statements' head asks -/
def seed1 : List UInt8 := 1 :: List.replicate 31 0
def preH : Nat := nb (pHide ++ 0 :: len4 32)
def preP : Nat := nb (pPublic ++ 0 :: len4 4096)
def preS : Nat := nb (pSecret ++ 0 :: (len4 32 ++ seed1 ++ (len4 4 ++ two 2)))
def preT : Nat := nb (pText ++ 0 :: len4 1)
def sec1 (i s : Nat) : Nat := NS (preS * 65536 + (i * 256 + s)) 51
def hid1 (i s : Nat) : Nat := NS (preH * 115792089237316195423570985008687907853269984665640564039457584007913129639936 + sec1 i s) 41
theorem sec1_eq (i s : Nat) (hi : i < 256) (hs : s < 256) : nb (secret seed1 2 i s) = sec1 i s := by
  unfold secret sumFor sec1
  refine sum_NS _ _ _ ?_ rfl
  have e : forB pSecret [seed1, two 2 ++ [UInt8.ofNat i, UInt8.ofNat s]] = (pSecret ++ 0 :: (len4 32 ++ seed1 ++ (len4 4 ++ two 2))) ++ [UInt8.ofNat i, UInt8.ofNat s] := rfl
  have h2 : nb [UInt8.ofNat i, UInt8.ofNat s] = i * 256 + s := by
    simp [nb]
    omega
  have h3 : [UInt8.ofNat i, UInt8.ofNat s].length = 2 := rfl
  rw [e, nb_append, h2, h3, p2]
  unfold preS
  exact Eq.refl _
theorem hide_eq (d : List UInt8) (hd : d.length = 32) : nb (hide d) = NS (preH * 115792089237316195423570985008687907853269984665640564039457584007913129639936 + nb d) 41 := by
  unfold hide sumFor
  have e : forB pHide [d] = (pHide ++ 0 :: len4 32) ++ d := by simp [forB, hd]
  refine sum_NS _ _ _ ?_ (by rw [e, List.length_append, hd]; rfl)
  rw [e, nb_append, hd, p32]
  unfold preH
  exact Eq.refl _
theorem hid1_eq (i s : Nat) (hi : i < 256) (hs : s < 256) : nb (hide (secret seed1 2 i s)) = hid1 i s := by
  unfold hid1
  rw [hide_eq _ rfl, sec1_eq i s hi hs]
/-- all pairs as one number, those turned round of which f says so -/
def pair1 (b : Bool) (i : Nat) : Nat := cond b (hid1 i 1 * 115792089237316195423570985008687907853269984665640564039457584007913129639936 + hid1 i 0) (hid1 i 0 * 115792089237316195423570985008687907853269984665640564039457584007913129639936 + hid1 i 1)
def all1 (f : Nat → Bool) (n : Nat) : Nat := Nat.rec 0 (fun i a => a * 13407807929942597099574024998205846127479365820592393377723561443721764030073546976801874298166903427690031858186486050853753882811946569946433649006084096 + pair1 (f i) i) n
theorem all1_succ (f : Nat → Bool) (n : Nat) : all1 f (n + 1) = all1 f n * 13407807929942597099574024998205846127479365820592393377723561443721764030073546976801874298166903427690031858186486050853753882811946569946433649006084096 + pair1 (f n) n := rfl
theorem flat2_succ (h : Nat → Nat → List UInt8) (n : Nat) : flat2 h (n + 1) = flat2 h n ++ (h n 0 ++ h n 1) := by
  unfold flat2
  rw [List.range_succ, List.flatMap_append]
  simp
theorem pair_nb (x y : List UInt8) (hx : x.length = 32) (hy : y.length = 32) (l : List UInt8) : nb (l ++ (x ++ y)) = nb l * 256 ^ (32 + 32) + (nb x * 256 ^ 32 + nb y) := by
  rw [nb_append, nb_append, List.length_append, hx, hy]
theorem pair1_eq (b : Bool) (n : Nat) (hn : n < 256) : nb (hide (secret seed1 2 n (cond b (1 - 0) 0))) * 256 ^ 32 + nb (hide (secret seed1 2 n (cond b (1 - 1) 1))) = pair1 b n := by
  rw [p32, hid1_eq _ _ hn (by cases b <;> decide), hid1_eq _ _ hn (by cases b <;> decide)]
  unfold pair1
  cases b
  · rw [cond_false, cond_false, cond_false]
  · rw [cond_true, cond_true, cond_true, Nat.sub_zero, Nat.sub_self]
theorem flat2_nb (h : Nat → Nat → List UInt8) (hl : ∀ i s, (h i s).length = 32) (f : Nat → Bool) (n : Nat) (hn : n ≤ 64) (e : ∀ i, i < n → ∀ s, s < 2 → h i s = hide (secret seed1 2 i (cond (f i) (1 - s) s))) : nb (flat2 h n) = all1 f n := by
  induction n with
  | zero => rfl
  | succ n ih =>
    rw [flat2_succ, pair_nb _ _ (hl _ _) (hl _ _), ih (by omega) fun i hi => e i (by omega), all1_succ, p64, e n (by omega) 0 (by omega), e n (by omega) 1 (by omega), pair1_eq (f n) n (by omega)]
theorem join_nb (h : Nat → Nat → List UInt8) (hl : ∀ i s, (h i s).length = 32) (X : Nat) (hX : nb (flat2 h 64) = X) : nb (join h) = NS (preP * 256 ^ 4096 + X) 4107 := by
  subst hX
  unfold join sumFor
  have hf : (flat2 h 64).length = 4096 := flat2_length hl 64
  have e : forB pPublic [flat2 h 64] = (pPublic ++ 0 :: len4 4096) ++ flat2 h 64 := by simp [forB, hf]
  refine sum_NS _ _ _ ?_ (by rw [e, List.length_append, hf]; rfl)
  rw [e, nb_append, hf]
  unfold preP
  exact Eq.refl _
def tx (b : Nat) : Nat := NS (preT * 256 + b) 10
/-- where the two texts' sums differ -/
def dif (i : Nat) : Bool := Nat.beq (Nat.land (Nat.shiftRight (Nat.xor (tx 97) (tx 98)) (Nat.sub 255 i)) 1) 1
theorem bit_nb (id : List UInt8) (hl : id.length = 32) (i : Nat) (hi : i < 64) : bitOf id i = nb id / 2 ^ (255 - i) % 2 := by
  have e : id = id.take (i / 8) ++ ([id.getD (i / 8) 0] ++ id.drop (i / 8 + 1)) := by
    rw [List.singleton_append, List.getD_eq_getElem?_getD, List.getElem?_eq_getElem (by omega), Option.getD_some, List.getElem_cons_drop, List.take_append_drop]
  have hd : (id.drop (i / 8 + 1)).length = 31 - i / 8 := by simp; omega
  have h3 := nb_lt (id.drop (i / 8 + 1))
  rw [hd] at h3
  have e2 : nb id = (nb (id.take (i / 8)) * 256 + (id.getD (i / 8) 0).toNat) * 256 ^ (31 - i / 8) + nb (id.drop (i / 8 + 1)) := by
    conv => lhs; rw [e]
    rw [nb_append, nb_append, List.length_append, hd, Nat.pow_add, Nat.add_mul]
    have : nb [id.getD (i / 8) 0] = (id.getD (i / 8) 0).toNat := by simp [nb]
    rw [this]
    generalize 256 ^ (31 - i / 8) = p
    simp only [List.length_singleton, Nat.pow_one]
    rw [Nat.mul_assoc]
    omega
  have hp : (2 : Nat) ^ (255 - i) = 256 ^ (31 - i / 8) * 2 ^ (7 - i % 8) := by
    rw [show (256 : Nat) = 2 ^ 8 from rfl, ← Nat.pow_mul, ← Nat.pow_add]
    congr 1
    omega
  unfold bitOf
  have hb := UInt8.toNat_lt (id.getD (i / 8) 0)
  generalize (id.getD (i / 8) 0).toNat = x at *
  rw [e2, hp]
  generalize 256 ^ (31 - i / 8) = p at *
  rw [← Nat.div_div_eq_div_mul, Nat.mul_comm _ p, Nat.mul_add_div (by omega), Nat.div_eq_of_lt h3, Nat.add_zero]
  have h7 : 7 - i % 8 < 8 := by omega
  generalize nb (id.take (i / 8)) = y
  generalize 7 - i % 8 = k at *
  match k, h7 with
  | 0, _ | 1, _ | 2, _ | 3, _ | 4, _ | 5, _ | 6, _ | 7, _ => simp; omega
theorem tx_eq (b : UInt8) : nb (sumFor pText [[b]]) = tx b.toNat := by
  unfold sumFor tx
  refine sum_NS _ _ _ ?_ rfl
  have e : forB pText [[b]] = (pText ++ 0 :: len4 1) ++ [b] := rfl
  have : nb [b] = b.toNat := by simp [nb]
  rw [e, nb_append, this]
  simp only [List.length_singleton, Nat.pow_one]
  unfold preT
  exact Eq.refl _
theorem dif_eq (i : Nat) (hi : i < 64) : dif i = (side [97] i != side [98] i) := by
  have h1 : ∀ x y : Nat, x % 2 < 2 := fun x y => Nat.mod_lt _ (by decide)
  unfold side
  rw [bit_nb _ rfl i hi, bit_nb _ rfl i hi, tx_eq, tx_eq]
  show dif i = (tx 97 / 2 ^ (255 - i) % 2 != tx 98 / 2 ^ (255 - i) % 2)
  show ((tx 97 ^^^ tx 98) >>> (255 - i) &&& 1).beq 1 = _
  rw [Nat.shiftRight_xor_distrib, Nat.shiftRight_eq_div_pow, Nat.shiftRight_eq_div_pow, Nat.and_one_is_mod]
  generalize tx 97 / 2 ^ (255 - i) = x
  generalize tx 98 / 2 ^ (255 - i) = y
  have e : (x ^^^ y) % 2 = (x % 2) ^^^ (y % 2) := by
    have := Nat.xor_mod_two_pow (a := x) (b := y) (n := 1)
    simpa using this
  rw [e]
  rcases Nat.mod_two_eq_zero_or_one x with hx | hx <;> rcases Nat.mod_two_eq_zero_or_one y with hy | hy <;> rw [hx, hy] <;> rfl
def nPub : Nat := NS (preP * 256 ^ 4096 + all1 (fun _ => false) 64) 4107
def nShows : Nat := NS (preP * 256 ^ 4096 + all1 dif 64) 4107
theorem pub_nb : nb (pub seed1 2) = nPub := by
  unfold pub nPub
  exact join_nb _ (fun _ _ => rfl) _ (flat2_nb _ (fun _ _ => rfl) (fun _ => false) 64 (by decide) fun i _ s _ => rfl)
theorem shows_nb : nb (shows (shown seed1 2 [97]) (other seed1 2 [97]) [98]) = nShows := by
  have hl : ∀ i s, (sides2 (shown seed1 2 [97]) (other seed1 2 [97]) [98] i s).length = 32 := fun i s => by unfold sides2; split <;> rfl
  unfold shows nShows
  refine join_nb _ hl _ (flat2_nb _ hl dif 64 (by decide) fun i hi s hs => ?_)
  rw [dif_eq i hi]
  have ha := side_lt [97] i
  have hb := side_lt [98] i
  unfold sides2 shown other
  generalize side [97] i = x at *
  generalize side [98] i = y at *
  match x, y, s, ha, hb, hs with
  | 0, 0, 0, _, _, _ | 0, 0, 1, _, _, _ | 0, 1, 0, _, _, _ | 0, 1, 1, _, _, _ | 1, 0, 0, _, _, _ | 1, 0, 1, _, _, _ | 1, 1, 0, _, _, _ | 1, 1, 1, _, _, _ => rfl
set_option maxRecDepth 100000 in
theorem n_differ : (Nat.beq nPub nShows || Nat.beq nPub 0) = false := by decide +kernel
theorem head_differ : shows (shown seed1 2 [97]) (other seed1 2 [97]) [98] ≠ pub seed1 2 := fun h => by
  have e : nPub = nShows := by rw [← pub_nb, ← shows_nb, h]
  have := n_differ
  rw [e, Nat.beq_refl] at this
  cases this
theorem head_some : pub seed1 2 ≠ List.replicate 32 0 := fun h => by
  have e : nPub = 0 := by rw [← pub_nb, h]; decide +kernel
  have := n_differ
  rw [e] at this
  simp at this
end Go.Proofs.Ytefalfalapnllaa.Once
