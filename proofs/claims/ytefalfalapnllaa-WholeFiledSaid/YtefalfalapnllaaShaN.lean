/- The sum of bytes once more, over plain numbers: made to be reckoned by the kernel; and that it is the same sum. -/
import Derived.Test.YtefalfalapnllaaSha
import Derived.Test.YtefalfalapnllaaBlocks
namespace Go.Proofs.Ytefalfalapnllaa.Sha

/-- the bytes as one number, the first byte highest -/
def nb (l : List UInt8) : Nat := l.foldl (fun a b => a * 256 + b.toNat) 0
theorem nb_foldl (l : List UInt8) (a : Nat) : l.foldl (fun a b => a * 256 + b.toNat) a = a * 256 ^ l.length + nb l := by
  induction l generalizing a with
  | nil => simp [nb]
  | cons b l ih =>
    unfold nb
    rw [List.foldl_cons, List.foldl_cons, ih, ih (0 * 256 + b.toNat), List.length_cons, Nat.pow_succ, Nat.zero_mul, Nat.zero_add, Nat.add_mul, Nat.add_assoc]
    congr 1
    rw [Nat.mul_assoc, Nat.mul_comm 256]
theorem nb_nil : nb [] = 0 := rfl
theorem nb_cons (b : UInt8) (l : List UInt8) : nb (b :: l) = b.toNat * 256 ^ l.length + nb l := by
  show (b :: l).foldl (fun a b => a * 256 + b.toNat) 0 = _
  rw [List.foldl_cons, nb_foldl, Nat.zero_mul, Nat.zero_add]
theorem nb_append (l m : List UInt8) : nb (l ++ m) = nb l * 256 ^ m.length + nb m := by
  show (l ++ m).foldl (fun a b => a * 256 + b.toNat) 0 = _
  rw [List.foldl_append, nb_foldl]
  rfl
theorem nb_lt (l : List UInt8) : nb l < 256 ^ l.length := by
  induction l with
  | nil => simp [nb]
  | cons b l ih =>
    rw [nb_cons, List.length_cons, Nat.pow_succ]
    have := UInt8.toNat_lt b
    generalize 256 ^ l.length = p at *
    have h2 : b.toNat * p ≤ 255 * p := Nat.mul_le_mul_right _ (by omega)
    omega
theorem nb_inj {l m : List UInt8} (h : l.length = m.length) (e : nb l = nb m) : l = m := by
  induction l generalizing m with
  | nil => cases m with
    | nil => rfl
    | cons _ _ => simp at h
  | cons b l ih =>
    cases m with
    | nil => simp at h
    | cons c m =>
      have hl : l.length = m.length := by simpa using h
      rw [nb_cons, nb_cons, hl] at e
      have h1 := nb_lt l
      have h2 := nb_lt m
      rw [hl] at h1
      generalize 256 ^ m.length = p at *
      have hb : b.toNat = c.toNat := by
        have e1 : (b.toNat * p + nb l) / p = b.toNat := by rw [Nat.mul_comm, Nat.mul_add_div (by omega), Nat.div_eq_of_lt h1, Nat.add_zero]
        have e2 : (c.toNat * p + nb m) / p = c.toNat := by rw [Nat.mul_comm, Nat.mul_add_div (by omega), Nat.div_eq_of_lt h2, Nat.add_zero]
        rw [← e1, ← e2, e]
      rw [hb] at e
      rw [UInt8.toNat_inj.1 hb, ih hl (by omega)]

/-- words as one number, the first word lowest -/
def pk : List W → Nat
  | [] => 0
  | x :: l => x.toNat + 4294967296 * pk l
namespace N
/-- a word out of words -/
def at_ (p j : Nat) : Nat := Nat.mod (Nat.shiftRight p (Nat.mul 32 j)) 4294967296
/-- a word out of a block -/
def wd (B i : Nat) : Nat := Nat.mod (Nat.shiftRight B (Nat.mul 32 (Nat.sub 15 i))) 4294967296
def rotr (r x : Nat) : Nat := Nat.lor (Nat.mod (Nat.shiftLeft x (Nat.sub 32 r)) 4294967296) (Nat.shiftRight x r)
def low (x : Nat) : Nat := Nat.xor (Nat.xor (rotr 7 x) (rotr 18 x)) (Nat.shiftRight x 3)
def high (y : Nat) : Nat := Nat.xor (Nat.xor (rotr 17 y) (rotr 19 y)) (Nat.shiftRight y 10)
def next (p i : Nat) : Nat := Nat.mod (Nat.add (Nat.add (Nat.add (at_ p (Nat.sub i 16)) (low (at_ p (Nat.sub i 15)))) (at_ p (Nat.sub i 7))) (high (at_ p (Nat.sub i 2)))) 4294967296
def step (B i p : Nat) : Nat := Nat.add p (Nat.shiftLeft (cond (Nat.ble 16 i) (next p i) (wd B i)) (Nat.mul 32 i))
def sched (B n : Nat) : Nat := Nat.rec 0 (fun i p => step B i p) n
def kN : Nat := 25051139735836467913601071899189108501681633092613316132753366958947502841281110980347811086624969305314199562795868290539880502533646505489797110349007385020507326982043050618112420254613810441709594605123090411975756494285771699200369901479195251226368983824020564277645963860728452821576845901498668417244438721537663670541944820957180957595559282976806173113161068298822071065329290006052849814285001949914564097058408480133985233335799884203712730341384999677089997083749077591931498939520449886954646413138343858395935213418018409268340744776361518554939863400075967197509182087778881547827184266701615699472280
def one (p k w : Nat) : Nat := Nat.mod (Nat.add (Nat.add (Nat.add (Nat.add (at_ p 7) (Nat.xor (Nat.xor (rotr 6 (at_ p 4)) (rotr 11 (at_ p 4))) (rotr 25 (at_ p 4)))) (Nat.xor (at_ p 6) (Nat.land (at_ p 4) (Nat.xor (at_ p 5) (at_ p 6))))) k) w) 4294967296
def two (p : Nat) : Nat := Nat.mod (Nat.add (Nat.xor (Nat.xor (rotr 2 (at_ p 0)) (rotr 13 (at_ p 0))) (rotr 22 (at_ p 0))) (Nat.lor (Nat.land (at_ p 0) (at_ p 1)) (Nat.land (at_ p 2) (Nat.lor (at_ p 0) (at_ p 1))))) 4294967296
/-- eight words as one number -/
def mk (a b c d e f g h : Nat) : Nat := Nat.add a (Nat.mul 4294967296 (Nat.add b (Nat.mul 4294967296 (Nat.add c (Nat.mul 4294967296 (Nat.add d (Nat.mul 4294967296 (Nat.add e (Nat.mul 4294967296 (Nat.add f (Nat.mul 4294967296 (Nat.add g (Nat.mul 4294967296 h)))))))))))))
def round (p k w : Nat) : Nat := mk (Nat.mod (Nat.add (one p k w) (two p)) 4294967296) (at_ p 0) (at_ p 1) (at_ p 2) (Nat.mod (Nat.add (at_ p 3) (one p k w)) 4294967296) (at_ p 4) (at_ p 5) (at_ p 6)
def rounds (S p n : Nat) : Nat := Nat.rec p (fun i q => round q (at_ kN i) (at_ S i)) n
def plus (p q : Nat) : Nat := mk (Nat.mod (Nat.add (at_ p 0) (at_ q 0)) 4294967296) (Nat.mod (Nat.add (at_ p 1) (at_ q 1)) 4294967296) (Nat.mod (Nat.add (at_ p 2) (at_ q 2)) 4294967296) (Nat.mod (Nat.add (at_ p 3) (at_ q 3)) 4294967296) (Nat.mod (Nat.add (at_ p 4) (at_ q 4)) 4294967296) (Nat.mod (Nat.add (at_ p 5) (at_ q 5)) 4294967296) (Nat.mod (Nat.add (at_ p 6) (at_ q 6)) 4294967296) (Nat.mod (Nat.add (at_ p 7) (at_ q 7)) 4294967296)
def take (p B : Nat) : Nat := plus p (rounds (sched B 64) p 64)
def start : Nat := 41557658498906279274860226408925318911382702236748615442085426012007055353447
/-- the first word highest -/
def out (p : Nat) : Nat := mk (at_ p 7) (at_ p 6) (at_ p 5) (at_ p 4) (at_ p 3) (at_ p 2) (at_ p 1) (at_ p 0)
/-- n blocks of 64 bytes, as one number, taken in -/
def run (M m n : Nat) : Nat := Nat.rec start (fun i p => take p (Nat.mod (Nat.shiftRight M (Nat.mul 512 (Nat.sub (Nat.sub m 1) i))) 13407807929942597099574024998205846127479365820592393377723561443721764030073546976801874298166903427690031858186486050853753882811946569946433649006084096)) n
end N

theorem at_eq (p j : Nat) : N.at_ p j = p / 4294967296 ^ j % 4294967296 := by
  show p >>> (32 * j) % 4294967296 = _
  rw [Nat.shiftRight_eq_div_pow, show (4294967296 : Nat) = 2 ^ 32 from rfl, ← Nat.pow_mul]
theorem at_pk (l : List W) (j : Nat) : N.at_ (pk l) j = (l.getD j 0).toNat := by
  rw [at_eq]
  induction l generalizing j with
  | nil => simp [pk]
  | cons x l ih =>
    have hx := x.isLt
    cases j with
    | zero => simp only [pk, Nat.pow_zero, Nat.div_one, List.getD_cons_zero]; omega
    | succ j =>
      rw [List.getD_cons_succ, ← ih j, pk, Nat.pow_succ, Nat.mul_comm (4294967296 ^ j), ← Nat.div_div_eq_div_mul]
      congr 2
      omega
theorem pk_append (l m : List W) : pk (l ++ m) = pk l + 4294967296 ^ l.length * pk m := by
  induction l with
  | nil => simp [pk]
  | cons x l ih =>
    rw [List.cons_append, pk, pk, ih, List.length_cons, Nat.pow_succ, Nat.mul_add, Nat.add_assoc]
    congr 2
    rw [← Nat.mul_assoc, Nat.mul_comm 4294967296]
theorem rotr_eq (r : Nat) (x : W) : N.rotr r x.toNat = (rotr r x).toNat := by
  unfold rotr or shl shr
  rw [BitVec.toNat_or, BitVec.toNat_shiftLeft, BitVec.toNat_ushiftRight]
  rfl
theorem xor_eq (a b : W) : Nat.xor a.toNat b.toNat = (xor a b).toNat := (BitVec.toNat_xor a b).symm
theorem and_eq (a b : W) : Nat.land a.toNat b.toNat = (and a b).toNat := (BitVec.toNat_and a b).symm
theorem or_eq (a b : W) : Nat.lor a.toNat b.toNat = (or a b).toNat := (BitVec.toNat_or a b).symm
theorem shr_eq (r : Nat) (a : W) : Nat.shiftRight a.toNat r = (shr r a).toNat := (BitVec.toNat_ushiftRight a r).symm
theorem add_eq (a b : W) : (add a b).toNat = (a.toNat + b.toNat) % 4294967296 := BitVec.toNat_add a b
theorem addm_eq (a b : W) : Nat.mod (Nat.add a.toNat b.toNat) 4294967296 = (add a b).toNat := (BitVec.toNat_add a b).symm
theorem low_eq (x : W) : N.low x.toNat = (low x).toNat := by
  unfold N.low low
  rw [rotr_eq, rotr_eq, xor_eq, shr_eq, xor_eq]
theorem high_eq (x : W) : N.high x.toNat = (high x).toNat := by
  unfold N.high high
  rw [rotr_eq, rotr_eq, xor_eq, shr_eq, xor_eq]
theorem next_eq (l : List W) (i : Nat) : N.next (pk l) i = (next (l.getD (i - 16) 0) (l.getD (i - 15) 0) (l.getD (i - 7) 0) (l.getD (i - 2) 0)).toNat := by
  show (N.at_ (pk l) (i - 16) + N.low (N.at_ (pk l) (i - 15)) + N.at_ (pk l) (i - 7) + N.high (N.at_ (pk l) (i - 2))) % 4294967296 = _
  rw [at_pk, at_pk, at_pk, at_pk, low_eq, high_eq]
  unfold next
  rw [add_eq, add_eq, add_eq]
  omega
/-- the bytes of a word -/
theorem word_eq (b0 b1 b2 b3 : UInt8) : (word b0 b1 b2 b3).toNat = nb [b0, b1, b2, b3] := by
  have h0 := UInt8.toNat_lt b0
  have h1 := UInt8.toNat_lt b1
  have h2 := UInt8.toNat_lt b2
  have h3 := UInt8.toNat_lt b3
  have s : ∀ (r : Nat) (b : UInt8), b.toNat * 2 ^ r < 4294967296 → (shl r (bw b)).toNat = b.toNat * 2 ^ r := fun r b h => by
    unfold shl
    rw [BitVec.toNat_shiftLeft, bw_toNat, Nat.shiftLeft_eq, Nat.mod_eq_of_lt h]
  have o1 : b0.toNat * 2 ^ 24 ||| b1.toNat * 2 ^ 16 = b0.toNat * 2 ^ 24 + b1.toNat * 2 ^ 16 := by
    have := Nat.shiftLeft_add_eq_or_of_lt (i := 24) (b := b1.toNat * 2 ^ 16) (by omega) b0.toNat
    rw [Nat.shiftLeft_eq] at this
    exact this.symm
  have o2 : b0.toNat * 2 ^ 24 + b1.toNat * 2 ^ 16 ||| b2.toNat * 2 ^ 8 = b0.toNat * 2 ^ 24 + b1.toNat * 2 ^ 16 + b2.toNat * 2 ^ 8 := by
    have := Nat.shiftLeft_add_eq_or_of_lt (i := 16) (b := b2.toNat * 2 ^ 8) (by omega) (b0.toNat * 2 ^ 8 + b1.toNat)
    rw [Nat.shiftLeft_eq, Nat.add_mul, Nat.mul_assoc] at this
    exact this.symm
  have o3 : b0.toNat * 2 ^ 24 + b1.toNat * 2 ^ 16 + b2.toNat * 2 ^ 8 ||| b3.toNat = b0.toNat * 2 ^ 24 + b1.toNat * 2 ^ 16 + b2.toNat * 2 ^ 8 + b3.toNat := by
    have := Nat.shiftLeft_add_eq_or_of_lt (i := 8) (b := b3.toNat) (by omega) (b0.toNat * 2 ^ 16 + b1.toNat * 2 ^ 8 + b2.toNat)
    rw [Nat.shiftLeft_eq, Nat.add_mul, Nat.add_mul, Nat.mul_assoc, Nat.mul_assoc] at this
    exact this.symm
  unfold word or
  rw [BitVec.toNat_or, BitVec.toNat_or, BitVec.toNat_or, s _ _ (by omega), s _ _ (by omega), s _ _ (by omega), bw_toNat, o1, o2, o3]
  simp [nb]
  omega
theorem wd_eq (b : List UInt8) (hb : b.length = 64) (i : Nat) (hi : i < 16) : N.wd (nb b) i = (wordAt b i).toNat := by
  have e : b = b.take (4 * i) ++ ([b.getD (4 * i) 0, b.getD (4 * i + 1) 0, b.getD (4 * i + 2) 0, b.getD (4 * i + 3) 0] ++ b.drop (4 * i + 4)) := by
    apply List.ext_getElem?
    intro j
    rw [List.getElem?_append]
    by_cases h1 : j < (b.take (4 * i)).length
    · rw [if_pos h1, List.getElem?_take_of_lt (by simp at h1; omega)]
    · rw [if_neg h1]
      have hl : (b.take (4 * i)).length = 4 * i := by simp; omega
      rw [hl] at h1 ⊢
      rw [List.getElem?_append]
      by_cases h2 : j - 4 * i < 4
      · rw [if_pos (by simpa using h2)]
        obtain ⟨d, hd, rfl⟩ : ∃ d, d < 4 ∧ j = 4 * i + d := ⟨j - 4 * i, h2, by omega⟩
        rw [Nat.add_sub_cancel_left, List.getElem?_eq_getElem (by omega)]
        match d, hd with
        | 0, _ | 1, _ | 2, _ | 3, _ => simp [List.getD_eq_getElem?_getD]; rw [List.getElem?_eq_getElem (by omega)]; rfl
      · rw [if_neg (by simpa using h2), List.getElem?_drop]
        simp
        congr 1
        omega
  have hl : (b.drop (4 * i + 4)).length = 4 * (15 - i) := by simp; omega
  show nb b >>> (32 * (15 - i)) % 4294967296 = _
  rw [show wordAt b i = word (b.getD (4 * i) 0) (b.getD (4 * i + 1) 0) (b.getD (4 * i + 2) 0) (b.getD (4 * i + 3) 0) from rfl, word_eq]
  generalize hW : [b.getD (4 * i) 0, b.getD (4 * i + 1) 0, b.getD (4 * i + 2) 0, b.getD (4 * i + 3) 0] = X at *
  have hX : X.length = 4 := by rw [← hW]; rfl
  have h3 := nb_lt (b.drop (4 * i + 4))
  rw [hl] at h3
  have h4 := nb_lt X
  rw [hX] at h4
  have hp : (2 : Nat) ^ (32 * (15 - i)) = 256 ^ (4 * (15 - i)) := by rw [show (256 : Nat) = 2 ^ 8 from rfl, ← Nat.pow_mul]; congr 1; omega
  have e2 : nb b = (nb (b.take (4 * i)) * 256 ^ 4 + nb X) * 256 ^ (4 * (15 - i)) + nb (b.drop (4 * i + 4)) := by
    conv => lhs; rw [e]
    rw [nb_append, nb_append, List.length_append, hX, hl, Nat.pow_add, Nat.add_mul]
    generalize 256 ^ (4 * (15 - i)) = p
    rw [Nat.mul_assoc]
    omega
  rw [e2, Nat.shiftRight_eq_div_pow, hp]
  generalize 256 ^ (4 * (15 - i)) = p at *
  rw [Nat.mul_comm _ p, Nat.mul_add_div (by omega), Nat.div_eq_of_lt h3]
  omega
theorem sched_eq (b : List UInt8) (hb : b.length = 64) (n : Nat) : N.sched (nb b) n = pk (sched b n) := by
  induction n with
  | zero => rfl
  | succ n ih =>
    show N.step (nb b) n (N.sched (nb b) n) = _
    rw [ih]
    show pk (sched b n) + (cond (Nat.ble 16 n) (N.next (pk (sched b n)) n) (N.wd (nb b) n)) <<< (32 * n) = pk (sched b n ++ [_])
    rw [pk_append, sched_length, Nat.shiftLeft_eq, show (2 : Nat) ^ (32 * n) = 4294967296 ^ n by rw [Nat.pow_mul], Nat.mul_comm (4294967296 ^ n)]
    congr 2
    by_cases h : n < 16
    · rw [if_pos h, show Nat.ble 16 n = false from by rw [← Bool.not_eq_true, Nat.ble_eq]; omega, cond_false, wd_eq b hb n h]
      simp [pk]
    · rw [if_neg h, show Nat.ble 16 n = true from by rw [Nat.ble_eq]; omega, cond_true, next_eq]
      simp [pk]
def lst' (s : St) : List W := [s.a, s.b, s.c, s.d, s.e, s.f, s.g, s.h]
def pks (s : St) : Nat := pk (lst' s)
theorem mk_eq (s : St) : N.mk s.a.toNat s.b.toNat s.c.toNat s.d.toNat s.e.toNat s.f.toNat s.g.toNat s.h.toNat = pks s := rfl
section
variable (s : St)
theorem at0 : N.at_ (pks s) 0 = s.a.toNat := at_pk _ 0
theorem at1 : N.at_ (pks s) 1 = s.b.toNat := at_pk _ 1
theorem at2 : N.at_ (pks s) 2 = s.c.toNat := at_pk _ 2
theorem at3 : N.at_ (pks s) 3 = s.d.toNat := at_pk _ 3
theorem at4 : N.at_ (pks s) 4 = s.e.toNat := at_pk _ 4
theorem at5 : N.at_ (pks s) 5 = s.f.toNat := at_pk _ 5
theorem at6 : N.at_ (pks s) 6 = s.g.toNat := at_pk _ 6
theorem at7 : N.at_ (pks s) 7 = s.h.toNat := at_pk _ 7
end
theorem one_eq (s : St) (k w : W) : N.one (pks s) k.toNat w.toNat = (one s k w).toNat := by
  unfold N.one one
  rw [at7, at4, at5, at6, rotr_eq, rotr_eq, rotr_eq, xor_eq, xor_eq, xor_eq, and_eq, xor_eq]
  show (s.h.toNat + _ + _ + _ + _) % 4294967296 = _
  rw [add_eq, add_eq, add_eq, add_eq]
  omega
theorem two_eq (s : St) : N.two (pks s) = (two s).toNat := by
  unfold N.two two
  rw [at0, at1, at2, rotr_eq, rotr_eq, rotr_eq, xor_eq, xor_eq, and_eq, or_eq, and_eq, or_eq, addm_eq]
theorem round_eq (s : St) (k w : W) : N.round (pks s) k.toNat w.toNat = pks (round s k w) := by
  unfold N.round
  rw [one_eq, two_eq, at0, at1, at2, at3, at4, at5, at6, addm_eq, addm_eq]
  rfl
theorem kN_eq : N.kN = pk kTab := by decide +kernel
theorem rounds_eq (b : List UInt8) (s : St) (n : Nat) : N.rounds (pk (sched b 64)) (pks s) n = pks (rounds b s n) := by
  induction n with
  | zero => rfl
  | succ n ih =>
    show N.round (N.rounds (pk (sched b 64)) (pks s) n) (N.at_ N.kN n) (N.at_ (pk (sched b 64)) n) = pks (round (rounds b s n) (kTab.getD n 0) ((sched b 64).getD n 0))
    rw [ih, kN_eq, at_pk, at_pk, round_eq]
theorem plus_eq (s v : St) : N.plus (pks s) (pks v) = pks (s.plus v) := by
  unfold N.plus
  rw [at0, at1, at2, at3, at4, at5, at6, at7, at0, at1, at2, at3, at4, at5, at6, at7, addm_eq, addm_eq, addm_eq, addm_eq, addm_eq, addm_eq, addm_eq, addm_eq]
  rfl
theorem take_eq (s : St) (b : List UInt8) (hb : b.length = 64) : N.take (pks s) (nb b) = pks (take s b) := by
  unfold N.take take
  rw [sched_eq b hb, rounds_eq, plus_eq]
theorem start_eq : N.start = pks start := by decide +kernel
theorem wordB_eq (x : W) : nb (wordB x) = x.toNat := by
  have := x.isLt
  simp [wordB, nb]
  omega
theorem out_eq (s : St) : N.out (pks s) = nb s.bytes := by
  have e : ∀ x : W, (wordB x).length = 4 := fun _ => rfl
  unfold N.out
  rw [at0, at1, at2, at3, at4, at5, at6, at7]
  show s.h.toNat + 4294967296 * (s.g.toNat + 4294967296 * (s.f.toNat + 4294967296 * (s.e.toNat + 4294967296 * (s.d.toNat + 4294967296 * (s.c.toNat + 4294967296 * (s.b.toNat + 4294967296 * s.a.toNat)))))) = _
  unfold St.bytes
  simp only [nb_append, wordB_eq, e]
  omega
/-- a message filled up -/
theorem run_eq (l : List (List UInt8)) (hl : ∀ b ∈ l, b.length = 64) (n : Nat) (hn : n ≤ l.length) : N.run (nb l.flatten) l.length n = pks ((l.take n).foldl take start) := by
  induction n with
  | zero => exact start_eq
  | succ n ih =>
    show N.take (N.run (nb l.flatten) l.length n) (nb l.flatten >>> (512 * (l.length - 1 - n)) % _) = _
    rw [ih (by omega), List.take_succ_eq_append_getElem (by omega), List.foldl_append, List.foldl_cons, List.foldl_nil, ← take_eq _ _ (hl _ (List.getElem_mem _))]
    congr 1
    have e : l = l.take n ++ (l[n] :: l.drop (n + 1)) := by rw [List.getElem_cons_drop, List.take_append_drop]
    have hfl : ∀ m : List (List UInt8), (∀ b ∈ m, b.length = 64) → m.flatten.length = 64 * m.length := by
      intro m hm
      induction m with
      | nil => rfl
      | cons x m ih2 => rw [List.flatten_cons, List.length_append, hm x (List.mem_cons_self ..), ih2 fun b hb => hm b (List.mem_cons_of_mem _ hb), List.length_cons]; omega
    have hd : (l.drop (n + 1)).flatten.length = 64 * (l.length - 1 - n) := by
      rw [hfl _ fun b hb => hl b (List.mem_of_mem_drop hb), List.length_drop]
      congr 1
      omega
    have hln : l[n].length = 64 := hl _ (List.getElem_mem _)
    have e2 : nb l.flatten = (nb (l.take n).flatten * 256 ^ 64 + nb l[n]) * 256 ^ (64 * (l.length - 1 - n)) + nb (l.drop (n + 1)).flatten := by
      have : l.flatten = (l.take n).flatten ++ (l[n] ++ (l.drop (n + 1)).flatten) := by
        conv => lhs; rw [e]
        rw [List.flatten_append, List.flatten_cons]
      rw [this, nb_append, nb_append, List.length_append, hln, hd, Nat.pow_add, Nat.add_mul]
      generalize 256 ^ (64 * (l.length - 1 - n)) = p
      rw [Nat.mul_assoc]
      omega
    have h3 := nb_lt (l.drop (n + 1)).flatten
    rw [hd] at h3
    have h4 := nb_lt l[n]
    rw [hln] at h4
    have hp : (2 : Nat) ^ (512 * (l.length - 1 - n)) = 256 ^ (64 * (l.length - 1 - n)) := by rw [show (256 : Nat) = 2 ^ 8 from rfl, ← Nat.pow_mul]; congr 1; omega
    rw [e2, Nat.shiftRight_eq_div_pow, hp]
    generalize 256 ^ (64 * (l.length - 1 - n)) = p at *
    rw [Nat.mul_comm _ p, Nat.mul_add_div (by omega), Nat.div_eq_of_lt h3]
    generalize nb l[n] = y at *
    generalize nb (l.take n).flatten = z at *
    have h5 : (256 : Nat) ^ 64 = 13407807929942597099574024998205846127479365820592393377723561443721764030073546976801874298166903427690031858186486050853753882811946569946433649006084096 := by decide +kernel
    rw [h5] at h4 ⊢
    rw [Nat.add_zero, Nat.add_comm, Nat.mul_comm, Nat.add_mul_mod_self_left, Nat.mod_eq_of_lt h4]
/-- the sum of a message, as a number -/
theorem sum_nb (c : List UInt8) (M n : Nat) (hM : nb (blocks c).flatten = M) (hn : (blocks c).length = n) : nb (sum c) = N.out (N.run M n n) := by
  subst hM hn
  rw [run_eq _ (blocks_64 c) _ (Nat.le_refl _), List.take_length, out_eq]
  rfl
end Go.Proofs.Ytefalfalapnllaa.Sha
