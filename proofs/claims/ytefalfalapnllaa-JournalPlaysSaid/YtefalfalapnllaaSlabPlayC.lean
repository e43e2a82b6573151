/- A slab and the document's value side by side: each step does the same to both. -/
import Derived.Test.YtefalfalapnllaaSlabRef
namespace Go.Proofs.Ytefalfalapnllaa
open Go.RowKit
set_option linter.unusedVariables false

/-- the cells of the document's slab -/
def SlabS.rc (s : SlabS) : Array Value := refc s.room s.sure s.steps ⟨s.bs.toArray⟩
def SlabS.rv (s : SlabS) : Value := refv s.room s.sure s.steps ⟨s.bs.toArray⟩

/-- a slab at p and the document's value at q, both made since w0 -/
def Play (w0 W : World) (p q : Nat) (s r : SlabS) : Prop :=
  ∃ F, SlabAt W F p s ∧ (∀ k, F k → w0.heap.size ≤ k) ∧ New w0 W ∧ Blk W q 41 r.rc ∧ ¬ F q ∧ w0.heap.size ≤ q
theorem Play.new {w0 W : World} {p q : Nat} {s r : SlabS} (h : Play w0 W p q s r) : New w0 W := by obtain ⟨_, _, _, h, _⟩ := h; exact h
theorem Play.good {w0 W : World} {p q : Nat} {s r : SlabS} (h : Play w0 W p q s r) : s.ok := by obtain ⟨_, h, _⟩ := h; exact h.good
theorem Play.blk {w0 W : World} {p q : Nat} {s r : SlabS} (h : Play w0 W p q s r) : Blk W q 41 r.rc := by obtain ⟨_, _, _, _, h, _⟩ := h; exact h
theorem Play.then_new {w0 W W' : World} {p q : Nat} {s r : SlabS} (h : Play w0 W p q s r) (n : New W W') : Play w0 W' p q s r := by
  obtain ⟨F, h1, h2, h3, h4, h5, h6⟩ := h
  exact ⟨F, h1.fr n (fun _ _ => id), h2, h3.trans n (fun _ => .inl), h4.fr n id, h5, h6⟩
theorem Play.slab {w0 W W' : World} {p q : Nat} {s r s' : SlabS} (h : Play w0 W p q s r)
    (hc : ∀ F, SlabAt W F p s → (∃ F', SlabAt W' F' p s' ∧ Gr W F F') ∧ Fr F W W') : Play w0 W' p q s' r := by
  obtain ⟨F, h1, h2, h3, h4, h5, h6⟩ := h
  obtain ⟨⟨F', h1', g⟩, f⟩ := hc F h1
  exact ⟨F', h1', fun k hk => (g k hk).elim (h2 k) (fun h => Nat.le_trans h3.size h), h3.trans f (fun x hx => .inr (h2 x hx)), h4.fr f h5,
    fun hF => (g q hF).elim h5 (fun hge => by have := h4.lt; omega), h6⟩
theorem Play.set {w0 W : World} {p q : Nat} {s r : SlabS} (h : Play w0 W p q s r) (r' : SlabS) :
    Play w0 ((((W.setCell ⟨q, 0, none⟩ (.int .i64 r'.room)).setCell ⟨q, 1, none⟩ (.int .i64 r'.sure)).setCell ⟨q, 2, none⟩ (.int .i64 r'.steps)).setCell ⟨q, 3, none⟩ (.string ⟨r'.bs.toArray⟩)) p q s r' := by
  obtain ⟨F, h1, h2, h3, h4, h5, h6⟩ := h
  have f : Fr (fun k => k = q) W ((((W.setCell ⟨q, 0, none⟩ (.int .i64 r'.room)).setCell ⟨q, 1, none⟩ (.int .i64 r'.sure)).setCell ⟨q, 2, none⟩ (.int .i64 r'.steps)).setCell ⟨q, 3, none⟩ (.string ⟨r'.bs.toArray⟩)) :=
    ((((Fr.refl (fun k => k = q) W).then_set (p := ⟨q, 0, none⟩) rfl _).then_set (p := ⟨q, 1, none⟩) rfl _).then_set (p := ⟨q, 2, none⟩) rfl _).then_set (p := ⟨q, 3, none⟩) rfl _
  refine ⟨F, h1.fr f (fun k hk e => h5 (e ▸ hk)), h2, h3.trans f (fun x hx => .inr (by rw [hx]; exact h6)), ?_, h5, h6⟩
  have := (((h4.set 0 (.int .i64 r'.room)).set 1 (.int .i64 r'.sure)).set 2 (.int .i64 r'.steps)).set 3 (.string ⟨r'.bs.toArray⟩)
  simpa [SlabS.rc, refc] using this

theorem Play.same {w0 W W' : World} {p q : Nat} {s r : SlabS} (h : Play w0 W p q s r) (hn : New W W') : Play w0 W' p q s r := h.then_new hn
theorem Play.ex {w0 W : World} {p q : Nat} {s r : SlabS} {f : Nat} {args : Array Value} {v : Value} {s' : SlabS} (h : Play w0 W p q s r)
    (hc : ∀ F, SlabAt W F p s → Calls Try.prog f args W fun e W' => e = .returned v ∧ SlabAt W' F p s' ∧ Fr F W W') :
    Calls Try.prog f args W fun e W' => e = .returned v ∧ Play w0 W' p q s' r := by
  have h' := h
  obtain ⟨F, h1, _⟩ := h
  -- the one footprint serves
  obtain ⟨F, h1, h2, h3, h4, h5, h6⟩ := h'
  exact (hc F h1).mono fun _ W' ⟨he, ha, hf⟩ => ⟨he, F, ha, h2, h3.trans hf (fun x hx => .inr (h2 x hx)), h4.fr hf h5, h5, h6⟩
theorem Play.exn {w0 W : World} {p q : Nat} {s r : SlabS} {f : Nat} {args : Array Value} {v : Value} (h : Play w0 W p q s r)
    (hc : ∀ F, SlabAt W F p s → Calls Try.prog f args W fun e W' => e = .returned v ∧ SlabAt W' F p s ∧ New W W') :
    Calls Try.prog f args W fun e W' => e = .returned v ∧ Play w0 W' p q s r := by
  obtain ⟨F, h1, h2, h3, h4, h5, h6⟩ := h
  exact (hc F h1).mono fun _ W' ⟨he, ha, hf⟩ => ⟨he, F, ha, h2, h3.trans hf (fun x => False.elim), h4.fr hf id, h5, h6⟩
theorem Play.exw {w0 W : World} {p q : Nat} {s r : SlabS} {f : Nat} {args : Array Value} {v : Value} (h : Play w0 W p q s r)
    (hc : ∀ F, SlabAt W F p s → Calls Try.prog f args W fun e W' => e = .returned v ∧ W = W') :
    Calls Try.prog f args W fun e W' => e = .returned v ∧ Play w0 W' p q s r := by
  have h' := h
  obtain ⟨F, h1, _⟩ := h
  exact (hc F h1).mono fun _ W' ⟨he, hw⟩ => ⟨he, hw ▸ h'⟩
theorem Play.exg {w0 W : World} {p q : Nat} {s r : SlabS} {f : Nat} {args : Array Value} {v : Value} {s' : SlabS} (h : Play w0 W p q s r)
    (hc : ∀ F, SlabAt W F p s → (∀ k, F k → w0.heap.size ≤ k) → New w0 W → Calls Try.prog f args W fun e W' => e = .returned v ∧ (∃ F', SlabAt W' F' p s' ∧ Gr W F F') ∧ Fr F W W') :
    Calls Try.prog f args W fun e W' => e = .returned v ∧ Play w0 W' p q s' r := by
  obtain ⟨F, h1, h2, h3, h4, h5, h6⟩ := h
  exact (hc F h1 h2 h3).mono fun _ W' ⟨he, ⟨F', ha, g⟩, hf⟩ => ⟨he, F', ha, fun k hk => (g k hk).elim (h2 k) (fun h => Nat.le_trans h3.size h), h3.trans hf (fun x hx => .inr (h2 x hx)), h4.fr hf h5,
    fun hF => (g q hF).elim h5 (fun hge => by have := h4.lt; omega), h6⟩

theorem str_app (a b : List UInt8) : (⟨a.toArray⟩ : ByteArray) ++ ⟨b.toArray⟩ = ⟨(a ++ b).toArray⟩ := by
  apply ByteArray.ext
  simp [ByteArray.data_append]
theorem str_take (a : List UInt8) (k : Nat) : (⟨a.toArray⟩ : ByteArray).extract 0 k = ⟨(a.take k).toArray⟩ := by
  apply ByteArray.ext
  simp [ByteArray.data_extract]
theorem str_size (a : List UInt8) : (⟨a.toArray⟩ : ByteArray).size = a.length := rfl
theorem str_set (a : List UInt8) (k : Nat) (x : UInt8) (hk : k < a.length) : (⟨a.toArray⟩ : ByteArray).extract 0 k ++ ⟨#[x]⟩ ++ (⟨a.toArray⟩ : ByteArray).extract (k + 1) a.length = ⟨(a.set k x).toArray⟩ := by
  apply ByteArray.ext
  apply Array.ext'
  simp only [ByteArray.data_append, ByteArray.data_extract, Array.toList_append, Array.toList_extract]
  rw [List.set_eq_take_append_cons_drop, if_pos hk]
  simp [List.extract_eq_take_drop]
  exact List.take_of_length_le (by simp)

theorem app_step (w0 : World) (s : SlabS) (hs : s.ok) (l : List UInt8) (A : Option Addr) (c : Nat) (hr : Rd w0 A (l.map bv)) :
    ∃ s' : SlabS, ∃ code : Int, (∀ W, Calls Try.prog 25 #[.agg #[.int .i64 s.room, .int .i64 s.sure, .int .i64 s.steps, .string ⟨s.bs.toArray⟩], .string ⟨l.toArray⟩] W fun e W' => e = .returned (.tuple #[.agg #[.int .i64 s'.room, .int .i64 s'.sure, .int .i64 s'.steps, .string ⟨s'.bs.toArray⟩], .int .i64 code]) ∧ New W W') ∧ (∀ W p q r, Play w0 W p q s r → Calls Try.prog 17 #[.pointer (some ⟨p, 0, none⟩), .slice A l.length c] W fun e W' => e = .returned (.int .i64 code) ∧ Play w0 W' p q s' r) := by
  have hok := hs
  obtain ⟨o1, o2, o3, o4, o5, o6⟩ := hok
  by_cases hf : s.room - s.bs.length < l.length
  · exact ⟨s, 3, fun W => ref_Append_full W s.room s.sure s.steps ⟨s.bs.toArray⟩ ⟨l.toArray⟩ (by omega) o4 (by rw [str_size]; omega) (by rw [str_size, str_size]; exact hf),
      fun W p q r h => h.exn fun F hF => slab_Append_full hF A l.length c hf⟩
  · by_cases ht : s.steps = 0
    · exact ⟨s, 90, fun W => ref_Append_no W s.room s.sure s.steps ⟨s.bs.toArray⟩ ⟨l.toArray⟩ (by omega) o4 (by rw [str_size]; omega) (by rw [str_size, str_size]; omega) ht,
        fun W p q r h => h.exn fun F hF => slab_Append_no hF A l.length c (by omega) ht⟩
    · refine ⟨s.app l, 0, fun W => ?_, fun W p q r h => h.exg fun F hF hge hn => slab_Append_yes hF A c l (by omega) ht (hr.fr hn (fun _ _ => id)) (fun h0 k hk hFk => by have := hge k hFk; have := hr.lt (by simpa using h0) k hk; omega)⟩
      have := ref_Append_yes W s.room s.sure s.steps ⟨s.bs.toArray⟩ ⟨l.toArray⟩ (by omega) o4 (by rw [str_size]; omega) (by rw [str_size, str_size]; omega) ht o5 o6
      rw [str_app] at this
      exact this
theorem sync_step (w0 : World) (s : SlabS) (hs : s.ok) :
    ∃ s' : SlabS, ∃ code : Int, (∀ W, Calls Try.prog 26 #[.agg #[.int .i64 s.room, .int .i64 s.sure, .int .i64 s.steps, .string ⟨s.bs.toArray⟩]] W fun e W' => e = .returned (.tuple #[.agg #[.int .i64 s'.room, .int .i64 s'.sure, .int .i64 s'.steps, .string ⟨s'.bs.toArray⟩], .int .i64 code]) ∧ New W W') ∧ (∀ W p q r, Play w0 W p q s r → Calls Try.prog 18 #[.pointer (some ⟨p, 0, none⟩)] W fun e W' => e = .returned (.int .i64 code) ∧ Play w0 W' p q s' r) := by
  have hok := hs
  obtain ⟨o1, o2, o3, o4, o5, o6⟩ := hok
  by_cases ht : s.steps = 0
  · exact ⟨s, 90, fun W => ref_Sync_no W s.room s.sure s.steps ⟨s.bs.toArray⟩ (by rw [str_size]; omega) ht, fun W p q r h => h.exw fun F hF => slab_Sync_no hF ht⟩
  · exact ⟨s.synced, 0, fun W => ref_Sync_yes W s.room s.sure s.steps ⟨s.bs.toArray⟩ (by rw [str_size]; omega) ht o5 o6, fun W p q r h => h.ex fun F hF => slab_Sync_yes hF ht⟩
theorem cut_step (w0 : World) (s : SlabS) (hs : s.ok) (n : Int) :
    ∃ s' : SlabS, ∃ code : Int, (∀ W, Calls Try.prog 27 #[.agg #[.int .i64 s.room, .int .i64 s.sure, .int .i64 s.steps, .string ⟨s.bs.toArray⟩], .int .i64 n] W fun e W' => e = .returned (.tuple #[.agg #[.int .i64 s'.room, .int .i64 s'.sure, .int .i64 s'.steps, .string ⟨s'.bs.toArray⟩], .int .i64 code]) ∧ New W W') ∧ (∀ W p q r, Play w0 W p q s r → Calls Try.prog 22 #[.pointer (some ⟨p, 0, none⟩), .int .i64 n] W fun e W' => e = .returned (.int .i64 code) ∧ Play w0 W' p q s' r) := by
  have hok := hs
  obtain ⟨o1, o2, o3, o4, o5, o6⟩ := hok
  by_cases hb : n < 0 ∨ (s.bs.length : Int) < n
  · exact ⟨s, 1, fun W => ref_Cut_bad W s.room s.sure s.steps ⟨s.bs.toArray⟩ n (by rw [str_size]; exact hb), fun W p q r h => h.exw fun F hF => slab_Cut_bad hF n hb⟩
  · obtain ⟨k, rfl⟩ := Int.eq_ofNat_of_zero_le (a := n) (by omega)
    have hk : k ≤ s.bs.length := by omega
    by_cases ht : s.steps = 0
    · exact ⟨s, 90, fun W => ref_Cut_no W s.room s.sure s.steps ⟨s.bs.toArray⟩ k (by rw [str_size]; omega) (by rw [str_size]; exact hk) ht, fun W p q r h => h.exw fun F hF => slab_Cut_no hF k (by omega) (by omega) ht⟩
    · refine ⟨s.cut k, 0, fun W => ?_, fun W p q r h => h.ex fun F hF => slab_Cut_yes hF k (by omega) (by omega) ht⟩
      have := ref_Cut_yes W s.room s.sure s.steps ⟨s.bs.toArray⟩ k (by rw [str_size]; omega) (by rw [str_size]; exact hk) ht o5 o6
      rw [str_take] at this
      exact this
theorem spoil_step (w0 : World) (s : SlabS) (hs : s.ok) (n : Int) (x : UInt8) :
    ∃ s' : SlabS, ∃ code : Int, (∀ W, Calls Try.prog 30 #[.agg #[.int .i64 s.room, .int .i64 s.sure, .int .i64 s.steps, .string ⟨s.bs.toArray⟩], .int .i64 n, bv x] W fun e W' => e = .returned (.tuple #[.agg #[.int .i64 s'.room, .int .i64 s'.sure, .int .i64 s'.steps, .string ⟨s'.bs.toArray⟩], .int .i64 code]) ∧ New W W') ∧ (∀ W p q r, Play w0 W p q s r → Calls Try.prog 31 #[.pointer (some ⟨p, 0, none⟩), .int .i64 n, bv x] W fun e W' => e = .returned (.int .i64 code) ∧ Play w0 W' p q s' r) := by
  have hok := hs
  obtain ⟨o1, o2, o3, o4, o5, o6⟩ := hok
  by_cases hb : n < 0 ∨ (s.bs.length : Int) ≤ n
  · exact ⟨s, 1, fun W => ref_Spoil_bad W s.room s.sure s.steps ⟨s.bs.toArray⟩ n x (by rw [str_size]; exact hb), fun W p q r h => h.exw fun F hF => slab_Spoil_bad hF n x hb⟩
  · obtain ⟨k, rfl⟩ := Int.eq_ofNat_of_zero_le (a := n) (by omega)
    have hk : k < s.bs.length := by omega
    refine ⟨s.spoil k x, 0, fun W => ?_, fun W p q r h => h.ex fun F hF => slab_Spoil_yes hF k x hk⟩
    have := ref_Spoil_yes W s.room s.sure s.steps ⟨s.bs.toArray⟩ k x (by rw [str_size]; omega) (by rw [str_size]; exact hk)
    rw [str_size, str_set _ _ _ hk] at this
    exact this
theorem break_step (w0 : World) (s : SlabS) (hs : s.ok) (n : Int) (hn : n ≤ 9223372036854775807) :
    ∃ s' : SlabS, (∀ W, Calls Try.prog 28 #[.agg #[.int .i64 s.room, .int .i64 s.sure, .int .i64 s.steps, .string ⟨s.bs.toArray⟩], .int .i64 n] W fun e W' => e = .returned (.agg #[.int .i64 s'.room, .int .i64 s'.sure, .int .i64 s'.steps, .string ⟨s'.bs.toArray⟩]) ∧ New W W') ∧
      (∀ W p q r, Play w0 W p q s r → Calls Try.prog 21 #[.pointer (some ⟨p, 0, none⟩), .int .i64 n] W fun e W' => e = .returned (.tuple #[]) ∧ Play w0 W' p q s' r) :=
  ⟨{ s with steps := max n (-1) }, fun W => ref_Break W s.room s.sure s.steps ⟨s.bs.toArray⟩ n, fun W p q r h => h.ex fun F hF => slab_Break hF n hn⟩
theorem crash_step (w0 : World) (s : SlabS) (hs : s.ok) (n : Int) :
    ∃ s' : SlabS, (∀ W, Calls Try.prog 29 #[.agg #[.int .i64 s.room, .int .i64 s.sure, .int .i64 s.steps, .string ⟨s.bs.toArray⟩], .int .i64 n] W fun e W' => e = .returned (.agg #[.int .i64 s'.room, .int .i64 s'.sure, .int .i64 s'.steps, .string ⟨s'.bs.toArray⟩]) ∧ New W W') ∧
      (∀ W p q r, Play w0 W p q s r → Calls Try.prog 19 #[.pointer (some ⟨p, 0, none⟩), .int .i64 n] W fun e W' => e = .returned (.tuple #[]) ∧ Play w0 W' p q s' r) := by
  have hok := hs
  obtain ⟨o1, o2, o3, o4, o5, o6⟩ := hok
  refine ⟨s.crash n, fun W => ?_, fun W p q r h => h.ex fun F hF => slab_Crash hF n⟩
  have := ref_Crash W s.room s.sure s.steps ⟨s.bs.toArray⟩ n (s.sure + max 0 (min n (s.bs.length - s.sure))).toNat (by rw [str_size]; omega) o1 (by rw [str_size]; exact o2) (by rw [str_size]; omega)
  rw [str_take] at this
  have e : (((s.sure + max 0 (min n (s.bs.length - s.sure))).toNat : Nat) : Int) = s.sure + max 0 (min n (s.bs.length - s.sure)) := by omega
  rw [e] at this
  exact this
theorem play_Size {w0 W : World} {p q : Nat} {s r : SlabS} (h : Play w0 W p q s r) (n : Nat) (hn : n = s.bs.length) :
    Calls Try.prog 23 #[.pointer (some ⟨p, 0, none⟩)] W fun e W' => e = .returned (.tuple #[.int .i64 n, .int .i64 s.sure]) ∧ Play w0 W' p q s r := by
  subst hn
  exact h.exn fun F hF => slab_Size hF
theorem play_Bytes {w0 : World} {p q : Nat} {s r : SlabS} (n : Nat) (hn : n = s.bs.length) (S : ByteArray) (hS : S = ⟨s.bs.toArray⟩) : ∀ W, Play w0 W p q s r →
    Calls Try.prog 20 #[.pointer (some ⟨p, 0, none⟩)] W fun e W' => ∃ A2 c2, e = .returned (.slice A2 n c2) ∧ Play w0 W' p q s r ∧
      ∀ dst, Try.prog.underlying dst = some .string → (convert 22 dst (.slice A2 n c2)).run Try.prog W' = .ok (.string S) W' := by
  intro W h
  subst hn hS
  have h' := h
  obtain ⟨F, h1, _⟩ := h
  exact (slab_Bytes h1).mono fun _ W' ⟨A2, c2, he, hr, _, ha, hf⟩ => ⟨A2, c2, he, h'.then_new hf, run_str_rd W' 22 5 Try.underlying22 Try.underlying5 A2 c2 _ hr.rd⟩

/-- one thing of a script that came in -/
structure OpD where
  kind : Int
  n : Int
  x : UInt8
  A : Option Addr
  c : Nat
  data : List UInt8
/-- what the walk is told of a script that came in -/
structure OpsIn (w : World) (A : Option Addr) (ops : List OpD) : Prop where
  rd : 0 < ops.length → ∃ b off, A = some ⟨b, off, none⟩ ∧ b < w.heap.size ∧ ∀ k (h : k < ops.length),
    w.cell? ⟨b, off + k * 4, none⟩ = some (.int .i64 ops[k].kind) ∧ w.cell? ⟨b, off + k * 4 + 1, none⟩ = some (.int .i64 ops[k].n) ∧
    w.cell? ⟨b, off + k * 4 + 2, none⟩ = some (bv ops[k].x) ∧ w.cell? ⟨b, off + k * 4 + 3, none⟩ = some (.slice ops[k].A ops[k].data.length ops[k].c)
  data : ∀ o ∈ ops, BytesIn w o.A o.data.length o.c o.data ∧ (Lit.int .i64 o.kind).wf = true ∧ (Lit.int .i64 o.n).wf = true

end Go.Proofs.Ytefalfalapnllaa
