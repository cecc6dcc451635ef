/- Cells that keep their kinds (whatever is turned), shapes of a policy's memory; gatepostlaw12.turn; gatepostref12.Seventh, Copy. Condition: a million at most. Printed by gen_pkd.py. -/
import Derived.Test.YtdbjihpdfiipcaaGreatPolCopy
import Derived.Test.YtdbjihpdfiipcaaGreatPolDecs
namespace Go.Proofs.YtdbjihpdfiipcaaGreat
open Go.RowKit Go.Sort
set_option linter.unusedVariables false
set_option linter.unusedSimpArgs false
/-- The same kind: an int for an int, a text that is longer by m bytes at most, or the same. -/
def SameK (m : Nat) (v u : Value) : Prop := v = u ∨ (∃ x y, v = .int .i64 x ∧ u = .int .i64 y) ∨ ∃ s t : ByteArray, v = .string s ∧ u = .string t ∧ t.size ≤ s.size + m
theorem SameK.trans {m n : Nat} {a b c : Value} (h : SameK m a b) (k : SameK n b c) : SameK (m + n) a c := by
  rcases h with rfl | ⟨x, y, rfl, rfl⟩ | ⟨s, t, rfl, rfl, h⟩
  · rcases k with rfl | ⟨x, y, rfl, rfl⟩ | ⟨s, t, rfl, rfl, h⟩
    · exact .inl rfl
    · exact .inr (.inl ⟨x, y, rfl, rfl⟩)
    · exact .inr (.inr ⟨s, t, rfl, rfl, by omega⟩)
  · rcases k with rfl | ⟨x', y', e, rfl⟩ | ⟨s, t, e, _⟩
    · exact .inr (.inl ⟨x, y, rfl, rfl⟩)
    · exact .inr (.inl ⟨x, y', rfl, rfl⟩)
    · cases e
  · rcases k with rfl | ⟨x', y', e, _⟩ | ⟨s', t', e, rfl, h'⟩
    · exact .inr (.inr ⟨s, t, rfl, rfl, by omega⟩)
    · cases e
    · injection e with e
      subst e
      exact .inr (.inr ⟨s, t', rfl, rfl, by omega⟩)
theorem SameK.le {m n : Nat} {a b : Value} (h : SameK m a b) (hm : m ≤ n) : SameK n a b := by
  rcases h with h | h | ⟨s, t, h1, h2, h3⟩
  · exact .inl h
  · exact .inr (.inl h)
  · exact .inr (.inr ⟨s, t, h1, h2, by omega⟩)
/-- What lies below lo is as it was; each cell keeps its kind. -/
structure Kd (lo m : Nat) (w w' : World) : Prop where
  below : Below lo w w'
  size : w.heap.size ≤ w'.heap.size
  cell : ∀ p v, w.cell? p = some v → ∃ u, w'.cell? p = some u ∧ SameK m v u
  free : ∀ b, b < w.heap.size → (∀ i, w.frozen? ⟨b, i, none⟩ = false) → ∀ i, w'.frozen? ⟨b, i, none⟩ = false
theorem Kd.refl (lo : Nat) (w : World) : Kd lo 0 w w := ⟨Below.refl _ _, Nat.le_refl _, fun p v h => ⟨v, h, .inl rfl⟩, fun b _ h => h⟩
theorem Kd.trans {lo m n : Nat} {a b c : World} (h : Kd lo m a b) (k : Kd lo n b c) : Kd lo (m + n) a c :=
  ⟨h.below.trans k.below, Nat.le_trans h.size k.size, fun p v hv => by
    obtain ⟨u, hu, h1⟩ := h.cell p v hv
    obtain ⟨x, hx, h2⟩ := k.cell p u hu
    exact ⟨x, hx, h1.trans h2⟩, fun b hb hf => k.free b (Nat.lt_of_lt_of_le hb h.size) (h.free b hb hf)⟩
theorem Kd.le {lo m n : Nat} {a b : World} (h : Kd lo m a b) (hm : m ≤ n) : Kd lo n a b := ⟨h.below, h.size, fun p v hv => by
  obtain ⟨u, hu, h1⟩ := h.cell p v hv
  exact ⟨u, hu, h1.le hm⟩, h.free⟩
theorem cell_lt {w : World} {p : Addr} {v : Value} (h : w.cell? p = some v) : p.block < w.heap.size := by
  unfold World.cell? at h
  cases hb : w.heap[p.block]? with
  | none => rw [hb] at h; cases h
  | some o => exact (Array.getElem?_eq_some_iff.1 hb).1
theorem Kd.of_below {lo : Nat} {w w' : World} (h : Below w.heap.size w w') (hl : lo ≤ w.heap.size) : Kd lo 0 w w' :=
  ⟨h.mono hl, h.size, fun p v hv => ⟨v, (h.cell (cell_lt hv)).trans hv, .inl rfl⟩, fun b hb hf i => (h.frozen (p := ⟨b, i, none⟩) hb).trans (hf i)⟩
theorem frozen_setCell (w : World) (p q : Addr) (v : Value) : (w.setCell p v).frozen? q = w.frozen? q := by
  unfold World.frozen? World.setCell
  simp only [Array.getElem?_modify]
  by_cases h : p.block = q.block
  · rw [if_pos h]
    cases hb : w.heap[q.block]? with
    | none => rfl
    | some o => cases o <;> rfl
  · rw [if_neg h]
theorem Kd.set {lo m : Nat} {w : World} {b i : Nat} {v u : Value} (hv : w.cell? ⟨b, i, none⟩ = some v) (hs : SameK m v u) (hb : lo ≤ b) : Kd lo m w (w.setCell ⟨b, i, none⟩ u) := by
  refine ⟨(Below.refl _ _).setCell hb _, by simp [World.setCell], fun p x hx => ?_, fun b' _ hf i => by rw [frozen_setCell]; exact hf i⟩
  by_cases e : (⟨b, i, none⟩ : Addr) = p
  · subst e
    rw [hv] at hx
    injection hx with hx
    subst hx
    exact ⟨u, World.cell?_setCell_same _ _ _ hv, hs⟩
  · exact ⟨x, (World.cell?_setCell_other _ _ _ _ e).trans hx, .inl rfl⟩
theorem Kd.slice {lo m : Nat} {w w' : World} (h : Kd lo m w w') {p : Addr} {A : Option Addr} {n c : Nat} (hv : w.cell? p = some (.slice A n c)) : w'.cell? p = some (.slice A n c) := by
  obtain ⟨u, hu, h1 | ⟨_, _, h1, _⟩ | ⟨_, _, h1, _⟩⟩ := h.cell p _ hv
  · rw [hu, ← h1]
  · cases h1
  · cases h1
theorem Kd.int {lo m : Nat} {w w' : World} (h : Kd lo m w w') {p : Addr} {x : Int} (hv : w.cell? p = some (.int .i64 x)) : ∃ y, w'.cell? p = some (.int .i64 y) := by
  obtain ⟨u, hu, h1 | ⟨_, y, h1, h2⟩ | ⟨_, _, h1, _⟩⟩ := h.cell p _ hv
  · exact ⟨x, by rw [hu, ← h1]⟩
  · exact ⟨y, by rw [hu, h2]⟩
  · cases h1
theorem Kd.str {lo m : Nat} {w w' : World} (h : Kd lo m w w') {p : Addr} {s : ByteArray} (hv : w.cell? p = some (.string s)) : ∃ t : ByteArray, w'.cell? p = some (.string t) ∧ t.size ≤ s.size + m := by
  obtain ⟨u, hu, h1 | ⟨_, y, h1, h2⟩ | ⟨_, t, h1, h2, h3⟩⟩ := h.cell p _ hv
  · exact ⟨s, by rw [hu, ← h1], by omega⟩
  · cases h1
  · injection h1 with h1
    subst h1
    exact ⟨t, by rw [hu, h2], h3⟩
/-- A row whose elements have a shape, in blocks from lo on. -/
def ShR (k : Nat) (E : World → Nat → Nat → Prop) (w : World) (lo : Nat) (v : Value) : Prop := ∃ A n c, v = .slice A n c ∧ n ≤ 1000000 ∧ (0 < n → ∃ b off, A = some ⟨b, off, none⟩ ∧ lo ≤ b ∧ b < w.heap.size ∧ (∀ i, w.frozen? ⟨b, i, none⟩ = false) ∧ ∀ j, j < n → E w b (off + j * k))
def ETm (w : World) (b o : Nat) : Prop := ∃ x s, w.cell? ⟨b, o, none⟩ = some (.int .i64 x) ∧ w.cell? ⟨b, o + 1, none⟩ = some (.string s)
def ENt (w : World) (b o : Nat) : Prop := ∃ a x, w.cell? ⟨b, o, none⟩ = some (.int .u32 a) ∧ w.cell? ⟨b, o + 1, none⟩ = some (.int .i64 x)
def EIn (w : World) (b o : Nat) : Prop := ∃ x, w.cell? ⟨b, o, none⟩ = some (.int .i64 x)
def ESr (lo : Nat) (w : World) (b o : Nat) : Prop := ∃ v1 v2 v3, w.cell? ⟨b, o, none⟩ = some v1 ∧ w.cell? ⟨b, o + 1, none⟩ = some v2 ∧ w.cell? ⟨b, o + 2, none⟩ = some v3 ∧ ShR 2 ETm w lo v1 ∧ ShR 2 ETm w lo v2 ∧ ShR 2 ENt w lo v3
def ETg (lo : Nat) (w : World) (b o : Nat) : Prop := ∃ v1 v2 v3 v4, w.cell? ⟨b, o, none⟩ = some v1 ∧ w.cell? ⟨b, o + 1, none⟩ = some v2 ∧ w.cell? ⟨b, o + 2, none⟩ = some v3 ∧ w.cell? ⟨b, o + 3, none⟩ = some v4 ∧ ShR 1 EIn w lo v1 ∧ ShR 2 ETm w lo v2 ∧ ShR 2 ETm w lo v3 ∧ ShR 2 ETm w lo v4
def EWn (lo : Nat) (w : World) (b o : Nat) : Prop := ∃ s v2, w.cell? ⟨b, o, none⟩ = some (.string s) ∧ s.size ≤ 1000000 ∧ w.cell? ⟨b, o + 1, none⟩ = some v2 ∧ ShR 2 ETm w lo v2
def ERu (lo : Nat) (w : World) (b o : Nat) : Prop := ∃ v1 v2 v3, w.cell? ⟨b, o, none⟩ = some v1 ∧ w.cell? ⟨b, o + 1, none⟩ = some v2 ∧ w.cell? ⟨b, o + 2, none⟩ = some v3 ∧ ShR 3 (ESr lo) w lo v1 ∧ ShR 4 (ETg lo) w lo v2 ∧ ShR 2 (EWn lo) w lo v3
theorem ShR.kd {k lo m : Nat} {E : World → Nat → Nat → Prop} {w w' : World} {v : Value} (h : ShR k E w lo v) (hk : Kd lo m w w') (hE : ∀ b o, E w b o → E w' b o) : ShR k E w' lo v := by
  obtain ⟨A, n, c, rfl, hn, h⟩ := h
  refine ⟨A, n, c, rfl, hn, fun h0 => ?_⟩
  obtain ⟨b, off, rfl, h1, h2, h3, h4⟩ := h h0
  exact ⟨b, off, rfl, h1, Nat.lt_of_lt_of_le h2 hk.size, hk.free b h2 h3, fun j hj => hE _ _ (h4 j hj)⟩
theorem ETm.kd {lo m : Nat} {w w' : World} (hk : Kd lo m w w') {b o : Nat} (h : ETm w b o) : ETm w' b o := by
  obtain ⟨x, s, h1, h2⟩ := h
  obtain ⟨y, h3⟩ := hk.int h1
  obtain ⟨t, h4, _⟩ := hk.str h2
  exact ⟨y, t, h3, h4⟩
theorem ENt.kd {lo m : Nat} {w w' : World} (hk : Kd lo m w w') {b o : Nat} (h : ENt w b o) : ENt w' b o := by
  obtain ⟨a, x, h1, h2⟩ := h
  obtain ⟨y, h3⟩ := hk.int h2
  obtain ⟨u, hu, h4 | ⟨_, _, h4, _⟩ | ⟨_, _, h4, _⟩⟩ := hk.cell _ _ h1
  · exact ⟨a, y, by rw [hu, ← h4], h3⟩
  · cases h4
  · cases h4
theorem EIn.kd {lo m : Nat} {w w' : World} (hk : Kd lo m w w') {b o : Nat} (h : EIn w b o) : EIn w' b o := by
  obtain ⟨x, h1⟩ := h
  exact hk.int h1
/-- In memory of one's own: from lo on, unmarked. -/
theorem own_at {lo : Nat} {w : World} {b o : Nat} {v : Value} (h : (mineW lo none w).cell? ⟨b, o, none⟩ = some v) : w.cell? ⟨b, o, none⟩ = some v ∧ lo ≤ b ∧ b < w.heap.size ∧ ∀ i, w.frozen? ⟨b, i, none⟩ = false := by
  obtain ⟨h1, h2, _, c, t, h3⟩ := mineW_in h
  refine ⟨h1, h2, (Array.getElem?_eq_some_iff.1 h3).1, fun i => ?_⟩
  unfold World.frozen?
  simp only at h3 ⊢
  rw [h3]
  simp
theorem ShR.ofR {α : Type} {enc : α → List Value} {k lo B : Nat} {w : World} {E : World → Nat → Nat → Prop} (hk : 0 < k) (hlen : ∀ x, (enc x).length = k) {v : Value} {L : List α} (h : RvR enc k (mineW lo none w) B v L) (hn : L.length ≤ 1000000)
    (hE : ∀ x b o, (∀ i u, (enc x)[i]? = some u → w.cell? ⟨b, o + i, none⟩ = some u) → E w b o) : ShR k E w lo v := by
  obtain ⟨A, n, c, rfl, _, _, hl, h⟩ := h
  refine ⟨A, n, c, rfl, by omega, fun h0 => ?_⟩
  obtain ⟨b, off, rfl, _, h2⟩ := h h0
  have h3 := h2 0 (by omega) 0 ((enc L[0])[0]'(by rw [hlen]; exact hk)) (by simp)
  obtain ⟨_, q1, q2, q3⟩ := own_at h3
  refine ⟨b, off, rfl, q1, q2, q3, fun j hj => hE (L[j]'(by omega)) _ _ fun i u hu => (own_at (h2 j (by omega) i u hu)).1⟩
theorem ShR.ofG {α : Type} {P : World → Nat → List Value → α → Prop} {k lo B : Nat} {w : World} {E : World → Nat → Nat → Prop} (hk : 0 < k) {v : Value} {L : List α} (h : RvG k P (mineW lo none w) B v L) (hn : L.length ≤ 1000000)
    (hE : ∀ x ∈ L, ∀ cs b o, P (mineW lo none w) B cs x → (∀ i u, cs[i]? = some u → w.cell? ⟨b, o + i, none⟩ = some u) → E w b o) : ShR k E w lo v := by
  obtain ⟨A, n, c, rfl, _, _, hl, h⟩ := h
  refine ⟨A, n, c, rfl, by omega, fun h0 => ?_⟩
  obtain ⟨b, off, rfl, _, h2⟩ := h h0
  obtain ⟨cs0, hc0, _, h3⟩ := h2 0 (by omega)
  have h4 := h3 0 (cs0[0]'(by rw [hc0]; exact hk)) (by simp)
  obtain ⟨_, q1, q2, q3⟩ := own_at h4
  refine ⟨b, off, rfl, q1, q2, q3, fun j hj => ?_⟩
  obtain ⟨cs, hc, hP, h5⟩ := h2 j (by omega)
  exact hE _ (List.getElem_mem _) cs _ _ hP fun i u hu => (own_at (h5 i u hu)).1
theorem ETm.of {w : World} (x : Tm) (b o : Nat) (h : ∀ i u, (tmC x)[i]? = some u → w.cell? ⟨b, o + i, none⟩ = some u) : ETm w b o := ⟨_, _, h 0 _ rfl, h 1 _ rfl⟩
theorem ENt.of {w : World} (x : Nt) (b o : Nat) (h : ∀ i u, (ntC x)[i]? = some u → w.cell? ⟨b, o + i, none⟩ = some u) : ENt w b o := ⟨_, _, h 0 _ rfl, h 1 _ rfl⟩
theorem EIn.of {w : World} (x : Int) (b o : Nat) (h : ∀ i u, (inC x)[i]? = some u → w.cell? ⟨b, o + i, none⟩ = some u) : EIn w b o := ⟨_, h 0 _ rfl⟩
theorem ShR.ts {lo B : Nat} {w : World} {v : Value} {L : List Tm} (h : RvT (mineW lo none w) B v L) (hok : okTs L) : ShR 2 ETm w lo v := ShR.ofR (by decide) tmC_len h hok.1 fun x b o => ETm.of x b o
theorem ShR.ns {lo B : Nat} {w : World} {v : Value} {L : List Nt} (h : RvN (mineW lo none w) B v L) (hok : okNets L) : ShR 2 ENt w lo v := ShR.ofR (enc := ntC) (by decide) (fun _ => rfl) h hok.1 fun x b o => ENt.of x b o
theorem ShR.is {lo B : Nat} {w : World} {v : Value} {L : List Int} (h : RvI (mineW lo none w) B v L) (hok : okInts L) : ShR 1 EIn w lo v := ShR.ofR (enc := inC) (by decide) (fun _ => rfl) h hok.1 fun x b o => EIn.of x b o
theorem ShR.rules {lo B : Nat} {w : World} {v : Value} {L : List Ru} (h : RvRu (mineW lo none w) B v L) (hn : L.length ≤ 1000000) (hok : ∀ r ∈ L, okRu r) : ShR 3 (ERu lo) w lo v := by
  refine ShR.ofG (by decide) h hn fun r hr cs b o hP hc => ?_
  obtain ⟨k1, k2, k3⟩ := hok r hr
  obtain ⟨v1, v2, v3, rfl, h1, h2, h3⟩ := hP
  refine ⟨v1, v2, v3, hc 0 _ rfl, hc 1 _ rfl, hc 2 _ rfl, ?_, ?_, ?_⟩
  · refine ShR.ofG (by decide) h1 k1.1 fun s hs cs b o hP hc => ?_
    obtain ⟨q1, q2, q3⟩ := k1.2 s hs
    obtain ⟨v1, v2, v3, rfl, h1, h2, h3⟩ := hP
    exact ⟨v1, v2, v3, hc 0 _ rfl, hc 1 _ rfl, hc 2 _ rfl, ShR.ts h1 q1, ShR.ts h2 q2, ShR.ns h3 q3⟩
  · refine ShR.ofG (by decide) h2 k2.1 fun s hs cs b o hP hc => ?_
    obtain ⟨q1, q2, q3, q4⟩ := k2.2 s hs
    obtain ⟨v1, v2, v3, v4, rfl, h1, h2, h3, h4⟩ := hP
    exact ⟨v1, v2, v3, v4, hc 0 _ rfl, hc 1 _ rfl, hc 2 _ rfl, hc 3 _ rfl, ShR.is h1 q1, ShR.ts h2 q2, ShR.ts h3 q3, ShR.ts h4 q4⟩
  · refine ShR.ofG (by decide) h3 k3.1 fun s hs cs b o hP hc => ?_
    obtain ⟨q1, q2⟩ := k3.2 s hs
    obtain ⟨v, rfl, h1⟩ := hP
    exact ⟨_, v, hc 0 _ rfl, by rw [strB_size]; exact q1, hc 1 _ rfl, ShR.ts h1 q2⟩
set_option maxRecDepth 100000 in
set_option maxHeartbeats 4000000 in
theorem turn_any (A : Option Addr) (n c lo : Nat) (w : World) (h : ShR 2 ETm w lo (.slice A n c)) :
    Calls Tryz.prog 22 #[.slice A n c] w fun e w' => e = .returned (.tuple #[]) ∧ Kd lo 0 w w' := by
  obtain ⟨_, _, _, e, hn, h⟩ := h
  injection e with e1 e2 e3
  subst e1 e2 e3
  go_enter Tryz.func22, Tryz.ntmps22
  go_wp2_with fail
  go_loopw [2] (fun i wr => ∃ k : Nat, i = .int .i64 k ∧ k ≤ n ∧ Kd lo 0 w wr) (fun i _ => n - (intOf i).toNat)
  case atStart => exact ⟨0, rfl, Nat.zero_le _, Kd.refl _ _⟩
  case round =>
    obtain ⟨k, rfl, hk, kd⟩ := hrel
    by_cases hlt : k < n
    · have d1 : decide ((k : Int) < (n : Int)) = true := by simp; omega
      have b1 : (0 : Int) ≤ (k : Int) := by omega
      have b2 : (k : Int) < (n : Int) := by omega
      obtain ⟨b, off, rfl, h1, h2, h3, h4⟩ := h (by omega)
      obtain ⟨x, s, q0, q1⟩ := (h4 k hlt).kd kd
      have z0 := kd.free b h2 h3 (off + k * 2)
      obtain ⟨y, hy⟩ : ∃ y, wrap64 (x + 1) = y := ⟨_, rfl⟩
      have kd2 := kd.trans (Kd.set q0 (.inr (.inl ⟨x, y, rfl, rfl⟩) : SameK 0 _ _) h1)
      have HY := Lib.hid hy
      clear hy
      go_wp2_with fail
      go_roundw
      case rel =>
        refine ⟨k + 1, by go_num, by omega, ?_⟩
        first | exact kd2 | (have h9 := HY.out; simp only [wrap64] at h9; simp only [wrap64, h9]; exact kd2) | (rw [HY.out]; exact kd2)
      case measure => simp [intOf]; omega
    · have d1 : decide ((k : Int) < (n : Int)) = false := by simp; omega
      go_wp2_with fail
      first | go_end0 | go_ret
      exact ⟨rfl, kd⟩
theorem any_one {α : Type} {L : List α} {f : α → Bool} {k : Nat} (hk : k < L.length) (h : f L[k] = true) : L.any f = true := List.any_eq_true.2 ⟨_, List.getElem_mem hk, h⟩
theorem any_none {α : Type} {L : List α} {f : α → Bool} (h : ∀ j (hj : j < L.length), f L[j] = false) : L.any f = false := by
  rw [List.any_eq_false]
  intro x hx
  obtain ⟨j, hj, rfl⟩ := List.mem_iff_getElem.1 hx
  simp [h j hj]
set_option maxRecDepth 100000 in
set_option maxHeartbeats 4000000 in
theorem rseventh_any (r : Ru) (cs : List Value) (w : World) (h : RuP w w.heap.size cs r) (hok : okRu r) :
    Calls Tryz.prog 17 #[.agg cs.toArray] w fun e w' => e = .returned (.bool (seventhR r)) ∧ Below w.heap.size w w' := by
  obtain ⟨A1, n1, c1, A2, n2, c2, A3, n3, c3, rfl, h1, h2, h3⟩ := vals_ru h
  have l2 := h2.1; have l3 := h3.1
  have hn2 : n2 ≤ 1000000 := by rw [← l2]; exact hok.2.1.1
  obtain ⟨v, hv⟩ : ∃ v, seventhR r = v := ⟨_, rfl⟩
  rw [hv]
  have hv2 : v = (decide (0 < n3) || r.tos.any tgSeventh) := by rw [← hv, ← l3]; rfl
  have HV := Lib.hid hv2; have H2 := Lib.hid h2; have L2 := Lib.hid l2
  clear h h1 h2 h3 hok l2 l3 hv hv2
  show Calls Tryz.prog 17 #[.agg #[.slice A1 n1 c1, .slice A2 n2 c2, .slice A3 n3 c3]] w _
  obtain ⟨wb, hwb⟩ : ∃ wb, w.alloc (.cells #[.slice A1 n1 c1, .slice A2 n2 c2, .slice A3 n3 c3] 26) = wb := ⟨_, rfl⟩
  have f0 : Below w.heap.size w wb := by rw [← hwb]; exact (Below.refl _ _).alloc (Nat.le_refl _) _
  have kb : Blk wb w.heap.size 26 [.slice A1 n1 c1, .slice A2 n2 c2, .slice A3 n3 c3] := by rw [← hwb]; exact Blk.newAt rfl _ #[.slice A1 n1 c1, .slice A2 n2 c2, .slice A3 n3 c3]
  go_enter Tryz.func17, Tryz.ntmps17
  go_wp2_with fail
  clear hwb
  go_loopw [3] (fun i wr => ∃ k q : Nat, k ≤ n2 ∧ i = .int .i64 k ∧ wr = wb.drewN q ∧ (∀ j (hj : j < r.tos.length), j < k → tgSeventh r.tos[j] = false)) (fun i _ => n2 - (intOf i).toNat)
  case atStart => exact ⟨0, 0, by omega, rfl, rfl, fun j hj hj2 => absurd hj2 (by omega)⟩
  case round =>
    obtain ⟨k, q, hk, rfl, rfl, hall⟩ := hrel
    have HALL := Lib.hid hall
    clear hall
    have e1 := kb.cell 1
    have f1 : Below w.heap.size w (wb.drewN q) := belowN f0 q
    by_cases hlt : k < n2
    · have d5 : decide ((k : Int) < (n2 : Int)) = true := by simp; omega
      have b1 : (0 : Int) ≤ (k : Int) := by omega
      have b2 : (k : Int) < (n2 : Int) := by omega
      have hkL : k < r.tos.length := by rw [L2.out]; exact hlt
      obtain ⟨b, off, cs, p1, p2, p3, p4, p5⟩ := H2.out.at_ hlt
      obtain ⟨s, hs⟩ : ∃ s, r.tos[k]'hkL = s := ⟨_, rfl⟩
      rw [hs] at p4
      have HS := Lib.hid hs
      clear hs p3
      subst p1
      obtain ⟨B1, m1, g1, B2, m2, g2, B3, m3, g3, B4, m4, g4, rfl, _, k2, k3, k4⟩ := vals_tg p4
      have q1 : wb.cell? ⟨b, off + k * 4 + 1, none⟩ = _ := (f0.cell (p := ⟨b, off + k * 4 + 1, none⟩) (by simp only; omega)).trans (p5 1 _ rfl)
      have q2 : wb.cell? ⟨b, off + k * 4 + 2, none⟩ = _ := (f0.cell (p := ⟨b, off + k * 4 + 2, none⟩) (by simp only; omega)).trans (p5 2 _ rfl)
      have q3 : wb.cell? ⟨b, off + k * 4 + 3, none⟩ = _ := (f0.cell (p := ⟨b, off + k * 4 + 3, none⟩) (by simp only; omega)).trans (p5 3 _ rfl)
      have hsv : tgSeventh s = decide (0 < m2 + m3 + m4) := by unfold tgSeventh; rw [k2.1, k3.1, k4.1]
      have HSV := Lib.hid hsv
      clear p5 p4 k2 k3 k4 hsv
      by_cases x2 : 0 < m2
      · have y2 : decide (0 < m2) = true := by simp; omega
        obtain rfl : v = true := by rw [HV.out, any_one (f := tgSeventh) hkL (by rw [HS.out, HSV.out]; simp; omega)]; simp
        clear x2
        go_wp2_with fail
        go_ret
        exact ⟨rfl, belowN f0 _⟩
      · have y2 : decide (0 < m2) = false := by simp; omega
        by_cases x3 : 0 < m3
        · have y3 : decide (0 < m3) = true := by simp; omega
          obtain rfl : v = true := by rw [HV.out, any_one (f := tgSeventh) hkL (by rw [HS.out, HSV.out]; simp; omega)]; simp
          clear x2 x3
          go_wp2_with fail
          go_ret
          exact ⟨rfl, belowN f0 _⟩
        · have y3 : decide (0 < m3) = false := by simp; omega
          by_cases x4 : 0 < m4
          · have y4 : decide (0 < m4) = true := by simp; omega
            obtain rfl : v = true := by rw [HV.out, any_one (f := tgSeventh) hkL (by rw [HS.out, HSV.out]; simp; omega)]; simp
            clear x2 x3 x4
            go_wp2_with fail
            go_ret
            exact ⟨rfl, belowN f0 _⟩
          · have y4 : decide (0 < m4) = false := by simp; omega
            have hs0 : tgSeventh s = false := by rw [HSV.out]; simp; omega
            have HS0 := Lib.hid hs0
            clear x2 x3 x4 hs0
            go_wp2_with fail
            go_roundw
            case rel =>
              refine ⟨k + 1, _, by omega, by go_num, rfl, fun j hj hj2 => ?_⟩
              by_cases hjk : j = k
              · subst hjk; rw [HS.out]; exact HS0.out
              · exact HALL.out j hj (by omega)
            case measure => simp [intOf]; omega
    · have d5 : decide ((k : Int) < (n2 : Int)) = false := by simp; omega
      have e2 := kb.cell 2
      have hno : r.tos.any tgSeventh = false := any_none fun j hj => HALL.out j hj (by rw [L2.out] at hj; omega)
      have hd : decide (0 < n3) = v := by rw [HV.out, hno, Bool.or_false]
      clear hno
      go_wp2_with fail
      go_ret
      exact ⟨by first | rfl | (congr 2), belowN f0 _⟩
end Go.Proofs.YtdbjihpdfiipcaaGreat
