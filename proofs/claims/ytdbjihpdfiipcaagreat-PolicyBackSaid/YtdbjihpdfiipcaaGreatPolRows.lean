/- match.MayAll, policy.rows, addr.MayPort, the parts of a policy that lie in memory. Conditions: sizes. -/
import Derived.Test.YtdbjihpdfiipcaaGreatPolTerm
namespace Go.Proofs.YtdbjihpdfiipcaaGreat
open Go.RowKit Go.Sort
set_option linter.unusedVariables false
set_option linter.unusedSimpArgs false
section
variable {α : Type} {f : α → Bool} {L : List α} {n j : Nat}
def prL (f : α → Bool) (L : List α) (j : Nat) : Bool := match L[j]? with
  | some x => f x
  | none => false
theorem prL_at (h : j < L.length) : prL f L j = f L[j] := by
  unfold prL
  rw [List.getElem?_eq_getElem h]
theorem any_prL (h : L.length = n) : L.any f = true ↔ ∃ k, k < n ∧ prL f L k = true := by
  rw [List.any_eq_true]
  constructor
  · rintro ⟨x, hx, hf⟩
    obtain ⟨k, hk, rfl⟩ := List.getElem_of_mem hx
    exact ⟨k, by omega, by rw [prL_at hk]; exact hf⟩
  · rintro ⟨k, hk, hf⟩
    rw [prL_at (by omega)] at hf
    exact ⟨_, List.getElem_mem _, hf⟩
theorem all_prL (h : L.length = n) : L.all f = true ↔ ∀ k, k < n → prL f L k = true := by
  rw [List.all_eq_true]
  constructor
  · intro hf k hk
    rw [prL_at (by omega)]
    exact hf _ (List.getElem_mem _)
  · intro hf x hx
    obtain ⟨k, hk, rfl⟩ := List.getElem_of_mem hx
    have := hf k (by omega)
    rwa [prL_at hk] at this
theorem any_not (f : α → Bool) (L : List α) : (!L.any fun x => !f x) = L.all f := by
  induction L with
  | nil => rfl
  | cons x L ih => rw [List.any_cons, List.all_cons, ← ih]; cases f x <;> simp
end
/-- What the machine has of texts. -/
def okS (l : List UInt8) : Prop := l.length ≤ 1000000
def okT (t : Tm) : Prop := okS t.2
def okTs (L : List Tm) : Prop := L.length ≤ 1000000 ∧ ∀ t ∈ L, okT t
set_option maxRecDepth 100000 in
set_option maxHeartbeats 2000000 in
theorem notTerm_any (K : Int) (l : List UInt8) (w : World) (hl : okS l) :
    Calls Tryz.prog 165 #[.agg #[.int .i64 K, .string (strB l)]] w fun e w' => e = .returned (.bool (!tmMay (K, l))) ∧ Below w.heap.size w w' := by
  unfold okS at hl
  have hm := fun w => tMay_any K l w (by omega)
  generalize tmMay (K, l) = r at *
  go_enter Tryz.func165, Tryz.ntmps165
  go_wp2_with fail
  refine (hm _).mono ?_
  rintro e w2 ⟨rfl, f2⟩
  have f3 := ((Below.refl _ w).alloc (Nat.le_refl _) _).trans (f2.mono (by simp))
  go_wp2_with fail
  go_ret
  exact ⟨rfl, f3⟩
set_option maxRecDepth 100000 in
set_option maxHeartbeats 2000000 in
theorem mayAll_any (A : Option Addr) (n c : Nat) (L : List Tm) (w : World) (h : RdR tmC 2 w w.heap.size A n L) (hok : okTs L) :
    Calls Tryz.prog 130 #[.slice A n c] w fun e w' => e = .returned (.bool (allMay L)) ∧ Below w.heap.size w w' := by
  have hl := h.1
  obtain ⟨r, hr⟩ : ∃ r, allMay L = r := ⟨_, rfl⟩
  rw [hr]
  by_cases hm : n ≤ 6
  · have d1 : decide ((n : Int) ≤ 6) = true := by simp; omega
    have hh := has_Term A n c (prL (fun t => !tmMay t) L) w (by omega) (fun w' hb j hj => by
      obtain ⟨b, off, h1, h2, h3⟩ := (h.below hb).2 (by omega)
      have hj' : j < L.length := by omega
      refine ⟨b, off, L[j].1, L[j].2, h1, h3 j hj' 0 _ rfl, h3 j hj' 1 _ rfl, ?_⟩
      rw [prL_at hj']
      exact notTerm_any _ _ _ (hok.2 _ (List.getElem_mem _))) (any_prL hl)
    have hq : r = !(L.any fun t => !tmMay t) := by
      rw [← hr, any_not]
      unfold allMay
      rw [decide_eq_true (show L.length ≤ 6 by omega), Bool.true_and]
    generalize (L.any fun t => !tmMay t) = p at *
    have HQ := Lib.hid hq
    clear h hok hr hq
    go_enter Tryz.func130, Tryz.ntmps130
    go_wp2_with fail
    refine hh.mono ?_
    rintro e w2 ⟨rfl, f2⟩
    cases p
    all_goals
      go_wp2_with fail
      go_ret
      exact ⟨by rw [HQ.out]; rfl, f2⟩
  · have d1 : decide ((n : Int) ≤ 6) = false := by simp; omega
    obtain rfl : r = false := by
      rw [← hr]
      unfold allMay
      rw [decide_eq_false (show ¬ L.length ≤ 6 by omega), Bool.false_and]
    go_enter Tryz.func130, Tryz.ntmps130
    go_wp2_with fail
    go_ret
    exact ⟨rfl, Below.refl _ _⟩
set_option maxRecDepth 100000 in
set_option maxHeartbeats 2000000 in
theorem notRow_any (A : Option Addr) (n c : Nat) (L : List Tm) (w : World) (h : RdR tmC 2 w w.heap.size A n L) (hok : okTs L) :
    Calls Tryz.prog 129 #[.slice A n c] w fun e w' => e = .returned (.bool (!allMay L)) ∧ Below w.heap.size w w' := by
  have hm := mayAll_any A n c L w h hok
  generalize allMay L = r at *
  clear h hok
  go_enter Tryz.func129, Tryz.ntmps129
  go_wp2_with fail
  refine hm.mono ?_
  rintro e w2 ⟨rfl, f2⟩
  go_wp2_with fail
  go_ret
  exact ⟨rfl, f2⟩
/-- A row of rows of terms: one slice to a place. -/
def RowP (w : World) (B : Nat) (cs : List Value) (x : List Tm) : Prop := ∃ v, cs = [v] ∧ RvT w B v x
theorem RowP.mono {w w' : World} {B B' : Nat} {cs : List Value} {x : List Tm} (h : RowP w B cs x) (hB : B ≤ B') (hb : Below B w w') : RowP w' B' cs x := by
  obtain ⟨v, e, h1⟩ := h
  exact ⟨v, e, h1.mono hB hb⟩
theorem rows_new {w : World} {vs : List Value} {R : List (List Tm)} (ty : Nat) (hl : R.length = vs.length) (h : ∀ j (hj : j < R.length), RvT w w.heap.size (vs[j]'(by omega)) R[j]) :
    RdG 1 RowP (w.alloc (.cells vs.toArray ty)) (w.alloc (.cells vs.toArray ty)).heap.size (some ⟨w.heap.size, 0, none⟩) vs.length R := by
  refine ⟨hl, fun _ => ⟨w.heap.size, 0, rfl, by simp, fun j hj => ⟨[vs[j]'(by omega)], rfl, ⟨_, rfl, (h j hj).mono (by simp) ((Below.refl _ w).alloc (Nat.le_refl _) _)⟩, fun i v hv => ?_⟩⟩⟩
  rcases i with _ | i
  · have k := (Blk.newAt (w := w) rfl ty vs.toArray).cell j
    simp only [Nat.zero_add, Nat.mul_one, Nat.add_zero]
    rw [k]
    simp at hv
    rw [← hv]
    simp
  · simp at hv
set_option maxRecDepth 100000 in
set_option maxHeartbeats 2000000 in
theorem rows_any (A : Option Addr) (n c : Nat) (R : List (List Tm)) (w : World) (hn : n ≤ 1000000) (h : RdG 1 RowP w w.heap.size A n R) (hok : ∀ L ∈ R, okTs L) :
    Calls Tryz.prog 73 #[.slice A n c] w fun e w' => e = .returned (.bool (rowsMay R)) ∧ Below w.heap.size w w' := by
  have hl := h.1
  have hh := has_Terms A n c (prL (fun t => !allMay t) R) w hn (fun w' hb j hj => by
    obtain ⟨b, off, cs, h1, h2, h3, ⟨v, rfl, A1, n1, c1, rfl, h4, h5, h6⟩, h7⟩ := (h.mono (Nat.le_refl _) hb fun _ _ h => h.mono (Nat.le_refl _) hb).at_ hj
    have hj' : j < R.length := by omega
    refine ⟨b, off, A1, n1, c1, h1, ?_, ?_⟩
    · have := h7 0 _ rfl
      rw [Nat.mul_one] at this
      exact this
    · rw [prL_at hj']
      exact notRow_any _ _ _ _ _ (h6.more hb.size) (hok _ (List.getElem_mem _))) (any_prL hl)
  have hq : rowsMay R = !(R.any fun t => !allMay t) := by rw [any_not]; rfl
  generalize (R.any fun t => !allMay t) = p at *
  rw [hq]
  clear h hok hq
  go_enter Tryz.func73, Tryz.ntmps73
  go_wp2_with fail
  refine hh.mono ?_
  rintro e w2 ⟨rfl, f2⟩
  go_wp2_with fail
  go_ret
  exact ⟨rfl, f2⟩
set_option maxRecDepth 100000 in
theorem mayPort_any (n : Int) (w : World) : Calls Tryz.prog 80 #[.int .i64 n] w fun e w' => e = .returned (.bool (portMay n)) ∧ Below w.heap.size w w' := by
  unfold portMay
  go_enter Tryz.func80, Tryz.ntmps80
  by_cases h1 : 1 ≤ n
  · have d1 : decide (1 ≤ n) = true := decide_eq_true h1
    by_cases h2 : n ≤ 65535
    · have d2 : decide (n ≤ 65535) = true := decide_eq_true h2
      go_wp2_with fail
      go_ret
      exact ⟨by rw [d1, d2]; rfl, Below.refl _ _⟩
    · have d2 : decide (n ≤ 65535) = false := decide_eq_false h2
      go_wp2_with fail
      go_ret
      exact ⟨rfl, Below.refl _ _⟩
  · have d1 : decide (1 ≤ n) = false := decide_eq_false h1
    go_wp2_with fail
    go_ret
    exact ⟨rfl, Below.refl _ _⟩
end Go.Proofs.YtdbjihpdfiipcaaGreat
