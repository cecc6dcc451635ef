/- sha.square, sha.cube: by greatest (a binary search below 2^40) at their closures. No condition. -/
import Derived.Test.YthjaomkjjlgjeaaShelf
import Derived.Test.YthjaomkjjlgjeaaSeat
import Derived.Laws.Externs
import Derived.RangeFuncBox

namespace Go.Proofs.Ythjaomkjjlgjeaa
open Go.RowKit
def h2 (p x : Nat) : Bool := decide (x * x / 18446744073709551616 < p) || (decide (x * x / 18446744073709551616 = p) && decide (x * x % 18446744073709551616 = 0))
/-- The search: j bits to go, from l on. -/
def bs (h : Nat → Bool) : Nat → Nat → Nat
  | 0, l => l
  | j + 1, l => if h (l + 2 ^ j) then bs h j (l + 2 ^ j) else bs h j l
theorem bs_le (h : Nat → Bool) (j l : Nat) : bs h j l < l + 2 ^ j := by
  induction j generalizing l with
  | zero => simp [bs]
  | succ j ih =>
    have e : 2 ^ (j + 1) = 2 ^ j + 2 ^ j := by rw [Nat.pow_succ]; omega
    have h1 := ih (l + 2 ^ j)
    have h2 := ih l
    have pos := Nat.two_pow_pos j
    rw [bs, e]
    split <;> omega
/-- The root of p by a test. -/
def grt (h : Nat → Bool) : Nat := bs h 40 0
theorem grt_lt (h : Nat → Bool) : grt h < 1099511627776 := by have := bs_le h 40 0; unfold grt; omega

set_option maxRecDepth 100000 in
set_option maxHeartbeats 1000000 in
theorem square1_any (p x : Nat) (hx : x < 18446744073709551616) (b : Nat) (w : World) (hb : w.cell? ⟨b, 0, none⟩ = some (.int .u64 (p : Int))) :
    Calls Try.prog 59 #[.int .u64 x, .pointer (some ⟨b, 0, none⟩)] w fun e w' => e = .returned (.bool (h2 p x)) ∧ w' = w := by
  have c := bits_Mul64 x x hx hx
  have hh : h2 p x = (decide (x * x / 18446744073709551616 < p) || (decide (x * x / 18446744073709551616 = p) && decide (x * x % 18446744073709551616 = 0))) := rfl
  rw [hh]
  clear hh
  generalize x * x / 18446744073709551616 = hi at c ⊢
  generalize x * x % 18446744073709551616 = lo at c ⊢
  go_enter Try.func59, Try.ntmps59
  go_wp2_with fail
  refine (c _).mono ?_
  clear c
  rintro e w' ⟨rfl, rfl⟩
  by_cases h1 : hi < p
  · have g1 : decide ((hi : Int) < (p : Int)) = true := by simp only [decide_eq_true_eq]; omega
    go_wp2
    go_ret
    simp [h1]
  · have g1 : decide ((hi : Int) < (p : Int)) = false := by simp only [decide_eq_false_iff_not]; omega
    by_cases h2 : hi = p
    · subst h2
      go_wp2
      go_ret
      simp
      rw [Bool.eq_iff_iff]
      simp
    · have g2 : decide ((hi : Int) = (p : Int)) = false := by simp only [decide_eq_false_iff_not]; omega
      go_wp2
      go_ret
      simp [h1, h2]

set_option maxRecDepth 100000 in
set_option maxHeartbeats 1000000 in
theorem greatest2_any (p b : Nat) (w : World) (hb : w.cell? ⟨b, 0, none⟩ = some (.int .u64 (p : Int))) :
    Calls Try.prog 58 #[.func (.func 59) #[] #[.pointer (some ⟨b, 0, none⟩)]] w fun e w' => e = .returned (.int .u64 (grt (h2 p) : Nat)) ∧ w' = w := by
  have c := fun x hx => square1_any p x hx b w hb
  generalize h2 p = h at c ⊢
  go_enter Try.func58, Try.ntmps58
  go_wp2_with fail
  go_loopw [3, 4] (fun l m wr => ∃ j s q : Nat, q = 2 ^ j ∧ l = .int .u64 s ∧ m = .int .u64 (s + q : Nat) ∧ s + q ≤ 1099511627776 ∧ bs h j s = grt h ∧ wr = w) (fun l m _ => (intOf m).toNat - (intOf l).toNat)
  case atStart => exact ⟨40, 0, 1099511627776, rfl, rfl, rfl, by omega, rfl, rfl⟩
  case round =>
    obtain ⟨j, s, q, hq, rfl, rfl, hs, hbs, rfl⟩ := hrel
    cases j with
    | zero =>
      obtain rfl : q = 1 := hq
      go_wp2_with fail
      go_ret
      rw [← hbs, bs]
      exact ⟨rfl, rfl⟩
    | succ j =>
      obtain ⟨r, hr⟩ : ∃ r, r = 2 ^ j := ⟨_, rfl⟩
      obtain rfl : q = r + r := by rw [hq, Nat.pow_succ]; omega
      have pos : 0 < r := by rw [hr]; exact Nat.two_pow_pos j
      have HH := Lib.hid hr
      have g1 : decide ((1 : Int) < (r : Int) + (r : Int)) = true := by simp only [decide_eq_true_eq]; omega
      have c1 := c (s + r) (by omega)
      rw [bs, ← hr] at hbs
      clear hr hq
      go_wp2_with fail
      rw [show ((s : Int) + ((s : Int) + ((r : Int) + (r : Int)))) / 2 = ((s + r : Nat) : Int) from by omega]
      refine c1.mono ?_
      rintro e w' ⟨rfl, rfl⟩
      cases hv : h (s + r)
      · rw [hv] at hbs
        go_wp2
        exact ⟨⟨j, s, r, HH.out, rfl, by push_cast; rfl, by omega, by simpa using hbs, trivial⟩, by simp only [intOf]; omega⟩
      · rw [hv] at hbs
        go_wp2
        exact ⟨⟨j, s + r, r, HH.out, by push_cast; rfl, by rw [Nat.add_assoc]; push_cast; rfl, by omega, by simpa using hbs, trivial⟩, by simp only [intOf]; omega⟩
set_option maxRecDepth 100000 in
set_option maxHeartbeats 1000000 in
theorem square_any (p : Nat) (w : World) :
    Calls Try.prog 51 #[.int .u64 p] w fun e w' => e = .returned (.int .u64 (grt (h2 p) : Nat)) ∧ Below w.heap.size w w' := by
  have c := fun (w : World) (b : Nat) (hb : w.cell? ⟨b, 0, none⟩ = some (.int .u64 (p : Int))) => greatest2_any p b w hb
  go_enter Try.func51, Try.ntmps51
  go_wp2_with fail
  refine (c _ _ ?_).mono ?_
  · exact (Boxed.new w 22 _).cell
  clear c
  rintro e w' ⟨rfl, rfl⟩
  go_wp2
  go_ret
  exact ⟨rfl, (Below.refl _ w).alloc (Nat.le_refl _) _⟩
end Go.Proofs.Ythjaomkjjlgjeaa
