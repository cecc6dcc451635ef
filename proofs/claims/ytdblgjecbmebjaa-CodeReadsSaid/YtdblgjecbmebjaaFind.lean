/- What is found at the front of what was written, plain. No condition. -/
import Derived.Test.YtdblgjecbmebjaaLebLaw
namespace Go.Proofs.Ytdblgjecbmebjaa
open Go.RowKit
theorem shortGo_leb : ∀ (y i x0 : Nat) (r : List UInt8), x0 + y * 2 ^ (7 * i) < 18446744073709551616 → i ≤ 9 → grp (x0 + y * 2 ^ (7 * i)) = i + grp y → shortGo i x0 (leb y ++ r) = some (x0 + y * 2 ^ (7 * i), i + grp y) := by
  intro y
  induction y using Nat.strongRecOn with
  | ind y ih =>
    intro i x0 r hX hi hg
    have h9 : i = 9 → y ≤ 1 := by
      rintro rfl
      refine Decidable.byContradiction fun h => ?_
      have : 2 * 2 ^ (7 * 9) ≤ y * 2 ^ (7 * 9) := Nat.mul_le_mul_right _ (by omega)
      have h2 : 2 * 2 ^ (7 * 9) = 18446744073709551616 := by decide
      omega
    have hy64 : y < 2 ^ 64 := by
      have : y * 1 ≤ y * 2 ^ (7 * i) := Nat.mul_le_mul_left _ (Nat.two_pow_pos _)
      omega
    by_cases hy : y < 128
    · have e1 : (UInt8.ofNat y).toNat = y := by simp; omega
      rw [leb_small hy, List.singleton_append, shortGo, e1, if_neg (by omega), if_pos hy, Nat.mod_eq_of_lt hy, if_pos (by rw [hg, grp_small hy]), grp_small hy]
    · have e1 : (UInt8.ofNat (y % 128 + 128)).toNat = y % 128 + 128 := by simp; omega
      have i9 : i ≤ 8 := by
        refine Decidable.byContradiction fun h => ?_
        have := h9 (by omega)
        omega
      have e2 : x0 + (y % 128 + 128) % 128 * 2 ^ (7 * i) + y / 128 * 2 ^ (7 * (i + 1)) = x0 + y * 2 ^ (7 * i) := by
        have h1 : 2 ^ (7 * (i + 1)) = 128 * 2 ^ (7 * i) := by rw [Nat.mul_succ, Nat.pow_add, Nat.mul_comm]
        rw [h1, Nat.add_assoc, ← Nat.mul_assoc, ← Nat.add_mul]
        congr 2
        omega
      rw [leb_step (by omega) hy64, List.cons_append, shortGo, e1, if_neg (by omega), if_neg (by omega), ih (y / 128) (by omega) (i + 1) _ r (by rw [e2]; exact hX) (by omega) (by rw [e2, hg, grp_step (by omega) hy64]; omega), e2, grp_step (by omega) hy64]
      congr 2
      omega
theorem findShort_leb (y : Nat) (r : List UInt8) (hy : y < 18446744073709551616) : findShort (leb y ++ r) = some (y, (leb y).length) := by
  have := shortGo_leb y 0 0 r (by simpa using hy) (by omega) (by simp)
  rw [leb_length y hy]
  simpa [findShort] using this
/-- Of a strict beginning of a number's bytes nothing is found. -/
theorem shortGo_cut : ∀ (y i x0 k : Nat), x0 + y * 2 ^ (7 * i) < 18446744073709551616 → i ≤ 9 → k < (leb y).length → shortGo i x0 ((leb y).take k) = none := by
  intro y
  induction y using Nat.strongRecOn with
  | ind y ih =>
    intro i x0 k hX hi hk
    have h9 : i = 9 → y ≤ 1 := by
      rintro rfl
      refine Decidable.byContradiction fun h => ?_
      have : 2 * 2 ^ (7 * 9) ≤ y * 2 ^ (7 * 9) := Nat.mul_le_mul_right _ (by omega)
      have h2 : 2 * 2 ^ (7 * 9) = 18446744073709551616 := by decide
      omega
    have hy64 : y < 2 ^ 64 := by
      have : y * 1 ≤ y * 2 ^ (7 * i) := Nat.mul_le_mul_left _ (Nat.two_pow_pos _)
      omega
    rcases k with _ | k
    · rfl
    by_cases hy : y < 128
    · rw [leb_small hy] at hk
      simp at hk
    · have e1 : (UInt8.ofNat (y % 128 + 128)).toNat = y % 128 + 128 := by simp; omega
      have i9 : i ≤ 8 := by
        refine Decidable.byContradiction fun h => ?_
        have := h9 (by omega)
        omega
      have e2 : x0 + (y % 128 + 128) % 128 * 2 ^ (7 * i) + y / 128 * 2 ^ (7 * (i + 1)) = x0 + y * 2 ^ (7 * i) := by
        have h1 : 2 ^ (7 * (i + 1)) = 128 * 2 ^ (7 * i) := by rw [Nat.mul_succ, Nat.pow_add, Nat.mul_comm]
        rw [h1, Nat.add_assoc, ← Nat.mul_assoc, ← Nat.add_mul]
        congr 2
        omega
      rw [leb_step (by omega) hy64] at hk ⊢
      rw [List.length_cons] at hk
      rw [List.take_succ_cons, shortGo, e1, if_neg (by omega), if_neg (by omega)]
      exact ih (y / 128) (by omega) (i + 1) _ k (by rw [e2]; exact hX) (by omega) (by omega)
theorem findShort_cut (y k : Nat) (hy : y < 18446744073709551616) (hk : k < (leb y).length) : findShort ((leb y).take k) = none :=
  shortGo_cut y 0 0 k (by simpa using hy) (by omega) hk
theorem findText_own (m : Int) (s r : List UInt8) (hs : s.length < 18446744073709551616) : findText m (leb s.length ++ s ++ r) = if m < 0 ∨ m < (s.length : Int) then none else some (s, (leb s.length ++ s).length) := by
  have h1 : findShort (leb s.length ++ s ++ r) = some (s.length, (leb s.length).length) := by
    rw [List.append_assoc]
    exact findShort_leb s.length (s ++ r) hs
  rw [findText, h1]
  simp only [List.length_append]
  by_cases h : m < 0 ∨ m < (s.length : Int)
  · rw [if_pos h, if_pos (by omega)]
  · rw [if_neg h, if_neg (by omega)]
    simp [List.append_assoc]
end Go.Proofs.Ytdblgjecbmebjaa
