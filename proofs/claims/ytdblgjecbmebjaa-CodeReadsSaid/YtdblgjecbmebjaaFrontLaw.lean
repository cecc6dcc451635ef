/- The document's way to find a number at the front, plain. No condition. -/
import Derived.Test.YtdblgjecbmebjaaOneLaw
namespace Go.Proofs.Ytdblgjecbmebjaa
open Go.RowKit
def dec : List UInt8 → Nat
  | [] => 0
  | b :: r => b.toNat % 128 + 128 * dec r
theorem dec_leb (y : Nat) (hy : y < 2 ^ 64) : dec (leb y) = y := by
  induction y using Nat.strongRecOn with
  | ind y ih =>
    by_cases h : y < 128
    · rw [leb_small h]
      simp [dec]
      omega
    · rw [leb_step (by omega) hy, dec, ih (y / 128) (by omega) (by omega)]
      simp
      omega
theorem front_hit {l : List UInt8} {x n : Nat} (hx : x < 18446744073709551616) (h : leb x = l.take n) (hn : n ≤ l.length) : findShort l = some (x, n) := by
  have h1 : l = leb x ++ l.drop n := by rw [h, List.take_append_drop]
  have h2 : (leb x).length = n := by rw [h, List.length_take]; omega
  rw [h1, findShort_leb x _ hx, h2]
theorem front_miss {l : List UInt8} {n : Nat} (h : ¬ leb (dec (l.take n) % 18446744073709551616) = l.take n) : ∀ y, findShort l ≠ some (y, n) := fun y hy => by
  have h1 := findShort_inv hy
  have h2 := (findShort_le hy).2.2
  rw [← h1, dec_leb y (by omega), Nat.mod_eq_of_lt h2] at h
  exact h rfl
theorem front_len {l : List UInt8} {y k : Nat} (h : findShort l = some (y, k)) : 1 ≤ k ∧ k ≤ 10 ∧ k ≤ l.length := by
  have h1 := findShort_inv h
  have h2 := findShort_le h
  have h3 := congrArg List.length h1
  rw [leb_length y h2.2.2, List.length_take] at h3
  have := grp_le y h2.2.2
  omega
theorem front_none {l : List UInt8} {n : Nat} (h : ∀ k, k < n → ∀ y, findShort l ≠ some (y, k)) (hn : 10 < n ∨ l.length < n) : findShort l = none := by
  cases hf : findShort l with
  | none => rfl
  | some yk =>
    obtain ⟨y, k⟩ := yk
    have := front_len hf
    exact absurd hf (h k (by omega) y)
theorem dec_step {l : List UInt8} {i : Nat} (hi : i < l.length) : dec (l.drop i) = (at8 l i).toNat % 128 + 128 * dec (l.drop (i + 1)) := by
  rw [drop8 hi, dec]
end Go.Proofs.Ytdblgjecbmebjaa
