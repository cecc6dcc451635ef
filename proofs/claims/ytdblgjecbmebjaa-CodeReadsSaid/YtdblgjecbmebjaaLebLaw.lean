/- What is so of numbers as bytes, plain. No condition. -/
import Derived.Test.YtdblgjecbmebjaaFields
namespace Go.Proofs.Ytdblgjecbmebjaa
open Go.RowKit
theorem grp_mono : ∀ (x y : Nat), x ≤ y → y < 2 ^ 64 → grp x ≤ grp y := by
  intro x
  induction x using Nat.strongRecOn with
  | ind x ih =>
    intro y hxy hy
    by_cases hx : x < 128
    · rw [grp_small hx]
      exact grp_pos y hy
    · rw [grp_step (by omega) (by omega), grp_step (by omega) hy]
      have := ih (x / 128) (by omega) (y / 128) (by omega) (by omega)
      omega
theorem ofNat_inj {a b : Nat} (ha : a < 256) (hb : b < 256) (h : UInt8.ofNat a = UInt8.ofNat b) : a = b := by
  have := congrArg UInt8.toNat h
  simp at this
  omega
theorem leb_free : ∀ (x y : Nat) (r s : List UInt8), x < 2 ^ 64 → y < 2 ^ 64 → leb x ++ r = leb y ++ s → x = y ∧ r = s := by
  intro x
  induction x using Nat.strongRecOn with
  | ind x ih =>
    intro y r s hx hy h
    by_cases h1 : x < 128 <;> by_cases h2 : y < 128
    · rw [leb_small h1, leb_small h2] at h
      injection h with h3 h4
      exact ⟨ofNat_inj (by omega) (by omega) h3, h4⟩
    · rw [leb_small h1, leb_step (by omega) hy] at h
      injection h with h3 h4
      have := ofNat_inj (by omega) (by omega) h3
      omega
    · rw [leb_small h2, leb_step (by omega) hx] at h
      injection h with h3 h4
      have := ofNat_inj (by omega) (by omega) h3
      omega
    · rw [leb_step (by omega) hx, leb_step (by omega) hy] at h
      injection h with h3 h4
      have h5 := ofNat_inj (by omega) (by omega) h3
      obtain ⟨h6, h7⟩ := ih (x / 128) (by omega) (y / 128) r s (by omega) (by omega) h4
      exact ⟨by omega, h7⟩
theorem leb_take (x y : Nat) (hx : x < 2 ^ 64) (hy : y < 2 ^ 64) (hxy : x ≤ y) : (leb y).take (leb x).length = leb x ↔ x = y := by
  constructor
  · intro h
    have h1 : leb x ++ (leb y).drop (leb x).length = leb y ++ [] := by
      rw [List.append_nil]
      conv => rhs; rw [← List.take_append_drop (leb x).length (leb y), h]
    exact (leb_free x y _ _ hx hy h1).1
  · rintro rfl
    exact List.take_of_length_le (Nat.le_refl _)
theorem leb_one (y : Nat) (hy : y < 2 ^ 64) : (leb y).length = 1 ↔ y < 128 := by
  rw [leb_length y hy]
  constructor
  · intro h
    refine Decidable.byContradiction fun h1 => ?_
    rw [grp_step (by omega) hy] at h
    have := grp_pos (y / 128) (by omega)
    omega
  · exact grp_small
end Go.Proofs.Ytdblgjecbmebjaa
