/- A reader's Uint, Text, Raw, End. No condition. -/
import Derived.Test.YtdblgjecbmebjaaReader2
namespace Go.Proofs.Ytdblgjecbmebjaa
open Go.RowKit
theorem shortGo_le : ∀ (l : List UInt8) (i x y k : Nat), x < 2 ^ (7 * i) → i ≤ 9 → shortGo i x l = some (y, k) → i < k ∧ k ≤ i + l.length ∧ y < 18446744073709551616
  | [], _, _, _, _, _, _, h => by cases h
  | c :: r, i, x, y, k, hx, hi, h => by
    have hc := c.toNat_lt
    rw [shortGo] at h
    split at h
    · cases h
    · rename_i h9
      obtain ⟨_, hY⟩ := short_or x c.toNat i hx hc hi (fun e => by omega)
      split at h
      · split at h
        · injection h with h
          injection h with h1 h2
          subst h1 h2
          exact ⟨by omega, by simp, hY⟩
        · cases h
      · have hi8 : i + 1 ≤ 9 := by omega
        have hx2 : x + c.toNat % 128 * 2 ^ (7 * i) < 2 ^ (7 * (i + 1)) := by
          have h4 : c.toNat % 128 + 1 ≤ 128 := by omega
          have h5 : (c.toNat % 128 + 1) * 2 ^ (7 * i) ≤ 128 * 2 ^ (7 * i) := Nat.mul_le_mul_right _ h4
          rw [Nat.succ_mul] at h5
          rw [Nat.mul_succ, Nat.pow_add]
          omega
        obtain ⟨h1, h2, h3⟩ := shortGo_le r (i + 1) _ y k hx2 hi8 h
        exact ⟨by omega, by rw [List.length_cons]; omega, h3⟩
theorem findShort_le {l : List UInt8} {y k : Nat} (h : findShort l = some (y, k)) : 0 < k ∧ k ≤ l.length ∧ y < 18446744073709551616 := by
  have := shortGo_le l 0 0 y k (by simp) (by omega) h
  omega
set_option maxRecDepth 100000 in
set_option maxHeartbeats 1000000 in
theorem rUint_any (p b : Nat) (s : RS) (w : World) (h : Rr w p b s) :
    Calls Try.prog 29 #[.pointer (some ⟨p, 0, none⟩)] w fun e w' => e = .returned (.int .u64 ((takeS findShort 0 s).1 : Nat)) ∧ Rr w' p b (takeS findShort 0 s).2 ∧ Off (fun k => k = p) w w' := by
  have h' := h
  obtain ⟨h0, A, n, c, k, r, hc⟩ := h
  have c0 := k.cell 0
  have c1 := k.cell 1
  have z0 := k.frozen 0
  have z1 := k.frozen 1
  have hl := r.1
  go_enter Try.func29, Try.ntmps29
  obtain ⟨l, st⟩ := s
  cases st
  · cases hf : findShort l with
    | none =>
      go_wp2_with (first | (go_at_call 47; refine (short_any A n c l _ w r.rd).mono ?_; rintro e w' ⟨rfl, rfl⟩; rw [hf, shortV]) | go_in)
      go_ret
      rw [takeS, hf]
      exact ⟨rfl, Rr.alloc h'.stop _⟩
    | some yk =>
      obtain ⟨y, i⟩ := yk
      obtain ⟨hi0, hi, hy⟩ := findShort_le hf
      simp only at hl hi
      obtain ⟨off, rfl, hb, hj⟩ := r.2 (by omega)
      have b1 : (0 : Int) ≤ (i : Int) := by omega
      have b2 : (i : Int) ≤ (n : Int) := by omega
      have b4 : ¬ ((i : Int) < 0) := by omega
      have hn : i ≤ n := by omega
      have hi2 : i ≠ 0 := by omega
      clear hj hl
      go_wp2_with (first | (go_at_call 47; refine (short_any _ n c l _ w r.rd).mono ?_; rintro e w' ⟨rfl, rfl⟩; rw [hf, shortV]) | go_in)
      · go_ret
        rw [takeS, hf]
        exact ⟨rfl, Rr.adv (off := off) (i := i) h0 k r hn (.inr (by omega)) rfl (by omega)⟩
      · go_ret
        rw [takeS, hf]
        exact ⟨rfl, Rr.adv (off := off) (i := i) h0 k r hn (.inl ⟨rfl, rfl⟩) rfl (by omega)⟩
  · go_wp2_with (first | go_in)
    go_ret
    exact ⟨rfl, h', Off.refl _ _⟩
theorem rUint_nil (w : World) : Calls Try.prog 29 #[.pointer none] w fun e w' => e = .returned (.int .u64 0) ∧ w' = w := by
  go_enter Try.func29, Try.ntmps29
  go_wp2_with (first | go_in)
  go_ret
  exact ⟨rfl, rfl⟩
end Go.Proofs.Ytdblgjecbmebjaa
