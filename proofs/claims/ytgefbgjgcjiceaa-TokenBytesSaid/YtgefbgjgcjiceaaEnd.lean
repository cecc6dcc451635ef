/- sha.End: the end of any number of bytes, as a list; unlike numbers below 2^61 have unlike ends. No condition. -/
import Derived.Test.YtgefbgjgcjiceaaSeat
namespace Go.Proofs.Ytgefbgjgcjiceaa
open Go.RowKit

def zeros (n : Nat) : Nat := (119 - n % 64) % 64
def be64 (x : Nat) : List UInt8 := (List.range 8).map fun i => UInt8.ofNat (x / 2 ^ (8 * (7 - i)))
theorem be64_length (x : Nat) : (be64 x).length = 8 := by simp [be64]
def endB (n : Nat) : List UInt8 := (128 :: List.replicate (zeros n) 0) ++ be64 (8 * n % 2 ^ 64)
theorem zeros_lt (n : Nat) : zeros n < 64 := by unfold zeros; omega
def lenOf : Value → Nat | .slice _ k _ => k | _ => 0

theorem end_test (n k : Nat) (h : k ≤ zeros n) : ((IntKind.u64.wrap (↑n + (↑k + 1))).tmod 64 != 56) = decide (k < zeros n) := by
  rw [IntKind.wrap_u64, Int.tmod_eq_emod_of_nonneg (by omega), Bool.eq_iff_iff]
  unfold zeros at *
  simp
  omega

theorem bv_mod (x : Nat) (e : Int) (h : e = (x : Int)) : Value.int .u8 (e % 256) = bv (UInt8.ofNat x) := by
  subst h
  unfold bv
  congr 1

theorem wrap8 (n j : Nat) : IntKind.u64.wrap (8 * (n : Int)) / 2 ^ (8 * (7 - j)) = ((8 * n % 2 ^ 64 / 2 ^ (8 * (7 - j)) : Nat) : Int) := by
  rw [IntKind.wrap_u64, Int.natCast_ediv, Int.natCast_pow, Int.natCast_emod]
  rfl
theorem end_byte (n j : Nat) (hj : j < 8) : Value.int .u8 (IntKind.u64.wrap (8 * ↑n) / 2 ^ (8 * (7 - j)) % 256) = bv ((be64 (8 * n % 2 ^ 64))[j]'(by rw [be64_length]; exact hj)) := by
  rw [bv_mod (8 * n % 2 ^ 64 / 2 ^ (8 * (7 - j))) _ (wrap8 n j)]
  simp [be64]

set_option maxHeartbeats 400000 in
theorem end_any (n : Nat) (w : World) :
    Calls Try.prog 94 #[.int .u64 n] w fun e w' => ∃ g c, e = .returned (.slice (some ⟨g, 0, none⟩) (endB n).length c) ∧ OwnB w' w.heap.size 5 (.slice (some ⟨g, 0, none⟩) (endB n).length c) (endB n) ∧ Below w.heap.size w w' := by
  have hz := zeros_lt n
  go_enter Try.func94, Try.ntmps94
  go_wp2_with fail
  go_loopw [3] (fun v wr => ∃ k : Nat, k ≤ zeros n ∧ OwnB wr w.heap.size 5 v (128 :: List.replicate k 0) ∧ Below w.heap.size w wr ∧ ∃ g c, v = .slice (some ⟨g, 0, none⟩) (k + 1) c) (fun v _ => zeros n + 1 - lenOf v)
  case atStart => exact ⟨0, by omega, OwnB.made (l := [128]) (Nat.le_refl _) rfl (by simp [maxLen]), (Below.refl _ _).alloc (Nat.le_refl _) _, _, _, rfl⟩
  case round =>
    obtain ⟨k, hk, hown, hB, g, c, rfl⟩ := hrel
    by_cases hlt : k < zeros n
    · have ht : ((IntKind.u64.wrap (↑n + (↑k + 1))).tmod 64 != 56) = true := by rw [end_test n k hk]; simpa using hlt
      go_wp2_with (first | (at_builtin; go_must (refine append1 T23 rfl rfl 0 rfl rfl rfl hown (by omega) hB (Nat.le_refl _) ?_); intro g' c' w' hown' hB' _))
      go_roundw
      case rel => exact ⟨k + 1, by omega, hown'.of_eq (by simp [List.replicate_succ']), hB', g', c', rfl⟩
      case measure => simp [lenOf]; omega
    · have ht : ((IntKind.u64.wrap (↑n + (↑k + 1))).tmod 64 != 56) = false := by rw [end_test n k hk]; simpa using hlt
      obtain rfl : k = zeros n := by omega
      go_wp2_with fail
      go_loopw [3, 4] (fun v i wr2 => ∃ j : Nat, j ≤ 8 ∧ OwnB wr2 w.heap.size 5 v ((128 :: List.replicate (zeros n) 0) ++ (be64 (8 * n % 2 ^ 64)).take j) ∧ Below w.heap.size w wr2 ∧ i = .int .i64 (7 - (j : Int)) ∧ ∃ g c, v = .slice (some ⟨g, 0, none⟩) (zeros n + 1 + j) c) (fun v _ _ => zeros n + 9 - lenOf v)
      case atStart => exact ⟨0, by omega, hown.of_eq (by simp), hB, rfl, g, c, rfl⟩
      case round =>
        obtain ⟨j, hj, hown2, hB2, rfl, g2, c2, rfl⟩ := hrel
        by_cases hlt2 : j < 8
        · go_wp2_with (first | (at_builtin; go_must (refine append1 T23 rfl rfl _ (end_byte n j hlt2) rfl rfl hown2 (by omega) hB2 (Nat.le_refl _) ?_); intro g' c' w' hown' hB' _))
          go_roundw
          case rel => exact ⟨j + 1, by omega, hown'.of_eq (by rw [List.append_assoc, List.take_succ_eq_append_getElem (by rw [be64_length]; exact hlt2)]), hB', by go_num, g', c', by rfl⟩
          case measure => simp [lenOf]; omega
        · go_wp2_with fail
          go_ret
          obtain rfl : j = 8 := by omega
          have hl : (endB n).length = zeros n + 1 + 8 := by simp [endB, be64_length]
          rw [hl]
          exact ⟨g2, c2, rfl, hown2.of_eq (by rw [List.take_of_length_le (by rw [be64_length]; omega)]; rfl), hB2⟩
theorem byte_eq {a b : Nat} (h : UInt8.ofNat a = UInt8.ofNat b) : a % 256 = b % 256 := by
  have := congrArg UInt8.toNat h
  simpa [UInt8.toNat_ofNat'] using this
theorem be64_inj (x y : Nat) (hx : x < 2 ^ 64) (hy : y < 2 ^ 64) (h : be64 x = be64 y) : x = y := by
  simp only [be64, List.range, List.range.loop, List.map_cons, List.map_nil, List.cons.injEq, and_true] at h
  obtain ⟨h0, h1, h2, h3, h4, h5, h6, h7⟩ := h
  have h0 := byte_eq h0; have h1 := byte_eq h1; have h2 := byte_eq h2; have h3 := byte_eq h3
  have h4 := byte_eq h4; have h5 := byte_eq h5; have h6 := byte_eq h6; have h7 := byte_eq h7
  simp only [Nat.reduceSub, Nat.reduceMul, Nat.reducePow] at *
  omega
theorem endB_inj (m n : Nat) (hm : m < 2305843009213693952) (hn : n < 2305843009213693952) (h : endB m = endB n) : m = n := by
  have hz : zeros m = zeros n := by
    have := congrArg List.length h
    simpa [endB, be64_length] using this
  unfold endB at h
  rw [hz] at h
  have h2 := be64_inj _ _ (by omega) (by omega) (List.append_cancel_left h)
  omega
theorem endB_len (n : Nat) : (endB n).length = zeros n + 9 := by simp [endB, be64_length]

theorem end_any' (n : Nat) (w : World) :
    Calls Try.prog 94 #[.int .u64 n] w fun e w' => ∃ g c, e = .returned (.slice (some ⟨g, 0, none⟩) (zeros n + 9) c) ∧ OwnB w' w.heap.size 5 (.slice (some ⟨g, 0, none⟩) (zeros n + 9) c) (endB n) ∧ Below w.heap.size w w' := by
  rw [← endB_len]
  exact end_any n w


end Go.Proofs.Ytgefbgjgcjiceaa
