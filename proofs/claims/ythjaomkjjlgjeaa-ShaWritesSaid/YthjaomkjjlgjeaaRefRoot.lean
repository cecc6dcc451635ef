/- The document's root: of a prime, by bits. Condition: the first, the square or the cubic root; the number is below 2^64. -/
import Derived.Test.YthjaomkjjlgjeaaRefAbove
import Derived.Test.YthjaomkjjlgjeaaRoots
namespace Go.Proofs.Ythjaomkjjlgjeaa
open Go.RowKit
set_option linter.unusedVariables false
set_option linter.unusedSimpArgs false
def under (p power y : Nat) : Bool := decide (y ^ power ≤ p * 65536 ^ (2 * power))
def rootR (power p : Nat) : Nat := grt (under p power)
theorem or_bit (x j : Nat) (h : x % 2 ^ (j + 1) = 0) : x ||| 2 ^ j = x + 2 ^ j := by
  have e : x = 2 ^ (j + 1) * (x / 2 ^ (j + 1)) := by have := Nat.div_add_mod x (2 ^ (j + 1)); omega
  have h1 : 2 ^ j < 2 ^ (j + 1) := Nat.pow_lt_pow_right (by omega) (by omega)
  rw [e, ← Nat.two_pow_add_eq_or_of_lt h1]
theorem bit_low (x j : Nat) (h : x % 2 ^ (j + 1) = 0) : x % 2 ^ j = 0 := by
  have e : x = 2 ^ (j + 1) * (x / 2 ^ (j + 1)) := by have := Nat.div_add_mod x (2 ^ (j + 1)); omega
  rw [e, Nat.pow_succ, Nat.mul_assoc, Nat.mul_mod_right]
theorem above_under (p power y : Nat) : decide (p * 65536 ^ (2 * power) < y ^ power) = !(under p power y) := by
  unfold under
  by_cases h : y ^ power ≤ p * 65536 ^ (2 * power)
  · rw [decide_eq_true h, decide_eq_false (by omega)]; rfl
  · rw [decide_eq_false h, decide_eq_true (by omega)]; rfl
set_option maxRecDepth 100000 in
set_option maxHeartbeats 2000000 in
theorem root_any (p power : Nat) (hp : p < 18446744073709551616) (hpw : 1 ≤ power ∧ power ≤ 3) (w : World) :
    Calls Try.prog 56 #[.int .u64 p, .int .i64 power] w fun e w' => e = .returned (.int .u64 (rootR power p : Nat)) ∧ Below w.heap.size w w' := by
  have hav := fun y => above_under p power y
  have HAV := Lib.hid hav; clear hav
  have hR : rootR power p = grt (under p power) := rfl
  have HR := Lib.hid hR; clear hR
  generalize rootR power p = R at *
  generalize under p power = H at *
  go_enter Try.func56, Try.ntmps56
  go_wp2_with fail
  go_loopw [6, 5] (fun s6 s5 wr => ∃ j x : Nat, j ≤ 40 ∧ s6 = .int .i64 ((j : Int) - 1) ∧ s5 = .int .u64 x ∧ x % 2 ^ j = 0 ∧ x + 2 ^ j ≤ 1099511627776 ∧ bs H j x = R ∧ Below w.heap.size w wr) (fun s6 _ _ => (intOf s6 + 1).toNat)
  case atStart => exact ⟨40, 0, by omega, rfl, rfl, rfl, by omega, HR.out.symm, Below.refl _ w⟩
  case round =>
    obtain ⟨j, x, hj, rfl, rfl, hx0, hx, hbs, f1⟩ := hrel
    cases j with
    | zero =>
      have d1 : decide ((0 : Int) ≤ ((0 : Nat) : Int) - 1) = false := rfl
      go_wp2_with fail
      go_ret
      rw [← hbs, bs]
      exact ⟨rfl, f1⟩
    | succ j =>
      have d1 : decide ((0 : Int) ≤ ((j + 1 : Nat) : Int) - 1) = true := by simp
      have hor := or_bit x j hx0
      have hlow := bit_low x j hx0
      have hpow : 2 ^ (j + 1) = 2 ^ j + 2 ^ j := by rw [Nat.pow_succ]; omega
      have hb : bits .or .u64 (x : Int) (IntKind.u64.wrap (2 ^ j)) = ((x + 2 ^ j : Nat) : Int) := by
        rw [show ((2 : Int) ^ j) = ((2 ^ j : Nat) : Int) from by push_cast; rfl, IntWalk.u64_in _ (by omega), u64_or_nat _ _ (by omega) (by omega), hor]
      rw [hpow] at hx
      rw [bs] at hbs
      have hy0 : (x + 2 ^ j) % 2 ^ j = 0 := by rw [Nat.add_mod_right, hlow]
      have hyb : x + 2 ^ j + 2 ^ j ≤ 1099511627776 := by omega
      have HB := Lib.hid hb; clear hb hor hpow hx0
      go_wp2_with fail
      rw [HB.out]
      clear HB
      generalize hy : x + 2 ^ j = y at *
      have Hy := Lib.hid hy; clear hy
      generalize hq : 2 ^ j = q at *
      have HQ := Lib.hid hq; clear hq
      refine (limbs_any y (by omega) wr).mono ?_
      rintro e w2 ⟨rfl, k2, f2⟩
      replace f1 := f1.trans (f2.mono f1.size)
      have hls := lims_small y (by omega)
      go_wp2_with fail
      go_loopw [9, 8] (fun s9 s8 wi => ∃ (i g : Nat) (L : List Nat), 1 ≤ i ∧ i ≤ power ∧ s9 = .int .i64 i ∧ s8 = .slice (some ⟨g, 0, none⟩) L.length L.length ∧ Blk wi g 40 (nvs L) ∧ Small L ∧ L.length + 1 = 5 * i ∧ valL L = y ^ i ∧ Below w.heap.size w wi) (fun s9 _ _ => power - (intOf s9).toNat)
      case atStart => exact ⟨1, wr.heap.size, lims y, by omega, hpw.1, rfl, rfl, k2, hls, rfl, by rw [valL_lims, Nat.pow_one], f1⟩
      case round =>
        clear k2 f2 f1
        obtain ⟨i, g, L, hi1, hi2, rfl, rfl, k1, sL, lL, vL, f1⟩ := hrel
        have lL14 : L.length ≤ 1000 := by omega
        by_cases hlt : i < power
        · have d2 : decide ((i : Int) < (power : Int)) = true := by simp; omega
          go_wp2_with fail
          refine (limbs_any y (by omega) _).mono ?_
          rintro e w3 ⟨rfl, k3, f3⟩
          replace k1 := k1.below f3 k1.lt
          replace f1 := f1.trans (f3.mono f1.size)
          go_wp2_with fail
          refine (times_any L (lims y) g _ w3 k1 k3 sL hls lL14 (by simp [lims])).mono ?_
          rintro e w4 ⟨rfl, o, k4, lo, so, vo, f4⟩
          replace f1 := f1.trans (f4.mono f1.size)
          rw [show (lims y).length = 4 from rfl] at lo ⊢
          rw [← lo]
          go_wp2_with fail
          go_roundw
          case rel => exact ⟨i + 1, _, o, by omega, by omega, by go_num, by rw [lo], k4, so, by omega, by rw [vo, vL, valL_lims, Nat.pow_succ], f1⟩
          case measure => simp [intOf]; omega
        · obtain rfl : i = power := by omega
          have d2 : decide ((i : Int) < (i : Int)) = false := by simp
          go_wp2_with fail
          rw [show 2 * (i : Int) = ((2 * i : Nat) : Int) from by push_cast; rfl]
          refine (above_any L g p (2 * i) _ k1 sL lL14 hp (by omega)).mono ?_
          rintro e w5 ⟨rfl, f5⟩
          rw [vL, HAV.out y]
          replace f1 := f1.trans (f5.mono f1.size)
          clear k1 f5 vL
          cases hu : H y
          · rw [hu] at hbs
            go_wp2_with fail
            go_roundw
            case rel => exact ⟨j, x, by omega, congrArg (Value.int .i64) (by omega), rfl, by rw [HQ.out]; exact hlow, by rw [HQ.out]; omega, by simpa using hbs, f1⟩
            case measure => simp only [intOf]; omega
          · rw [hu] at hbs
            go_wp2_with fail
            go_roundw
            case rel => exact ⟨j, y, by omega, congrArg (Value.int .i64) (by omega), rfl, by rw [HQ.out]; exact hy0, by rw [HQ.out]; omega, by simpa using hbs, f1⟩
            case measure => simp only [intOf]; omega
end Go.Proofs.Ythjaomkjjlgjeaa
