/- ShaEnds: the walk: whatever the two numbers, the law returns true and writes nothing that was there. No condition. -/
import Derived.Test.YthjaomkjjlgjeaaEnd
namespace Go.Proofs.Ythjaomkjjlgjeaa
open Go.RowKit
theorem and63 (m : Nat) (hm : m < 18446744073709551616) : bits BinOp.and IntKind.u64 (m : Int) 63 = ((m % 64 : Nat) : Int) := by
  have := u64_and_nat m 63 hm (by omega)
  rw [show ((63 : Nat) : Int) = 63 from rfl] at this
  rw [this, show (63 : Nat) = 2 ^ 6 - 1 from rfl, Nat.and_two_pow_sub_one_eq_mod]
theorem ends_bits (m : Nat) (hm : m < 18446744073709551616) :
    bits BinOp.and IntKind.u64 (IntKind.u64.wrap (bits BinOp.and IntKind.u64 (m : Int) 63 + ((zeros m : Int) + 9))) 63 = 0 := by
  have hz := zeros_lt m
  rw [and63 m hm, IntWalk.u64_in _ (by omega), show ((m % 64 : Nat) : Int) + ((zeros m : Int) + 9) = ((m % 64 + (zeros m + 9) : Nat) : Int) from by omega, and63 _ (by omega)]
  unfold zeros
  omega

set_option maxRecDepth 100000 in
set_option maxHeartbeats 400000 in
theorem shaEnds_walk (m : Nat) (hm : m < 18446744073709551616) (n : Nat) (_ : n < 18446744073709551616) (w : World) :
    Calls Try.prog 3 #[.int .u64 m, .int .u64 n] w fun e w' => e = .returned (.bool true) ∧ Below w.heap.size w w' := by
  have z1 := zeros_lt m
  have z2 := zeros_lt n
  go_enter Try.func3, Try.ntmps3
  go_wp2_with fail
  refine (end_any' m _).mono ?_
  rintro e w1 ⟨g1, c1, rfl, ho1, hB1⟩
  go_wp2_with fail
  refine (end_any' n _).mono ?_
  rintro e w2 ⟨g2, c2, rfl, ho2, hB2⟩
  have hs1 := fun d hd => run_str (P := Try.prog) T23 ((ho1.below (Nat.le_refl _) hB2).rd) c1 d hd
  have hs2 := fun d hd => run_str (P := Try.prog) T23 (ho2.rd) c2 d hd
  have hc := (ho1.below (Nat.le_refl _) hB2).cell (j := 0) (by rw [endB_len]; omega)
  have hc' : w2.cell? { block := g1, off := 0 } = some (.int .u8 128) := hc
  have hb := ends_bits m hm
  clear hc hm
  have b1 : decide ((zeros m : Int) + 9 < 9) = false := by simp; omega
  have b2 : decide ((zeros n : Int) + 9 < 9) = false := by simp; omega
  have b3 : decide (72 < (zeros m : Int) + 9) = false := by simp; omega
  by_cases hmn : m = n
  · have b4 : (endB m == endB n) = true := by rw [hmn]; simp
    have b5 : ((m : Int) == (n : Int)) = true := by rw [hmn]; simp
    clear hmn
    go_upto_region 4 with (fail)
    go_wp2_with fail
    go_ret
    exact ⟨rfl, hB1.trans (hB2.mono hB1.size)⟩
  · have b5 : ((m : Int) == (n : Int)) = false := by simp; omega
    by_cases he : endB m = endB n
    · have b4 : (endB m == endB n) = true := by rw [he]; simp
      by_cases h1 : 2305843009213693952 ≤ m
      · have b6 : decide ((2305843009213693952 : Int) ≤ m) = true := by simp; omega
        clear h1 he hmn
        go_upto_region 4 with (fail)
        go_wp2_with fail
        go_ret
        exact ⟨rfl, hB1.trans (hB2.mono hB1.size)⟩
      · have b6 : decide ((2305843009213693952 : Int) ≤ m) = false := by simp; omega
        have b7 : decide ((2305843009213693952 : Int) ≤ n) = true := by
          simp only [decide_eq_true_eq]
          exact Int.ofNat_le.2 (Nat.le_of_not_lt fun h2 => hmn (endB_inj m n (Nat.lt_of_not_le h1) h2 he))
        clear h1 he hmn
        go_upto_region 4 with (fail)
        go_wp2_with fail
        go_ret
        exact ⟨rfl, hB1.trans (hB2.mono hB1.size)⟩
    · have b4 : (endB m == endB n) = false := by simpa using he
      clear he hmn
      go_upto_region 4 with (fail)
      go_wp2_with fail
      go_ret
      exact ⟨rfl, hB1.trans (hB2.mono hB1.size)⟩

end Go.Proofs.Ythjaomkjjlgjeaa
