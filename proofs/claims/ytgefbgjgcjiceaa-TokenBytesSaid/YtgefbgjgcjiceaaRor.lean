/- sha.ror, bits.RotateLeft32 and the reference's ror: a word turned right. Conditions: by 1 to 31 places. -/
import Derived.Test.YtgefbgjgcjiceaaSeat
import Derived.Test.YtgefbgjgcjiceaaWords
namespace Go.Proofs.Ytgefbgjgcjiceaa
open Go.RowKit
theorem neg_and31 (n : Nat) (hn : n < 32) (h1 : 1 ≤ n) : bits BinOp.and IntKind.u64 (IntKind.u64.wrap (-(n : Int))) 31 = 32 - (n : Int) := by
  rw [IntKind.wrap_u64, show (-(n : Int)) % 18446744073709551616 = ((18446744073709551616 - n : Nat) : Int) from by omega]
  have := u64_and_nat (18446744073709551616 - n) 31 (by omega) (by omega)
  rw [show ((31 : Nat) : Int) = 31 from rfl] at this
  rw [this, show (31 : Nat) = 2 ^ 5 - 1 from rfl, Nat.and_two_pow_sub_one_eq_mod]
  omega
set_option maxHeartbeats 400000 in
theorem rotl_nat (x : UInt32) (n : Nat) (w : World) (hn : n < 32) (h1 : 1 ≤ n) :
    Calls Try.prog 100 #[.int .u32 x.toNat, .int .i64 (-(n : Int))] w fun e w' => e = .returned (.int .u32 (ror x n).toNat) ∧ w = w' := by
  have h := ror_or' x n
  have hb := neg_and31 n hn h1
  have h' : bits .or .u32 ((x.toNat : Int) * 2 ^ (32 - n) % 4294967296) ((x.toNat : Int) / 2 ^ (32 - (32 - n))) = ((ror x n).toNat : Int) := by
    rw [show 32 - (32 - n) = n from by omega]; exact h
  clear h
  go_enter Try.func100, Try.ntmps100
  go_wp2
  go_ret
  exact ⟨rfl, rfl⟩
theorem ror_any (x : UInt32) (i : Int) (w : World) (hn : i < 32) (h1 : 1 ≤ i) :
    Calls Try.prog 98 #[.int .u32 x.toNat, .int .i64 i] w fun e w' => e = .returned (.int .u32 (ror x i.toNat).toNat) ∧ w' = w := by
  obtain ⟨n, rfl⟩ := Int.eq_ofNat_of_zero_le (show 0 ≤ i by omega)
  rw [Int.toNat_natCast]
  go_enter Try.func98, Try.ntmps98
  go_wp2_with fail
  refine (rotl_nat x n _ (by omega) (by omega)).mono ?_
  rintro e w' ⟨rfl, rfl⟩
  go_wp2
  go_ret
  exact ⟨rfl, rfl⟩
theorem rorR_nat (x : UInt32) (n : Nat) (w : World) (hn : n < 32) (h1 : 1 ≤ n) :
    Calls Try.prog 99 #[.int .u32 x.toNat, .int .u64 (n : Int)] w fun e w' => e = .returned (.int .u32 (ror x n).toNat) ∧ w' = w := by
  have h := ror_or x n
  go_enter Try.func99, Try.ntmps99
  go_wp2
  go_ret
  exact ⟨rfl, rfl⟩
theorem rorR_any (x : UInt32) (i : Int) (w : World) (hn : i < 32) (h1 : 1 ≤ i) :
    Calls Try.prog 99 #[.int .u32 x.toNat, .int .u64 i] w fun e w' => e = .returned (.int .u32 (ror x i.toNat).toNat) ∧ w' = w := by
  obtain ⟨n, rfl⟩ := Int.eq_ofNat_of_zero_le (show 0 ≤ i by omega)
  rw [Int.toNat_natCast]
  exact rorR_nat x n w (by omega) (by omega)
end Go.Proofs.Ytgefbgjgcjiceaa
