/- Masks of addresses, as numbers. No condition. -/
import Derived.Test.YtdbjihpdfiipcaaGreatNetsRef
import Derived.WalkKit
namespace Go.Proofs.YtdbjihpdfiipcaaGreat
def nMask (b : Int) : Nat := 4294967296 - 2 ^ (32 - min (max b 0) 32).toNat
theorem and_high (x k : Nat) (hx : x < 2 ^ 32) (hk : k ≤ 32) : x &&& (2 ^ 32 - 2 ^ k) = x / 2 ^ k * 2 ^ k := by
  have e1 : 2 ^ 32 - 2 ^ k = (2 ^ (32 - k) - 1) <<< k := by
    rw [Nat.shiftLeft_eq, Nat.sub_mul, Nat.one_mul, ← Nat.pow_add, Nat.sub_add_cancel hk]
  have e2 : x / 2 ^ k * 2 ^ k = (x >>> k) <<< k := by rw [Nat.shiftLeft_eq, Nat.shiftRight_eq_div_pow]
  rw [e1, e2]
  refine Nat.eq_of_testBit_eq fun i => ?_
  rw [Nat.testBit_and, Nat.testBit_shiftLeft, Nat.testBit_shiftLeft, Nat.testBit_two_pow_sub_one, Nat.testBit_shiftRight]
  by_cases h1 : i ≥ k
  · rw [show k + (i - k) = i from by omega]
    by_cases h2 : i < 32
    · simp [h1, show i - k < 32 - k from by omega]
    · have : x.testBit i = false := Nat.testBit_lt_two_pow (Nat.lt_of_lt_of_le hx (Nat.pow_le_pow_right (by omega) (by omega)))
      simp [this]
  · simp [h1]
theorem nMask_lt (b : Int) : nMask b < 4294967296 := by
  have : 0 < 2 ^ (32 - min (max b 0) 32).toNat := Nat.pow_pos (by omega)
  unfold nMask
  omega
theorem nMask_k (c : Nt) (h0 : 0 ≤ c.2) (h1 : c.2 ≤ 32) : nMask c.2 = 2 ^ 32 - nsz c ∧ nk c ≤ 32 := by
  have e : (32 - min (max c.2 0) 32).toNat = nk c := by unfold nk; omega
  unfold nMask nsz
  rw [e]
  exact ⟨rfl, by unfold nk; omega⟩
theorem and_mask (c : Nt) (x : Nat) (hx : x < 4294967296) (h0 : 0 ≤ c.2) (h1 : c.2 ≤ 32) : x &&& nMask c.2 = x / nsz c * nsz c := by
  obtain ⟨e, hk⟩ := nMask_k c h0 h1
  rw [e]
  exact and_high x (nk c) hx hk
theorem or_low (a k y : Nat) (ha : a % 2 ^ k = 0) (hy : y < 2 ^ k) : a ||| y = a + y := by
  obtain ⟨u, rfl⟩ := Nat.dvd_of_mod_eq_zero ha
  exact (Nat.two_pow_add_eq_or_of_lt hy u).symm
/-- The operations of the model, as numbers. -/
theorem u32_and_n (x y : Nat) (hx : x < 4294967296) (hy : y < 4294967296) : bits .and .u32 (x : Int) (y : Int) = ((x &&& y : Nat) : Int) := u32_and_nat x y hx hy
theorem u32_or_n (x y : Nat) (hx : x < 4294967296) (hy : y < 4294967296) : bits .or .u32 (x : Int) (y : Int) = ((x ||| y : Nat) : Int) := u32_or_nat x y hx hy
theorem and_not_low (c : Nt) (x : Nat) (hx : x < 4294967296) (h0 : 0 ≤ c.2) (h1 : c.2 ≤ 32) : bits .andNot .u32 (x : Int) (nMask c.2 : Int) = ((x % nsz c : Nat) : Int) := by
  obtain ⟨e, hk⟩ := nMask_k c h0 h1
  have hlt := nMask_lt c.2
  have hp : nsz c ≤ 2 ^ 32 := Nat.pow_le_pow_right (by omega) hk
  have hp0 := nsz_pos c
  show IntKind.u32.wrap ((BitVec.ofInt 32 (x : Int) &&& ~~~(BitVec.ofInt 32 (nMask c.2 : Int))).toNat : Int) = _
  have h : (BitVec.ofInt 32 (x : Int) &&& ~~~(BitVec.ofInt 32 (nMask c.2 : Int))).toNat = x % nsz c := by
    rw [BitVec.toNat_and, BitVec.toNat_not, BitVec.ofInt_natCast, BitVec.ofInt_natCast, BitVec.toNat_ofNat, BitVec.toNat_ofNat, Nat.mod_eq_of_lt (by omega), Nat.mod_eq_of_lt (by omega), e, show 2 ^ 32 - 1 - (2 ^ 32 - nsz c) = nsz c - 1 from by omega]
    exact Nat.and_two_pow_sub_one_eq_mod x (nk c)
  rw [h, IntKind.wrap_u32']
  have : x % nsz c ≤ x := Nat.mod_le _ _
  omega
theorem not_mask (b : Int) : bits .xor .u32 IntKind.u32.max (nMask b : Int) = ((4294967295 - nMask b : Nat) : Int) := by
  have hlt := nMask_lt b
  show IntKind.u32.wrap ((BitVec.ofInt 32 IntKind.u32.max ^^^ BitVec.ofInt 32 (nMask b : Int)).toNat : Int) = _
  rw [show BitVec.ofInt 32 IntKind.u32.max = BitVec.allOnes 32 from by decide, BitVec.allOnes_xor, BitVec.toNat_not, BitVec.ofInt_natCast, BitVec.toNat_ofNat, Nat.mod_eq_of_lt (by omega), IntKind.wrap_u32']
  omega
theorem or_rest (c : Nt) (h : nMay c = true) (hx : c.1 < 4294967296) : bits .or .u32 (c.1 : Int) ((4294967295 - nMask c.2 : Nat) : Int) = ((nhi c - 1 : Nat) : Int) := by
  obtain ⟨h0, h1, hm⟩ := (nMay_iff c).1 h
  obtain ⟨e, hk⟩ := nMask_k c h0 h1
  have hp : nsz c ≤ 2 ^ 32 := Nat.pow_le_pow_right (by omega) hk
  have hp0 := nsz_pos c
  rw [e, show 4294967295 - (2 ^ 32 - nsz c) = nsz c - 1 from by omega, u32_or_n _ _ hx (by omega), or_low c.1 (nk c) _ hm (by show nsz c - 1 < nsz c; omega)]
  unfold nhi
  congr 1
  omega
end Go.Proofs.YtdbjihpdfiipcaaGreat
