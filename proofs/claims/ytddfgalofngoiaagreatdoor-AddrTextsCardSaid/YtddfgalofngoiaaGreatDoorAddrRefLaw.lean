/- The document's nets, round by round, as plain things. No condition. -/
import Derived.Test.YtddfgalofngoiaaGreatDoorAddrLaw
namespace Go.Proofs.YtddfgalofngoiaaGreatDoor
set_option linter.unusedVariables false
/-- The mask behind i rounds. -/
def mkAt (b : Int) (i : Nat) : Nat := 2 ^ i - 2 ^ (i - (min (max b 0) i).toNat)
theorem mkAt_lt (b : Int) (i : Nat) : mkAt b i < 2 ^ i := by
  have := Nat.pow_pos (n := i - (min (max b 0) i).toNat) (show 0 < 2 by omega)
  have := Nat.pow_pos (n := i) (show 0 < 2 by omega)
  unfold mkAt
  omega
theorem mkAt_32 (b : Int) : mkAt b 32 = nMask b := by
  unfold mkAt nMask
  rw [show 32 - (min (max b 0) (32 : Nat)).toNat = (32 - min (max b 0) 32).toNat by omega]
theorem mkAt_0 (b : Int) : mkAt b 0 = 0 := by
  have := mkAt_lt b 0
  rw [Nat.pow_zero] at this
  omega
theorem mkAt_in {b : Int} {i : Nat} (h : (i : Int) < b) : mkAt b (i + 1) = 2 * mkAt b i + 1 := by
  unfold mkAt
  rw [show i + 1 - (min (max b 0) (i + 1 : Nat)).toNat = 0 by omega, show i - (min (max b 0) i).toNat = 0 by omega, Nat.pow_succ]
  have := Nat.pow_pos (n := i) (show 0 < 2 by omega)
  omega
theorem mkAt_out {b : Int} {i : Nat} (h : ¬ (i : Int) < b) : mkAt b (i + 1) = 2 * mkAt b i := by
  unfold mkAt
  have e : i + 1 - (min (max b 0) (i + 1 : Nat)).toNat = (i - (min (max b 0) i).toNat) + 1 := by omega
  rw [e, Nat.pow_succ, Nat.pow_succ]
  omega
/-- A bit of an address, the highest one 0. -/
def bitN (a i : Nat) : Bool := decide (a / 2 ^ (31 - i) % 2 = 1)
theorem bit_step (a i : Nat) (h : i < 32) : a / 2 ^ (31 - i) = 2 * (a / 2 ^ (32 - i)) + a / 2 ^ (31 - i) % 2 := by
  have e : 2 ^ (32 - i) = 2 ^ (31 - i) * 2 := by rw [← Nat.pow_succ]; congr 1; omega
  rw [e, ← Nat.div_div_eq_div_mul]
  omega
/-- What stands behind a net's bits: nothing yet, from its bits to i. -/
def lowAt (c : Nt) (i : Nat) : Prop := c.1 % 2 ^ (nk c) < 2 ^ (32 - i)
theorem lowAt_start (c : Nt) (i : Nat) (h : nk c = 32 - i) : lowAt c i := by
  unfold lowAt
  rw [h]
  exact Nat.mod_lt _ (Nat.pow_pos (by omega))
theorem low_bit {c : Nt} {i : Nat} (hk : nk c ≤ 32) (h : 32 - i ≤ nk c) (hi : i < 32) : c.1 % 2 ^ (nk c) / 2 ^ (31 - i) % 2 = c.1 / 2 ^ (31 - i) % 2 := by
  obtain ⟨d, hd⟩ : ∃ d, nk c = (31 - i) + 1 + d := ⟨nk c - (31 - i) - 1, by omega⟩
  have := Nat.testBit_mod_two_pow c.1 (nk c) (31 - i)
  rw [Nat.testBit_eq_decide_div_mod_eq, Nat.testBit_eq_decide_div_mod_eq, decide_eq_true (by omega : 31 - i < nk c), Bool.true_and, decide_eq_decide] at this
  omega
theorem lowAt_step {c : Nt} {i : Nat} (hk : nk c ≤ 32) (h : 32 - i ≤ nk c) (hi : i < 32) (hl : lowAt c i) (hb : bitN c.1 i = false) : lowAt c (i + 1) := by
  unfold lowAt at *
  have e := low_bit hk h hi
  unfold bitN at hb
  rw [decide_eq_false_iff_not] at hb
  have e2 : 2 ^ (32 - i) = 2 ^ (31 - i) * 2 := by rw [← Nat.pow_succ]; congr 1; omega
  rw [e2] at hl
  rw [show 32 - (i + 1) = 31 - i by omega]
  have h3 : c.1 % 2 ^ (nk c) / 2 ^ (31 - i) < 2 := Nat.div_lt_of_lt_mul hl
  have h4 : c.1 % 2 ^ (nk c) / 2 ^ (31 - i) = 0 := by
    generalize c.1 % 2 ^ (nk c) / 2 ^ (31 - i) = u at *
    generalize c.1 / 2 ^ (31 - i) = v at *
    omega
  rcases Nat.div_eq_zero_iff.1 h4 with g | g
  · have := Nat.pow_pos (n := 31 - i) (show 0 < 2 by omega); omega
  · exact g
theorem lowAt_bit {c : Nt} {i : Nat} (hk : nk c ≤ 32) (h : 32 - i ≤ nk c) (hi : i < 32) (hb : bitN c.1 i = true) : nMay c = false := by
  have e := low_bit hk h hi
  unfold bitN at hb
  rw [decide_eq_true_eq] at hb
  rw [← Bool.not_eq_true, nMay_iff]
  rintro ⟨_, _, h0⟩
  unfold nsz at h0
  rw [h0, Nat.zero_div] at e
  omega
theorem lowAt_end {c : Nt} (h0 : 0 ≤ c.2) (h1 : c.2 ≤ 32) (hl : lowAt c 32) : nMay c = true := by
  rw [nMay_iff]
  refine ⟨h0, h1, ?_⟩
  unfold lowAt at hl
  unfold nsz
  omega
/-- Two addresses are alike in their highest i bits. -/
def likeAt (a b i : Nat) : Prop := a / 2 ^ (32 - i) = b / 2 ^ (32 - i)
theorem likeAt_0 {a b : Nat} (ha : a < 4294967296) (hb : b < 4294967296) : likeAt a b 0 := by
  unfold likeAt
  rw [Nat.div_eq_of_lt ha, Nat.div_eq_of_lt hb]
theorem likeAt_step {a b i : Nat} (hi : i < 32) (h : likeAt a b i) (hb : bitN a i = bitN b i) : likeAt a b (i + 1) := by
  unfold likeAt at *
  unfold bitN at hb
  have e1 := bit_step a i hi
  have e2 := bit_step b i hi
  rw [decide_eq_decide] at hb
  rw [show 32 - (i + 1) = 31 - i by omega]
  omega
theorem likeAt_bit {a b i j : Nat} (hi : i < j) (hj : j ≤ 32) (h : likeAt a b j) : bitN a i = bitN b i := by
  unfold likeAt at h
  have e : ∀ x : Nat, x / 2 ^ (31 - i) = x / 2 ^ (32 - j) / 2 ^ (j - 1 - i) := fun x => by
    rw [Nat.div_div_eq_div_mul, ← Nat.pow_add]
    congr 2
    omega
  unfold bitN
  rw [e a, e b, h]
theorem in_like {c : Nt} {x : Nat} (h : nMay c = true) : nIn c x = true ↔ likeAt x c.1 (32 - nk c) := by
  obtain ⟨h0, h1, h2⟩ := (nMay_iff c).1 h
  have hk := (nk_bits h).2
  unfold nIn likeAt
  rw [h, Bool.true_and, decide_eq_true_eq, show 32 - (32 - nk c) = nk c by omega]
  unfold nsz at *
  have e : c.1 / 2 ^ nk c * 2 ^ nk c = c.1 := by
    have := Nat.mod_add_div c.1 (2 ^ nk c)
    rw [Nat.mul_comm] at this
    omega
  constructor
  · intro g
    have := congrArg (· / 2 ^ nk c) g
    simp only [Nat.mul_div_cancel _ (Nat.pow_pos (n := nk c) (show 0 < 2 by omega))] at this
    exact this
  · intro g
    rw [g]
    exact e
theorem last_in {c d : Nt} : nCov c d = (nMay c && (nMay d && (nIn c d.1 && nIn c (nhi d - 1)))) := by
  have := nhi_gt d
  have := nhi_gt c
  rw [Bool.eq_iff_iff, nCov_iff]
  simp only [Bool.and_eq_true, nIn_iff]
  constructor
  · rintro ⟨a, b, e, f⟩
    exact ⟨a, b, ⟨a, e, by omega⟩, a, by omega, by omega⟩
  · rintro ⟨a, b, ⟨_, e, _⟩, _, _, f⟩
    exact ⟨a, b, e, by omega⟩
end Go.Proofs.YtddfgalofngoiaaGreatDoor
