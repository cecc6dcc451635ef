/- sha.cube's test: a number's third power against p. Condition: p below 2^32. -/
import Derived.Test.YthjaomkjjlgjeaaRoots
namespace Go.Proofs.Ythjaomkjjlgjeaa
open Go.RowKit
def h3 (p x : Nat) : Bool :=
  decide (x * x / 18446744073709551616 * x / 18446744073709551616 = 0) && decide ((x * x / 18446744073709551616 * x % 18446744073709551616 + x * x % 18446744073709551616 * x / 18446744073709551616 + 0) / 18446744073709551616 = 0) &&
  (decide ((x * x / 18446744073709551616 * x % 18446744073709551616 + x * x % 18446744073709551616 * x / 18446744073709551616 + 0) % 18446744073709551616 < p * 4294967296) ||
    decide ((x * x / 18446744073709551616 * x % 18446744073709551616 + x * x % 18446744073709551616 * x / 18446744073709551616 + 0) % 18446744073709551616 = p * 4294967296) && decide (x * x % 18446744073709551616 * x % 18446744073709551616 = 0))
theorem run_add (x y : Nat) (w : World) :
    (callFunc 62 #[.int .u64 x, .int .u64 y, .int .u64 0]).run Try.prog w =
      .ok (.value (.tuple #[.int .u64 (((x + y + 0) % 18446744073709551616 : Nat) : Int), .int .u64 (((x + y + 0) / 18446744073709551616 : Nat) : Int)])) w := by
  rw [run_callFunc_extern Try.func62 (by kernel_rfl) (by kernel_rfl) (by kernel_rfl) (e := add64Entry) (by kernel_rfl), run_add64 x y 0 (by omega) (by omega) (by omega) (by omega)]
  simp only [Result.andThen]
  congr 5 <;> omega

set_option maxRecDepth 100000 in
set_option maxHeartbeats 1000000 in
theorem cube1_A (p x hi lo more low over high carry sum : Nat) (hp : p < 4294967296) (b : Nat) (w : World) (hb : w.cell? ⟨b, 0, none⟩ = some (.int .u64 (p : Int)))
    (c1 : ∀ w, Calls Try.prog 60 #[.int .u64 x, .int .u64 x] w fun e w' => e = .returned (.tuple #[.int .u64 (hi : Nat), .int .u64 (lo : Nat)]) ∧ w' = w)
    (c2 : ∀ w, Calls Try.prog 60 #[.int .u64 lo, .int .u64 x] w fun e w' => e = .returned (.tuple #[.int .u64 (more : Nat), .int .u64 (low : Nat)]) ∧ w' = w)
    (c3 : ∀ w, Calls Try.prog 60 #[.int .u64 hi, .int .u64 x] w fun e w' => e = .returned (.tuple #[.int .u64 (over : Nat), .int .u64 (high : Nat)]) ∧ w' = w)
    (c4 : ∀ w, (callFunc 62 #[.int .u64 high, .int .u64 more, .int .u64 0]).run Try.prog w = .ok (.value (.tuple #[.int .u64 (sum : Nat), .int .u64 (carry : Nat)])) w)
    (ho : over ≠ 0) :
    Calls Try.prog 61 #[.int .u64 x, .pointer (some ⟨b, 0, none⟩)] w fun e w' => e = .returned (.bool false) ∧ w' = w := by
  have g1 : ((over : Int) == 0) = false := by simp only [beq_eq_false_iff_ne]; omega
  go_enter Try.func61, Try.ntmps61
  go_wp2_with fail
  refine (c1 _).mono ?_
  clear c1
  rintro e w' ⟨rfl, rfl⟩
  go_wp2_with fail
  refine (c2 _).mono ?_
  clear c2
  rintro e w' ⟨rfl, rfl⟩
  go_wp2_with fail
  refine (c3 _).mono ?_
  clear c3
  rintro e w' ⟨rfl, rfl⟩
  go_wp2_with (simp only [c4])
  go_ret
  simp

set_option maxRecDepth 100000 in
set_option maxHeartbeats 1000000 in
theorem cube1_B (p x hi lo more low over high carry sum : Nat) (hp : p < 4294967296) (b : Nat) (w : World) (hb : w.cell? ⟨b, 0, none⟩ = some (.int .u64 (p : Int)))
    (c1 : ∀ w, Calls Try.prog 60 #[.int .u64 x, .int .u64 x] w fun e w' => e = .returned (.tuple #[.int .u64 (hi : Nat), .int .u64 (lo : Nat)]) ∧ w' = w)
    (c2 : ∀ w, Calls Try.prog 60 #[.int .u64 lo, .int .u64 x] w fun e w' => e = .returned (.tuple #[.int .u64 (more : Nat), .int .u64 (low : Nat)]) ∧ w' = w)
    (c3 : ∀ w, Calls Try.prog 60 #[.int .u64 hi, .int .u64 x] w fun e w' => e = .returned (.tuple #[.int .u64 (over : Nat), .int .u64 (high : Nat)]) ∧ w' = w)
    (c4 : ∀ w, (callFunc 62 #[.int .u64 high, .int .u64 more, .int .u64 0]).run Try.prog w = .ok (.value (.tuple #[.int .u64 (sum : Nat), .int .u64 (carry : Nat)])) w)
    (ho : over = 0) (hc : carry ≠ 0) :
    Calls Try.prog 61 #[.int .u64 x, .pointer (some ⟨b, 0, none⟩)] w fun e w' => e = .returned (.bool false) ∧ w' = w := by
  subst ho
  have g1 : ((carry : Int) == 0) = false := by simp only [beq_eq_false_iff_ne]; omega
  go_enter Try.func61, Try.ntmps61
  go_wp2_with fail
  refine (c1 _).mono ?_
  clear c1
  rintro e w' ⟨rfl, rfl⟩
  go_wp2_with fail
  refine (c2 _).mono ?_
  clear c2
  rintro e w' ⟨rfl, rfl⟩
  go_wp2_with fail
  refine (c3 _).mono ?_
  clear c3
  rintro e w' ⟨rfl, rfl⟩
  go_wp2_with (simp only [c4])
  go_ret
  simp

set_option maxRecDepth 100000 in
set_option maxHeartbeats 1000000 in
theorem cube1_C (p x hi lo more low over high carry sum : Nat) (hp : p < 4294967296) (b : Nat) (w : World) (hb : w.cell? ⟨b, 0, none⟩ = some (.int .u64 (p : Int)))
    (c1 : ∀ w, Calls Try.prog 60 #[.int .u64 x, .int .u64 x] w fun e w' => e = .returned (.tuple #[.int .u64 (hi : Nat), .int .u64 (lo : Nat)]) ∧ w' = w)
    (c2 : ∀ w, Calls Try.prog 60 #[.int .u64 lo, .int .u64 x] w fun e w' => e = .returned (.tuple #[.int .u64 (more : Nat), .int .u64 (low : Nat)]) ∧ w' = w)
    (c3 : ∀ w, Calls Try.prog 60 #[.int .u64 hi, .int .u64 x] w fun e w' => e = .returned (.tuple #[.int .u64 (over : Nat), .int .u64 (high : Nat)]) ∧ w' = w)
    (c4 : ∀ w, (callFunc 62 #[.int .u64 high, .int .u64 more, .int .u64 0]).run Try.prog w = .ok (.value (.tuple #[.int .u64 (sum : Nat), .int .u64 (carry : Nat)])) w)
    (ho : over = 0) (hc : carry = 0) (hs : sum < p * 4294967296) :
    Calls Try.prog 61 #[.int .u64 x, .pointer (some ⟨b, 0, none⟩)] w fun e w' => e = .returned (.bool true) ∧ w' = w := by
  subst ho
  subst hc
  have g1 : decide ((sum : Int) < (p : Int) * 4294967296) = true := by simp only [decide_eq_true_eq]; omega
  go_enter Try.func61, Try.ntmps61
  go_wp2_with fail
  refine (c1 _).mono ?_
  clear c1
  rintro e w' ⟨rfl, rfl⟩
  go_wp2_with fail
  refine (c2 _).mono ?_
  clear c2
  rintro e w' ⟨rfl, rfl⟩
  go_wp2_with fail
  refine (c3 _).mono ?_
  clear c3
  rintro e w' ⟨rfl, rfl⟩
  go_wp2_with (simp only [c4])
  go_ret
  simp

set_option maxRecDepth 100000 in
set_option maxHeartbeats 1000000 in
theorem cube1_D (p x hi lo more low over high carry sum : Nat) (hp : p < 4294967296) (b : Nat) (w : World) (hb : w.cell? ⟨b, 0, none⟩ = some (.int .u64 (p : Int)))
    (c1 : ∀ w, Calls Try.prog 60 #[.int .u64 x, .int .u64 x] w fun e w' => e = .returned (.tuple #[.int .u64 (hi : Nat), .int .u64 (lo : Nat)]) ∧ w' = w)
    (c2 : ∀ w, Calls Try.prog 60 #[.int .u64 lo, .int .u64 x] w fun e w' => e = .returned (.tuple #[.int .u64 (more : Nat), .int .u64 (low : Nat)]) ∧ w' = w)
    (c3 : ∀ w, Calls Try.prog 60 #[.int .u64 hi, .int .u64 x] w fun e w' => e = .returned (.tuple #[.int .u64 (over : Nat), .int .u64 (high : Nat)]) ∧ w' = w)
    (c4 : ∀ w, (callFunc 62 #[.int .u64 high, .int .u64 more, .int .u64 0]).run Try.prog w = .ok (.value (.tuple #[.int .u64 (sum : Nat), .int .u64 (carry : Nat)])) w)
    (ho : over = 0) (hc : carry = 0) (hs : sum = p * 4294967296) :
    Calls Try.prog 61 #[.int .u64 x, .pointer (some ⟨b, 0, none⟩)] w fun e w' => e = .returned (.bool (decide (low = 0))) ∧ w' = w := by
  subst ho
  subst hc
  subst hs
  go_enter Try.func61, Try.ntmps61
  go_wp2_with fail
  refine (c1 _).mono ?_
  clear c1
  rintro e w' ⟨rfl, rfl⟩
  go_wp2_with fail
  refine (c2 _).mono ?_
  clear c2
  rintro e w' ⟨rfl, rfl⟩
  go_wp2_with fail
  refine (c3 _).mono ?_
  clear c3
  rintro e w' ⟨rfl, rfl⟩
  go_wp2_with (simp only [c4])
  go_ret
  simp
  rw [Bool.eq_iff_iff]
  simp

set_option maxRecDepth 100000 in
set_option maxHeartbeats 1000000 in
theorem cube1_E (p x hi lo more low over high carry sum : Nat) (hp : p < 4294967296) (b : Nat) (w : World) (hb : w.cell? ⟨b, 0, none⟩ = some (.int .u64 (p : Int)))
    (c1 : ∀ w, Calls Try.prog 60 #[.int .u64 x, .int .u64 x] w fun e w' => e = .returned (.tuple #[.int .u64 (hi : Nat), .int .u64 (lo : Nat)]) ∧ w' = w)
    (c2 : ∀ w, Calls Try.prog 60 #[.int .u64 lo, .int .u64 x] w fun e w' => e = .returned (.tuple #[.int .u64 (more : Nat), .int .u64 (low : Nat)]) ∧ w' = w)
    (c3 : ∀ w, Calls Try.prog 60 #[.int .u64 hi, .int .u64 x] w fun e w' => e = .returned (.tuple #[.int .u64 (over : Nat), .int .u64 (high : Nat)]) ∧ w' = w)
    (c4 : ∀ w, (callFunc 62 #[.int .u64 high, .int .u64 more, .int .u64 0]).run Try.prog w = .ok (.value (.tuple #[.int .u64 (sum : Nat), .int .u64 (carry : Nat)])) w)
    (ho : over = 0) (hc : carry = 0) (hs : p * 4294967296 < sum) :
    Calls Try.prog 61 #[.int .u64 x, .pointer (some ⟨b, 0, none⟩)] w fun e w' => e = .returned (.bool false) ∧ w' = w := by
  subst ho
  subst hc
  have g1 : decide ((sum : Int) < (p : Int) * 4294967296) = false := by simp only [decide_eq_false_iff_not]; omega
  have g2 : ((sum : Int) == (p : Int) * 4294967296) = false := by simp only [beq_eq_false_iff_ne]; omega
  go_enter Try.func61, Try.ntmps61
  go_wp2_with fail
  refine (c1 _).mono ?_
  clear c1
  rintro e w' ⟨rfl, rfl⟩
  go_wp2_with fail
  refine (c2 _).mono ?_
  clear c2
  rintro e w' ⟨rfl, rfl⟩
  go_wp2_with fail
  refine (c3 _).mono ?_
  clear c3
  rintro e w' ⟨rfl, rfl⟩
  go_wp2_with (simp only [c4])
  go_ret
  simp

theorem cube1_any (p x : Nat) (hp : p < 4294967296) (hx : x < 18446744073709551616) (b : Nat) (w : World) (hb : w.cell? ⟨b, 0, none⟩ = some (.int .u64 (p : Int))) :
    Calls Try.prog 61 #[.int .u64 x, .pointer (some ⟨b, 0, none⟩)] w fun e w' => e = .returned (.bool (h3 p x)) ∧ w' = w := by
  unfold h3
  have c1 := bits_Mul64 x x hx hx
  have l1 : x * x % 18446744073709551616 < 18446744073709551616 := Nat.mod_lt _ (by omega)
  have l2 : x * x / 18446744073709551616 < 18446744073709551616 := by
    have : x * x ≤ 18446744073709551615 * 18446744073709551615 := Nat.mul_le_mul (by omega) (by omega)
    omega
  have c2 := bits_Mul64 (x * x % 18446744073709551616) x l1 hx
  have c3 := bits_Mul64 (x * x / 18446744073709551616) x l2 hx
  generalize x * x / 18446744073709551616 = hi at c1 c3 ⊢
  generalize x * x % 18446744073709551616 = lo at c1 c2 ⊢
  generalize lo * x / 18446744073709551616 = more at c2 ⊢
  generalize lo * x % 18446744073709551616 = low at c2 ⊢
  generalize hi * x / 18446744073709551616 = over at c3 ⊢
  generalize hi * x % 18446744073709551616 = high at c3 ⊢
  have c4 := fun w => run_add high more w
  generalize (high + more + 0) / 18446744073709551616 = carry at c4 ⊢
  generalize (high + more + 0) % 18446744073709551616 = sum at c4 ⊢
  by_cases ho : over = 0
  · by_cases hc : carry = 0
    · by_cases hs : sum < p * 4294967296
      · refine (cube1_C p x hi lo more low over high carry sum hp b w hb c1 c2 c3 c4 ho hc hs).mono ?_
        rintro e w' ⟨rfl, rfl⟩
        simp [ho, hc, hs]
      · by_cases hd : sum = p * 4294967296
        · refine (cube1_D p x hi lo more low over high carry sum hp b w hb c1 c2 c3 c4 ho hc hd).mono ?_
          rintro e w' ⟨rfl, rfl⟩
          simp [ho, hc, hd]
        · refine (cube1_E p x hi lo more low over high carry sum hp b w hb c1 c2 c3 c4 ho hc (by omega)).mono ?_
          rintro e w' ⟨rfl, rfl⟩
          simp [hs, hd]
    · refine (cube1_B p x hi lo more low over high carry sum hp b w hb c1 c2 c3 c4 ho hc).mono ?_
      rintro e w' ⟨rfl, rfl⟩
      simp [hc]
  · refine (cube1_A p x hi lo more low over high carry sum hp b w hb c1 c2 c3 c4 ho).mono ?_
    rintro e w' ⟨rfl, rfl⟩
    simp [ho]
end Go.Proofs.Ythjaomkjjlgjeaa
