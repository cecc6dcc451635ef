/- sha.primes: its iterator counts through the primes: the contract, as far as the 65th (313). Condition: whoever asks stops by then. -/
import Derived.Test.YthjaomkjjlgjeaaRange
import Derived.Test.YthjaomkjjlgjeaaSeat
import Derived.RangeFuncLeaves
import Derived.OwnWalkIn
import Derived.TacticsInMore
import Derived.LoopNIn
import Derived.LoopIn
namespace Go.Proofs.Ythjaomkjjlgjeaa
open Go.RowKit
attribute [local go_sem] Oper.semAt_some

/-- Is no number from 2 to d - 1 a divisor? -/
def noDiv (p d : Nat) : Bool := (List.range d).all fun e => decide (e < 2) || (p % e != 0)
theorem noDiv_succ (p d : Nat) (hd : 2 ≤ d) : noDiv p (d + 1) = (noDiv p d && (p % d != 0)) := by
  unfold noDiv
  rw [List.range_succ, List.all_append]
  simp [show ¬ d < 2 from by omega]
theorem noDiv_two (p : Nat) : noDiv p 2 = true := rfl
/-- Trial division as far as the root, of numbers below 314. -/
def isP (p : Nat) : Bool := (List.range 18).all fun e => decide (e < 2) || decide (p < e * e) || (p % e != 0)
theorem isP_of (p d : Nat) (hd : p < d * d) (hd2 : 2 ≤ d) (hp : p < 324) (h1 : (d - 1) * (d - 1) ≤ p ∨ d = 2) : noDiv p d = isP p := by
  have hd18 : d ≤ 18 := by
    rcases h1 with h1 | h1
    · by_cases h : d ≤ 18
      · exact h
      · have : 18 * 18 ≤ (d - 1) * (d - 1) := Nat.mul_le_mul (by omega) (by omega)
        omega
    · omega
  unfold noDiv isP
  rw [Bool.eq_iff_iff, List.all_eq_true, List.all_eq_true]
  constructor
  · intro h e he
    by_cases hed : e < d
    · have := h e (List.mem_range.2 hed)
      revert this
      cases hx : decide (e < 2) <;> simp +contextual
    · have : d * d ≤ e * e := Nat.mul_le_mul (by omega) (by omega)
      simp [show p < e * e from by omega]
  · intro h e he
    have hed := List.mem_range.1 he
    have := h e (List.mem_range.2 (by omega))
    have hle : e < 2 ∨ ¬ p < e * e := by
      by_cases h2 : e < 2
      · exact .inl h2
      · right
        rcases h1 with h1 | h1
        · have : e * e ≤ (d - 1) * (d - 1) := Nat.mul_le_mul (by omega) (by omega)
          omega
        · omega
    rcases hle with hle | hle
    · simp [hle]
    · revert this
      simp [hle]
/-- How many primes lie below p. -/
def cntP : Nat → Nat
  | 0 => 0
  | p + 1 => cntP p + if 2 ≤ p && isP p then 1 else 0
theorem cntP_yes (k : Nat) (h : 2 ≤ k) (hp : isP k = true) : cntP (k + 1) = cntP k + 1 := by simp [cntP, h, hp]
theorem cntP_no (k : Nat) (hp : isP k = false) : cntP (k + 1) = cntP k := by simp [cntP, hp]
def prs : List Nat := (List.range 314).filter fun p => decide (2 ≤ p) && isP p
/-- The k-th prime. -/
def prAt (k : Nat) : Nat := prs.getD k 0
theorem prAt_cnt : ∀ p, p < 314 → 2 ≤ p → isP p = true → prAt (cntP p) = p := by decide +kernel
theorem cnt_two : cntP 2 = 0 := by decide +kernel
theorem cnt_313 : cntP 313 = 64 := by decide +kernel
theorem isP_313 : isP 313 = true := by decide +kernel
theorem prAt_lt : ∀ k, k < 65 → 2 ≤ prAt k ∧ prAt k < 314 := by decide +kernel

theorem sqw (j : Nat) (h : j ≤ 18) : IntKind.u64.wrap ((j : Int) * (j : Int)) = ((j * j : Nat) : Int) := by
  have : j * j ≤ 18 * 18 := Nat.mul_le_mul h h
  rw [show (j : Int) * (j : Int) = ((j * j : Nat) : Int) from by push_cast; rfl, IntWalk.u64_in _ (by omega)]
theorem step18 (k j : Nat) (hk : k ≤ 313) (h : j * j ≤ k) : j + 1 ≤ 18 ∧ (j + 1 - 1) * (j + 1 - 1) ≤ k := by
  refine ⟨?_, by simpa using h⟩
  by_cases h18 : j + 1 ≤ 18
  · exact h18
  · have : 18 * 18 ≤ j * j := Nat.mul_le_mul (by omega) (by omega)
    omega
theorem modB (k j : Nat) : ((k : Int) % (j : Int) != 0) = (k % j != 0) := by
  rw [Bool.eq_iff_iff, bne_iff_ne, bne_iff_ne]
  omega

set_option maxRecDepth 100000 in
set_option maxHeartbeats 1000000 in
theorem primes_counts (F : Fence) (n : Nat) (hF : F.fn 67) (hro : F.round = none) (hn : 1 ≤ n) (w : World) :
    Counts F n Try.prog 67 #[] (fun k => #[.int .u64 (prAt k)]) 65 w := by
  intro l J Jx W hW hJ hJx hN hY h0
  refine callsIn_of_wp Try.func67 rfl hF ?_ hro
  simp only [Try.ntmps67, List.size_toArray, List.length_cons, List.length_nil, Nat.reduceAdd, Nat.reduceSub, Array.replicate_succ, Array.replicate_zero, List.push_toArray, List.append_toArray, List.nil_append, List.cons_append, Array.append_empty]
  gi_wp2
  gi_loopw [2] (fun p wr => ∃ k : Nat, p = .int .u64 k ∧ 2 ≤ k ∧ k ≤ 313 ∧ J (cntP k) wr) (fun p _ => 400 - (intOf p).toNat)
  case atStart => exact ⟨2, rfl, by omega, by omega, by rw [cnt_two]; exact h0⟩
  case round =>
    obtain ⟨k, rfl, hk2, hk3, hJs⟩ := hrel
    gi_wp2
    gi_loopw [3, 4] (fun b d wq => ∃ j : Nat, d = .int .u64 j ∧ b = .bool (noDiv k j) ∧ 2 ≤ j ∧ j ≤ 18 ∧ ((j - 1) * (j - 1) ≤ k ∨ j = 2) ∧ wq = wr) (fun _ d _ => 40 - (intOf d).toNat)
    case atStart => exact ⟨2, rfl, rfl, by omega, by omega, .inr rfl, rfl⟩
    case round =>
      obtain ⟨j, rfl, rfl, hj2, hj18, hjj, rfl⟩ := hrel
      gi_wp2
      · have hnd : noDiv k j = true := by assumption
        have hle : IntKind.u64.wrap ((j : Int) * (j : Int)) ≤ (k : Int) := by assumption
        rw [sqw j hj18] at hle
        obtain ⟨a1, a2⟩ := step18 k j hk3 (by omega)
        exact ⟨⟨j + 1, by push_cast; rfl, by rw [noDiv_succ k j hj2, hnd, modB]; simp, by omega, a1, .inl a2, trivial⟩, by simp only [intOf]; omega⟩
      · have hnd : noDiv k j = false := by first | assumption | exact Bool.eq_false_iff.2 (by assumption)
        have hle : IntKind.u64.wrap ((j : Int) * (j : Int)) ≤ (k : Int) := by assumption
        rw [sqw j hj18] at hle
        obtain ⟨a1, a2⟩ := step18 k j hk3 (by omega)
        exact ⟨⟨j + 1, by push_cast; rfl, by rw [noDiv_succ k j hj2, hnd]; simp, by omega, a1, .inl a2, trivial⟩, by simp only [intOf]; omega⟩
      · have hnd : noDiv k j = true := by assumption
        have hle : (k : Int) < IntKind.u64.wrap ((j : Int) * (j : Int)) := by first | assumption | exact Int.not_le.1 (by assumption)
        rw [sqw j hj18] at hle
        have hp : isP k = true := by rw [← isP_of k j (by omega) hj2 (by omega) hjj]; exact hnd
        obtain ⟨fn, tmps, assign, body, hy, hR⟩ := hY _ _ hJs
        rw [prAt_cnt k (by omega) hk2 hp] at hy
        simp only [hy]
        gi_wp2
        refine hR.mono ?_
        rintro e W3 (⟨rfl, hJ3⟩ | ⟨rfl, hJx3⟩)
        · have hk313 : k ≠ 313 := by rintro rfl; have := hN _ _ hJ3; rw [cnt_313] at this; omega
          gi_wp2
          exact ⟨⟨k + 1, by push_cast; rfl, by omega, by omega, by rw [cntP_yes k hk2 hp]; exact hJ3⟩, by simp only [intOf]; omega⟩
        · gi_wp2
          refine bodyPost_ret (results_none rfl _ _ _) rfl ?_
          exact ⟨⟨_, rfl⟩, _, hJx3⟩
      · have hnd : noDiv k j = false := by first | assumption | exact Bool.eq_false_iff.2 (by assumption)
        have hle : (k : Int) < IntKind.u64.wrap ((j : Int) * (j : Int)) := by first | assumption | exact Int.not_le.1 (by assumption)
        rw [sqw j hj18] at hle
        have hp : isP k = false := by rw [← isP_of k j (by omega) hj2 (by omega) hjj]; exact hnd
        have hk313 : k ≠ 313 := by rintro rfl; rw [isP_313] at hp; cases hp
        refine ⟨fun _ h => (by cases h), ?_⟩
        gi_wp2
        exact ⟨⟨k + 1, by push_cast; rfl, by omega, by omega, by rw [cntP_no k hp]; exact hJs⟩, by simp only [intOf]; omega⟩
end Go.Proofs.Ythjaomkjjlgjeaa
