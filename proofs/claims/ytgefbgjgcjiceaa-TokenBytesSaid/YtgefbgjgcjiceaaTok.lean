/- Rings, tokens: what they are, and whether they may be. Condition: labels of a length below 2^63. -/
import Derived.Test.YtgefbgjgcjiceaaName6
import Derived.Test.YtgefbgjgcjiceaaWords
namespace Go.Proofs.Ytgefbgjgcjiceaa
open Go.RowKit
set_option linter.unusedVariables false
set_option linter.unusedSimpArgs false
structure Tk where
  ns : List UInt8
  sa : List UInt8
  uid : Nat
  host : Int
  addr : Nat
  born : Nat
  till : Nat
  key : Nat
  mac : List UInt8
def Tk.cells (t : Tk) : List Value := [.string (strB t.ns), .string (strB t.sa), .int .u64 (t.uid : Int), .int .i64 t.host, .int .u32 (t.addr : Int), .int .u64 (t.born : Int), .int .u64 (t.till : Int), .int .u64 (t.key : Int)] ++ bvs t.mac
def Tk.v (t : Tk) : Value := .agg t.cells.toArray
structure Tk.ok (t : Tk) : Prop where
  ns : t.ns.length ≤ 9223372036854775807
  sa : t.sa.length ≤ 9223372036854775807
  uid : t.uid < 18446744073709551616
  host : -9223372036854775808 ≤ t.host ∧ t.host ≤ 9223372036854775807
  addr : t.addr < 4294967296
  born : t.born < 18446744073709551616
  till : t.till < 18446744073709551616
  key : t.key < 18446744073709551616
  mac : t.mac.length = 32
theorem Tk.len (t : Tk) (h : t.mac.length = 32) : t.cells.length = 40 := by simp [Tk.cells, bvs_length, h]
theorem Tk.all (t : Tk) : t.cells.all (·.oneCell') = true := by
  rw [Tk.cells, List.all_append, bvs_all, Bool.and_true]
  rfl
theorem Tk.name (t : Tk) : ((t.cells.drop 0).take 2) = [.string (strB t.ns), .string (strB t.sa)] := rfl
theorem Tk.macs (t : Tk) (h : t.mac.length = 32) : ((t.cells.drop 8).take 32) = bvs t.mac := by
  show (bvs t.mac).take 32 = _
  exact List.take_of_length_le (by rw [bvs_length, h]; exact Nat.le_refl _)
def MC : Nat := 4611686018427387903
/-- A ring's numbers. -/
def rgOk (n o m : Nat) : Bool := decide (1 ≤ n) && decide (n ≤ 64) && decide (1 ≤ o) && decide (o ≤ m) && decide (m ≤ 4611686018427387903)
def numOk (n : Nat) : Bool := decide (1 ≤ n) && decide (n ≤ 4611686018427387903)
def tkOk (t : Tk) : Bool := mayN t.ns t.sa && numOk t.uid && decide (1 ≤ t.host) && decide (t.host ≤ 9) && decide (t.born < t.till) && decide (t.till ≤ 4611686018427387903) && numOk t.key
def rgV (A : Option Addr) (n c o m : Nat) : Value := .agg #[.slice A n c, .int .u64 (o : Int), .int .u64 (m : Int)]
set_option maxRecDepth 100000 in
set_option maxHeartbeats 1000000 in
theorem number_any (n : Nat) (w : World) : Calls Try.prog 32 #[.int .u64 n] w fun e w' => e = .returned (.bool (numOk n)) ∧ w' = w := by
  unfold numOk
  go_enter Try.func32, Try.ntmps32
  by_cases h1 : 1 ≤ n
  · have d1 : decide ((1 : Int) ≤ (n : Int)) = true := by simp; omega
    by_cases h2 : n ≤ 4611686018427387903
    · have d2 : decide ((n : Int) ≤ 4611686018427387903) = true := by simp; omega
      go_wp2_with fail
      go_ret
      simp [h1, h2]
    · have d2 : decide ((n : Int) ≤ 4611686018427387903) = false := by simp; omega
      go_wp2_with fail
      go_ret
      simp [h1, h2]
  · have d1 : decide ((1 : Int) ≤ (n : Int)) = false := by simp; omega
    go_wp2_with fail
    go_ret
    simp [h1]
set_option maxRecDepth 100000 in
set_option maxHeartbeats 1000000 in
theorem mayRing_any (A : Option Addr) (n c o m : Nat) (w : World) : Calls Try.prog 17 #[rgV A n c o m] w fun e w' => e = .returned (.bool (rgOk n o m)) ∧ Below w.heap.size w w' := by
  unfold rgV rgOk
  have F1 : ∀ o, Below w.heap.size w (w.alloc o) := fun o => (Below.refl _ w).alloc (Nat.le_refl _) o
  go_enter Try.func17, Try.ntmps17
  by_cases h0 : 1 ≤ n
  · have d0 : decide ((1 : Int) ≤ (n : Int)) = true := by simp; omega
    by_cases h1 : n ≤ 64
    · have d1 : decide ((n : Int) ≤ 64) = true := by simp; omega
      by_cases h2 : 1 ≤ o
      · have d2 : decide ((1 : Int) ≤ (o : Int)) = true := by simp; omega
        by_cases h3 : o ≤ m
        · have d3 : decide ((o : Int) ≤ (m : Int)) = true := by simp; omega
          by_cases h4 : m ≤ 4611686018427387903
          · have d4 : decide ((m : Int) ≤ 4611686018427387903) = true := by simp; omega
            go_wp2_with fail
            go_ret
            exact ⟨by simp [h0, h1, h2, h3, h4], F1 _⟩
          · have d4 : decide ((m : Int) ≤ 4611686018427387903) = false := by simp; omega
            go_wp2_with fail
            go_ret
            exact ⟨by simp [h0, h1, h2, h3, h4], F1 _⟩
        · have d3 : decide ((o : Int) ≤ (m : Int)) = false := by simp; omega
          go_wp2_with fail
          go_ret
          exact ⟨by simp [h0, h1, h2, h3], F1 _⟩
      · have d2 : decide ((1 : Int) ≤ (o : Int)) = false := by simp; omega
        go_wp2_with fail
        go_ret
        exact ⟨by simp [h0, h1, h2], F1 _⟩
    · have d1 : decide ((n : Int) ≤ 64) = false := by simp; omega
      go_wp2_with fail
      go_ret
      exact ⟨by simp [h0, h1], F1 _⟩
  · have d0 : decide ((1 : Int) ≤ (n : Int)) = false := by simp; omega
    go_wp2_with fail
    go_ret
    exact ⟨by simp [h0], F1 _⟩
set_option maxRecDepth 100000 in
set_option maxHeartbeats 1000000 in
theorem refMayRing_any (A : Option Addr) (n c o m : Nat) (w : World) : Calls Try.prog 20 #[rgV A n c o m] w fun e w' => e = .returned (.bool (rgOk n o m)) ∧ Below w.heap.size w w' := by
  unfold rgV rgOk
  have F1 : ∀ o, Below w.heap.size w (w.alloc o) := fun o => (Below.refl _ w).alloc (Nat.le_refl _) o
  go_enter Try.func20, Try.ntmps20
  by_cases h0 : 1 ≤ n
  · have d0 : decide ((0 : Int) < (n : Int)) = true := by simp; omega
    by_cases h1 : n ≤ 64
    · have d1 : decide ((n : Int) ≤ 64) = true := by simp; omega
      by_cases h2 : 1 ≤ o
      · have d2 : decide ((0 : Int) < (o : Int)) = true := by simp; omega
        by_cases h3 : o ≤ m
        · have d3 : decide ((o : Int) ≤ (m : Int)) = true := by simp; omega
          by_cases h4 : m ≤ 4611686018427387903
          · have d4 : decide ((m : Int) ≤ 4611686018427387903) = true := by simp; omega
            go_wp2_with fail
            go_ret
            exact ⟨by simp [h0, h1, h2, h3, h4], F1 _⟩
          · have d4 : decide ((m : Int) ≤ 4611686018427387903) = false := by simp; omega
            go_wp2_with fail
            go_ret
            exact ⟨by simp [h0, h1, h2, h3, h4], F1 _⟩
        · have d3 : decide ((o : Int) ≤ (m : Int)) = false := by simp; omega
          go_wp2_with fail
          go_ret
          exact ⟨by simp [h0, h1, h2, h3], F1 _⟩
      · have d2 : decide ((0 : Int) < (o : Int)) = false := by simp; omega
        go_wp2_with fail
        go_ret
        exact ⟨by simp [h0, h1, h2], F1 _⟩
    · have d1 : decide ((n : Int) ≤ 64) = false := by simp; omega
      go_wp2_with fail
      go_ret
      exact ⟨by simp [h0, h1], F1 _⟩
  · have d0 : decide ((0 : Int) < (n : Int)) = false := by simp; omega
    go_wp2_with fail
    go_ret
    exact ⟨by simp [h0], F1 _⟩
end Go.Proofs.Ytgefbgjgcjiceaa
