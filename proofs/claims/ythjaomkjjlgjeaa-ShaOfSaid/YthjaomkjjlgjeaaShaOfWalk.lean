/- The law ShaOf, walked. No condition. -/
import Derived.Test.YthjaomkjjlgjeaaShaAwake
import Derived.Test.YthjaomkjjlgjeaaRefOf2
namespace Go.Proofs.Ythjaomkjjlgjeaa
open Go.RowKit
set_option linter.unusedSimpArgs false
set_option linter.unusedVariables false
set_option maxRecDepth 100000 in
set_option maxHeartbeats 2000000 in
theorem shaOf_walk (w : World) (A : Option Addr) (n c : Nat) (l : List UInt8) (rl : RdB w w.heap.size A n l) (_ : n ≤ c) (_ : c ≤ maxLen) :
    Calls Try.prog 9 #[.slice A n c] w fun e w' => e = .returned (.bool true) ∧ Below w.heap.size w w' := by
  by_cases hn : 4000 < n
  · have d1 : decide ((4000 : Int) < (n : Int)) = true := by simp; omega
    go_enter Try.func9, Try.ntmps9
    go_wp2_with fail
    refine (awake1_any _).mono ?_
    rintro e w1 ⟨rfl, f1⟩
    go_wp2_with fail
    go_ret
    exact ⟨rfl, f1⟩
  have d1 : decide ((4000 : Int) < (n : Int)) = false := by simp; omega
  have hl := rl.1
  go_enter Try.func9, Try.ntmps9
  go_wp2_with fail
  refine absC (fun w1 => RdB w1 w1.heap.size A n l ∧ RdL w1 w1.heap.size (some ⟨w.heap.size, 0, none⟩) 1 [⟨A, n, c, l⟩] ∧ Below w.heap.size w w1) ⟨(rl.alloc (Nat.le_refl _) _).more (by simp), ?_, (Below.refl _ w).alloc (Nat.le_refl _) _⟩ ?_
  · refine RdL.of_blk (ps := [⟨A, n, c, l⟩]) (t := 23) (Blk.newAt rfl _ _) ?_
    intro p hp
    obtain rfl : p = ⟨A, n, c, l⟩ := by simpa using hp
    exact (rl.alloc (Nat.le_refl _) _).more (by simp)
  rintro w1 ⟨r1, q1, f1⟩
  refine (of_any _ 1 1 _ w1 q1 (by simp [catB]; omega) (by omega)).mono ?_
  rintro e w2 ⟨rfl, f2⟩
  rw [show catB [(⟨A, n, c, l⟩ : Part)] = l from by simp [catB]]
  replace f1 := f1.trans (f2.mono f1.size)
  replace r1 := (r1.below f2).more f2.size
  clear f2 q1
  go_wp2_with fail
  refine (refOf_any A n c l w2 r1 (by omega)).mono ?_
  rintro e w3 ⟨rfl, f2⟩
  replace f1 := f1.trans (f2.mono f1.size)
  clear f2 r1
  have ke := fun w : World => run_equalIn_bytes (P := Try.prog) Try.underlying26 Try.underlying5 (by kernel_rfl) (shaB l) (shaB l) (shaB_length l) (shaB_length l) w
  have hd : decide (shaB l = shaB l) = true := by simp
  go_wp2_with fail
  refine (awake1_any _).mono ?_
  rintro e w4 ⟨rfl, f2⟩
  go_wp2_with fail
  go_ret
  exact ⟨rfl, f1.trans (f2.mono f1.size)⟩
end Go.Proofs.Ythjaomkjjlgjeaa
