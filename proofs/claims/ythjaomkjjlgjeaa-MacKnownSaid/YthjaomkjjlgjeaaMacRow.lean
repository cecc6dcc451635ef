/- row: bytes of one kind. No condition. -/
import Derived.Test.YthjaomkjjlgjeaaMacHex
namespace Go.Proofs.Ythjaomkjjlgjeaa
open Go.RowKit
set_option linter.unusedSimpArgs false
set_option linter.unusedVariables false
theorem set_row (x : UInt8) (n k : Nat) (h : k < n) : (List.replicate k x ++ List.replicate (n - k) 0).set k x = List.replicate (k + 1) x ++ List.replicate (n - (k + 1)) 0 := by
  rw [List.set_append_right _ _ (by simp), List.length_replicate, Nat.sub_self, show n - k = (n - (k + 1)) + 1 by omega, List.replicate_succ, List.set_cons_zero, List.replicate_succ']
  simp
set_option maxRecDepth 100000 in
set_option maxHeartbeats 1000000 in
theorem row_any (w : World) (x : UInt8) (n : Nat) (hn : n ≤ 100000) :
    Calls Try.prog 21 #[.int .u8 x.toNat, .int .i64 n] w fun e w' => e = .returned (.slice (some ⟨w.heap.size, 0, none⟩) n n) ∧ Blk w' w.heap.size 5 (bvs (List.replicate n x)) ∧ Below w.heap.size w w' := by
  have hmk := run_make_bytes T23 n (by omega)
  go_enter Try.func21, Try.ntmps21
  go_wp2_with fail
  refine abs (fun w1 => Blk w1 w.heap.size 5 (bvs (List.replicate 0 x ++ List.replicate (n - 0) 0)) ∧ Below w.heap.size w w1) ⟨Blk.of_new w _ _, (Below.refl _ w).alloc (Nat.le_refl _) _⟩ ?_
  rintro w1 ⟨k1, f1⟩
  try go_frame
  go_loopw [6] (fun i wr => ∃ k : Nat, k ≤ n ∧ i = .int .i64 k ∧ Blk wr w.heap.size 5 (bvs (List.replicate k x ++ List.replicate (n - k) 0)) ∧ Below w.heap.size w wr) (fun i _ => n - (intOf i).toNat)
  case atStart => exact ⟨0, by omega, rfl, k1, f1⟩
  case round =>
    clear k1 f1
    obtain ⟨k, hk, rfl, k1, f1⟩ := hrel
    by_cases hlt : k < n
    · have d1 : decide ((k : Int) < (n : Int)) = true := by simp; omega
      have b1 : (0 : Int) ≤ (k : Int) := by omega
      have b2 : (k : Int) < (n : Int) := by omega
      have c1 := k1.byteAt (i := k) (by simp; omega)
      have z1 := k1.frozen k
      go_wp2_with fail
      go_roundw
      case rel => exact ⟨k + 1, by omega, by go_num, by rw [← set_row x n k hlt]; exact k1.setByte k _, f1.setCell (Nat.le_refl _) _⟩
      case measure => simp [intOf]; omega
    · obtain rfl : k = n := by omega
      have d1 : decide ((k : Int) < (k : Int)) = false := by simp
      go_wp2_with fail
      go_ret
      rw [Nat.sub_self, List.replicate_zero, List.append_nil] at k1
      exact ⟨rfl, k1, f1⟩
end Go.Proofs.Ythjaomkjjlgjeaa
