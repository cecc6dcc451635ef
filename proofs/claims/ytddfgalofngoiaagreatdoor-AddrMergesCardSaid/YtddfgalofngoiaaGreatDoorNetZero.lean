/- addr.Merge of no nets. No condition. -/
import Derived.Test.YtddfgalofngoiaaGreatDoorNetStep
import Derived.Deep.LoopGhost
namespace Go.Proofs.YtddfgalofngoiaaGreatDoor
open Go.RowKit Go.Sort
set_option linter.unusedVariables false
set_option linter.unusedSimpArgs false
set_option maxRecDepth 100000 in
set_option maxHeartbeats 2000000 in
theorem insSort_zero (A : Option Addr) (c : Nat) (f : Value) (w : World) : Calls Tryz.prog 67 #[.slice A 0 c, .int .i64 0, .int .i64 0, f] w fun e w' => e = .returned (.tuple #[]) ∧ Below w.heap.size w w' := by
  go_enter Tryz.func67, Tryz.ntmps67
  go_wp2_with fail
  go_loopw [8] (fun i wr => i = .int .i64 1 ∧ w = wr) (fun _ _ => 0)
  case atStart => exact ⟨rfl, rfl⟩
  case round =>
    obtain ⟨rfl, rfl⟩ := hrel
    go_wp2_with fail
    go_end0
    exact ⟨rfl, Below.refl _ _⟩
set_option maxRecDepth 100000 in
set_option maxHeartbeats 2000000 in
theorem pdqSort_zero (A : Option Addr) (c : Nat) (k f : Value) (w : World) : Calls Tryz.prog 55 #[.slice A 0 c, .int .i64 0, .int .i64 0, k, f] w fun e w' => e = .returned (.tuple #[]) ∧ Below w.heap.size w w' := by
  go_enter Tryz.func55, Tryz.ntmps55
  go_wp2_with fail
  go_loopw [1, 2] (fun i j wr => i = .int .i64 0 ∧ j = .int .i64 0 ∧ w = wr) (fun _ _ _ => 0)
  case atStart => exact ⟨rfl, rfl, rfl⟩
  case round =>
    obtain ⟨rfl, rfl, rfl⟩ := hrel
    go_wp2_with fail
    refine (insSort_zero A c f w).mono ?_
    rintro e w1 ⟨rfl, f1⟩
    go_wp2_with fail
    exact bodyPost_ret (results_none rfl _ _ _) rfl ⟨rfl, f1⟩
set_option maxRecDepth 100000 in
set_option maxHeartbeats 2000000 in
theorem sortFunc_zero (A : Option Addr) (c : Nat) (f : Value) (w : World) : Calls Tryz.prog 36 #[.slice A 0 c, f] w fun e w' => e = .returned (.tuple #[]) ∧ Below w.heap.size w w' := by
  go_enter Tryz.func36, Tryz.ntmps36
  go_wp2_with fail
  refine (bits_Len 0 w (by omega) (by omega)).mono ?_
  rintro e w1 ⟨rfl, rfl⟩
  go_wp2_with fail
  refine (pdqSort_zero A c _ f w1).mono ?_
  rintro e w2 ⟨rfl, f1⟩
  go_wp2_with fail
  go_end0
  exact ⟨rfl, f1⟩
set_option maxRecDepth 100000 in
set_option maxHeartbeats 2000000 in
theorem delFunc_zero (A : Option Addr) (c : Nat) (w : World) : Calls Tryz.prog 33 #[.slice A 0 c, .func (.func 35) #[] #[]] w fun e w' => e = .returned (.slice A 0 c) ∧ Below w.heap.size w w' := by
  go_enter Tryz.func33, Tryz.ntmps33
  go_wp2_with fail
  refine (indexMay_any A 0 c [] w RdR.nil (fun x hx => absurd hx (by simp)) (by omega)).mono ?_
  rintro e w1 ⟨k, hk, _, hcase, f1⟩
  rcases hcase with ⟨_, rfl⟩ | ⟨hlt, _⟩
  · go_wp2_with fail
    go_ret
    exact ⟨rfl, f1⟩
  · omega
set_option maxRecDepth 100000 in
set_option maxHeartbeats 4000000 in
theorem merge_zero (A : Option Addr) (c : Nat) (w : World) : Calls Tryz.prog 9 #[.slice A 0 c] w fun e w' => (∃ A' c', e = .returned (.slice A' 0 c')) ∧ Below w.heap.size w w' := by
  go_enter Tryz.func9, Tryz.ntmps9
  go_wp2_with fail
  go_step3
  go_wp2_with fail
  refine (cloneC_any A 0 c [] w RdR.nil (by omega)).mono ?_
  rintro e w1 ⟨A1, c1, rfl, _, f1⟩
  go_wp2_with fail
  refine (delFunc_zero A1 c1 w1).mono ?_
  rintro e w2 ⟨rfl, f2⟩
  replace f2 := f1.trans (f2.mono f1.size)
  clear f1
  go_wp2_with fail
  refine (sortFunc_zero A1 c1 _ w2).mono ?_
  rintro e w3 ⟨rfl, f3⟩
  replace f3 := f2.trans (f3.mono f2.size)
  clear f2
  go_wp2_with fail
  go_step3
  go_wp2_with fail
  go_loopg [3] 0 (fun gh s3 wx => s3 = .slice A1 0 c1 ∧ Below w.heap.size w wx)
  case atStart => exact ⟨rfl, f3⟩
  case round =>
    clear f3
    obtain ⟨rfl, f3⟩ := hrel
    go_wp2_with fail
    go_loopg [3, 4] 0 (fun gi s3 s4 wx => s3 = .slice A1 0 c1 ∧ s4 = .int .i64 1 ∧ Below w.heap.size w wx)
    case atStart => exact ⟨rfl, rfl, f3⟩
    case round =>
      clear f3
      obtain ⟨rfl, rfl, f3⟩ := hrel
      go_wp2_with fail
      rw [Exit.noGoto_ret]
      go_ret
      exact ⟨⟨A1, c1, rfl⟩, f3⟩
end Go.Proofs.YtddfgalofngoiaaGreatDoor
