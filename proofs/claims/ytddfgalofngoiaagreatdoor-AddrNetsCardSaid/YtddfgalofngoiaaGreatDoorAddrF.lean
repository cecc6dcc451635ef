/- The first address of a net. Condition: an address of 32 bits, bits that fit an int. -/
import Derived.Test.YtddfgalofngoiaaGreatDoorAddrB
namespace Go.Proofs.YtddfgalofngoiaaGreatDoor
open Go.RowKit Go.Sort
set_option linter.unusedVariables false
set_option linter.unusedSimpArgs false
set_option maxRecDepth 100000 in
set_option maxHeartbeats 2000000 in
theorem first_any (a : Nat) (b : Int) (w : World) (hc : okN (a, b)) : Calls Tryz.prog 21 #[ntV a b] w fun e w' => e = .returned (.tuple #[.int .u32 (if nMay (a, b) then (a : Int) else 0), .bool (nMay (a, b))]) ∧ Grn w w' := by
  have hmay := fun w => may_any a b w hc
  unfold ntV at hmay ⊢
  rcases hm : nMay (a, b) with _ | _
  · rw [hm] at hmay
    clear hm
    go_enter Tryz.func21, Tryz.ntmps21
    go_upto_region 1 with fail
    refine abs (fun w1 => BxS w.heap.size a b w1 ∧ Grn w w1) ⟨box_cells w a b, (Grn.refl w).alloc _⟩ ?_
    rintro w1 ⟨⟨e0, e1⟩, f1⟩
    go_wp2_with fail
    refine (hmay w1).mono ?_
    rintro e w2 ⟨rfl, f2⟩
    obtain ⟨e2, e3⟩ := BxS.below ⟨e0, e1⟩ f2.below
    have f3 := f1.trans f2
    go_wp2_with fail
    go_ret2
    exact ⟨rfl, f3⟩
  · rw [hm] at hmay
    clear hm
    go_enter Tryz.func21, Tryz.ntmps21
    go_upto_region 1 with fail
    refine abs (fun w1 => BxS w.heap.size a b w1 ∧ Grn w w1) ⟨box_cells w a b, (Grn.refl w).alloc _⟩ ?_
    rintro w1 ⟨⟨e0, e1⟩, f1⟩
    go_wp2_with fail
    refine (hmay w1).mono ?_
    rintro e w2 ⟨rfl, f2⟩
    obtain ⟨e2, e3⟩ := BxS.below ⟨e0, e1⟩ f2.below
    have f3 := f1.trans f2
    go_wp2_with fail
    go_ret2
    exact ⟨rfl, f3⟩
end Go.Proofs.YtddfgalofngoiaaGreatDoor
