/- sha.First: by roots. No condition. -/
import Derived.Test.YthjaomkjjlgjeaaFill
import Derived.Test.YthjaomkjjlgjeaaRootsKat
namespace Go.Proofs.Ythjaomkjjlgjeaa
open Go.RowKit
set_option maxRecDepth 100000 in
set_option maxHeartbeats 1000000 in
theorem first_any (w : World) : Calls Try.prog 38 #[] w fun e w' => e = .returned (.agg (uvs H0).toArray) ∧ Below w.heap.size w w' := by
  have hi : (Try.prog.info? 41).map (·.size) = some (uvs H0).length := by kernel_rfl
  have Hi := Lib.hid hi
  clear hi
  go_enter Try.func38, Try.ntmps38
  go_wp2_with fail
  refine (fillSq_any w.heap.size 8 41 (by omega) _ ?_).mono ?_
  · exact Blk.newAt rfl 41 _
  rw [filled2]
  rintro e w' ⟨rfl, f, b⟩
  go_wp2_with (first
    | (refine load_blk b rfl 41 (.tmp 0) rfl rfl Try.underlying41 Hi.out ?_)
    | (refine store_blk b rfl 41 (.tmp 0) (.tmp 3) rfl rfl (us := uvs H0) rfl Hi.out rfl (uvs_all _) ?_; intro w2 b9 hg))
  have f' : Below w.heap.size w w' := ((Below.refl _ w).alloc (Nat.le_refl _) _).trans f
  exact bodyPost_ret (b9.sized rfl _ rfl Try.underlying41 Hi.out) rfl ⟨rfl, f'.grown hg f'.size (by simp)⟩
end Go.Proofs.Ythjaomkjjlgjeaa
