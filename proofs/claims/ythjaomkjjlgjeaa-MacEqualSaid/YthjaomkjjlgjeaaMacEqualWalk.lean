/- The law MacEqual, walked. No condition. -/
import Derived.Test.YthjaomkjjlgjeaaMacAwake
import Derived.Test.YthjaomkjjlgjeaaOrder
namespace Go.Proofs.Ythjaomkjjlgjeaa
open Go.RowKit
set_option maxRecDepth 100000 in
set_option maxHeartbeats 1000000 in
theorem macEqual_walk (a : List UInt8) (ha : a.length = 32) (b : List UInt8) (hb : b.length = 32) (w : World) :
    Calls Try.prog 4 #[.agg (bvs a).toArray, .agg (bvs b).toArray] w fun e w' => e = .returned (.bool true) ∧ Below w.heap.size w w' := by
  have hza : (Try.prog.info? 26).map (·.size) = some (bvs a).length := by rw [show (bvs a).length = 32 by simpa [bvs] using ha]; kernel_rfl
  have hzb : (Try.prog.info? 26).map (·.size) = some (bvs b).length := by rw [show (bvs b).length = 32 by simpa [bvs] using hb]; kernel_rfl
  have Hza := Lib.hid hza; clear hza
  have Hzb := Lib.hid hzb; clear hzb
  have ke := fun w : World => run_equalIn_bytes (P := Try.prog) Try.underlying26 Try.underlying5 (by kernel_rfl) a b ha hb w
  have Ke := Lib.hid ke; clear ke
  go_enter Try.func4, Try.ntmps4
  go_wp2_with fail
  refine abs (fun w1 => Blk w1 w.heap.size 26 (bvs a) ∧ Blk w1 (w.heap.size + 1) 26 (bvs b) ∧ Below w.heap.size w w1) ⟨(Blk.of_new w _ _).alloc _, by have := Blk.newAt (w := w.alloc (.cells (bvs a).toArray 26)) (g := w.heap.size + 1) (by simp) 26 (bvs b).toArray; simpa using this, ((Below.refl _ w).alloc (Nat.le_refl _) _).alloc (by simp) _⟩ ?_
  rintro w1 ⟨k1, k2, f1⟩
  refine wp_region_order (fun w' => Blk w' w.heap.size 26 (bvs a) ∧ Blk w' (w.heap.size + 1) 26 (bvs b)) 15 [(0,0),(1,0),(3,0),(4,0),(5,0),(2,1),(6,0),(7,0),(8,0),(9,0),(10,1),(11,0),(12,0),(13,1),(14,0),(15,2)] (by kernel_rfl) (by kernel_rfl) ?_
  simp only [pick, List.filterMap_cons, List.filterMap_nil, List.getElem?_cons_zero, List.getElem?_cons_succ, Option.map_some]
  have hS : Blk w1.drew w.heap.size 26 (bvs a) ∧ Blk w1.drew (w.heap.size + 1) 26 (bvs b) := ⟨k1.drew, k2.drew⟩
  refine wpF_load hS rfl 26 (.tmp 2) rfl rfl (fun _ h => h.1.whole) Try.underlying26 Hza.out (fun _ _ _ h => h) ?_
  go_simp
  refine wpF_load hS rfl 26 (.tmp 3) rfl rfl (fun _ h => h.2.whole) Try.underlying26 Hzb.out (fun _ _ _ h => h) ?_
  go_simp
  refine wpF_load hS rfl 26 (.tmp 2) rfl rfl (fun _ h => h.1.whole) Try.underlying26 Hza.out (fun _ _ _ h => h) ?_
  go_simp
  refine wpF_load hS rfl 26 (.tmp 3) rfl rfl (fun _ h => h.2.whole) Try.underlying26 Hzb.out (fun _ _ _ h => h) ?_
  go_simp
  refine wpF_take (v := .bool (decide (a = b))) hS rfl (fun w' _ => ?_) (fun _ _ _ h => h) ?_
  · have := Ke.out w'
    go_simp <;> (rw [this]; rfl)
  go_simp
  refine wpF_only rfl (fun K hK => ?_)
  go_wp2_with fail
  clear hS
  refine (equal_any a b _ ha hb).mono ?_
  rintro e w2 ⟨rfl, f2⟩
  have hS : Blk w2 w.heap.size 26 (bvs a) ∧ Blk w2 (w.heap.size + 1) 26 (bvs b) := ⟨(k1.drew.below f2 k1.drew.lt), (k2.drew.below f2 k2.drew.lt)⟩
  replace f1 := f1.drew.trans (f2.mono f1.drew.size)
  clear f2 k1 k2
  go_wp2_with fail
  refine ⟨fun _ => hS, ?_⟩
  refine wpF_take (v := ?_) hS rfl ?_ (fun _ _ _ h => h) ?_
  rotate_left
  · intro w' hS'
    obtain _ := hS'
    go_simp <;> rfl
  go_simp
  refine wpF_take (v := ?_) hS rfl ?_ (fun _ _ _ h => h) ?_
  rotate_left
  · intro w' hS'
    obtain _ := hS'
    go_simp <;> rfl
  go_simp
  refine wpF_load hS rfl 26 (.tmp 3) rfl rfl (fun _ h => h.2.whole) Try.underlying26 Hzb.out (fun _ _ _ h => h) ?_
  go_simp
  refine wpF_load hS rfl 26 (.tmp 3) rfl rfl (fun _ h => h.2.whole) Try.underlying26 Hzb.out (fun _ _ _ h => h) ?_
  go_simp
  refine wpF_only rfl (fun K hK => ?_)
  obtain ⟨k1, k2⟩ := hS
  go_wp2_with fail
  refine (equal_any b b _ hb hb).mono ?_
  rintro e w3 ⟨rfl, f2⟩
  have hS : Blk w3 w.heap.size 26 (bvs a) ∧ Blk w3 (w.heap.size + 1) 26 (bvs b) := ⟨(k1.below f2 k1.lt), (k2.below f2 k2.lt)⟩
  replace f1 := f1.trans (f2.mono f1.size)
  clear f2 k1 k2
  go_wp2_with fail
  refine ⟨fun _ => hS, ?_⟩
  go_simp
  refine wpF_take (v := ?_) hS rfl ?_ (fun _ _ _ h => h) ?_
  rotate_left
  · intro w' hS'
    obtain _ := hS'
    go_simp <;> rfl
  go_simp
  refine wpF_take (v := ?_) hS rfl ?_ (fun _ _ _ h => h) ?_
  rotate_left
  · intro w' hS'
    obtain _ := hS'
    go_simp <;> rfl
  go_simp
  refine wpF_only rfl (fun K hK => ?_)
  obtain ⟨k1, k2⟩ := hS
  go_wp2_with fail
  refine (awake2_any _).mono ?_
  rintro e w4 ⟨rfl, f2⟩
  have hS : Blk w4 w.heap.size 26 (bvs a) ∧ Blk w4 (w.heap.size + 1) 26 (bvs b) := ⟨(k1.below f2 k1.lt), (k2.below f2 k2.lt)⟩
  replace f1 := f1.trans (f2.mono f1.size)
  clear f2 k1 k2
  go_wp2_with fail
  refine ⟨fun _ => hS, ?_⟩
  go_simp
  refine wpF_take (v := ?_) hS rfl ?_ (fun _ _ _ h => h) ?_
  rotate_left
  · intro w' hS'
    obtain _ := hS'
    go_simp <;> rfl
  go_simp
  refine wpF_only rfl (fun K hK => ?_)
  go_wp2_with fail
  refine ⟨fun h => (by cases h), wpF_nil ?_⟩
  go_wp2_with fail
  go_ret
  exact ⟨rfl, f1⟩
end Go.Proofs.Ythjaomkjjlgjeaa
