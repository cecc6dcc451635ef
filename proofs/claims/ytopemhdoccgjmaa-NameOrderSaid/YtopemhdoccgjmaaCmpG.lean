/- How two names stand, and what is left behind: draws, and blocks of the call's own alone. No condition. -/
import Derived.Test.YtopemhdoccgjmaaCmp2
import Derived.Sort.Grow
namespace Go.Proofs.Ytopemhdoccgjmaa
open Go.RowKit Go.Sort
set_option linter.unusedVariables false
/-- A world with draws and new blocks alone behind another one. -/
def Grn (w w' : World) : Prop := ∃ (q : Nat) (os : Array Obj), w' = grow (w.drewN q) os
theorem Grn.refl (w : World) : Grn w w := ⟨0, #[], by show w = grow w #[]; simp [grow]⟩
theorem Grn.alloc {w w' : World} (h : Grn w w') (o : Obj) : Grn w (w'.alloc o) := by
  obtain ⟨q, os, rfl⟩ := h
  exact ⟨q, os ++ #[o], by rw [alloc_eq_grow, grow_grow]⟩
theorem Grn.drew {w w' : World} (h : Grn w w') : Grn w w'.drew := by
  obtain ⟨q, os, rfl⟩ := h
  exact ⟨q + 1, os, rfl⟩
theorem Grn.below {w w' : World} (h : Grn w w') : Below w.heap.size w w' := by
  obtain ⟨q, os, rfl⟩ := h
  refine ⟨rfl, rfl, rfl, by simp [grow, World.drewN], fun k hk => ?_⟩
  simp [grow, World.drewN, Array.getElem?_append, hk]
set_option maxRecDepth 100000 in
set_option maxHeartbeats 1000000 in
theorem cmp_grn (a b c d : List UInt8) (w : World) : Calls Try.prog 16 #[nmV a b, nmV c d] w fun e w' => e = .returned (.int .i64 (cmpN a b c d)) ∧ Grn w w' := by
  unfold nmV
  go_enter Try.func16, Try.ntmps16
  go_upto_region 1 with fail
  refine abs (fun w1 => (w1.cell? ⟨w.heap.size, 0, none⟩ = some (.string (strB a)) ∧ w1.cell? ⟨w.heap.size, 1, none⟩ = some (.string (strB b)) ∧ w1.cell? ⟨w.heap.size + 1, 0, none⟩ = some (.string (strB c)) ∧ w1.cell? ⟨w.heap.size + 1, 1, none⟩ = some (.string (strB d))) ∧ Grn w w1) ⟨⟨?_, ?_, ?_, ?_⟩, ((Grn.refl w).alloc _).alloc _⟩ ?_
  · exact ((Blk.newAt rfl 24 #[.string (strB a), .string (strB b)]).alloc _).cell 0
  · exact ((Blk.newAt rfl 24 #[.string (strB a), .string (strB b)]).alloc _).cell 1
  · exact (Blk.newAt (by simp) 24 #[.string (strB c), .string (strB d)]).cell 0
  · exact (Blk.newAt (by simp) 24 #[.string (strB c), .string (strB d)]).cell 1
  rintro w1 ⟨hc, f1⟩
  refine wp_region_order (fun u => u.cell? ⟨w.heap.size, 0, none⟩ = some (.string (strB a)) ∧ u.cell? ⟨w.heap.size, 1, none⟩ = some (.string (strB b)) ∧ u.cell? ⟨w.heap.size + 1, 0, none⟩ = some (.string (strB c)) ∧ u.cell? ⟨w.heap.size + 1, 1, none⟩ = some (.string (strB d))) 99 [(0,0), (1,0), (2,0), (3,0), (5,0), (6,0), (7,0), (8,0), (4,1), (9,1), (10,1), (11,1), (12,0)] (by kernel_rfl) (by kernel_rfl) ?_
  simp only [pick, List.filterMap_cons, List.filterMap_nil, List.getElem?_cons_zero, List.getElem?_cons_succ, Option.map_some]
  have hS : w1.drew.cell? ⟨w.heap.size, 0, none⟩ = some (.string (strB a)) ∧ w1.drew.cell? ⟨w.heap.size, 1, none⟩ = some (.string (strB b)) ∧ w1.drew.cell? ⟨w.heap.size + 1, 0, none⟩ = some (.string (strB c)) ∧ w1.drew.cell? ⟨w.heap.size + 1, 1, none⟩ = some (.string (strB d)) := hc
  have F1 : Grn w w1.drew := f1.drew
  clear hc f1
  generalize w1.drew = wd at *
  refine wpF_take (v := ?_) hS rfl ?_ (fun _ _ _ h => h) ?_
  rotate_left
  · intro w' hS'
    obtain ⟨e0, e1, e2, e3⟩ := hS'
    go_simp <;> rfl
  go_simp
  refine wpF_take (v := ?_) hS rfl ?_ (fun _ _ _ h => h) ?_
  rotate_left
  · intro w' hS'
    obtain ⟨e0, e1, e2, e3⟩ := hS'
    go_simp <;> rfl
  go_simp
  refine wpF_take (v := ?_) hS rfl ?_ (fun _ _ _ h => h) ?_
  rotate_left
  · intro w' hS'
    obtain ⟨e0, e1, e2, e3⟩ := hS'
    go_simp <;> rfl
  go_simp
  refine wpF_take (v := ?_) hS rfl ?_ (fun _ _ _ h => h) ?_
  rotate_left
  · intro w' hS'
    obtain ⟨e0, e1, e2, e3⟩ := hS'
    go_simp <;> rfl
  go_simp
  refine wpF_take (v := ?_) hS rfl ?_ (fun _ _ _ h => h) ?_
  rotate_left
  · intro w' hS'
    obtain ⟨e0, e1, e2, e3⟩ := hS'
    go_simp <;> rfl
  go_simp
  refine wpF_take (v := ?_) hS rfl ?_ (fun _ _ _ h => h) ?_
  rotate_left
  · intro w' hS'
    obtain ⟨e0, e1, e2, e3⟩ := hS'
    go_simp <;> rfl
  go_simp
  refine wpF_take (v := ?_) hS rfl ?_ (fun _ _ _ h => h) ?_
  rotate_left
  · intro w' hS'
    obtain ⟨e0, e1, e2, e3⟩ := hS'
    go_simp <;> rfl
  go_simp
  refine wpF_take (v := ?_) hS rfl ?_ (fun _ _ _ h => h) ?_
  rotate_left
  · intro w' hS'
    obtain ⟨e0, e1, e2, e3⟩ := hS'
    go_simp <;> rfl
  go_simp
  refine wpF_only rfl (fun K hK => ?_)
  go_wp2_with fail
  refine (compare_any a c _).mono ?_
  rintro e w2 ⟨rfl, rfl⟩
  go_wp2_with fail
  first | refine ⟨fun _ => hS, ?_⟩ | skip
  go_simp
  refine wpF_only rfl (fun K hK => ?_)
  go_wp2_with fail
  refine (compare_any b d _).mono ?_
  rintro e w2 ⟨rfl, rfl⟩
  go_wp2_with fail
  first | refine ⟨fun _ => hS, ?_⟩ | skip
  go_simp
  refine wpF_only rfl (fun K hK => ?_)
  have hS2 : ∀ o, ((w2.alloc o).cell? ⟨w.heap.size, 0, none⟩ = some (.string (strB a)) ∧ (w2.alloc o).cell? ⟨w.heap.size, 1, none⟩ = some (.string (strB b)) ∧ (w2.alloc o).cell? ⟨w.heap.size + 1, 0, none⟩ = some (.string (strB c)) ∧ (w2.alloc o).cell? ⟨w.heap.size + 1, 1, none⟩ = some (.string (strB d))) := fun o => by
    obtain ⟨e0, e1, e2, e3⟩ := hS
    have l0 := World.block_lt_of_cell? w2 _ e0
    have l1 := World.block_lt_of_cell? w2 _ e1
    have l2 := World.block_lt_of_cell? w2 _ e2
    have l3 := World.block_lt_of_cell? w2 _ e3
    exact ⟨(World.cell?_alloc_lt w2 o _ l0).trans e0, (World.cell?_alloc_lt w2 o _ l1).trans e1, (World.cell?_alloc_lt w2 o _ l2).trans e2, (World.cell?_alloc_lt w2 o _ l3).trans e3⟩
  have HS2 := Lib.hid hS2
  have F2 := F1.alloc (.cells #[.int .i64 (cmpS a c), .int .i64 (cmpS b d)] 3)
  have kb := Blk.of_new w2 3 [.int .i64 (cmpS a c), .int .i64 (cmpS b d)]
  clear hS2 hS
  go_wp2_with fail
  first | refine ⟨fun _ => HS2.out _, ?_⟩ | refine ⟨HS2.out _, ?_⟩ | skip
  go_simp
  refine wpF_only rfl (fun K hK => ?_)
  go_wp2_with fail
  refine (or_any w2.heap.size _ _ _ kb).mono ?_
  rintro e w3 ⟨rfl, rfl⟩
  have hcn : orI (cmpS a c) (cmpS b d) = cmpN a b c d := rfl
  rw [hcn]
  go_wp2_with fail
  first | refine ⟨fun _ => HS2.out _, ?_⟩ | refine ⟨HS2.out _, ?_⟩ | skip
  go_simp
  refine wpF_take (v := ?_) (HS2.out _) rfl ?_ (fun _ _ _ h => h) ?_
  rotate_left
  · intro w' hS'
    go_simp <;> rfl
  go_simp
  refine wpF_nil ?_
  go_wp2_with fail
  go_ret
  exact ⟨rfl, F2⟩
end Go.Proofs.Ytopemhdoccgjmaa
