/- How two names stand: cmp.Or, name.Cmp, the document's Cmp. Condition: the texts are at most 2^62 bytes. -/
import Derived.Test.YtopemhdoccgjmaaCmp
namespace Go.Proofs.Ytopemhdoccgjmaa
open Go.RowKit
set_option linter.unusedVariables false
def orI (x y : Int) : Int := if x = 0 then y else x
set_option maxRecDepth 100000 in
set_option maxHeartbeats 1000000 in
theorem or_any (g : Nat) (x y : Int) (w : World) (h : Blk w g 3 [.int .i64 x, .int .i64 y]) : Calls Try.prog 24 #[.slice (some ⟨g, 0, none⟩) 2 2] w fun e w' => e = .returned (.int .i64 (orI x y)) ∧ w' = w := by
  have c0 : w.cell? ⟨g, 0, none⟩ = some (.int .i64 x) := h.cell 0
  have c1 : w.cell? ⟨g, 1, none⟩ = some (.int .i64 y) := h.cell 1
  go_enter Try.func24, Try.ntmps24
  go_wp2_with fail
  go_loopw [8, 5] (fun i _ wr => ∃ k : Nat, i = .int .i64 k ∧ wr = w ∧ (k = 0 ∨ (k = 1 ∧ x = 0) ∨ (k = 2 ∧ x = 0 ∧ y = 0))) (fun i _ _ => 2 - (intOf i).toNat)
  case atStart => exact ⟨0, rfl, rfl, .inl rfl⟩
  case round =>
    obtain ⟨k, rfl, rfl, hk⟩ := hrel
    rcases hk with rfl | ⟨rfl, hx⟩ | ⟨rfl, hx, hy⟩
    · by_cases hx : x = 0
      · have d : (x != 0) = false := by simp [hx]
        have HX := Lib.hid hx
        clear hx
        go_wp2_with fail
        go_roundw
        case rel => exact ⟨1, rfl, by trivial, .inr (.inl ⟨rfl, HX.out⟩)⟩
        case measure => simp [intOf]
      · have d : (x != 0) = true := by simp [hx]
        go_wp2_with fail
        go_ret
        exact ⟨by unfold orI; rw [if_neg hx]; first | rfl | skip, rfl⟩
    · have HX := Lib.hid hx
      clear hx
      by_cases hy : y = 0
      · have d : (y != 0) = false := by simp [hy]
        have HY := Lib.hid hy
        clear hy
        go_wp2_with fail
        go_roundw
        case rel => exact ⟨2, rfl, by trivial, .inr (.inr ⟨rfl, HX.out, HY.out⟩)⟩
        case measure => simp [intOf]
      · have d : (y != 0) = true := by simp [hy]
        go_wp2_with fail
        go_ret
        exact ⟨by unfold orI; rw [if_pos HX.out]; first | rfl | skip, rfl⟩
    · have HX := Lib.hid hx
      have HY := Lib.hid hy
      clear hx hy
      go_wp2_with fail
      go_ret
      exact ⟨by unfold orI; rw [if_pos HX.out, HY.out]; first | rfl | skip, rfl⟩
set_option maxRecDepth 100000 in
set_option maxHeartbeats 1000000 in
theorem cmp_any (a b c d : List UInt8) (w : World) : Calls Try.prog 16 #[nmV a b, nmV c d] w fun e w' => e = .returned (.int .i64 (cmpN a b c d)) ∧ Below w.heap.size w w' := by
  unfold nmV
  go_enter Try.func16, Try.ntmps16
  go_upto_region 1 with fail
  refine abs (fun w1 => (w1.cell? ⟨w.heap.size, 0, none⟩ = some (.string (strB a)) ∧ w1.cell? ⟨w.heap.size, 1, none⟩ = some (.string (strB b)) ∧ w1.cell? ⟨w.heap.size + 1, 0, none⟩ = some (.string (strB c)) ∧ w1.cell? ⟨w.heap.size + 1, 1, none⟩ = some (.string (strB d))) ∧ Below w.heap.size w w1) ⟨⟨?_, ?_, ?_, ?_⟩, ((Below.refl _ w).alloc (Nat.le_refl _) _).alloc (by simp) _⟩ ?_
  · exact ((Blk.newAt rfl 24 #[.string (strB a), .string (strB b)]).alloc _).cell 0
  · exact ((Blk.newAt rfl 24 #[.string (strB a), .string (strB b)]).alloc _).cell 1
  · exact (Blk.newAt (by simp) 24 #[.string (strB c), .string (strB d)]).cell 0
  · exact (Blk.newAt (by simp) 24 #[.string (strB c), .string (strB d)]).cell 1
  rintro w1 ⟨hc, f1⟩
  refine wp_region_order (fun u => u.cell? ⟨w.heap.size, 0, none⟩ = some (.string (strB a)) ∧ u.cell? ⟨w.heap.size, 1, none⟩ = some (.string (strB b)) ∧ u.cell? ⟨w.heap.size + 1, 0, none⟩ = some (.string (strB c)) ∧ u.cell? ⟨w.heap.size + 1, 1, none⟩ = some (.string (strB d))) 99 [(0,0), (1,0), (2,0), (3,0), (5,0), (6,0), (7,0), (8,0), (4,1), (9,1), (10,1), (11,1), (12,0)] (by kernel_rfl) (by kernel_rfl) ?_
  simp only [pick, List.filterMap_cons, List.filterMap_nil, List.getElem?_cons_zero, List.getElem?_cons_succ, Option.map_some]
  have hS : w1.drew.cell? ⟨w.heap.size, 0, none⟩ = some (.string (strB a)) ∧ w1.drew.cell? ⟨w.heap.size, 1, none⟩ = some (.string (strB b)) ∧ w1.drew.cell? ⟨w.heap.size + 1, 0, none⟩ = some (.string (strB c)) ∧ w1.drew.cell? ⟨w.heap.size + 1, 1, none⟩ = some (.string (strB d)) := hc
  have F1 : Below w.heap.size w w1.drew := f1.drew
  clear hc f1
  generalize w1.drew = wd at *
  refine wpF_take (v := ?_) hS rfl ?_ (fun _ _ _ h => h) ?_
  rotate_left
  · intro w' hS'
    obtain ⟨e0, e1, e2, e3⟩ := hS'
    go_simp <;> rfl
  go_simp
  refine wpF_take (v := ?_) hS rfl ?_ (fun _ _ _ h => h) ?_
  rotate_left
  · intro w' hS'
    obtain ⟨e0, e1, e2, e3⟩ := hS'
    go_simp <;> rfl
  go_simp
  refine wpF_take (v := ?_) hS rfl ?_ (fun _ _ _ h => h) ?_
  rotate_left
  · intro w' hS'
    obtain ⟨e0, e1, e2, e3⟩ := hS'
    go_simp <;> rfl
  go_simp
  refine wpF_take (v := ?_) hS rfl ?_ (fun _ _ _ h => h) ?_
  rotate_left
  · intro w' hS'
    obtain ⟨e0, e1, e2, e3⟩ := hS'
    go_simp <;> rfl
  go_simp
  refine wpF_take (v := ?_) hS rfl ?_ (fun _ _ _ h => h) ?_
  rotate_left
  · intro w' hS'
    obtain ⟨e0, e1, e2, e3⟩ := hS'
    go_simp <;> rfl
  go_simp
  refine wpF_take (v := ?_) hS rfl ?_ (fun _ _ _ h => h) ?_
  rotate_left
  · intro w' hS'
    obtain ⟨e0, e1, e2, e3⟩ := hS'
    go_simp <;> rfl
  go_simp
  refine wpF_take (v := ?_) hS rfl ?_ (fun _ _ _ h => h) ?_
  rotate_left
  · intro w' hS'
    obtain ⟨e0, e1, e2, e3⟩ := hS'
    go_simp <;> rfl
  go_simp
  refine wpF_take (v := ?_) hS rfl ?_ (fun _ _ _ h => h) ?_
  rotate_left
  · intro w' hS'
    obtain ⟨e0, e1, e2, e3⟩ := hS'
    go_simp <;> rfl
  go_simp
  refine wpF_only rfl (fun K hK => ?_)
  go_wp2_with fail
  refine (compare_any a c _).mono ?_
  rintro e w2 ⟨rfl, rfl⟩
  go_wp2_with fail
  first | refine ⟨fun _ => hS, ?_⟩ | skip
  go_simp
  refine wpF_only rfl (fun K hK => ?_)
  go_wp2_with fail
  refine (compare_any b d _).mono ?_
  rintro e w2 ⟨rfl, rfl⟩
  go_wp2_with fail
  first | refine ⟨fun _ => hS, ?_⟩ | skip
  go_simp
  refine wpF_only rfl (fun K hK => ?_)
  have hS2 : ∀ o, ((w2.alloc o).cell? ⟨w.heap.size, 0, none⟩ = some (.string (strB a)) ∧ (w2.alloc o).cell? ⟨w.heap.size, 1, none⟩ = some (.string (strB b)) ∧ (w2.alloc o).cell? ⟨w.heap.size + 1, 0, none⟩ = some (.string (strB c)) ∧ (w2.alloc o).cell? ⟨w.heap.size + 1, 1, none⟩ = some (.string (strB d))) := fun o => by
    obtain ⟨e0, e1, e2, e3⟩ := hS
    have l0 := World.block_lt_of_cell? w2 _ e0
    have l1 := World.block_lt_of_cell? w2 _ e1
    have l2 := World.block_lt_of_cell? w2 _ e2
    have l3 := World.block_lt_of_cell? w2 _ e3
    exact ⟨(World.cell?_alloc_lt w2 o _ l0).trans e0, (World.cell?_alloc_lt w2 o _ l1).trans e1, (World.cell?_alloc_lt w2 o _ l2).trans e2, (World.cell?_alloc_lt w2 o _ l3).trans e3⟩
  have HS2 := Lib.hid hS2
  have F2 := F1.alloc F1.size (.cells #[.int .i64 (cmpS a c), .int .i64 (cmpS b d)] 3)
  have kb := Blk.of_new w2 3 [.int .i64 (cmpS a c), .int .i64 (cmpS b d)]
  clear hS2 hS
  go_wp2_with fail
  first | refine ⟨fun _ => HS2.out _, ?_⟩ | refine ⟨HS2.out _, ?_⟩ | skip
  go_simp
  refine wpF_only rfl (fun K hK => ?_)
  go_wp2_with fail
  refine (or_any w2.heap.size _ _ _ kb).mono ?_
  rintro e w3 ⟨rfl, rfl⟩
  have hcn : orI (cmpS a c) (cmpS b d) = cmpN a b c d := rfl
  rw [hcn]
  go_wp2_with fail
  first | refine ⟨fun _ => HS2.out _, ?_⟩ | refine ⟨HS2.out _, ?_⟩ | skip
  go_simp
  refine wpF_take (v := ?_) (HS2.out _) rfl ?_ (fun _ _ _ h => h) ?_
  rotate_left
  · intro w' hS'
    go_simp <;> rfl
  go_simp
  refine wpF_nil ?_
  go_wp2_with fail
  go_ret
  exact ⟨rfl, F2⟩
set_option maxRecDepth 100000 in
set_option maxHeartbeats 1000000 in
theorem refCmp_any (a b c d : List UInt8) (ha : a.length ≤ 9223372036854775806) (hb : b.length ≤ 9223372036854775806) (hc : c.length ≤ 9223372036854775806) (hd : d.length ≤ 9223372036854775806) (w : World) : Calls Try.prog 17 #[nmV a b, nmV c d] w fun e w' => e = .returned (.int .i64 (cmpN a b c d)) ∧ Below w.heap.size w w' := by
  unfold nmV
  go_enter Try.func17, Try.ntmps17
  go_wp2_with fail
  refine absC (fun w1 => (w1.cell? ⟨w.heap.size, 0, none⟩ = some (.string (strB a)) ∧ w1.cell? ⟨w.heap.size, 1, none⟩ = some (.string (strB b)) ∧ w1.cell? ⟨w.heap.size + 1, 0, none⟩ = some (.string (strB c)) ∧ w1.cell? ⟨w.heap.size + 1, 1, none⟩ = some (.string (strB d))) ∧ Below w.heap.size w w1) ⟨⟨?_, ?_, ?_, ?_⟩, ((Below.refl _ w).alloc (Nat.le_refl _) _).alloc (by simp) _⟩ ?_
  · exact ((Blk.newAt rfl 24 #[.string (strB a), .string (strB b)]).alloc _).cell 0
  · exact ((Blk.newAt rfl 24 #[.string (strB a), .string (strB b)]).alloc _).cell 1
  · exact (Blk.newAt (by simp) 24 #[.string (strB c), .string (strB d)]).cell 0
  · exact (Blk.newAt (by simp) 24 #[.string (strB c), .string (strB d)]).cell 1
  rintro w1 ⟨⟨e0, e1, e2, e3⟩, f1⟩
  have l0 := World.block_lt_of_cell? w1 _ e0
  have l2 := World.block_lt_of_cell? w1 _ e2
  refine (text_any a c ha hc w1).mono ?_
  rintro e w2 ⟨rfl, f2⟩
  replace e1 := (f2.cell (p := ⟨w.heap.size, 1, none⟩) l0).trans e1
  replace e3 := (f2.cell (p := ⟨w.heap.size + 1, 1, none⟩) l2).trans e3
  have F2 := f1.trans (f2.mono f1.size)
  clear e0 e2 f1 f2
  by_cases hz : cmpS a c = 0
  · have dz : (cmpS a c != 0) = false := by simp [hz]
    have hcn : cmpN a b c d = cmpS b d := by unfold cmpN; rw [if_pos hz]
    have Hcn := Lib.hid hcn
    clear hz hcn
    go_wp2_with fail
    refine (text_any b d hb hd w2).mono ?_
    rintro e w3 ⟨rfl, f3⟩
    go_wp2_with fail
    go_ret
    exact ⟨by rw [Hcn.out]; first | rfl | skip, F2.trans (f3.mono F2.size)⟩
  · have dz : (cmpS a c != 0) = true := by simp [hz]
    have hcn : cmpN a b c d = cmpS a c := by unfold cmpN; rw [if_neg hz]
    have Hcn := Lib.hid hcn
    clear hz hcn
    go_wp2_with fail
    go_ret
    exact ⟨by rw [Hcn.out]; first | rfl | skip, F2⟩
end Go.Proofs.Ytopemhdoccgjmaa
