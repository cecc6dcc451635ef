/- awake of law 04 walked. Condition: the library's variables hold what they should. -/
import Derived.Test.YtddfgalofngoiaaGreatDoorAddrK
namespace Go.Proofs.YtddfgalofngoiaaGreatDoor
open Go.RowKit Go.Sort
set_option linter.unusedVariables false
set_option linter.unusedSimpArgs false
theorem ok3 : ∀ x ∈ M3, okN x := by
  intro x hx
  simp only [M3, List.mem_cons, List.mem_nil_iff, or_false] at hx
  rcases hx with rfl | rfl | rfl <;> exact ⟨by decide, by decide, by decide⟩
theorem ok8 : okN (167772160, 8) := ⟨by decide, by decide, by decide⟩
theorem rd3 (w : World) : RdR ntC 2 (w.alloc (.cells #[.int .u32 167772160, .int .i64 9, .int .u32 176160768, .int .i64 9, .int .u32 167837696, .int .i64 16] 29)) (w.heap.size + 1) (some ⟨w.heap.size, 0, none⟩) 3 M3 := by
  have k := Blk.newAt (w := w) rfl 29 #[.int .u32 167772160, .int .i64 9, .int .u32 176160768, .int .i64 9, .int .u32 167837696, .int .i64 16]
  refine ⟨rfl, fun _ => ⟨w.heap.size, 0, rfl, by omega, fun j hj i v hv => ?_⟩⟩
  have hi : i < 2 := by have := (List.getElem?_eq_some_iff.1 hv).1; rwa [ntC_len] at this
  have hj3 : j < 3 := hj
  rw [k.cell]
  rcases (show j = 0 ∨ j = 1 ∨ j = 2 by omega) with rfl | rfl | rfl <;> rcases (show i = 0 ∨ i = 1 by omega) with rfl | rfl <;> exact hv
def PS (g : Nat) (u : World) : Prop := u.cell? ⟨g, 0, none⟩ = some (.int .u32 167772160) ∧ u.cell? ⟨g, 1, none⟩ = some (.int .i64 8)
theorem PS.of {g : Nat} {u : World} (h : BxS g 167772160 8 u) : PS g u := h
theorem PS.below {g : Nat} {u v : World} (h : PS g u) (hb : Below u.heap.size u v) : PS g v := BxS.below (a := 167772160) (b := 8) h hb
theorem PS.both {g h : Nat} {u v : World} (k : PS g u ∧ PS h u) (hb : Below u.heap.size u v) : PS g v ∧ PS h v := ⟨k.1.below hb, k.2.below hb⟩
set_option maxRecDepth 100000 in
set_option maxHeartbeats 4000000 in
theorem awake4_any (w : World) (hW : LdW w) : Calls Tryz.prog 8 #[] w fun e w' => e = .returned (.bool true) ∧ Below w.heap.size w w' := by
  have hlt := hW.lt
  have hin := fun x w hx => in_any 167772160 8 x w ok8 hx
  have i1 : nIn (167772160, 8) 168364297 = true := by decide +kernel
  have i2 : nIn (167772160, 8) 184549376 = false := by decide +kernel
  have hi1 := fun w => hin 168364297 w (by decide)
  have hi2 := fun w => hin 184549376 w (by decide)
  rw [i1] at hi1
  rw [i2] at hi2
  clear hin i1 i2
  have qe := fun w => run_nt_eq 167772160 8 167772160 8 w
  rw [decide_eq_true rfl] at qe
  have m1 := p1; have m2 := p2; have m3 := p3; have m4 := p4
  unfold ntV at hi1 hi2
  go_enter Tryz.func8, Tryz.ntmps8
  go_wp2_with fail
  refine (parse_any T1 (by decide) w hW).mono ?_
  rintro e w1 ⟨rfl, f1⟩
  rw [p1]
  unfold paV
  go_wp2_with fail
  refine (parse_any T2 (by decide) w1 (hW.below hlt f1)).mono ?_
  rintro e w2 ⟨rfl, f2⟩
  rw [p2]
  replace f2 := f1.trans (f2.mono f1.size)
  clear f1
  unfold paV
  go_wp2_with fail
  refine (parseNet_any T3 (by decide) w2 (hW.below hlt f2)).mono ?_
  rintro e w3 ⟨rfl, f3⟩
  rw [p3]
  replace f3 := f2.trans (f3.mono f2.size)
  clear f2
  unfold pnV ntV
  have k4 : PS w3.heap.size (w3.alloc (.cells #[.int .u32 167772160, .int .i64 8] 29)) := PS.of (box_cells w3 167772160 8)
  have f4 := f3.alloc f3.size (.cells #[.int .u32 167772160, .int .i64 8] 29)
  have l4 : w3.heap.size < (w3.alloc (.cells #[.int .u32 167772160, .int .i64 8] 29)).heap.size := by simp
  go_wp2_with fail
  generalize (w3.alloc (.cells #[.int .u32 167772160, .int .i64 8] 29)) = w4 at *
  refine (parseNet_any T4 (by decide) w4 (hW.below hlt f4)).mono ?_
  rintro e w5 ⟨rfl, f5⟩
  rw [p4]
  have k5 := k4.below f5
  have l5 := Nat.lt_of_lt_of_le l4 f5.size
  replace f5 := f4.trans (f5.mono f4.size)
  clear f4 k4 l4
  unfold pnV ntV
  go_wp2_with fail
  replace k5 := k5.below ((Below.refl _ w5).alloc (Nat.le_refl _) (.cells #[.int .u32 0, .int .i64 0] 29))
  replace f5 := f5.alloc f5.size (.cells #[.int .u32 0, .int .i64 0] 29)
  have e5 : w5.heap.size + 1 = (w5.alloc (.cells #[.int .u32 0, .int .i64 0] 29)).heap.size := by simp
  rw [e5]
  clear l5 e5
  generalize w5.alloc (.cells #[.int .u32 0, .int .i64 0] 29) = w5 at *
  have hw6 := rd3 w5
  have k6 := k5.below ((Below.refl _ w5).alloc (Nat.le_refl _) (.cells #[.int .u32 167772160, .int .i64 9, .int .u32 176160768, .int .i64 9, .int .u32 167837696, .int .i64 16] 29))
  have f6 := f5.alloc f5.size (.cells #[.int .u32 167772160, .int .i64 9, .int .u32 176160768, .int .i64 9, .int .u32 167837696, .int .i64 16] 29)
  rw [show w5.heap.size + 1 = (w5.alloc (.cells #[.int .u32 167772160, .int .i64 9, .int .u32 176160768, .int .i64 9, .int .u32 167837696, .int .i64 16] 29)).heap.size by simp] at hw6
  have hmg := merge_any _ 3 3 M3 _ hw6 ok3 (by decide) (by decide)
  clear k5 f5 hw6
  refine hmg.mono ?_
  rintro e w7 ⟨A, m, c, Y, rfl, ⟨hYl, hrow⟩, hN, hhas, _, _, f7'⟩
  obtain rfl := merged hN hhas
  obtain rfl : 1 = m := hYl
  obtain ⟨g, rfl, hr⟩ : ∃ g, A = some ⟨g, 0, none⟩ ∧ Rw w7 g c [(167772160, 8)] := by
    rcases hrow with h | ⟨g, h1, _, h2⟩
    · cases h
    · exact ⟨g, h1, h2⟩
  have k7 := k6.below f7'
  have f7 := f6.trans (f7'.mono f6.size)
  have g7 : PS g w7 := hr.at_ (j := 0) (by decide)
  clear k6 f6 f7' hr hN hhas hmg hrow
  have hpr := fun w h => print_any 167772418 (by decide) w h
  rw [pr1, show strB T1 = ⟨#[49, 48, 46, 48, 46, 49, 46, 50]⟩ from rfl] at hpr
  clear m1 m2 m3 m4
  go_upto_region 6 with fail
  refine wp_region_order (fun u => PS w3.heap.size u ∧ PS g u) 99 [(0,0), (1,0), (2,0), (3,0), (4,0), (5,0), (6,0), (7,0), (8,1), (9,0), (10,0), (11,0), (12,0), (13,0), (14,0), (15,0), (16,0), (17,0), (18,0), (19,0), (20,0), (21,0), (22,0), (23,0), (24,0), (25,1), (26,0), (27,0), (28,0), (29,1), (30,0), (31,0), (32,0), (33,0), (34,0), (35,0), (36,0), (37,0), (38,0), (39,0), (40,0), (41,0), (42,0), (43,0), (44,0)] (by kernel_rfl) (by kernel_rfl) ?_
  simp only [pick, List.filterMap_cons, List.filterMap_nil, List.getElem?_cons_zero, List.getElem?_cons_succ, Option.map_some]
  have hS : PS w3.heap.size w7.drew ∧ PS g w7.drew := ⟨k7, g7⟩
  have F1 : Below w.heap.size w w7.drew := f7.drew
  clear k7 g7 f7
  generalize w7.drew = wd at *
  refine wpF_take (v := ?_) hS rfl ?_ (fun _ _ _ h => h) ?_
  rotate_left
  · intro w' hS'
    obtain ⟨⟨e0, e1⟩, e2, e3⟩ := hS'
    go_simp <;> rfl
  go_simp
  refine wpF_take (v := ?_) hS rfl ?_ (fun _ _ _ h => h) ?_
  rotate_left
  · intro w' hS'
    obtain ⟨⟨e0, e1⟩, e2, e3⟩ := hS'
    go_simp <;> rfl
  go_simp
  refine wpF_take (v := ?_) hS rfl ?_ (fun _ _ _ h => h) ?_
  rotate_left
  · intro w' hS'
    obtain ⟨⟨e0, e1⟩, e2, e3⟩ := hS'
    go_simp <;> rfl
  go_simp
  refine wpF_take (v := ?_) hS rfl ?_ (fun _ _ _ h => h) ?_
  rotate_left
  · intro w' hS'
    obtain ⟨⟨e0, e1⟩, e2, e3⟩ := hS'
    go_simp <;> rfl
  go_simp
  refine wpF_take (v := ?_) hS rfl ?_ (fun _ _ _ h => h) ?_
  rotate_left
  · intro w' hS'
    obtain ⟨⟨e0, e1⟩, e2, e3⟩ := hS'
    go_simp <;> rfl
  go_simp
  refine wpF_take (v := ?_) hS rfl ?_ (fun _ _ _ h => h) ?_
  rotate_left
  · intro w' hS'
    obtain ⟨⟨e0, e1⟩, e2, e3⟩ := hS'
    go_simp <;> rfl
  go_simp
  refine wpF_take (v := ?_) hS rfl ?_ (fun _ _ _ h => h) ?_
  rotate_left
  · intro w' hS'
    obtain ⟨⟨e0, e1⟩, e2, e3⟩ := hS'
    go_simp <;> rfl
  go_simp
  refine wpF_take (v := ?_) hS rfl ?_ (fun _ _ _ h => h) ?_
  rotate_left
  · intro w' hS'
    obtain ⟨⟨e0, e1⟩, e2, e3⟩ := hS'
    go_simp <;> rfl
  go_simp
  refine wpF_only rfl (fun K hK => ?_)
  go_wp2_with fail
  refine (hpr _ (hW.below hlt F1)).mono ?_
  rintro e w9 ⟨rfl, f9⟩
  replace F1 := F1.trans (f9.mono F1.size)
  replace hS := PS.both hS f9
  clear f9
  go_wp2_with fail
  first | refine ⟨fun _ => hS, ?_⟩ | refine ⟨hS, ?_⟩ | skip
  go_simp
  refine wpF_take (v := ?_) hS rfl ?_ (fun _ _ _ h => h) ?_
  rotate_left
  · intro w' hS'
    obtain ⟨⟨e0, e1⟩, e2, e3⟩ := hS'
    go_simp <;> rfl
  go_simp
  refine wpF_take (v := ?_) hS rfl ?_ (fun _ _ _ h => h) ?_
  rotate_left
  · intro w' hS'
    obtain ⟨⟨e0, e1⟩, e2, e3⟩ := hS'
    go_simp <;> rfl
  go_simp
  refine wpF_take (v := ?_) hS rfl ?_ (fun _ _ _ h => h) ?_
  rotate_left
  · intro w' hS'
    obtain ⟨⟨e0, e1⟩, e2, e3⟩ := hS'
    go_simp <;> rfl
  go_simp
  refine wpF_take (v := ?_) hS rfl ?_ (fun _ _ _ h => h) ?_
  rotate_left
  · intro w' hS'
    obtain ⟨⟨e0, e1⟩, e2, e3⟩ := hS'
    go_simp <;> rfl
  go_simp
  refine wpF_take (v := ?_) hS rfl ?_ (fun _ _ _ h => h) ?_
  rotate_left
  · intro w' hS'
    obtain ⟨⟨e0, e1⟩, e2, e3⟩ := hS'
    go_simp <;> rfl
  go_simp
  refine wpF_take (v := ?_) hS rfl ?_ (fun _ _ _ h => h) ?_
  rotate_left
  · intro w' hS'
    obtain ⟨⟨e0, e1⟩, e2, e3⟩ := hS'
    go_simp <;> rfl
  go_simp
  refine wpF_take (v := ?_) hS rfl ?_ (fun _ _ _ h => h) ?_
  rotate_left
  · intro w' hS'
    obtain ⟨⟨e0, e1⟩, e2, e3⟩ := hS'
    go_simp <;> rfl
  go_simp
  refine wpF_take (v := ?_) hS rfl ?_ (fun _ _ _ h => h) ?_
  rotate_left
  · intro w' hS'
    obtain ⟨⟨e0, e1⟩, e2, e3⟩ := hS'
    go_simp <;> rfl
  go_simp
  refine wpF_take (v := ?_) hS rfl ?_ (fun _ _ _ h => h) ?_
  rotate_left
  · intro w' hS'
    obtain ⟨⟨e0, e1⟩, e2, e3⟩ := hS'
    go_simp <;> rfl
  go_simp
  refine wpF_take (v := ?_) hS rfl ?_ (fun _ _ _ h => h) ?_
  rotate_left
  · intro w' hS'
    obtain ⟨⟨e0, e1⟩, e2, e3⟩ := hS'
    go_simp <;> rfl
  go_simp
  refine wpF_take (v := ?_) hS rfl ?_ (fun _ _ _ h => h) ?_
  rotate_left
  · intro w' hS'
    obtain ⟨⟨e0, e1⟩, e2, e3⟩ := hS'
    go_simp <;> rfl
  go_simp
  refine wpF_take (v := ?_) hS rfl ?_ (fun _ _ _ h => h) ?_
  rotate_left
  · intro w' hS'
    obtain ⟨⟨e0, e1⟩, e2, e3⟩ := hS'
    go_simp <;> rfl
  go_simp
  refine wpF_take (v := ?_) hS rfl ?_ (fun _ _ _ h => h) ?_
  rotate_left
  · intro w' hS'
    obtain ⟨⟨e0, e1⟩, e2, e3⟩ := hS'
    go_simp <;> rfl
  go_simp
  refine wpF_take (v := ?_) hS rfl ?_ (fun _ _ _ h => h) ?_
  rotate_left
  · intro w' hS'
    obtain ⟨⟨e0, e1⟩, e2, e3⟩ := hS'
    go_simp <;> rfl
  go_simp
  refine wpF_take (v := ?_) hS rfl ?_ (fun _ _ _ h => h) ?_
  rotate_left
  · intro w' hS'
    obtain ⟨⟨e0, e1⟩, e2, e3⟩ := hS'
    go_simp <;> rfl
  go_simp
  refine wpF_take (v := ?_) hS rfl ?_ (fun _ _ _ h => h) ?_
  rotate_left
  · intro w' hS'
    obtain ⟨⟨e0, e1⟩, e2, e3⟩ := hS'
    go_simp <;> rfl
  go_simp
  refine wpF_only rfl (fun K hK => ?_)
  go_wp2_with fail
  refine (hi1 _).mono ?_
  rintro e w9 ⟨rfl, f9⟩
  replace F1 := F1.trans (f9.below.mono F1.size)
  replace hS := PS.both hS f9.below
  clear f9
  go_wp2_with fail
  first | refine ⟨fun _ => hS, ?_⟩ | refine ⟨hS, ?_⟩ | skip
  go_simp
  refine wpF_take (v := ?_) hS rfl ?_ (fun _ _ _ h => h) ?_
  rotate_left
  · intro w' hS'
    obtain ⟨⟨e0, e1⟩, e2, e3⟩ := hS'
    go_simp <;> rfl
  go_simp
  refine wpF_take (v := ?_) hS rfl ?_ (fun _ _ _ h => h) ?_
  rotate_left
  · intro w' hS'
    obtain ⟨⟨e0, e1⟩, e2, e3⟩ := hS'
    go_simp <;> rfl
  go_simp
  refine wpF_take (v := ?_) hS rfl ?_ (fun _ _ _ h => h) ?_
  rotate_left
  · intro w' hS'
    obtain ⟨⟨e0, e1⟩, e2, e3⟩ := hS'
    go_simp <;> rfl
  go_simp
  refine wpF_only rfl (fun K hK => ?_)
  go_wp2_with fail
  refine (hi2 _).mono ?_
  rintro e w9 ⟨rfl, f9⟩
  replace F1 := F1.trans (f9.below.mono F1.size)
  replace hS := PS.both hS f9.below
  clear f9
  go_wp2_with fail
  first | refine ⟨fun _ => hS, ?_⟩ | refine ⟨hS, ?_⟩ | skip
  go_simp
  refine wpF_take (v := ?_) hS rfl ?_ (fun _ _ _ h => h) ?_
  rotate_left
  · intro w' hS'
    obtain ⟨⟨e0, e1⟩, e2, e3⟩ := hS'
    go_simp <;> rfl
  go_simp
  refine wpF_take (v := ?_) hS rfl ?_ (fun _ _ _ h => h) ?_
  rotate_left
  · intro w' hS'
    obtain ⟨⟨e0, e1⟩, e2, e3⟩ := hS'
    go_simp <;> rfl
  go_simp
  refine wpF_take (v := ?_) hS rfl ?_ (fun _ _ _ h => h) ?_
  rotate_left
  · intro w' hS'
    obtain ⟨⟨e0, e1⟩, e2, e3⟩ := hS'
    go_simp <;> rfl
  go_simp
  refine wpF_take (v := ?_) hS rfl ?_ (fun _ _ _ h => h) ?_
  rotate_left
  · intro w' hS'
    obtain ⟨⟨e0, e1⟩, e2, e3⟩ := hS'
    go_simp <;> rfl
  go_simp
  refine wpF_take (v := ?_) hS rfl ?_ (fun _ _ _ h => h) ?_
  rotate_left
  · intro w' hS'
    obtain ⟨⟨e0, e1⟩, e2, e3⟩ := hS'
    go_simp <;> rfl
  go_simp
  refine wpF_take (v := ?_) hS rfl ?_ (fun _ _ _ h => h) ?_
  rotate_left
  · intro w' hS'
    obtain ⟨⟨e0, e1⟩, e2, e3⟩ := hS'
    go_simp <;> rfl
  go_simp
  refine wpF_take (v := ?_) hS rfl ?_ (fun _ _ _ h => h) ?_
  rotate_left
  · intro w' hS'
    obtain ⟨⟨e0, e1⟩, e2, e3⟩ := hS'
    go_simp <;> rfl
  go_simp
  refine wpF_take (v := ?_) hS rfl ?_ (fun _ _ _ h => h) ?_
  rotate_left
  · intro w' hS'
    obtain ⟨⟨e0, e1⟩, e2, e3⟩ := hS'
    go_simp <;> rfl
  go_simp
  refine wpF_take (v := ?_) hS rfl ?_ (fun _ _ _ h => h) ?_
  rotate_left
  · intro w' hS'
    obtain ⟨⟨e0, e1⟩, e2, e3⟩ := hS'
    go_simp <;> rfl
  go_simp
  refine wpF_take (v := ?_) hS rfl ?_ (fun _ _ _ h => h) ?_
  rotate_left
  · intro w' hS'
    obtain ⟨⟨e0, e1⟩, e2, e3⟩ := hS'
    go_simp <;> rfl
  go_simp
  refine wpF_take (v := ?_) hS rfl ?_ (fun _ _ _ h => h) ?_
  rotate_left
  · intro w' hS'
    obtain ⟨⟨e0, e1⟩, e2, e3⟩ := hS'
    go_simp <;> rfl
  go_simp
  refine wpF_take (v := ?_) hS rfl ?_ (fun _ _ _ h => h) ?_
  rotate_left
  · intro w' hS'
    obtain ⟨⟨e0, e1⟩, e2, e3⟩ := hS'
    go_simp <;> rfl
  go_simp
  refine wpF_take (v := ?_) hS rfl ?_ (fun _ _ _ h => h) ?_
  rotate_left
  · intro w' hS'
    obtain ⟨⟨e0, e1⟩, e2, e3⟩ := hS'
    go_simp <;> rfl
  go_simp
  refine wpF_take (v := ?_) hS rfl ?_ (fun _ _ _ h => h) ?_
  rotate_left
  · intro w' hS'
    obtain ⟨⟨e0, e1⟩, e2, e3⟩ := hS'
    go_simp <;> rfl
  go_simp
  refine wpF_take (v := ?_) hS rfl ?_ (fun _ _ _ h => h) ?_
  rotate_left
  · intro w' hS'
    obtain ⟨⟨e0, e1⟩, e2, e3⟩ := hS'
    go_simp <;> rfl
  go_simp
  refine wpF_nil ?_
  go_wp2_with fail
  go_ret
  exact ⟨rfl, F1⟩
end Go.Proofs.YtddfgalofngoiaaGreatDoor
