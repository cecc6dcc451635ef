/- How two nets stand; what covers what; ends, halves, the net above. Condition: addresses of 32 bits, bits that fit an int. -/
import Derived.Test.YtddfgalofngoiaaGreatDoorAddrA
import Derived.Test.YtddfgalofngoiaaGreatDoorRowR
import Derived.StillTailTactics
namespace Go.Proofs.YtddfgalofngoiaaGreatDoor
open Go.RowKit Go.Sort
set_option linter.unusedVariables false
set_option linter.unusedSimpArgs false
def orI (x y : Int) : Int := if x = 0 then y else x
set_option maxRecDepth 100000 in
set_option maxHeartbeats 1000000 in
theorem or_any (g : Nat) (x y : Int) (w : World) (h : Blk w g 3 [.int .i64 x, .int .i64 y]) : Calls Tryz.prog 38 #[.slice (some ⟨g, 0, none⟩) 2 2] w fun e w' => e = .returned (.int .i64 (orI x y)) ∧ w' = w := by
  have c0 : w.cell? ⟨g, 0, none⟩ = some (.int .i64 x) := h.cell 0
  have c1 : w.cell? ⟨g, 1, none⟩ = some (.int .i64 y) := h.cell 1
  go_enter Tryz.func38, Tryz.ntmps38
  go_wp2_with fail
  go_loopw [8, 5] (fun i _ wr => ∃ k : Nat, i = .int .i64 k ∧ wr = w ∧ (k = 0 ∨ (k = 1 ∧ x = 0) ∨ (k = 2 ∧ x = 0 ∧ y = 0))) (fun i _ _ => 2 - (intOf i).toNat)
  case atStart => exact ⟨0, rfl, rfl, .inl rfl⟩
  case round =>
    obtain ⟨k, rfl, rfl, hk⟩ := hrel
    rcases hk with rfl | ⟨rfl, hx⟩ | ⟨rfl, hx, hy⟩
    · by_cases hx : x = 0
      · have d : (x != 0) = false := by simp [hx]
        have HX := Lib.hid hx
        clear hx
        go_wp2_with fail
        go_roundw
        case rel => exact ⟨1, rfl, by trivial, .inr (.inl ⟨rfl, HX.out⟩)⟩
        case measure => simp [intOf]
      · have d : (x != 0) = true := by simp [hx]
        go_wp2_with fail
        go_ret
        exact ⟨by unfold orI; rw [if_neg hx]; first | rfl | skip, rfl⟩
    · have HX := Lib.hid hx
      clear hx
      by_cases hy : y = 0
      · have d : (y != 0) = false := by simp [hy]
        have HY := Lib.hid hy
        clear hy
        go_wp2_with fail
        go_roundw
        case rel => exact ⟨2, rfl, by trivial, .inr (.inr ⟨rfl, HX.out, HY.out⟩)⟩
        case measure => simp [intOf]
      · have d : (y != 0) = true := by simp [hy]
        go_wp2_with fail
        go_ret
        exact ⟨by unfold orI; rw [if_pos HX.out]; first | rfl | skip, rfl⟩
    · have HX := Lib.hid hx
      have HY := Lib.hid hy
      clear hx hy
      go_wp2_with fail
      go_ret
      exact ⟨by unfold orI; rw [if_pos HX.out, HY.out]; first | rfl | skip, rfl⟩

def cmpI (x y : Int) : Int := if x < y then -1 else if y < x then 1 else 0
theorem cmpI_lt {x y : Int} (h : x < y) : cmpI x y = -1 := by unfold cmpI; rw [if_pos h]
theorem cmpI_gt {x y : Int} (h : y < x) : cmpI x y = 1 := by unfold cmpI; rw [if_neg (by omega), if_pos h]
theorem cmpI_eq {x y : Int} (h : x = y) : cmpI x y = 0 := by unfold cmpI; rw [if_neg (by omega), if_neg (by omega)]
set_option maxRecDepth 100000 in
theorem isNaNU_any (x : Int) (w : World) : Calls Tryz.prog 57 #[.int .u32 x] w fun e w' => e = .returned (.bool false) ∧ w' = w := by
  go_enter Tryz.func57, Tryz.ntmps57
  go_wp2_with fail
  go_ret
  exact ⟨rfl, rfl⟩
set_option maxRecDepth 100000 in
set_option maxHeartbeats 1000000 in
theorem compareU_any (x y : Int) (w : World) : Calls Tryz.prog 39 #[.int .u32 x, .int .u32 y] w fun e w' => e = .returned (.int .i64 (cmpI x y)) ∧ w' = w := by
  obtain ⟨r, hr⟩ : ∃ r, cmpI x y = r := ⟨_, rfl⟩
  rw [hr]
  have k0 : x < y → r = -1 := fun h => by rw [← hr]; exact cmpI_lt h
  have k1 : y < x → r = 1 := fun h => by rw [← hr]; exact cmpI_gt h
  have k2 : x = y → r = 0 := fun h => by rw [← hr]; exact cmpI_eq h
  have K0 := Lib.hid k0; have K1 := Lib.hid k1; have K2 := Lib.hid k2; clear k0 k1 k2 hr
  go_enter Tryz.func39, Tryz.ntmps39
  go_wp2_with fail
  refine (isNaNU_any _ w).mono ?_
  rintro e w1 ⟨rfl, rfl⟩
  go_wp2_with fail
  refine (isNaNU_any _ w1).mono ?_
  rintro e w2 ⟨rfl, rfl⟩
  by_cases h1 : x < y
  · go_wp2_with fail
    go_ret
    exact ⟨by rw [K0.out h1]; rfl, rfl⟩
  · by_cases h2 : y < x
    · go_wp2_with fail
      go_ret
      exact ⟨by rw [K1.out h2]; rfl, rfl⟩
    · go_wp2_with fail
      go_ret
      exact ⟨by rw [K2.out (by omega)]; rfl, rfl⟩
set_option maxRecDepth 100000 in
theorem isNaNI_any (x : Int) (w : World) : Calls Tryz.prog 58 #[.int .i64 x] w fun e w' => e = .returned (.bool false) ∧ w' = w := by
  go_enter Tryz.func58, Tryz.ntmps58
  go_wp2_with fail
  go_ret
  exact ⟨rfl, rfl⟩
set_option maxRecDepth 100000 in
set_option maxHeartbeats 1000000 in
theorem compareI_any (x y : Int) (w : World) : Calls Tryz.prog 40 #[.int .i64 x, .int .i64 y] w fun e w' => e = .returned (.int .i64 (cmpI x y)) ∧ w' = w := by
  obtain ⟨r, hr⟩ : ∃ r, cmpI x y = r := ⟨_, rfl⟩
  rw [hr]
  have k0 : x < y → r = -1 := fun h => by rw [← hr]; exact cmpI_lt h
  have k1 : y < x → r = 1 := fun h => by rw [← hr]; exact cmpI_gt h
  have k2 : x = y → r = 0 := fun h => by rw [← hr]; exact cmpI_eq h
  have K0 := Lib.hid k0; have K1 := Lib.hid k1; have K2 := Lib.hid k2; clear k0 k1 k2 hr
  go_enter Tryz.func40, Tryz.ntmps40
  go_wp2_with fail
  refine (isNaNI_any _ w).mono ?_
  rintro e w1 ⟨rfl, rfl⟩
  go_wp2_with fail
  refine (isNaNI_any _ w1).mono ?_
  rintro e w2 ⟨rfl, rfl⟩
  by_cases h1 : x < y
  · go_wp2_with fail
    go_ret
    exact ⟨by rw [K0.out h1]; rfl, rfl⟩
  · by_cases h2 : y < x
    · go_wp2_with fail
      go_ret
      exact ⟨by rw [K1.out h2]; rfl, rfl⟩
    · go_wp2_with fail
      go_ret
      exact ⟨by rw [K2.out (by omega)]; rfl, rfl⟩
theorem box_two (w : World) (a : Nat) (b : Int) (c : Nat) (d : Int) : BxS w.heap.size a b ((w.alloc (.cells #[.int .u32 (a : Int), .int .i64 b] 29)).alloc (.cells #[.int .u32 (c : Int), .int .i64 d] 29)) ∧ BxS (w.heap.size + 1) c d ((w.alloc (.cells #[.int .u32 (a : Int), .int .i64 b] 29)).alloc (.cells #[.int .u32 (c : Int), .int .i64 d] 29)) := by
  have h1 := (Blk.newAt (w := w) rfl 29 #[.int .u32 (a : Int), .int .i64 b]).alloc (.cells #[.int .u32 (c : Int), .int .i64 d] 29)
  have h2 := Blk.newAt (w := w.alloc (.cells #[.int .u32 (a : Int), .int .i64 b] 29)) (g := w.heap.size + 1) (by simp) 29 #[.int .u32 (c : Int), .int .i64 d]
  exact ⟨⟨h1.cell 0, h1.cell 1⟩, h2.cell 0, h2.cell 1⟩
theorem BxS.both {g h a c : Nat} {b d : Int} {u v : World} (k : BxS g a b u ∧ BxS h c d u) (hb : Below u.heap.size u v) : BxS g a b v ∧ BxS h c d v := ⟨k.1.below hb, k.2.below hb⟩
def ntCmp (x y : Nt) : Int := orI (cmpI x.1 y.1) (cmpI x.2 y.2)
set_option maxRecDepth 100000 in
set_option maxHeartbeats 2000000 in
theorem cmpNt_any (a : Nat) (b : Int) (c : Nat) (d : Int) (w : World) : Calls Tryz.prog 37 #[ntV a b, ntV c d] w fun e w' => e = .returned (.int .i64 (ntCmp (a, b) (c, d))) ∧ Grn w w' := by
  unfold ntV
  go_enter Tryz.func37, Tryz.ntmps37
  go_upto_region 1 with fail
  refine abs (fun w1 => (BxS w.heap.size a b w1 ∧ BxS (w.heap.size + 1) c d w1) ∧ Grn w w1) ⟨⟨(box_two w a b c d).1, (box_two w a b c d).2⟩, ((Grn.refl w).alloc _).alloc _⟩ ?_
  rintro w1 ⟨⟨⟨e0, e1⟩, e2, e3⟩, f1⟩
  refine wp_region_order (fun u => BxS w.heap.size a b u ∧ BxS (w.heap.size + 1) c d u) 99 [(0,0), (1,0), (2,0), (3,0), (5,0), (6,0), (7,0), (8,0), (4,1), (9,1), (10,1), (11,1), (12,0)] (by kernel_rfl) (by kernel_rfl) ?_
  simp only [pick, List.filterMap_cons, List.filterMap_nil, List.getElem?_cons_zero, List.getElem?_cons_succ, Option.map_some]
  have hS : BxS w.heap.size a b w1.drew ∧ BxS (w.heap.size + 1) c d w1.drew := ⟨⟨e0, e1⟩, e2, e3⟩
  have F1 : Grn w w1.drew := f1.drew
  clear f1
  generalize w1.drew = wd at *
  refine wpF_take (v := ?_) hS rfl ?_ (fun _ _ _ h => h) ?_
  rotate_left
  · intro w' hS'
    obtain ⟨⟨e0, e1⟩, e2, e3⟩ := hS'
    go_simp <;> rfl
  go_simp
  refine wpF_take (v := ?_) hS rfl ?_ (fun _ _ _ h => h) ?_
  rotate_left
  · intro w' hS'
    obtain ⟨⟨e0, e1⟩, e2, e3⟩ := hS'
    go_simp <;> rfl
  go_simp
  refine wpF_take (v := ?_) hS rfl ?_ (fun _ _ _ h => h) ?_
  rotate_left
  · intro w' hS'
    obtain ⟨⟨e0, e1⟩, e2, e3⟩ := hS'
    go_simp <;> rfl
  go_simp
  refine wpF_take (v := ?_) hS rfl ?_ (fun _ _ _ h => h) ?_
  rotate_left
  · intro w' hS'
    obtain ⟨⟨e0, e1⟩, e2, e3⟩ := hS'
    go_simp <;> rfl
  go_simp
  refine wpF_take (v := ?_) hS rfl ?_ (fun _ _ _ h => h) ?_
  rotate_left
  · intro w' hS'
    obtain ⟨⟨e0, e1⟩, e2, e3⟩ := hS'
    go_simp <;> rfl
  go_simp
  refine wpF_take (v := ?_) hS rfl ?_ (fun _ _ _ h => h) ?_
  rotate_left
  · intro w' hS'
    obtain ⟨⟨e0, e1⟩, e2, e3⟩ := hS'
    go_simp <;> rfl
  go_simp
  refine wpF_take (v := ?_) hS rfl ?_ (fun _ _ _ h => h) ?_
  rotate_left
  · intro w' hS'
    obtain ⟨⟨e0, e1⟩, e2, e3⟩ := hS'
    go_simp <;> rfl
  go_simp
  refine wpF_take (v := ?_) hS rfl ?_ (fun _ _ _ h => h) ?_
  rotate_left
  · intro w' hS'
    obtain ⟨⟨e0, e1⟩, e2, e3⟩ := hS'
    go_simp <;> rfl
  go_simp
  refine wpF_only rfl (fun K hK => ?_)
  go_wp2_with fail
  refine (compareU_any _ _ _).mono ?_
  rintro e w2 ⟨rfl, rfl⟩
  go_wp2_with fail
  first | refine ⟨fun _ => hS, ?_⟩ | refine ⟨hS, ?_⟩ | skip
  go_simp
  refine wpF_only rfl (fun K hK => ?_)
  go_wp2_with fail
  refine (compareI_any _ _ _).mono ?_
  rintro e w2 ⟨rfl, rfl⟩
  go_wp2_with fail
  first | refine ⟨fun _ => hS, ?_⟩ | refine ⟨hS, ?_⟩ | skip
  go_simp
  have HS2 := Lib.hid (fun ob => BxS.both hS ((Below.refl _ w2).alloc (Nat.le_refl _) ob))
  have F2 := F1.alloc (.cells #[.int .i64 (cmpI a c), .int .i64 (cmpI b d)] 3)
  have kb := Blk.of_new w2 3 [.int .i64 (cmpI a c), .int .i64 (cmpI b d)]
  clear hS
  refine wpF_only rfl (fun K hK => ?_)
  go_wp2_with fail
  first | refine ⟨fun _ => HS2.out _, ?_⟩ | refine ⟨HS2.out _, ?_⟩ | skip
  go_simp
  refine wpF_only rfl (fun K hK => ?_)
  go_wp2_with fail
  refine (or_any w2.heap.size _ _ _ kb).mono ?_
  rintro e w3 ⟨rfl, rfl⟩
  rw [show orI (cmpI a c) (cmpI b d) = ntCmp (a, b) (c, d) from rfl]
  go_wp2_with fail
  first | refine ⟨fun _ => HS2.out _, ?_⟩ | refine ⟨HS2.out _, ?_⟩ | skip
  go_simp
  refine wpF_take (v := ?_) (HS2.out _) rfl ?_ (fun _ _ _ h => h) ?_
  rotate_left
  · intro w' hS'
    obtain ⟨⟨e0, e1⟩, e2, e3⟩ := hS'
    go_simp <;> rfl
  go_simp
  refine wpF_nil ?_
  go_wp2_with fail
  go_ret
  exact ⟨rfl, F2⟩
set_option maxRecDepth 100000 in
set_option maxHeartbeats 2000000 in
theorem notMay_any (a : Nat) (b : Int) (w : World) (hc : okN (a, b)) : Calls Tryz.prog 35 #[ntV a b] w fun e w' => e = .returned (.bool (!nMay (a, b))) ∧ Grn w w' := by
  have hc0 := Lib.hid hc
  obtain ⟨r, hr⟩ : ∃ r, nMay (a, b) = r := ⟨_, rfl⟩
  have hmay := fun w => may_any a b w hc
  rw [hr] at hmay ⊢
  unfold ntV at hmay ⊢
  go_enter Tryz.func35, Tryz.ntmps35
  go_upto_region 1 with fail
  refine abs (fun w1 => BxS w.heap.size a b w1 ∧ Grn w w1) ⟨box_cells w a b, (Grn.refl w).alloc _⟩ ?_
  rintro w1 ⟨⟨e0, e1⟩, f1⟩
  go_wp2_with fail
  refine (hmay w1).mono ?_
  rintro e w2 ⟨rfl, f2⟩
  have f3 := f1.trans f2
  go_wp2_with fail
  go_ret
  exact ⟨rfl, f3⟩
set_option maxRecDepth 100000 in
set_option maxHeartbeats 2000000 in
theorem last_any (a : Nat) (b : Int) (w : World) (hc : okN (a, b)) : Calls Tryz.prog 22 #[ntV a b] w fun e w' => e = .returned (.tuple #[.int .u32 (if nMay (a, b) then ((nhi (a, b) - 1 : Nat) : Int) else 0), .bool (nMay (a, b))]) ∧ Grn w w' := by
  have hmay := fun w => may_any a b w hc
  have h1 := hc.2.1
  have h2 := hc.2.2
  simp only at h1 h2
  unfold ntV at hmay ⊢
  rcases hm : nMay (a, b) with _ | _
  · rw [hm] at hmay
    clear hm
    go_enter Tryz.func22, Tryz.ntmps22
    go_upto_region 1 with fail
    refine abs (fun w1 => BxS w.heap.size a b w1 ∧ Grn w w1) ⟨box_cells w a b, (Grn.refl w).alloc _⟩ ?_
    rintro w1 ⟨⟨e0, e1⟩, f1⟩
    go_wp2_with fail
    refine (hmay w1).mono ?_
    rintro e w2 ⟨rfl, f2⟩
    obtain ⟨e2, e3⟩ := BxS.below ⟨e0, e1⟩ f2.below
    have f3 := f1.trans f2
    go_wp2_with fail
    go_ret2
    exact ⟨rfl, f3⟩
  · rw [hm] at hmay
    have k1 := not_mask b
    have k2 := or_rest (a, b) hm hc.1
    simp only at k2
    rw [if_pos rfl]
    clear hm
    generalize ((nhi (a, b) - 1 : Nat) : Int) = y at k2 ⊢
    generalize ((4294967295 - nMask b : Nat) : Int) = z at k1 k2
    go_enter Tryz.func22, Tryz.ntmps22
    go_upto_region 1 with fail
    refine abs (fun w1 => BxS w.heap.size a b w1 ∧ Grn w w1) ⟨box_cells w a b, (Grn.refl w).alloc _⟩ ?_
    rintro w1 ⟨⟨e0, e1⟩, f1⟩
    go_wp2_with fail
    refine (hmay w1).mono ?_
    rintro e w2 ⟨rfl, f2⟩
    obtain ⟨e2, e3⟩ := BxS.below ⟨e0, e1⟩ f2.below
    have f3 := f1.trans f2
    clear e0 e1 f1 f2
    go_wp2_with fail
    go_quiet ((go_at_call 25; exact Calls.quiet_of_same ((mask_any _ _ h1 h2).mono fun _ _ ⟨h, e⟩ => ⟨h, e.symm⟩)))
    go_wp2_with fail
    go_ret2
    exact ⟨rfl, f3.drewN _⟩
set_option maxRecDepth 100000 in
set_option maxHeartbeats 2000000 in
theorem cov_any (a : Nat) (b : Int) (c : Nat) (d : Int) (w : World) (hc : okN (a, b)) (hd : okN (c, d)) : Calls Tryz.prog 30 #[ntV a b, ntV c d] w fun e w' => e = .returned (.bool (nCov (a, b) (c, d))) ∧ Grn w w' := by
  have hmay := fun w => may_any c d w hd
  have hin := fun w => in_any a b c w hc hd.1
  have hr : nCov (a, b) (c, d) = (nMay (c, d) && (nIn (a, b) c && decide (b ≤ d))) := rfl
  obtain ⟨r, hr2⟩ : ∃ r, nCov (a, b) (c, d) = r := ⟨_, rfl⟩
  rw [hr2] at hr ⊢
  clear hr2
  unfold ntV at hmay hin ⊢
  rcases hm : nMay (c, d) with _ | _
  · rw [hm] at hmay hr
    rw [Bool.false_and] at hr
    subst hr
    clear hm
    go_enter Tryz.func30, Tryz.ntmps30
    go_upto_region 1 with fail
    refine abs (fun w1 => (BxS w.heap.size a b w1 ∧ BxS (w.heap.size + 1) c d w1) ∧ Grn w w1) ⟨⟨(box_two w a b c d).1, (box_two w a b c d).2⟩, ((Grn.refl w).alloc _).alloc _⟩ ?_
    rintro w1 ⟨hS, f1⟩
    have hS2 := hS
    obtain ⟨⟨e0, e1⟩, e2, e3⟩ := hS2
    go_wp2_with fail
    refine (hmay w1).mono ?_
    rintro e w2 ⟨rfl, f2⟩
    replace hS := BxS.both hS f2.below
    have hS2 := hS
    obtain ⟨⟨e4, e5⟩, e6, e7⟩ := hS2
    have f3 := f1.trans f2
    clear e0 e1 e2 e3 f1 f2
    go_wp2_with fail
    go_ret
    exact ⟨rfl, f3⟩
  · rw [hm] at hmay hr
    rw [Bool.true_and] at hr
    clear hm
    rcases hi : nIn (a, b) c with _ | _
    · rw [hi] at hin hr
      rw [Bool.false_and] at hr
      subst hr
      clear hi
      go_enter Tryz.func30, Tryz.ntmps30
      go_upto_region 1 with fail
      refine abs (fun w1 => (BxS w.heap.size a b w1 ∧ BxS (w.heap.size + 1) c d w1) ∧ Grn w w1) ⟨⟨(box_two w a b c d).1, (box_two w a b c d).2⟩, ((Grn.refl w).alloc _).alloc _⟩ ?_
      rintro w1 ⟨hS, f1⟩
      have hS2 := hS
      obtain ⟨⟨e0, e1⟩, e2, e3⟩ := hS2
      go_wp2_with fail
      refine (hmay w1).mono ?_
      rintro e w2 ⟨rfl, f2⟩
      replace hS := BxS.both hS f2.below
      have hS2 := hS
      obtain ⟨⟨e4, e5⟩, e6, e7⟩ := hS2
      have f3 := f1.trans f2
      clear e0 e1 e2 e3 f1 f2
      go_wp2_with fail
      refine (hin w2).mono ?_
      rintro e w3 ⟨rfl, f2⟩
      obtain ⟨⟨e0, e1⟩, e2, e3⟩ := BxS.both hS f2.below
      replace f3 := f3.trans f2
      clear e4 e5 e6 e7 f2 hS
      go_wp2_with fail
      go_ret
      exact ⟨rfl, f3⟩
    · rw [hi] at hin hr
      rw [Bool.true_and] at hr
      clear hi
      have HR := Lib.hid hr; clear hr
      go_enter Tryz.func30, Tryz.ntmps30
      go_upto_region 1 with fail
      refine abs (fun w1 => (BxS w.heap.size a b w1 ∧ BxS (w.heap.size + 1) c d w1) ∧ Grn w w1) ⟨⟨(box_two w a b c d).1, (box_two w a b c d).2⟩, ((Grn.refl w).alloc _).alloc _⟩ ?_
      rintro w1 ⟨hS, f1⟩
      have hS2 := hS
      obtain ⟨⟨e0, e1⟩, e2, e3⟩ := hS2
      go_wp2_with fail
      refine (hmay w1).mono ?_
      rintro e w2 ⟨rfl, f2⟩
      replace hS := BxS.both hS f2.below
      have hS2 := hS
      obtain ⟨⟨e4, e5⟩, e6, e7⟩ := hS2
      have f3 := f1.trans f2
      clear e0 e1 e2 e3 f1 f2
      go_wp2_with fail
      refine (hin w2).mono ?_
      rintro e w3 ⟨rfl, f2⟩
      obtain ⟨⟨e0, e1⟩, e2, e3⟩ := BxS.both hS f2.below
      replace f3 := f3.trans f2
      clear e4 e5 e6 e7 f2 hS
      go_wp2_with fail
      go_ret
      exact ⟨by rw [HR.out]; rfl, f3⟩
set_option maxRecDepth 100000 in
set_option maxHeartbeats 2000000 in
theorem parent_any (a : Nat) (b : Int) (w : World) (hc : okN (a, b)) (h0 : 0 < b) (h1 : b ≤ 32) : Calls Tryz.prog 41 #[ntV a b] w fun e w' => e = .returned (ntV (nPar (a, b)).1 (nPar (a, b)).2) ∧ Below w.heap.size w w' := by
  have ha := hc.1
  have HI := Lib.hid (show (Tryz.prog.info? 29).map (·.size) = some 2 by kernel_rfl)
  simp only at ha
  have hp : (nPar (a, b)).1 = a &&& nMask (b - 1) := by
    have := and_mask (a, b - 1) a ha (by show 0 ≤ b - 1; omega) (by show b - 1 ≤ 32; omega)
    rw [show nMask (b - 1) = nMask (a, b - 1).2 from rfl, this]
    have e : nsz (a, b - 1) = 2 * nsz (a, b) := by
      unfold nsz nk
      rw [show (32 - (a, b - 1).2).toNat = (32 - (a, b).2).toNat + 1 by show (32 - (b - 1)).toNat = (32 - b).toNat + 1; omega, Nat.pow_succ, Nat.mul_comm]
    rw [e]; rfl
  have hp2 : (nPar (a, b)).2 = b - 1 := rfl
  have hn := u32_and_n a (nMask (b - 1)) ha (nMask_lt _)
  rw [hp, hp2]
  clear hp hp2
  generalize a &&& nMask (b - 1) = y at hn ⊢
  have b0 : -9223372036854775808 ≤ b - 1 := by omega
  have b1 : b - 1 ≤ 9223372036854775807 := by omega
  unfold ntV
  go_enter Tryz.func41, Tryz.ntmps41
  go_upto_region 1 with fail
  refine abs (fun w1 => (BxS w.heap.size a b w1 ∧ Blk w1 (w.heap.size + 1) 29 [.int .u32 0, .int .i64 0]) ∧ Below w.heap.size w w1) ⟨⟨?_, Blk.newAt (by simp) _ _⟩, ((Below.refl _ w).alloc (Nat.le_refl _) _).alloc (by simp) _⟩ ?_
  · have h1 := (Blk.newAt (w := w) rfl 29 #[.int .u32 (a : Int), .int .i64 b]).alloc (.cells #[.int .u32 0, .int .i64 0] 29)
    exact ⟨h1.cell 0, h1.cell 1⟩
  rintro w1 ⟨⟨⟨e0, e1⟩, kb⟩, f1⟩
  refine wp_region_order (BxS w.heap.size a b) 11 [(0,0), (1,0), (2,0), (3,0), (4,0), (7,0), (8,0), (9,0), (5,1), (6,0), (10,0), (11,2)] (by kernel_rfl) (by kernel_rfl) ?_
  simp only [pick, List.filterMap_cons, List.filterMap_nil, List.getElem?_cons_zero, List.getElem?_cons_succ, Option.map_some]
  have hS : BxS w.heap.size a b w1.drew := ⟨e0, e1⟩
  have F1 : Below w.heap.size w w1.drew := f1.drew
  have kb' : Blk w1.drew (w.heap.size + 1) 29 [.int .u32 0, .int .i64 0] := kb
  clear f1 kb e0 e1
  generalize w1.drew = wd at *
  have c0 := kb'.cell 0
  have c1 := kb'.cell 1
  have g0 := kb'.frozen 0
  have g1 := kb'.frozen 1
  simp only [List.getElem?_cons_zero, List.getElem?_cons_succ] at c0 c1
  refine wpF_take (v := ?_) hS rfl ?_ (fun _ _ _ h => h) ?_
  rotate_left
  · intro w' hS'
    obtain ⟨e0, e1⟩ := hS'
    go_simp <;> rfl
  go_simp
  refine wpF_take (v := ?_) hS rfl ?_ (fun _ _ _ h => h) ?_
  rotate_left
  · intro w' hS'
    obtain ⟨e0, e1⟩ := hS'
    go_simp <;> rfl
  go_simp
  refine wpF_take (v := ?_) hS rfl ?_ (fun _ _ _ h => h) ?_
  rotate_left
  · intro w' hS'
    obtain ⟨e0, e1⟩ := hS'
    go_simp <;> rfl
  go_simp
  refine wpF_take (v := ?_) hS rfl ?_ (fun _ _ _ h => h) ?_
  rotate_left
  · intro w' hS'
    obtain ⟨e0, e1⟩ := hS'
    go_simp <;> rfl
  go_simp
  refine wpF_take (v := ?_) hS rfl ?_ (fun _ _ _ h => h) ?_
  rotate_left
  · intro w' hS'
    obtain ⟨e0, e1⟩ := hS'
    go_simp <;> rfl
  go_simp
  refine wpF_take (v := ?_) hS rfl ?_ (fun _ _ _ h => h) ?_
  rotate_left
  · intro w' hS'
    obtain ⟨e0, e1⟩ := hS'
    go_simp <;> rfl
  go_simp
  refine wpF_take (v := ?_) hS rfl ?_ (fun _ _ _ h => h) ?_
  rotate_left
  · intro w' hS'
    obtain ⟨e0, e1⟩ := hS'
    go_simp <;> rfl
  go_simp
  refine wpF_take (v := ?_) hS rfl ?_ (fun _ _ _ h => h) ?_
  rotate_left
  · intro w' hS'
    obtain ⟨e0, e1⟩ := hS'
    go_simp <;> rfl
  go_simp
  refine wpF_only rfl (fun K hK => ?_)
  go_wp2_with fail
  refine (mask_any _ _ b0 b1).mono ?_
  rintro e w2 ⟨rfl, rfl⟩
  go_wp2_with fail
  first | refine ⟨fun _ => hS, ?_⟩ | refine ⟨hS, ?_⟩ | skip
  go_simp
  refine wpF_take (v := ?_) hS rfl ?_ (fun _ _ _ h => h) ?_
  rotate_left
  · intro w' hS'
    obtain ⟨e0, e1⟩ := hS'
    go_simp <;> rfl
  go_simp
  refine wpF_take (v := ?_) hS rfl ?_ (fun _ _ _ h => h) ?_
  rotate_left
  · intro w' hS'
    obtain ⟨e0, e1⟩ := hS'
    go_simp <;> rfl
  go_simp
  refine wpF_only rfl (fun K hK => ?_)
  go_wp2_with fail
  first | refine ⟨(fun h => by cases h), ?_⟩ | skip
  go_simp
  refine wpF_nil ?_
  have hk := (kb'.set 0 (.int .u32 (y : Int))).set 1 (.int .i64 (b - 1))
  have F2 := (F1.setCell (p := ⟨w.heap.size + 1, 0, none⟩) (by simp) (.int .u32 (y : Int))).setCell (p := ⟨w.heap.size + 1, 1, none⟩) (by simp) (.int .i64 (b - 1))
  go_wp2_with fail
  exact bodyPost_ret (hk.sized rfl _ rfl Tryz.underlying29 HI.out) rfl ⟨rfl, F2⟩
end Go.Proofs.YtddfgalofngoiaaGreatDoor
