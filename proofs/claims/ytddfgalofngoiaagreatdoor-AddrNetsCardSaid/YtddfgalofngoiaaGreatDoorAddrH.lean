/- The halves of a net. Condition: an address of 32 bits, bits that fit an int. -/
import Derived.Test.YtddfgalofngoiaaGreatDoorAddrB
import Derived.IntWalk
namespace Go.Proofs.YtddfgalofngoiaaGreatDoor
open Go.RowKit Go.Sort
set_option linter.unusedVariables false
set_option linter.unusedSimpArgs false
def hvV (c : Nt) : Bool := nMay c && !decide (c.2 = 32)
set_option maxRecDepth 100000 in
set_option maxHeartbeats 2000000 in
theorem halves_no (a : Nat) (b : Int) (w : World) (hc : okN (a, b)) (h : nMay (a, b) = false ∨ b = 32) : Calls Tryz.prog 23 #[ntV a b] w fun e w' => e = .returned (.tuple #[.slice none 0 0, .bool false]) ∧ Below w.heap.size w w' := by
  have hmay := fun w => may_any a b w hc
  unfold ntV at hmay ⊢
  rcases hm : nMay (a, b) with _ | _
  · rw [hm] at hmay
    clear hm h
    go_enter Tryz.func23, Tryz.ntmps23
    go_upto_region 1 with fail
    refine abs (fun w1 => BxS w.heap.size a b w1 ∧ Below w.heap.size w w1) ⟨box_cells w a b, (Below.refl _ w).alloc (Nat.le_refl _) _⟩ ?_
    rintro w1 ⟨⟨e0, e1⟩, f1⟩
    go_wp2_with fail
    refine (hmay w1).mono ?_
    rintro e w2 ⟨rfl, f2⟩
    have hS := BxS.below ⟨e0, e1⟩ f2.below
    have f3 := f1.trans (f2.below.mono f1.size)
    clear e0 e1 f1 f2
    obtain ⟨e0, e1⟩ := hS
    go_wp2_with fail
    go_ret2
    exact ⟨rfl, f3⟩
  · rw [hm] at hmay h
    have hb : (b == 32) = true := by
      rcases h with h | h
      · cases h
      · simp [h]
    clear hm h
    go_enter Tryz.func23, Tryz.ntmps23
    go_upto_region 1 with fail
    refine abs (fun w1 => BxS w.heap.size a b w1 ∧ Below w.heap.size w w1) ⟨box_cells w a b, (Below.refl _ w).alloc (Nat.le_refl _) _⟩ ?_
    rintro w1 ⟨⟨e0, e1⟩, f1⟩
    go_wp2_with fail
    refine (hmay w1).mono ?_
    rintro e w2 ⟨rfl, f2⟩
    have hS := BxS.below ⟨e0, e1⟩ f2.below
    have f3 := f1.trans (f2.below.mono f1.size)
    clear e0 e1 f1 f2
    obtain ⟨e0, e1⟩ := hS
    go_wp2_with fail
    go_ret2
    exact ⟨rfl, f3⟩
theorem high_at {a : Nat} {b : Int} (hm : nMay (a, b) = true) (ha : a < 4294967296) (h : b < 32) : ∃ k : Nat, (31 - b).toNat = k ∧ k < 32 ∧ (nHigh (a, b)).1 = a ||| 2 ^ k ∧ (nHigh (a, b)).1 < 4294967296 := by
  obtain ⟨h0, h1, h2⟩ := (nMay_iff (a, b)).1 hm
  simp only at h0 h1 h2
  have hk : nk (a, b) = (31 - b).toNat + 1 := by show (32 - b).toNat = _; omega
  have hlt : (31 - b).toNat < 32 := by omega
  have e : nsz (nLow (a, b)) = 2 ^ (31 - b).toNat := by
    unfold nsz nk nLow
    rw [show (32 - (b + 1)).toNat = (31 - b).toNat by omega]
  have hs : nsz (a, b) = 2 * 2 ^ (31 - b).toNat := by unfold nsz; rw [hk, Nat.pow_succ, Nat.mul_comm]
  have hor : a ||| 2 ^ (31 - b).toNat = a + 2 ^ (31 - b).toNat := by
    refine or_low a ((31 - b).toNat + 1) _ ?_ (Nat.pow_lt_pow_right (by omega) (by omega))
    rw [Nat.pow_succ, Nat.mul_comm, ← hs]
    exact h2
  have hv : (nHigh (a, b)).1 = a + 2 ^ (31 - b).toNat := by
    show a + nsz (nLow (a, b)) = _
    rw [e]
  have hp : 0 < 2 ^ (31 - b).toNat := Nat.pow_pos (by omega)
  have hi := hi_le hm ha
  refine ⟨_, rfl, hlt, by rw [hv, hor], ?_⟩
  rw [hv]
  unfold nhi at hi
  rw [hs] at hi
  simp only at hi
  omega
set_option maxRecDepth 100000 in
set_option maxHeartbeats 2000000 in
theorem halves_yes (a : Nat) (b : Int) (w : World) (hc : okN (a, b)) (hm : nMay (a, b) = true) (h : b < 32) : Calls Tryz.prog 23 #[ntV a b] w fun e w' => ∃ g, e = .returned (.tuple #[.slice (some ⟨g, 0, none⟩) 2 2, .bool true]) ∧ w.heap.size ≤ g ∧ Blk w' g 29 (flatR ntC [nLow (a, b), nHigh (a, b)]) ∧ Below w.heap.size w w' := by
  have hmay := fun w => may_any a b w hc
  rw [hm] at hmay
  obtain ⟨k, hk, hk2, hv, hlt⟩ := high_at hm hc.1 h
  have h0 := ((nMay_iff (a, b)).1 hm).1
  simp only at h0
  have hb : (b == 32) = false := by simp; omega
  have hor := u32_or_n a (2 ^ k) hc.1 (Nat.pow_lt_pow_right (by omega) hk2)
  have hcs : flatR ntC [nLow (a, b), nHigh (a, b)] = [.int .u32 (a : Int), .int .i64 (b + 1), .int .u32 ((nHigh (a, b)).1 : Int), .int .i64 (b + 1)] := rfl
  rw [hcs]
  rw [← hv] at hor
  have hvl := hlt
  clear hcs hv
  generalize (nHigh (a, b)).1 = y at *
  have hpw : ((2 ^ k : Nat) : Int) = 2 ^ k := by push_cast; rfl
  rw [hpw] at hor
  have hm1 : (2 : Int) ^ k % 4294967296 = 2 ^ k := by
    have h3 : (2 : Nat) ^ k < 4294967296 := Nat.pow_lt_pow_right (a := 2) (n := 32) (by omega) hk2
    rw [← hpw]
    exact Int.emod_eq_of_lt (Int.natCast_nonneg _) (Int.ofNat_lt.2 h3)
  have hm2 : IntKind.u32.wrap ((2 : Int) ^ k) = 2 ^ k := by rw [IntKind.wrap_u32', hm1]
  have h31 : (0 : Int) ≤ 31 - b := by omega
  clear hpw
  have h31' : b ≤ 31 := by omega
  have v1 : IntKind.i64.wrap (31 - b) = 31 - b := IntWalk.i64_in _ (by omega)
  have v2 : IntKind.i64.wrap (b + 1) = b + 1 := IntWalk.i64_in _ (by omega)
  unfold ntV at hmay ⊢
  clear hm
  have b1 : b + 1 ≤ 9223372036854775807 := by omega
  go_enter Tryz.func23, Tryz.ntmps23
  go_upto_region 1 with fail
  refine abs (fun w1 => BxS w.heap.size a b w1 ∧ Below w.heap.size w w1) ⟨box_cells w a b, (Below.refl _ w).alloc (Nat.le_refl _) _⟩ ?_
  rintro w1 ⟨⟨e0, e1⟩, f1⟩
  go_wp2_with fail
  refine (hmay w1).mono ?_
  rintro e w2 ⟨rfl, f2⟩
  have hS := BxS.below ⟨e0, e1⟩ f2.below
  have f3 := f1.trans (f2.below.mono f1.size)
  clear e0 e1 f1 f2
  obtain ⟨e0, e1⟩ := hS
  go_wp2_with fail
  refine abs (fun w4 => (BxS w.heap.size a b w4 ∧ BxS w2.heap.size a (b + 1) w4) ∧ Below w.heap.size w w4) ⟨⟨BxS.below ⟨e0, e1⟩ ((Below.refl _ w2).alloc (Nat.le_refl _) _), box_cells w2 a (b + 1)⟩, f3.alloc f3.size _⟩ ?_
  rintro w4 ⟨⟨⟨e2, e3⟩, e4, e5⟩, f4⟩
  clear e0 e1 f3
  refine wp_region_order (fun u => BxS w.heap.size a b u ∧ BxS w2.heap.size a (b + 1) u) 99 [(0,0), (1,0), (2,0), (3,0), (4,0), (5,0), (6,0), (7,0), (8,0), (9,0), (10,0), (11,0), (12,1), (13,0), (14,0)] (by kernel_rfl) (by kernel_rfl) ?_
  simp only [pick, List.filterMap_cons, List.filterMap_nil, List.getElem?_cons_zero, List.getElem?_cons_succ, Option.map_some]
  have hS : BxS w.heap.size a b w4.drew ∧ BxS w2.heap.size a (b + 1) w4.drew := ⟨⟨e2, e3⟩, e4, e5⟩
  have F1 : Below w.heap.size w w4.drew := f4.drew
  clear f4
  generalize w4.drew = wd at *
  refine wpF_take (v := ?_) hS rfl ?_ (fun _ _ _ h => h) ?_
  rotate_left
  · intro w' hS'
    obtain ⟨⟨e0, e1⟩, e2, e3⟩ := hS'
    go_simp <;> rfl
  go_simp
  refine wpF_take (v := ?_) hS rfl ?_ (fun _ _ _ h => h) ?_
  rotate_left
  · intro w' hS'
    obtain ⟨⟨e0, e1⟩, e2, e3⟩ := hS'
    go_simp <;> rfl
  go_simp
  refine wpF_take (v := ?_) hS rfl ?_ (fun _ _ _ h => h) ?_
  rotate_left
  · intro w' hS'
    obtain ⟨⟨e0, e1⟩, e2, e3⟩ := hS'
    go_simp <;> rfl
  go_simp
  refine wpF_take (v := ?_) hS rfl ?_ (fun _ _ _ h => h) ?_
  rotate_left
  · intro w' hS'
    obtain ⟨⟨e0, e1⟩, e2, e3⟩ := hS'
    go_simp <;> rfl
  go_simp
  refine wpF_take (v := ?_) hS rfl ?_ (fun _ _ _ h => h) ?_
  rotate_left
  · intro w' hS'
    obtain ⟨⟨e0, e1⟩, e2, e3⟩ := hS'
    go_simp <;> rfl
  go_simp
  refine wpF_take (v := ?_) hS rfl ?_ (fun _ _ _ h => h) ?_
  rotate_left
  · intro w' hS'
    obtain ⟨⟨e0, e1⟩, e2, e3⟩ := hS'
    go_simp <;> rfl
  go_simp
  refine wpF_take (v := ?_) hS rfl ?_ (fun _ _ _ h => h) ?_
  rotate_left
  · intro w' hS'
    obtain ⟨⟨e0, e1⟩, e2, e3⟩ := hS'
    go_simp <;> rfl
  go_simp
  refine wpF_take (v := ?_) hS rfl ?_ (fun _ _ _ h => h) ?_
  rotate_left
  · intro w' hS'
    obtain ⟨⟨e0, e1⟩, e2, e3⟩ := hS'
    go_simp <;> rfl
  go_simp
  refine wpF_take (v := ?_) hS rfl ?_ (fun _ _ _ h => h) ?_
  rotate_left
  · intro w' hS'
    obtain ⟨⟨e0, e1⟩, e2, e3⟩ := hS'
    go_simp <;> rfl
  go_simp
  refine wpF_take (v := ?_) hS rfl ?_ (fun _ _ _ h => h) ?_
  rotate_left
  · intro w' hS'
    obtain ⟨⟨e0, e1⟩, e2, e3⟩ := hS'
    go_simp <;> rfl
  go_simp
  refine wpF_take (v := ?_) hS rfl ?_ (fun _ _ _ h => h) ?_
  rotate_left
  · intro w' hS'
    obtain ⟨⟨e0, e1⟩, e2, e3⟩ := hS'
    go_simp <;> rfl
  go_simp
  refine wpF_take (v := ?_) hS rfl ?_ (fun _ _ _ h => h) ?_
  rotate_left
  · intro w' hS'
    obtain ⟨⟨e0, e1⟩, e2, e3⟩ := hS'
    go_simp <;> rfl
  go_simp
  have HS2 := Lib.hid (fun ob => BxS.both hS ((Below.refl _ wd).alloc (Nat.le_refl _) ob))
  have F2 := F1.alloc F1.size (.cells #[.int .u32 (a : Int), .int .i64 (b + 1), .int .u32 (y : Int), .int .i64 (b + 1)] 29)
  have kb := Blk.of_new wd 29 [.int .u32 (a : Int), .int .i64 (b + 1), .int .u32 (y : Int), .int .i64 (b + 1)]
  have gs := F1.size
  clear hS
  refine wpF_only rfl (fun K hK => ?_)
  go_wp2_with fail
  first | refine ⟨fun _ => HS2.out _, ?_⟩ | refine ⟨HS2.out _, ?_⟩ | skip
  go_simp
  refine wpF_take (v := ?_) (HS2.out _) rfl ?_ (fun _ _ _ h => h) ?_
  rotate_left
  · intro w' hS'
    obtain ⟨⟨e0, e1⟩, e2, e3⟩ := hS'
    go_simp <;> rfl
  go_simp
  refine wpF_take (v := ?_) (HS2.out _) rfl ?_ (fun _ _ _ h => h) ?_
  rotate_left
  · intro w' hS'
    obtain ⟨⟨e0, e1⟩, e2, e3⟩ := hS'
    go_simp <;> rfl
  go_simp
  refine wpF_nil ?_
  go_wp2_with fail
  go_ret2
  exact ⟨wd.heap.size, rfl, gs, kb, F2⟩
end Go.Proofs.YtddfgalofngoiaaGreatDoor
