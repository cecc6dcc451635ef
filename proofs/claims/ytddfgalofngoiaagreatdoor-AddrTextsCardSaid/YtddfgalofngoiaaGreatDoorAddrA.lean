/- Nets as the program has them: masks, what may be, what has what. Condition: an address of 32 bits, bits that fit an int. -/
import Derived.Test.YtddfgalofngoiaaGreatDoorNetsBits
import Derived.Test.YtddfgalofngoiaaGreatDoorBase
import Derived.Test.YtddfgalofngoiaaGreatDoorChecked
import Derived.Test.YtddfgalofngoiaaGreatDoorOrder
import Derived.Sort.Grow
import Derived.Lib.Hide
import Derived.BigQuiet
import Derived.Deep.QuietTactic
namespace Go.Proofs.YtddfgalofngoiaaGreatDoor
open Go.RowKit Go.Sort
set_option linter.unusedVariables false
set_option linter.unusedSimpArgs false
/-- The machine's numbers of a net. -/
def okN (c : Nt) : Prop := c.1 < 4294967296 ∧ -9223372036854775808 ≤ c.2 ∧ c.2 ≤ 9223372036854775807
def ntC (c : Nt) : List Value := [.int .u32 (c.1 : Int), .int .i64 c.2]
def ntV (a : Nat) (b : Int) : Value := .agg #[.int .u32 (a : Int), .int .i64 b]
theorem mask_all : ∀ k : Fin 33, IntKind.u64.wrap (4294967296 - IntKind.u64.wrap ((2 : Int) ^ k.val)) % 4294967296 = ((4294967296 - 2 ^ k.val : Nat) : Int) := by decide +kernel
theorem mask_val {b : Int} {k : Nat} (e : (32 - min (max b 0) 32).toNat = k) : IntKind.u64.wrap (4294967296 - IntKind.u64.wrap ((2 : Int) ^ k)) % 4294967296 = (nMask b : Int) := by
  have := mask_all ⟨k, by omega⟩
  rw [nMask, e]
  exact this
theorem ret_u32 {a b : Int} (h : a = b) : Ending.returned (.int .u32 a) = .returned (.int .u32 b) := by rw [h]
set_option maxRecDepth 100000 in
set_option maxHeartbeats 1000000 in
theorem mask_any (b : Int) (w : World) (h0 : -9223372036854775808 ≤ b) (h1 : b ≤ 9223372036854775807) :
    Calls Tryz.prog 25 #[.int .i64 b] w fun e w' => e = .returned (.int .u32 (nMask b : Int)) ∧ w = w' := by
  have k0 : 32 < b → IntKind.u64.wrap (4294967296 - IntKind.u64.wrap 1) % 4294967296 = (nMask b : Int) := fun h => mask_val (k := 0) (by omega)
  have k1 : b < 0 → IntKind.u64.wrap (4294967296 - IntKind.u64.wrap 4294967296) % 4294967296 = (nMask b : Int) := fun h => mask_val (k := 32) (by omega)
  have k2 : 0 ≤ b → b ≤ 32 → IntKind.u64.wrap (4294967296 - IntKind.u64.wrap (2 ^ (32 - b).toNat)) % 4294967296 = (nMask b : Int) := fun h h' => mask_val (k := (32 - b).toNat) (by omega)
  have K0 := Lib.hid k0; have K1 := Lib.hid k1; have K2 := Lib.hid k2; clear k0 k1 k2
  go_enter Tryz.func25, Tryz.ntmps25
  by_cases c0 : b < 0
  · go_wp2_with fail
    go_ret
    exact ⟨ret_u32 (K1.out c0), rfl⟩
  · by_cases c1 : 32 < b
    · go_wp2_with fail
      go_ret
      exact ⟨ret_u32 (K0.out c1), rfl⟩
    · go_wp2_with fail
      go_ret
      exact ⟨ret_u32 (K2.out (by omega) (by omega)), rfl⟩
theorem run_andNot {b : Int} (c : Nt) (hc : okN c) (h0 : 0 ≤ c.2) (h1 : c.2 ≤ 32) : bits .andNot .u32 (c.1 : Int) (nMask c.2 : Int) = ((c.1 % nsz c : Nat) : Int) := and_not_low c c.1 hc.1 h0 h1
/-- A world with draws and new blocks alone behind another one. -/
def Grn (w w' : World) : Prop := ∃ (q : Nat) (os : Array Obj), w' = grow (w.drewN q) os
theorem Grn.refl (w : World) : Grn w w := ⟨0, #[], by show w = grow w #[]; simp [grow]⟩
theorem Grn.alloc {w w' : World} (h : Grn w w') (o : Obj) : Grn w (w'.alloc o) := by
  obtain ⟨q, os, rfl⟩ := h
  exact ⟨q, os ++ #[o], by rw [alloc_eq_grow, grow_grow]⟩
theorem Grn.drewN {w w' : World} (h : Grn w w') (n : Nat) : Grn w (w'.drewN n) := by
  obtain ⟨q, os, rfl⟩ := h
  exact ⟨q + n, os, by simp [grow, World.drewN, Nat.add_assoc, Nat.add_comm, Nat.add_left_comm]⟩
theorem Grn.drew {w w' : World} (h : Grn w w') : Grn w w'.drew := by
  obtain ⟨q, os, rfl⟩ := h
  exact ⟨q + 1, os, rfl⟩
theorem Grn.below {w w' : World} (h : Grn w w') : Below w.heap.size w w' := by
  obtain ⟨q, os, rfl⟩ := h
  refine ⟨rfl, rfl, rfl, by simp [grow, World.drewN], fun k hk => ?_⟩
  simp [grow, World.drewN, Array.getElem?_append, hk]
theorem Grn.trans {w w' w'' : World} (h : Grn w w') (g : Grn w' w'') : Grn w w'' := by
  obtain ⟨q, os, rfl⟩ := h
  obtain ⟨r, ps, rfl⟩ := g
  exact ⟨q + r, os ++ ps, by simp [grow, World.drewN, Array.append_assoc, Nat.add_assoc, Nat.add_comm, Nat.add_left_comm]⟩
theorem box_cells (w : World) (a : Nat) (b : Int) : (w.alloc (.cells #[.int .u32 (a : Int), .int .i64 b] 29)).cell? ⟨w.heap.size, 0, none⟩ = some (.int .u32 (a : Int)) ∧ (w.alloc (.cells #[.int .u32 (a : Int), .int .i64 b] 29)).cell? ⟨w.heap.size, 1, none⟩ = some (.int .i64 b) :=
  ⟨(Blk.newAt rfl 29 #[.int .u32 (a : Int), .int .i64 b]).cell 0, (Blk.newAt rfl 29 #[.int .u32 (a : Int), .int .i64 b]).cell 1⟩
set_option maxRecDepth 100000 in
set_option maxHeartbeats 1000000 in
theorem may_any (a : Nat) (b : Int) (w : World) (hc : okN (a, b)) :
    Calls Tryz.prog 27 #[ntV a b] w fun e w' => e = .returned (.bool (nMay (a, b))) ∧ Grn w w' := by
  obtain ⟨c0, c1, c2⟩ := hc
  simp only at c0 c1 c2
  obtain ⟨r, hr⟩ : ∃ r, nMay (a, b) = r := ⟨_, rfl⟩
  have hr2 := nMay_iff (a, b)
  rw [hr] at hr2 ⊢
  simp only at hr2
  have HR := Lib.hid hr2; clear hr2 hr
  have ha : (0 : Int) ≤ (a : Int) := by omega
  unfold ntV
  go_enter Tryz.func27, Tryz.ntmps27
  go_upto_region 1 with fail
  refine abs (fun w1 => (w1.cell? ⟨w.heap.size, 0, none⟩ = some (.int .u32 (a : Int)) ∧ w1.cell? ⟨w.heap.size, 1, none⟩ = some (.int .i64 b)) ∧ Grn w w1) ⟨box_cells w a b, (Grn.refl w).alloc _⟩ ?_
  rintro w1 ⟨⟨e0, e1⟩, f1⟩
  by_cases h0 : 0 ≤ b
  · by_cases h1 : b ≤ 32
    · have d0 : decide (0 ≤ b) = true := by simp; omega
      have d1 : decide (b ≤ 32) = true := by simp; omega
      have hn := and_not_low (a, b) a c0 h0 h1
      simp only at hn
      have he : (((a % nsz (a, b) : Nat) : Int) == 0) = r := by
        rw [Bool.eq_iff_iff, HR.out, beq_iff_eq]
        omega
      generalize ((a % nsz (a, b) : Nat) : Int) = y at hn he
      go_quiet ((go_at_call 25; exact Calls.quiet_of_same ((mask_any _ _ c1 c2).mono fun _ _ ⟨h, e⟩ => ⟨h, e.symm⟩)))
      go_wp2_with fail
      go_ret
      exact ⟨rfl, f1.drewN _⟩
    · have d0 : decide (0 ≤ b) = true := by simp; omega
      have d1 : decide (b ≤ 32) = false := by simp; omega
      obtain rfl : r = false := by rw [← Bool.not_eq_true, HR.out]; omega
      go_quiet (fail)
      go_wp2_with fail
      go_ret
      exact ⟨rfl, f1.drewN _⟩
  · have d0 : decide (0 ≤ b) = false := by simp; omega
    obtain rfl : r = false := by rw [← Bool.not_eq_true, HR.out]; omega
    go_quiet (fail)
    go_wp2_with fail
    go_ret
    exact ⟨rfl, f1.drewN _⟩
theorem in_eq {a : Nat} {b : Int} {x : Nat} (hx : x < 4294967296) (h : nMay (a, b) = true) : (((x &&& nMask b : Nat) : Int) == (a : Int)) = nIn (a, b) x := by
  obtain ⟨h0, h1, _⟩ := (nMay_iff (a, b)).1 h
  have := and_mask (a, b) x hx h0 h1
  simp only at this
  rw [this]
  unfold nIn
  rw [h, Bool.true_and, Bool.eq_iff_iff, beq_iff_eq, decide_eq_true_eq]
  constructor
  · intro e; exact_mod_cast e
  · intro e; exact_mod_cast e
theorem nIn_not {a : Nat} {b : Int} {x : Nat} (h : nMay (a, b) = false) : nIn (a, b) x = false := by
  unfold nIn; rw [h, Bool.false_and]
def BxS (g a : Nat) (b : Int) (u : World) : Prop := u.cell? ⟨g, 0, none⟩ = some (.int .u32 (a : Int)) ∧ u.cell? ⟨g, 1, none⟩ = some (.int .i64 b)
theorem BxS.below {g a : Nat} {b : Int} {u v : World} (h : BxS g a b u) (hb : Below u.heap.size u v) : BxS g a b v :=
  ⟨(hb.cell (p := ⟨g, 0, none⟩) (World.block_lt_of_cell? u _ h.1)).trans h.1, (hb.cell (p := ⟨g, 1, none⟩) (World.block_lt_of_cell? u _ h.2)).trans h.2⟩
set_option maxRecDepth 100000 in
set_option maxHeartbeats 2000000 in
theorem in_any (a : Nat) (b : Int) (x : Nat) (w : World) (hc : okN (a, b)) (hx : x < 4294967296) :
    Calls Tryz.prog 28 #[ntV a b, .int .u32 (x : Int)] w fun e w' => e = .returned (.bool (nIn (a, b) x)) ∧ Grn w w' := by
  obtain ⟨c0, c1, c2⟩ := hc
  simp only at c0 c1 c2
  have hmay := fun w => may_any a b w ⟨c0, c1, c2⟩
  obtain ⟨r, hr⟩ : ∃ r, nIn (a, b) x = r := ⟨_, rfl⟩
  rw [hr]
  rcases hm : nMay (a, b) with _ | _
  · rw [nIn_not hm] at hr
    subst hr
    unfold ntV at hmay ⊢
    go_enter Tryz.func28, Tryz.ntmps28
    go_upto_region 1 with fail
    refine abs (fun w1 => (w1.cell? ⟨w.heap.size, 0, none⟩ = some (.int .u32 (a : Int)) ∧ w1.cell? ⟨w.heap.size, 1, none⟩ = some (.int .i64 b)) ∧ Grn w w1) ⟨box_cells w a b, (Grn.refl w).alloc _⟩ ?_
    rintro w1 ⟨⟨e0, e1⟩, f1⟩
    refine wp_region_order (BxS w.heap.size a b) 99 [(0,0), (1,1), (2,0), (3,0), (4,0), (5,0), (8,0), (9,0), (6,1), (7,0), (10,0), (11,0), (12,0)] (by kernel_rfl) (by kernel_rfl) ?_
    simp only [pick, List.filterMap_cons, List.filterMap_nil, List.getElem?_cons_zero, List.getElem?_cons_succ, Option.map_some]
    have hS : BxS w.heap.size a b w1.drew := ⟨e0, e1⟩
    have F1 : Grn w w1.drew := f1.drew
    clear f1
    generalize w1.drew = wd at *
    refine wpF_take (v := ?_) hS rfl ?_ (fun _ _ _ h => h) ?_
    rotate_left
    · intro w' hS'
      obtain ⟨e0, e1⟩ := hS'
      go_simp <;> rfl
    go_simp
    refine wpF_only rfl (fun K hK => ?_)
    go_wp2_with fail
    refine (hmay _).mono ?_
    rintro e w2 ⟨rfl, f2⟩
    rw [hm]
    replace hS := hS.below f2.below
    have hS2 := hS
    obtain ⟨e0, e1⟩ := hS2
    replace F1 := F1.trans f2
    go_wp2_with fail
    first | refine ⟨fun _ => hS, ?_⟩ | refine ⟨hS, ?_⟩ | skip
    go_simp
    refine wpF_take (v := ?_) hS rfl ?_ (fun _ _ _ h => h) ?_
    rotate_left
    · intro w' hS'
      obtain ⟨e0, e1⟩ := hS'
      go_simp <;> rfl
    go_simp
    refine wpF_skip hS rfl (fun _ _ _ h => h) ?_
    go_simp
    refine wpF_skip hS rfl (fun _ _ _ h => h) ?_
    go_simp
    refine wpF_skip hS rfl (fun _ _ _ h => h) ?_
    go_simp
    refine wpF_skip hS rfl (fun _ _ _ h => h) ?_
    go_simp
    refine wpF_skip hS rfl (fun _ _ _ h => h) ?_
    go_simp
    refine wpF_pass rfl (fun _ => hS) ?_
    go_simp
    refine wpF_skip hS rfl (fun _ _ _ h => h) ?_
    go_simp
    refine wpF_skip hS rfl (fun _ _ _ h => h) ?_
    go_simp
    refine wpF_take (v := ?_) hS rfl ?_ (fun _ _ _ h => h) ?_
    rotate_left
    · intro w' hS'
      obtain ⟨e0, e1⟩ := hS'
      go_simp <;> rfl
    go_simp
    refine wpF_take (v := ?_) hS rfl ?_ (fun _ _ _ h => h) ?_
    rotate_left
    · intro w' hS'
      obtain ⟨e0, e1⟩ := hS'
      go_simp <;> rfl
    go_simp
    refine wpF_nil ?_
    go_wp2_with fail
    go_ret
    exact ⟨rfl, F1⟩
  · have hn := in_eq hx hm
    rw [hr] at hn
    have hb := u32_and_n x (nMask b) hx (nMask_lt b)
    generalize ((x &&& nMask b : Nat) : Int) = y at hn hb
    clear hr
    unfold ntV at hmay ⊢
    go_enter Tryz.func28, Tryz.ntmps28
    go_upto_region 1 with fail
    refine abs (fun w1 => (w1.cell? ⟨w.heap.size, 0, none⟩ = some (.int .u32 (a : Int)) ∧ w1.cell? ⟨w.heap.size, 1, none⟩ = some (.int .i64 b)) ∧ Grn w w1) ⟨box_cells w a b, (Grn.refl w).alloc _⟩ ?_
    rintro w1 ⟨⟨e0, e1⟩, f1⟩
    refine wp_region_order (BxS w.heap.size a b) 99 [(0,0), (1,1), (2,0), (3,0), (4,0), (5,0), (8,0), (9,0), (6,1), (7,0), (10,0), (11,0), (12,0)] (by kernel_rfl) (by kernel_rfl) ?_
    simp only [pick, List.filterMap_cons, List.filterMap_nil, List.getElem?_cons_zero, List.getElem?_cons_succ, Option.map_some]
    have hS : BxS w.heap.size a b w1.drew := ⟨e0, e1⟩
    have F1 : Grn w w1.drew := f1.drew
    clear f1
    generalize w1.drew = wd at *
    refine wpF_take (v := ?_) hS rfl ?_ (fun _ _ _ h => h) ?_
    rotate_left
    · intro w' hS'
      obtain ⟨e0, e1⟩ := hS'
      go_simp <;> rfl
    go_simp
    refine wpF_only rfl (fun K hK => ?_)
    go_wp2_with fail
    refine (hmay _).mono ?_
    rintro e w2 ⟨rfl, f2⟩
    rw [hm]
    replace hS := hS.below f2.below
    have hS2 := hS
    obtain ⟨e0, e1⟩ := hS2
    replace F1 := F1.trans f2
    go_wp2_with fail
    first | refine ⟨fun _ => hS, ?_⟩ | refine ⟨hS, ?_⟩ | skip
    go_simp
    refine wpF_take (v := ?_) hS rfl ?_ (fun _ _ _ h => h) ?_
    rotate_left
    · intro w' hS'
      obtain ⟨e0, e1⟩ := hS'
      go_simp <;> rfl
    go_simp
    refine wpF_take (v := ?_) hS rfl ?_ (fun _ _ _ h => h) ?_
    rotate_left
    · intro w' hS'
      obtain ⟨e0, e1⟩ := hS'
      go_simp <;> rfl
    go_simp
    refine wpF_take (v := ?_) hS rfl ?_ (fun _ _ _ h => h) ?_
    rotate_left
    · intro w' hS'
      obtain ⟨e0, e1⟩ := hS'
      go_simp <;> rfl
    go_simp
    refine wpF_take (v := ?_) hS rfl ?_ (fun _ _ _ h => h) ?_
    rotate_left
    · intro w' hS'
      obtain ⟨e0, e1⟩ := hS'
      go_simp <;> rfl
    go_simp
    refine wpF_take (v := ?_) hS rfl ?_ (fun _ _ _ h => h) ?_
    rotate_left
    · intro w' hS'
      obtain ⟨e0, e1⟩ := hS'
      go_simp <;> rfl
    go_simp
    refine wpF_take (v := ?_) hS rfl ?_ (fun _ _ _ h => h) ?_
    rotate_left
    · intro w' hS'
      obtain ⟨e0, e1⟩ := hS'
      go_simp <;> rfl
    go_simp
    refine wpF_only rfl (fun K hK => ?_)
    go_wp2_with fail
    refine (mask_any _ _ c1 c2).mono ?_
    rintro e w2 ⟨rfl, rfl⟩
    go_wp2_with fail
    first | refine ⟨fun _ => hS, ?_⟩ | refine ⟨hS, ?_⟩ | skip
    go_simp
    refine wpF_take (v := ?_) hS rfl ?_ (fun _ _ _ h => h) ?_
    rotate_left
    · intro w' hS'
      obtain ⟨e0, e1⟩ := hS'
      go_simp <;> rfl
    go_simp
    refine wpF_take (v := ?_) hS rfl ?_ (fun _ _ _ h => h) ?_
    rotate_left
    · intro w' hS'
      obtain ⟨e0, e1⟩ := hS'
      go_simp <;> rfl
    go_simp
    refine wpF_take (v := ?_) hS rfl ?_ (fun _ _ _ h => h) ?_
    rotate_left
    · intro w' hS'
      obtain ⟨e0, e1⟩ := hS'
      go_simp <;> rfl
    go_simp
    refine wpF_take (v := ?_) hS rfl ?_ (fun _ _ _ h => h) ?_
    rotate_left
    · intro w' hS'
      obtain ⟨e0, e1⟩ := hS'
      go_simp <;> rfl
    go_simp
    refine wpF_nil ?_
    go_wp2_with fail
    go_ret
    exact ⟨rfl, F1⟩
end Go.Proofs.YtddfgalofngoiaaGreatDoor
