/- The law NameOrder, walked. No condition beyond the world's shape. -/
import Derived.Test.YtopemhdoccgjmaaNameAwake
import Derived.Test.YtopemhdoccgjmaaNameSortF
import Derived.Test.YtopemhdoccgjmaaFacts
import Derived.Test.YtopemhdoccgjmaaNamesOpen
namespace Go.Proofs.Ytopemhdoccgjmaa
open Go.RowKit
set_option linter.unusedSimpArgs false
set_option linter.unusedVariables false
set_option maxRecDepth 100000 in
set_option maxHeartbeats 8000000 in
theorem nameOrder_walk (w : World) (hL : LibW w) (A : Option Addr) (n c : Nat) (L : List Nm) (rL : RdN w w.heap.size A n L) (hnc : n ≤ c) (hcm : c ≤ maxLen) (hok : ∀ f ∈ L, f.1.length ≤ maxLen ∧ f.2.length ≤ maxLen) :
    Calls Try.prog 7 #[.slice A n c] w fun e w' => e = .returned (.bool true) ∧ Below w.heap.size w w' := by
  have hl := rL.1
  have h0 := hL.lt
  have f1 : Below w.heap.size w w := Below.refl _ _
  go_enter Try.func7, Try.ntmps7
  by_cases hn : 60 < n
  · have d1 : decide ((60 : Int) < (n : Int)) = true := by simp; omega
    go_wp2_with fail
    refine (awake5_any w (hL.below h0 f1)).mono ?_
    rintro e w9 ⟨rfl, f9⟩
    go_wp2_with fail
    go_ret
    exact ⟨rfl, f1.trans (f9.mono f1.size)⟩
  have d1 : decide ((60 : Int) < (n : Int)) = false := by simp; omega
  go_wp2_with fail
  go_loopw [3] (fun i wr => ∃ k : Nat, i = .int .i64 k ∧ k ≤ n ∧ w = wr) (fun i _ => n - (intOf i).toNat)
  case atStart => exact ⟨0, rfl, Nat.zero_le _, rfl⟩
  case round =>
    obtain ⟨k, rfl, hk, rfl⟩ := hrel
    by_cases hlt : k < n
    · have d2 : decide ((k : Int) < (n : Int)) = true := by simp; omega
      have b1 : (0 : Int) ≤ (k : Int) := by omega
      have b2 : (k : Int) < (n : Int) := by omega
      obtain ⟨bl, off, rfl, hbl, q0, q1⟩ := rL.at_ hlt
      have z0 := strB_size (nmAt L k).1
      have z1 := strB_size (nmAt L k).2
      have ho := hok (nmAt L k) (by rw [nmAt_eq (by omega)]; exact List.getElem_mem _)
      simp only [maxLen] at ho
      generalize (nmAt L k).1 = x1 at *
      generalize (nmAt L k).2 = x2 at *
      by_cases h3 : 300 < x1.length
      · have d3 : decide ((300 : Int) < (x1.length : Int)) = true := by simp; omega
        go_wp2_with fail
        refine (awake5_any w (hL.below h0 f1)).mono ?_
        rintro e w9 ⟨rfl, f9⟩
        go_wp2_with fail
        go_ret
        exact ⟨rfl, f1.trans (f9.mono f1.size)⟩
      have d3 : decide ((300 : Int) < (x1.length : Int)) = false := by simp; omega
      by_cases h4 : 300 < x2.length
      · have d4 : decide ((300 : Int) < (x2.length : Int)) = true := by simp; omega
        go_wp2_with fail
        refine (awake5_any w (hL.below h0 f1)).mono ?_
        rintro e w9 ⟨rfl, f9⟩
        go_wp2_with fail
        go_ret
        exact ⟨rfl, f1.trans (f9.mono f1.size)⟩
      have d4 : decide ((300 : Int) < (x2.length : Int)) = false := by simp; omega
      go_wp2_with fail
      go_roundw
      case rel => exact ⟨k + 1, by go_num, by omega, by trivial⟩
      case measure => simp [intOf]; omega
    · have d2 : decide ((k : Int) < (n : Int)) = false := by simp; omega
      clear d1
      go_wp2_with (first | (at_builtin; go_must (refine appendRow TN nmC_len nmC_one rfl rfl rfl (OwnR.empty (Nat.le_refl _)) rfl ((RdN_eq ▸ rL : RdR nmC 2 w w.heap.size A n L).below ((Below.refl _ w).alloc (Nat.le_refl _) _)) (by omega) (by simp only [maxLen]; omega) ((Below.refl _ w).alloc (Nat.le_refl _) _) (Nat.le_refl _) ?_); intro A' c' w1 o1 f2 _; rw [Nat.zero_add, List.nil_append] at o1; try rw [Nat.zero_add]))
      have r1 : RdN w1 w1.heap.size A' n L := o1.rd nmC_len
      refine (nameSort_any A' n c' L w1 r1 (by omega)).mono ?_
      rintro e w2 ⟨AX, m, cx, X, rfl, rX, hri, hmem, hmn, f3⟩
      have hXl := rX.1
      have HRI := Lib.hid hri; clear hri
      have HMEM := Lib.hid hmem; clear hmem
      replace f1 : Below w.heap.size w w2 := f2.trans (f3.mono f2.size)
      clear f2 f3 o1 r1 d2
      go_wp2_with fail
      go_loopw [5] (fun i wr => ∃ k : Nat, i = .int .i64 k ∧ k ≤ m ∧ RdN wr wr.heap.size AX m X ∧ Below w.heap.size w wr) (fun i _ => m - (intOf i).toNat)
      case atStart => exact ⟨0, rfl, Nat.zero_le _, rX, f1⟩
      case round =>
        clear rX f1
        obtain ⟨k, rfl, hk, rX, f1⟩ := hrel
        by_cases hlt : k < m
        · have d2 : decide ((k : Int) < (m : Int)) = true := by simp; omega
          have b1 : (0 : Int) ≤ (k : Int) := by omega
          have b2 : (k : Int) < (m : Int) := by omega
          obtain ⟨bx, ox, hAX, hbx, q0, q1⟩ := rX.at_ hlt
          have X0' := fun (u : World) (h : Below wr.heap.size wr u) => (h.cell (p := ⟨bx, ox + k * 2, none⟩) hbx).trans q0
          have X1' := fun (u : World) (h : Below wr.heap.size wr u) => (h.cell (p := ⟨bx, ox + k * 2 + 1, none⟩) hbx).trans q1
          have hm1 : nmAt X k ∈ L := (HMEM.out _).1 (by rw [nmAt_eq (by omega)]; exact List.getElem_mem _)
          obtain ⟨x1, x2, hx⟩ : ∃ a b, nmAt X k = (a, b) := ⟨_, _, rfl⟩
          rw [hx] at q0 q1 X0' X1' hm1
          have X0 : ∀ u : World, Below wr.heap.size wr u → u.cell? ⟨bx, ox + k * 2, none⟩ = some (.string (strB x1)) := X0'
          have X1 : ∀ u : World, Below wr.heap.size wr u → u.cell? ⟨bx, ox + k * 2 + 1, none⟩ = some (.string (strB x2)) := X1'
          have HM := Lib.hid hm1
          clear X0' X1' hm1 q0 q1
          by_cases hk0 : 0 < k
          · have d3 : decide ((0 : Int) < (k : Int)) = true := by simp; omega
            have d3' : decide (0 < k) = true := by simp; omega
            have b3 : (0 : Int) ≤ (k : Int) - 1 := by omega
            have b4 : (k : Int) - 1 < (m : Int) := by omega
            have e1 : ((k : Int) - 1).toNat = k - 1 := by omega
            have b5 : (1 : Int) ≤ (k : Int) := by omega
            have vw : IntKind.i64.wrap ((k : Int) - 1) = (k : Int) - 1 := IntWalk.i64_in _ (by omega)
            obtain ⟨bx', ox', hAX', _, p0, p1⟩ := rX.at_ (k := k - 1) (by omega)
            rw [hAX] at hAX'
            injection hAX' with hAX'
            injection hAX' with hb' ho' _
            subst hb' ho'
            have Y0' := fun (u : World) (h : Below wr.heap.size wr u) => (h.cell (p := ⟨bx, ox + (k - 1) * 2, none⟩) hbx).trans p0
            have Y1' := fun (u : World) (h : Below wr.heap.size wr u) => (h.cell (p := ⟨bx, ox + (k - 1) * 2 + 1, none⟩) hbx).trans p1
            have hlt' : nmLt (nmAt X (k - 1)) (nmAt X k) = true := by
              rw [nmAt_eq (by omega), nmAt_eq (by omega)]
              exact (List.pairwise_iff_getElem.1 HRI.out) (k - 1) k (by omega) (by omega) (by omega)
            obtain ⟨y1, y2, hy⟩ : ∃ a b, nmAt X (k - 1) = (a, b) := ⟨_, _, rfl⟩
            rw [hy] at p0 p1 Y0' Y1' hlt'
            rw [hx] at hlt'
            have Y0 : ∀ u : World, Below wr.heap.size wr u → u.cell? ⟨bx, ox + (k - 1) * 2, none⟩ = some (.string (strB y1)) := Y0'
            have Y1 : ∀ u : World, Below wr.heap.size wr u → u.cell? ⟨bx, ox + (k - 1) * 2 + 1, none⟩ = some (.string (strB y2)) := Y1'
            have HC := Lib.hid (show cmpN y1 y2 x1 x2 = -1 from nmCmp_lt hlt')
            clear Y0' Y1' p0 p1 hlt' hy hx
            subst hAX
            go_upto_region 12 with fail
            refine wp_region_facts (fun u => Below wr.heap.size wr u) [
                fun v _ => v = .int .i64 (k : Int),
                fun v _ => v = .bool true,
                fun v _ => v = .bool true,
                fun v _ => v = .slice (some ⟨bx, ox, none⟩) m cx,
                fun v _ => v = .int .i64 (k : Int),
                fun v _ => v = .int .i64 ((k : Int) - 1),
                fun v _ => v = .pointer (some ⟨bx, ox + (k - 1) * 2, none⟩),
                fun v _ => v = .agg #[.string (strB y1), .string (strB y2)],
                fun v _ => v = .slice (some ⟨bx, ox, none⟩) m cx,
                fun v _ => v = .int .i64 (k : Int),
                fun v _ => v = .pointer (some ⟨bx, ox + k * 2, none⟩),
                fun v _ => v = .agg #[.string (strB x1), .string (strB x2)],
                fun v _ => v = .int .i64 (-1),
                fun v _ => v = .bool false,
                fun v _ => v = .bool false,
                fun v _ => v = .bool false,
                fun v _ => v = .slice A n c,
                fun v _ => v = .slice (some ⟨bx, ox, none⟩) m cx,
                fun v _ => v = .int .i64 (k : Int),
                fun v _ => v = .pointer (some ⟨bx, ox + k * 2, none⟩),
                fun v _ => v = .agg #[.string (strB x1), .string (strB x2)],
                fun v _ => v = .bool true,
                fun v _ => v = .bool false,
                fun v _ => v = .bool false] (fun u u' => Below u.heap.size u u')
                [[], [0], [1], [2], [2], [2, 4], [2, 3, 5], [2, 6], [2], [2], [2, 8, 9], [2, 10], [2, 7, 11], [2, 12], [2, 13], [14], [15], [15], [15], [15, 17, 18], [15, 19], [15, 16, 20], [15, 21], [15, 22]] []
                (by kernel_rfl) (by kernel_rfl) ?_ (fun _ _ _ _ _ h => h) ((Below.refl _ _).drew) ?_ ?_
            · refine hE_of (fun u u' h f => f.trans (h.mono f.size)) ?_
              repeat' (first | exact mono_nil | refine mono_cons (fun v u u' h => ?_) ?_)
              all_goals exact _root_.id
            ·
              refine owed_cons (fun vs u hS hD N => ?_) ?_
              · clear hD
                intro hN
                simp only [fact, layAt, depOn, dstOf, List.map_cons, List.map_nil, List.foldl_cons, List.foldl_nil, List.getD_cons_zero, List.getD_cons_succ, List.getElem?_cons_zero, List.getElem?_cons_succ, Option.bind_some] at hN ⊢
                go_simp
                have hh := hN _ _ rfl (.inl (Below.refl _ _))
                revert hh
                go_simp
              refine owed_cons (fun vs u hS hD N => ?_) ?_
              · have d0 := hD 0 (by decide)
                simp only [fact, layAt, depOn, dstOf, List.map_cons, List.map_nil, List.foldl_cons, List.foldl_nil, List.getD_cons_zero, List.getD_cons_succ, List.getElem?_cons_zero, List.getElem?_cons_succ, Option.bind_some] at d0
                clear hD
                intro hN
                simp only [fact, layAt, depOn, dstOf, List.map_cons, List.map_nil, List.foldl_cons, List.foldl_nil, List.getD_cons_zero, List.getD_cons_succ, List.getElem?_cons_zero, List.getElem?_cons_succ, Option.bind_some, d0] at hN ⊢
                go_simp
                have hh := hN _ _ rfl (.inl (Below.refl _ _))
                revert hh
                go_simp
              refine owed_cons (fun vs u hS hD N => ?_) ?_
              · have d1 := hD 1 (by decide)
                simp only [fact, layAt, depOn, dstOf, List.map_cons, List.map_nil, List.foldl_cons, List.foldl_nil, List.getD_cons_zero, List.getD_cons_succ, List.getElem?_cons_zero, List.getElem?_cons_succ, Option.bind_some] at d1
                clear hD
                intro hN
                simp only [fact, layAt, depOn, dstOf, List.map_cons, List.map_nil, List.foldl_cons, List.foldl_nil, List.getD_cons_zero, List.getD_cons_succ, List.getElem?_cons_zero, List.getElem?_cons_succ, Option.bind_some, d1] at hN ⊢
                go_simp
                have hh := hN _ _ rfl (.inl (Below.refl _ _))
                revert hh
                go_simp
              refine owed_cons (fun vs u hS hD N => ?_) ?_
              · have d2 := hD 2 (by decide)
                simp only [fact, layAt, depOn, dstOf, List.map_cons, List.map_nil, List.foldl_cons, List.foldl_nil, List.getD_cons_zero, List.getD_cons_succ, List.getElem?_cons_zero, List.getElem?_cons_succ, Option.bind_some] at d2
                clear hD
                intro hN
                simp only [fact, layAt, depOn, dstOf, List.map_cons, List.map_nil, List.foldl_cons, List.foldl_nil, List.getD_cons_zero, List.getD_cons_succ, List.getElem?_cons_zero, List.getElem?_cons_succ, Option.bind_some, d2] at hN ⊢
                go_simp
                have hh := hN _ _ rfl (.inl (Below.refl _ _))
                revert hh
                go_simp
              refine owed_cons (fun vs u hS hD N => ?_) ?_
              · have d2 := hD 2 (by decide)
                simp only [fact, layAt, depOn, dstOf, List.map_cons, List.map_nil, List.foldl_cons, List.foldl_nil, List.getD_cons_zero, List.getD_cons_succ, List.getElem?_cons_zero, List.getElem?_cons_succ, Option.bind_some] at d2
                clear hD
                intro hN
                simp only [fact, layAt, depOn, dstOf, List.map_cons, List.map_nil, List.foldl_cons, List.foldl_nil, List.getD_cons_zero, List.getD_cons_succ, List.getElem?_cons_zero, List.getElem?_cons_succ, Option.bind_some, d2] at hN ⊢
                go_simp
                have hh := hN _ _ rfl (.inl (Below.refl _ _))
                revert hh
                go_simp
              refine owed_cons (fun vs u hS hD N => ?_) ?_
              · have d2 := hD 2 (by decide)
                simp only [fact, layAt, depOn, dstOf, List.map_cons, List.map_nil, List.foldl_cons, List.foldl_nil, List.getD_cons_zero, List.getD_cons_succ, List.getElem?_cons_zero, List.getElem?_cons_succ, Option.bind_some] at d2
                have d4 := hD 4 (by decide)
                simp only [fact, layAt, depOn, dstOf, List.map_cons, List.map_nil, List.foldl_cons, List.foldl_nil, List.getD_cons_zero, List.getD_cons_succ, List.getElem?_cons_zero, List.getElem?_cons_succ, Option.bind_some] at d4
                clear hD
                intro hN
                simp only [fact, layAt, depOn, dstOf, List.map_cons, List.map_nil, List.foldl_cons, List.foldl_nil, List.getD_cons_zero, List.getD_cons_succ, List.getElem?_cons_zero, List.getElem?_cons_succ, Option.bind_some, d2, d4] at hN ⊢
                go_simp
                have hh := hN _ _ rfl (.inl (Below.refl _ _))
                revert hh
                go_simp
              refine owed_cons (fun vs u hS hD N => ?_) ?_
              · have d2 := hD 2 (by decide)
                simp only [fact, layAt, depOn, dstOf, List.map_cons, List.map_nil, List.foldl_cons, List.foldl_nil, List.getD_cons_zero, List.getD_cons_succ, List.getElem?_cons_zero, List.getElem?_cons_succ, Option.bind_some] at d2
                have d3 := hD 3 (by decide)
                simp only [fact, layAt, depOn, dstOf, List.map_cons, List.map_nil, List.foldl_cons, List.foldl_nil, List.getD_cons_zero, List.getD_cons_succ, List.getElem?_cons_zero, List.getElem?_cons_succ, Option.bind_some] at d3
                have d5 := hD 5 (by decide)
                simp only [fact, layAt, depOn, dstOf, List.map_cons, List.map_nil, List.foldl_cons, List.foldl_nil, List.getD_cons_zero, List.getD_cons_succ, List.getElem?_cons_zero, List.getElem?_cons_succ, Option.bind_some] at d5
                clear hD
                intro hN
                simp only [fact, layAt, depOn, dstOf, List.map_cons, List.map_nil, List.foldl_cons, List.foldl_nil, List.getD_cons_zero, List.getD_cons_succ, List.getElem?_cons_zero, List.getElem?_cons_succ, Option.bind_some, d2, d3, d5] at hN ⊢
                go_simp
                have hh := hN _ _ rfl (.inl (Below.refl _ _))
                revert hh
                go_simp
              refine owed_cons (fun vs u hS hD N => ?_) ?_
              · have d2 := hD 2 (by decide)
                simp only [fact, layAt, depOn, dstOf, List.map_cons, List.map_nil, List.foldl_cons, List.foldl_nil, List.getD_cons_zero, List.getD_cons_succ, List.getElem?_cons_zero, List.getElem?_cons_succ, Option.bind_some] at d2
                have d6 := hD 6 (by decide)
                simp only [fact, layAt, depOn, dstOf, List.map_cons, List.map_nil, List.foldl_cons, List.foldl_nil, List.getD_cons_zero, List.getD_cons_succ, List.getElem?_cons_zero, List.getElem?_cons_succ, Option.bind_some] at d6
                clear hD
                intro hN
                simp only [fact, layAt, depOn, dstOf, List.map_cons, List.map_nil, List.foldl_cons, List.foldl_nil, List.getD_cons_zero, List.getD_cons_succ, List.getElem?_cons_zero, List.getElem?_cons_succ, Option.bind_some, d2, d6] at hN ⊢
                go_simp
                have y0 := Y0 _ hS
                have y1 := Y1 _ hS
                go_simp
                have hh := hN _ _ rfl (.inl (Below.refl _ _))
                revert hh
                go_simp
              refine owed_cons (fun vs u hS hD N => ?_) ?_
              · have d2 := hD 2 (by decide)
                simp only [fact, layAt, depOn, dstOf, List.map_cons, List.map_nil, List.foldl_cons, List.foldl_nil, List.getD_cons_zero, List.getD_cons_succ, List.getElem?_cons_zero, List.getElem?_cons_succ, Option.bind_some] at d2
                clear hD
                intro hN
                simp only [fact, layAt, depOn, dstOf, List.map_cons, List.map_nil, List.foldl_cons, List.foldl_nil, List.getD_cons_zero, List.getD_cons_succ, List.getElem?_cons_zero, List.getElem?_cons_succ, Option.bind_some, d2] at hN ⊢
                go_simp
                have hh := hN _ _ rfl (.inl (Below.refl _ _))
                revert hh
                go_simp
              refine owed_cons (fun vs u hS hD N => ?_) ?_
              · have d2 := hD 2 (by decide)
                simp only [fact, layAt, depOn, dstOf, List.map_cons, List.map_nil, List.foldl_cons, List.foldl_nil, List.getD_cons_zero, List.getD_cons_succ, List.getElem?_cons_zero, List.getElem?_cons_succ, Option.bind_some] at d2
                clear hD
                intro hN
                simp only [fact, layAt, depOn, dstOf, List.map_cons, List.map_nil, List.foldl_cons, List.foldl_nil, List.getD_cons_zero, List.getD_cons_succ, List.getElem?_cons_zero, List.getElem?_cons_succ, Option.bind_some, d2] at hN ⊢
                go_simp
                have hh := hN _ _ rfl (.inl (Below.refl _ _))
                revert hh
                go_simp
              refine owed_cons (fun vs u hS hD N => ?_) ?_
              · have d2 := hD 2 (by decide)
                simp only [fact, layAt, depOn, dstOf, List.map_cons, List.map_nil, List.foldl_cons, List.foldl_nil, List.getD_cons_zero, List.getD_cons_succ, List.getElem?_cons_zero, List.getElem?_cons_succ, Option.bind_some] at d2
                have d8 := hD 8 (by decide)
                simp only [fact, layAt, depOn, dstOf, List.map_cons, List.map_nil, List.foldl_cons, List.foldl_nil, List.getD_cons_zero, List.getD_cons_succ, List.getElem?_cons_zero, List.getElem?_cons_succ, Option.bind_some] at d8
                have d9 := hD 9 (by decide)
                simp only [fact, layAt, depOn, dstOf, List.map_cons, List.map_nil, List.foldl_cons, List.foldl_nil, List.getD_cons_zero, List.getD_cons_succ, List.getElem?_cons_zero, List.getElem?_cons_succ, Option.bind_some] at d9
                clear hD
                intro hN
                simp only [fact, layAt, depOn, dstOf, List.map_cons, List.map_nil, List.foldl_cons, List.foldl_nil, List.getD_cons_zero, List.getD_cons_succ, List.getElem?_cons_zero, List.getElem?_cons_succ, Option.bind_some, d2, d8, d9] at hN ⊢
                go_simp
                have hh := hN _ _ rfl (.inl (Below.refl _ _))
                revert hh
                go_simp
              refine owed_cons (fun vs u hS hD N => ?_) ?_
              · have d2 := hD 2 (by decide)
                simp only [fact, layAt, depOn, dstOf, List.map_cons, List.map_nil, List.foldl_cons, List.foldl_nil, List.getD_cons_zero, List.getD_cons_succ, List.getElem?_cons_zero, List.getElem?_cons_succ, Option.bind_some] at d2
                have d10 := hD 10 (by decide)
                simp only [fact, layAt, depOn, dstOf, List.map_cons, List.map_nil, List.foldl_cons, List.foldl_nil, List.getD_cons_zero, List.getD_cons_succ, List.getElem?_cons_zero, List.getElem?_cons_succ, Option.bind_some] at d10
                clear hD
                intro hN
                simp only [fact, layAt, depOn, dstOf, List.map_cons, List.map_nil, List.foldl_cons, List.foldl_nil, List.getD_cons_zero, List.getD_cons_succ, List.getElem?_cons_zero, List.getElem?_cons_succ, Option.bind_some, d2, d10] at hN ⊢
                go_simp
                have x0 := X0 _ hS
                have x1 := X1 _ hS
                go_simp
                have hh := hN _ _ rfl (.inl (Below.refl _ _))
                revert hh
                go_simp
              refine owed_cons (fun vs u hS hD N => ?_) ?_
              · have d2 := hD 2 (by decide)
                simp only [fact, layAt, depOn, dstOf, List.map_cons, List.map_nil, List.foldl_cons, List.foldl_nil, List.getD_cons_zero, List.getD_cons_succ, List.getElem?_cons_zero, List.getElem?_cons_succ, Option.bind_some] at d2
                have d7 := hD 7 (by decide)
                simp only [fact, layAt, depOn, dstOf, List.map_cons, List.map_nil, List.foldl_cons, List.foldl_nil, List.getD_cons_zero, List.getD_cons_succ, List.getElem?_cons_zero, List.getElem?_cons_succ, Option.bind_some] at d7
                have d11 := hD 11 (by decide)
                simp only [fact, layAt, depOn, dstOf, List.map_cons, List.map_nil, List.foldl_cons, List.foldl_nil, List.getD_cons_zero, List.getD_cons_succ, List.getElem?_cons_zero, List.getElem?_cons_succ, Option.bind_some] at d11
                clear hD
                intro hN
                simp only [fact, layAt, depOn, dstOf, List.map_cons, List.map_nil, List.foldl_cons, List.foldl_nil, List.getD_cons_zero, List.getD_cons_succ, List.getElem?_cons_zero, List.getElem?_cons_succ, Option.bind_some, d2, d7, d11] at hN ⊢
                go_simp
                refine (cmp_any y1 y2 x1 x2 u).mono ?_
                rintro e u' ⟨rfl, f⟩
                rw [HC.out]
                have hh := hN _ _ rfl (.inl f)
                revert hh
                go_simp
              refine owed_cons (fun vs u hS hD N => ?_) ?_
              · have d2 := hD 2 (by decide)
                simp only [fact, layAt, depOn, dstOf, List.map_cons, List.map_nil, List.foldl_cons, List.foldl_nil, List.getD_cons_zero, List.getD_cons_succ, List.getElem?_cons_zero, List.getElem?_cons_succ, Option.bind_some] at d2
                have d12 := hD 12 (by decide)
                simp only [fact, layAt, depOn, dstOf, List.map_cons, List.map_nil, List.foldl_cons, List.foldl_nil, List.getD_cons_zero, List.getD_cons_succ, List.getElem?_cons_zero, List.getElem?_cons_succ, Option.bind_some] at d12
                clear hD
                intro hN
                simp only [fact, layAt, depOn, dstOf, List.map_cons, List.map_nil, List.foldl_cons, List.foldl_nil, List.getD_cons_zero, List.getD_cons_succ, List.getElem?_cons_zero, List.getElem?_cons_succ, Option.bind_some, d2, d12] at hN ⊢
                go_simp
                have hh := hN _ _ rfl (.inl (Below.refl _ _))
                revert hh
                go_simp
              refine owed_cons (fun vs u hS hD N => ?_) ?_
              · have d2 := hD 2 (by decide)
                simp only [fact, layAt, depOn, dstOf, List.map_cons, List.map_nil, List.foldl_cons, List.foldl_nil, List.getD_cons_zero, List.getD_cons_succ, List.getElem?_cons_zero, List.getElem?_cons_succ, Option.bind_some] at d2
                have d13 := hD 13 (by decide)
                simp only [fact, layAt, depOn, dstOf, List.map_cons, List.map_nil, List.foldl_cons, List.foldl_nil, List.getD_cons_zero, List.getD_cons_succ, List.getElem?_cons_zero, List.getElem?_cons_succ, Option.bind_some] at d13
                clear hD
                intro hN
                simp only [fact, layAt, depOn, dstOf, List.map_cons, List.map_nil, List.foldl_cons, List.foldl_nil, List.getD_cons_zero, List.getD_cons_succ, List.getElem?_cons_zero, List.getElem?_cons_succ, Option.bind_some, d2, d13] at hN ⊢
                go_simp
                have hh := hN _ _ rfl (.inl (Below.refl _ _))
                revert hh
                go_simp
              refine owed_cons (fun vs u hS hD N => ?_) ?_
              · have d14 := hD 14 (by decide)
                simp only [fact, layAt, depOn, dstOf, List.map_cons, List.map_nil, List.foldl_cons, List.foldl_nil, List.getD_cons_zero, List.getD_cons_succ, List.getElem?_cons_zero, List.getElem?_cons_succ, Option.bind_some] at d14
                clear hD
                intro hN
                simp only [fact, layAt, depOn, dstOf, List.map_cons, List.map_nil, List.foldl_cons, List.foldl_nil, List.getD_cons_zero, List.getD_cons_succ, List.getElem?_cons_zero, List.getElem?_cons_succ, Option.bind_some, d14] at hN ⊢
                go_simp
                have hh := hN _ _ rfl (.inl (Below.refl _ _))
                revert hh
                go_simp
              refine owed_cons (fun vs u hS hD N => ?_) ?_
              · have d15 := hD 15 (by decide)
                simp only [fact, layAt, depOn, dstOf, List.map_cons, List.map_nil, List.foldl_cons, List.foldl_nil, List.getD_cons_zero, List.getD_cons_succ, List.getElem?_cons_zero, List.getElem?_cons_succ, Option.bind_some] at d15
                clear hD
                intro hN
                simp only [fact, layAt, depOn, dstOf, List.map_cons, List.map_nil, List.foldl_cons, List.foldl_nil, List.getD_cons_zero, List.getD_cons_succ, List.getElem?_cons_zero, List.getElem?_cons_succ, Option.bind_some, d15] at hN ⊢
                go_simp
                have hh := hN _ _ rfl (.inl (Below.refl _ _))
                revert hh
                go_simp
              refine owed_cons (fun vs u hS hD N => ?_) ?_
              · have d15 := hD 15 (by decide)
                simp only [fact, layAt, depOn, dstOf, List.map_cons, List.map_nil, List.foldl_cons, List.foldl_nil, List.getD_cons_zero, List.getD_cons_succ, List.getElem?_cons_zero, List.getElem?_cons_succ, Option.bind_some] at d15
                clear hD
                intro hN
                simp only [fact, layAt, depOn, dstOf, List.map_cons, List.map_nil, List.foldl_cons, List.foldl_nil, List.getD_cons_zero, List.getD_cons_succ, List.getElem?_cons_zero, List.getElem?_cons_succ, Option.bind_some, d15] at hN ⊢
                go_simp
                have hh := hN _ _ rfl (.inl (Below.refl _ _))
                revert hh
                go_simp
              refine owed_cons (fun vs u hS hD N => ?_) ?_
              · have d15 := hD 15 (by decide)
                simp only [fact, layAt, depOn, dstOf, List.map_cons, List.map_nil, List.foldl_cons, List.foldl_nil, List.getD_cons_zero, List.getD_cons_succ, List.getElem?_cons_zero, List.getElem?_cons_succ, Option.bind_some] at d15
                clear hD
                intro hN
                simp only [fact, layAt, depOn, dstOf, List.map_cons, List.map_nil, List.foldl_cons, List.foldl_nil, List.getD_cons_zero, List.getD_cons_succ, List.getElem?_cons_zero, List.getElem?_cons_succ, Option.bind_some, d15] at hN ⊢
                go_simp
                have hh := hN _ _ rfl (.inl (Below.refl _ _))
                revert hh
                go_simp
              refine owed_cons (fun vs u hS hD N => ?_) ?_
              · have d15 := hD 15 (by decide)
                simp only [fact, layAt, depOn, dstOf, List.map_cons, List.map_nil, List.foldl_cons, List.foldl_nil, List.getD_cons_zero, List.getD_cons_succ, List.getElem?_cons_zero, List.getElem?_cons_succ, Option.bind_some] at d15
                have d17 := hD 17 (by decide)
                simp only [fact, layAt, depOn, dstOf, List.map_cons, List.map_nil, List.foldl_cons, List.foldl_nil, List.getD_cons_zero, List.getD_cons_succ, List.getElem?_cons_zero, List.getElem?_cons_succ, Option.bind_some] at d17
                have d18 := hD 18 (by decide)
                simp only [fact, layAt, depOn, dstOf, List.map_cons, List.map_nil, List.foldl_cons, List.foldl_nil, List.getD_cons_zero, List.getD_cons_succ, List.getElem?_cons_zero, List.getElem?_cons_succ, Option.bind_some] at d18
                clear hD
                intro hN
                simp only [fact, layAt, depOn, dstOf, List.map_cons, List.map_nil, List.foldl_cons, List.foldl_nil, List.getD_cons_zero, List.getD_cons_succ, List.getElem?_cons_zero, List.getElem?_cons_succ, Option.bind_some, d15, d17, d18] at hN ⊢
                go_simp
                have hh := hN _ _ rfl (.inl (Below.refl _ _))
                revert hh
                go_simp
              refine owed_cons (fun vs u hS hD N => ?_) ?_
              · have d15 := hD 15 (by decide)
                simp only [fact, layAt, depOn, dstOf, List.map_cons, List.map_nil, List.foldl_cons, List.foldl_nil, List.getD_cons_zero, List.getD_cons_succ, List.getElem?_cons_zero, List.getElem?_cons_succ, Option.bind_some] at d15
                have d19 := hD 19 (by decide)
                simp only [fact, layAt, depOn, dstOf, List.map_cons, List.map_nil, List.foldl_cons, List.foldl_nil, List.getD_cons_zero, List.getD_cons_succ, List.getElem?_cons_zero, List.getElem?_cons_succ, Option.bind_some] at d19
                clear hD
                intro hN
                simp only [fact, layAt, depOn, dstOf, List.map_cons, List.map_nil, List.foldl_cons, List.foldl_nil, List.getD_cons_zero, List.getD_cons_succ, List.getElem?_cons_zero, List.getElem?_cons_succ, Option.bind_some, d15, d19] at hN ⊢
                go_simp
                have x0 := X0 _ hS
                have x1 := X1 _ hS
                go_simp
                have hh := hN _ _ rfl (.inl (Below.refl _ _))
                revert hh
                go_simp
              refine owed_cons (fun vs u hS hD N => ?_) ?_
              · have d15 := hD 15 (by decide)
                simp only [fact, layAt, depOn, dstOf, List.map_cons, List.map_nil, List.foldl_cons, List.foldl_nil, List.getD_cons_zero, List.getD_cons_succ, List.getElem?_cons_zero, List.getElem?_cons_succ, Option.bind_some] at d15
                have d16 := hD 16 (by decide)
                simp only [fact, layAt, depOn, dstOf, List.map_cons, List.map_nil, List.foldl_cons, List.foldl_nil, List.getD_cons_zero, List.getD_cons_succ, List.getElem?_cons_zero, List.getElem?_cons_succ, Option.bind_some] at d16
                have d20 := hD 20 (by decide)
                simp only [fact, layAt, depOn, dstOf, List.map_cons, List.map_nil, List.foldl_cons, List.foldl_nil, List.getD_cons_zero, List.getD_cons_succ, List.getElem?_cons_zero, List.getElem?_cons_succ, Option.bind_some] at d20
                clear hD
                intro hN
                simp only [fact, layAt, depOn, dstOf, List.map_cons, List.map_nil, List.foldl_cons, List.foldl_nil, List.getD_cons_zero, List.getD_cons_succ, List.getElem?_cons_zero, List.getElem?_cons_succ, Option.bind_some, d15, d16, d20] at hN ⊢
                go_simp
                refine (has_any A n c L x1 x2 u (((rL.below f1).below (hS.mono f1.size)).more (Nat.le_trans f1.size hS.size)) (by omega)).mono ?_
                rintro e u' ⟨rfl, f⟩
                rw [decide_eq_true HM.out]
                have hh := hN _ _ rfl (.inl f)
                revert hh
                go_simp
              refine owed_cons (fun vs u hS hD N => ?_) ?_
              · have d15 := hD 15 (by decide)
                simp only [fact, layAt, depOn, dstOf, List.map_cons, List.map_nil, List.foldl_cons, List.foldl_nil, List.getD_cons_zero, List.getD_cons_succ, List.getElem?_cons_zero, List.getElem?_cons_succ, Option.bind_some] at d15
                have d21 := hD 21 (by decide)
                simp only [fact, layAt, depOn, dstOf, List.map_cons, List.map_nil, List.foldl_cons, List.foldl_nil, List.getD_cons_zero, List.getD_cons_succ, List.getElem?_cons_zero, List.getElem?_cons_succ, Option.bind_some] at d21
                clear hD
                intro hN
                simp only [fact, layAt, depOn, dstOf, List.map_cons, List.map_nil, List.foldl_cons, List.foldl_nil, List.getD_cons_zero, List.getD_cons_succ, List.getElem?_cons_zero, List.getElem?_cons_succ, Option.bind_some, d15, d21] at hN ⊢
                go_simp
                have hh := hN _ _ rfl (.inl (Below.refl _ _))
                revert hh
                go_simp
              refine owed_cons (fun vs u hS hD N => ?_) ?_
              · have d15 := hD 15 (by decide)
                simp only [fact, layAt, depOn, dstOf, List.map_cons, List.map_nil, List.foldl_cons, List.foldl_nil, List.getD_cons_zero, List.getD_cons_succ, List.getElem?_cons_zero, List.getElem?_cons_succ, Option.bind_some] at d15
                have d22 := hD 22 (by decide)
                simp only [fact, layAt, depOn, dstOf, List.map_cons, List.map_nil, List.foldl_cons, List.foldl_nil, List.getD_cons_zero, List.getD_cons_succ, List.getElem?_cons_zero, List.getElem?_cons_succ, Option.bind_some] at d22
                clear hD
                intro hN
                simp only [fact, layAt, depOn, dstOf, List.map_cons, List.map_nil, List.foldl_cons, List.foldl_nil, List.getD_cons_zero, List.getD_cons_succ, List.getElem?_cons_zero, List.getElem?_cons_succ, Option.bind_some, d15, d22] at hN ⊢
                go_simp
                have hh := hN _ _ rfl (.inl (Below.refl _ _))
                revert hh
                go_simp
              exact owed_nil
            ·
              intro vs u hS hF
              have d23 := hF 23 (by decide) (by decide)
              simp only [fact, layAt, depOn, dstOf, List.map_cons, List.map_nil, List.foldl_cons, List.foldl_nil, List.getD_cons_zero, List.getD_cons_succ, List.getElem?_cons_zero, List.getElem?_cons_succ, Option.bind_some] at d23
              clear hF
              simp only [List.length_cons, List.length_nil, Nat.reduceAdd, List.range, List.range.loop, fact, layAt, depOn, dstOf, List.map_cons, List.map_nil, List.foldl_cons, List.foldl_nil, List.getD_cons_zero, List.getD_cons_succ, List.getElem?_cons_zero, List.getElem?_cons_succ, Option.bind_some, d23]
              go_simp
              replace f1 := f1.trans (hS.mono f1.size)
              replace rX := (rX.below hS).more hS.size
              go_wp2_with fail
              go_roundw
              case rel => exact ⟨k + 1, by go_num, by omega, rX, f1⟩
              case measure => simp [intOf]; omega
          · have d3 : decide ((0 : Int) < (k : Int)) = false := by simp; omega
            have d3' : decide (0 < k) = false := by simp; omega
            clear hx
            subst hAX
            go_upto_region 12 with fail
            refine wp_region_facts (fun u => Below wr.heap.size wr u) [
                fun v _ => v = .int .i64 (k : Int),
                fun v _ => v = .bool false,
                fun v _ => v = .bool false,
                fun v _ => v = undef,
                fun v _ => v = undef,
                fun v _ => v = undef,
                fun v _ => v = undef,
                fun v _ => v = undef,
                fun v _ => v = undef,
                fun v _ => v = undef,
                fun v _ => v = undef,
                fun v _ => v = undef,
                fun v _ => v = undef,
                fun v _ => v = undef,
                fun v _ => v = .bool false,
                fun v _ => v = .bool false,
                fun v _ => v = .slice A n c,
                fun v _ => v = .slice (some ⟨bx, ox, none⟩) m cx,
                fun v _ => v = .int .i64 (k : Int),
                fun v _ => v = .pointer (some ⟨bx, ox + k * 2, none⟩),
                fun v _ => v = .agg #[.string (strB x1), .string (strB x2)],
                fun v _ => v = .bool true,
                fun v _ => v = .bool false,
                fun v _ => v = .bool false] (fun u u' => Below u.heap.size u u')
                [[], [0], [1], [2], [2], [2, 4], [2, 3, 5], [2, 6], [2], [2], [2, 8, 9], [2, 10], [2, 7, 11], [2, 12], [2, 13], [14], [15], [15], [15], [15, 17, 18], [15, 19], [15, 16, 20], [15, 21], [15, 22]] []
                (by kernel_rfl) (by kernel_rfl) ?_ (fun _ _ _ _ _ h => h) ((Below.refl _ _).drew) ?_ ?_
            · refine hE_of (fun u u' h f => f.trans (h.mono f.size)) ?_
              repeat' (first | exact mono_nil | refine mono_cons (fun v u u' h => ?_) ?_)
              all_goals exact _root_.id
            ·
              refine owed_cons (fun vs u hS hD N => ?_) ?_
              · clear hD
                intro hN
                simp only [fact, layAt, depOn, dstOf, List.map_cons, List.map_nil, List.foldl_cons, List.foldl_nil, List.getD_cons_zero, List.getD_cons_succ, List.getElem?_cons_zero, List.getElem?_cons_succ, Option.bind_some] at hN ⊢
                go_simp
                have hh := hN _ _ rfl (.inl (Below.refl _ _))
                revert hh
                go_simp
              refine owed_cons (fun vs u hS hD N => ?_) ?_
              · have d0 := hD 0 (by decide)
                simp only [fact, layAt, depOn, dstOf, List.map_cons, List.map_nil, List.foldl_cons, List.foldl_nil, List.getD_cons_zero, List.getD_cons_succ, List.getElem?_cons_zero, List.getElem?_cons_succ, Option.bind_some] at d0
                clear hD
                intro hN
                simp only [fact, layAt, depOn, dstOf, List.map_cons, List.map_nil, List.foldl_cons, List.foldl_nil, List.getD_cons_zero, List.getD_cons_succ, List.getElem?_cons_zero, List.getElem?_cons_succ, Option.bind_some, d0] at hN ⊢
                go_simp
                have hh := hN _ _ rfl (.inl (Below.refl _ _))
                revert hh
                go_simp
              refine owed_cons (fun vs u hS hD N => ?_) ?_
              · have d1 := hD 1 (by decide)
                simp only [fact, layAt, depOn, dstOf, List.map_cons, List.map_nil, List.foldl_cons, List.foldl_nil, List.getD_cons_zero, List.getD_cons_succ, List.getElem?_cons_zero, List.getElem?_cons_succ, Option.bind_some] at d1
                clear hD
                intro hN
                simp only [fact, layAt, depOn, dstOf, List.map_cons, List.map_nil, List.foldl_cons, List.foldl_nil, List.getD_cons_zero, List.getD_cons_succ, List.getElem?_cons_zero, List.getElem?_cons_succ, Option.bind_some, d1] at hN ⊢
                go_simp
                have hh := hN _ _ rfl (.inl (Below.refl _ _))
                revert hh
                go_simp
              refine owed_cons (fun vs u hS hD N => ?_) ?_
              · have d2 := hD 2 (by decide)
                simp only [fact, layAt, depOn, dstOf, List.map_cons, List.map_nil, List.foldl_cons, List.foldl_nil, List.getD_cons_zero, List.getD_cons_succ, List.getElem?_cons_zero, List.getElem?_cons_succ, Option.bind_some] at d2
                clear hD
                intro hN
                simp only [fact, layAt, depOn, dstOf, List.map_cons, List.map_nil, List.foldl_cons, List.foldl_nil, List.getD_cons_zero, List.getD_cons_succ, List.getElem?_cons_zero, List.getElem?_cons_succ, Option.bind_some, d2] at hN ⊢
                go_simp
                have hh := hN _ _ rfl (.inl (Below.refl _ _))
                revert hh
                go_simp
              refine owed_cons (fun vs u hS hD N => ?_) ?_
              · have d2 := hD 2 (by decide)
                simp only [fact, layAt, depOn, dstOf, List.map_cons, List.map_nil, List.foldl_cons, List.foldl_nil, List.getD_cons_zero, List.getD_cons_succ, List.getElem?_cons_zero, List.getElem?_cons_succ, Option.bind_some] at d2
                clear hD
                intro hN
                simp only [fact, layAt, depOn, dstOf, List.map_cons, List.map_nil, List.foldl_cons, List.foldl_nil, List.getD_cons_zero, List.getD_cons_succ, List.getElem?_cons_zero, List.getElem?_cons_succ, Option.bind_some, d2] at hN ⊢
                go_simp
                have hh := hN _ _ rfl (.inl (Below.refl _ _))
                revert hh
                go_simp
              refine owed_cons (fun vs u hS hD N => ?_) ?_
              · have d2 := hD 2 (by decide)
                simp only [fact, layAt, depOn, dstOf, List.map_cons, List.map_nil, List.foldl_cons, List.foldl_nil, List.getD_cons_zero, List.getD_cons_succ, List.getElem?_cons_zero, List.getElem?_cons_succ, Option.bind_some] at d2
                have d4 := hD 4 (by decide)
                simp only [fact, layAt, depOn, dstOf, List.map_cons, List.map_nil, List.foldl_cons, List.foldl_nil, List.getD_cons_zero, List.getD_cons_succ, List.getElem?_cons_zero, List.getElem?_cons_succ, Option.bind_some] at d4
                clear hD
                intro hN
                simp only [fact, layAt, depOn, dstOf, List.map_cons, List.map_nil, List.foldl_cons, List.foldl_nil, List.getD_cons_zero, List.getD_cons_succ, List.getElem?_cons_zero, List.getElem?_cons_succ, Option.bind_some, d2, d4] at hN ⊢
                go_simp
                have hh := hN _ _ rfl (.inl (Below.refl _ _))
                revert hh
                go_simp
              refine owed_cons (fun vs u hS hD N => ?_) ?_
              · have d2 := hD 2 (by decide)
                simp only [fact, layAt, depOn, dstOf, List.map_cons, List.map_nil, List.foldl_cons, List.foldl_nil, List.getD_cons_zero, List.getD_cons_succ, List.getElem?_cons_zero, List.getElem?_cons_succ, Option.bind_some] at d2
                have d3 := hD 3 (by decide)
                simp only [fact, layAt, depOn, dstOf, List.map_cons, List.map_nil, List.foldl_cons, List.foldl_nil, List.getD_cons_zero, List.getD_cons_succ, List.getElem?_cons_zero, List.getElem?_cons_succ, Option.bind_some] at d3
                have d5 := hD 5 (by decide)
                simp only [fact, layAt, depOn, dstOf, List.map_cons, List.map_nil, List.foldl_cons, List.foldl_nil, List.getD_cons_zero, List.getD_cons_succ, List.getElem?_cons_zero, List.getElem?_cons_succ, Option.bind_some] at d5
                clear hD
                intro hN
                simp only [fact, layAt, depOn, dstOf, List.map_cons, List.map_nil, List.foldl_cons, List.foldl_nil, List.getD_cons_zero, List.getD_cons_succ, List.getElem?_cons_zero, List.getElem?_cons_succ, Option.bind_some, d2, d3, d5] at hN ⊢
                go_simp
                have hh := hN _ _ rfl (.inl (Below.refl _ _))
                revert hh
                go_simp
              refine owed_cons (fun vs u hS hD N => ?_) ?_
              · have d2 := hD 2 (by decide)
                simp only [fact, layAt, depOn, dstOf, List.map_cons, List.map_nil, List.foldl_cons, List.foldl_nil, List.getD_cons_zero, List.getD_cons_succ, List.getElem?_cons_zero, List.getElem?_cons_succ, Option.bind_some] at d2
                have d6 := hD 6 (by decide)
                simp only [fact, layAt, depOn, dstOf, List.map_cons, List.map_nil, List.foldl_cons, List.foldl_nil, List.getD_cons_zero, List.getD_cons_succ, List.getElem?_cons_zero, List.getElem?_cons_succ, Option.bind_some] at d6
                clear hD
                intro hN
                simp only [fact, layAt, depOn, dstOf, List.map_cons, List.map_nil, List.foldl_cons, List.foldl_nil, List.getD_cons_zero, List.getD_cons_succ, List.getElem?_cons_zero, List.getElem?_cons_succ, Option.bind_some, d2, d6] at hN ⊢
                go_simp
                have hh := hN _ _ rfl (.inl (Below.refl _ _))
                revert hh
                go_simp
              refine owed_cons (fun vs u hS hD N => ?_) ?_
              · have d2 := hD 2 (by decide)
                simp only [fact, layAt, depOn, dstOf, List.map_cons, List.map_nil, List.foldl_cons, List.foldl_nil, List.getD_cons_zero, List.getD_cons_succ, List.getElem?_cons_zero, List.getElem?_cons_succ, Option.bind_some] at d2
                clear hD
                intro hN
                simp only [fact, layAt, depOn, dstOf, List.map_cons, List.map_nil, List.foldl_cons, List.foldl_nil, List.getD_cons_zero, List.getD_cons_succ, List.getElem?_cons_zero, List.getElem?_cons_succ, Option.bind_some, d2] at hN ⊢
                go_simp
                have hh := hN _ _ rfl (.inl (Below.refl _ _))
                revert hh
                go_simp
              refine owed_cons (fun vs u hS hD N => ?_) ?_
              · have d2 := hD 2 (by decide)
                simp only [fact, layAt, depOn, dstOf, List.map_cons, List.map_nil, List.foldl_cons, List.foldl_nil, List.getD_cons_zero, List.getD_cons_succ, List.getElem?_cons_zero, List.getElem?_cons_succ, Option.bind_some] at d2
                clear hD
                intro hN
                simp only [fact, layAt, depOn, dstOf, List.map_cons, List.map_nil, List.foldl_cons, List.foldl_nil, List.getD_cons_zero, List.getD_cons_succ, List.getElem?_cons_zero, List.getElem?_cons_succ, Option.bind_some, d2] at hN ⊢
                go_simp
                have hh := hN _ _ rfl (.inl (Below.refl _ _))
                revert hh
                go_simp
              refine owed_cons (fun vs u hS hD N => ?_) ?_
              · have d2 := hD 2 (by decide)
                simp only [fact, layAt, depOn, dstOf, List.map_cons, List.map_nil, List.foldl_cons, List.foldl_nil, List.getD_cons_zero, List.getD_cons_succ, List.getElem?_cons_zero, List.getElem?_cons_succ, Option.bind_some] at d2
                have d8 := hD 8 (by decide)
                simp only [fact, layAt, depOn, dstOf, List.map_cons, List.map_nil, List.foldl_cons, List.foldl_nil, List.getD_cons_zero, List.getD_cons_succ, List.getElem?_cons_zero, List.getElem?_cons_succ, Option.bind_some] at d8
                have d9 := hD 9 (by decide)
                simp only [fact, layAt, depOn, dstOf, List.map_cons, List.map_nil, List.foldl_cons, List.foldl_nil, List.getD_cons_zero, List.getD_cons_succ, List.getElem?_cons_zero, List.getElem?_cons_succ, Option.bind_some] at d9
                clear hD
                intro hN
                simp only [fact, layAt, depOn, dstOf, List.map_cons, List.map_nil, List.foldl_cons, List.foldl_nil, List.getD_cons_zero, List.getD_cons_succ, List.getElem?_cons_zero, List.getElem?_cons_succ, Option.bind_some, d2, d8, d9] at hN ⊢
                go_simp
                have hh := hN _ _ rfl (.inl (Below.refl _ _))
                revert hh
                go_simp
              refine owed_cons (fun vs u hS hD N => ?_) ?_
              · have d2 := hD 2 (by decide)
                simp only [fact, layAt, depOn, dstOf, List.map_cons, List.map_nil, List.foldl_cons, List.foldl_nil, List.getD_cons_zero, List.getD_cons_succ, List.getElem?_cons_zero, List.getElem?_cons_succ, Option.bind_some] at d2
                have d10 := hD 10 (by decide)
                simp only [fact, layAt, depOn, dstOf, List.map_cons, List.map_nil, List.foldl_cons, List.foldl_nil, List.getD_cons_zero, List.getD_cons_succ, List.getElem?_cons_zero, List.getElem?_cons_succ, Option.bind_some] at d10
                clear hD
                intro hN
                simp only [fact, layAt, depOn, dstOf, List.map_cons, List.map_nil, List.foldl_cons, List.foldl_nil, List.getD_cons_zero, List.getD_cons_succ, List.getElem?_cons_zero, List.getElem?_cons_succ, Option.bind_some, d2, d10] at hN ⊢
                go_simp
                have hh := hN _ _ rfl (.inl (Below.refl _ _))
                revert hh
                go_simp
              refine owed_cons (fun vs u hS hD N => ?_) ?_
              · have d2 := hD 2 (by decide)
                simp only [fact, layAt, depOn, dstOf, List.map_cons, List.map_nil, List.foldl_cons, List.foldl_nil, List.getD_cons_zero, List.getD_cons_succ, List.getElem?_cons_zero, List.getElem?_cons_succ, Option.bind_some] at d2
                have d7 := hD 7 (by decide)
                simp only [fact, layAt, depOn, dstOf, List.map_cons, List.map_nil, List.foldl_cons, List.foldl_nil, List.getD_cons_zero, List.getD_cons_succ, List.getElem?_cons_zero, List.getElem?_cons_succ, Option.bind_some] at d7
                have d11 := hD 11 (by decide)
                simp only [fact, layAt, depOn, dstOf, List.map_cons, List.map_nil, List.foldl_cons, List.foldl_nil, List.getD_cons_zero, List.getD_cons_succ, List.getElem?_cons_zero, List.getElem?_cons_succ, Option.bind_some] at d11
                clear hD
                intro hN
                simp only [fact, layAt, depOn, dstOf, List.map_cons, List.map_nil, List.foldl_cons, List.foldl_nil, List.getD_cons_zero, List.getD_cons_succ, List.getElem?_cons_zero, List.getElem?_cons_succ, Option.bind_some, d2, d7, d11] at hN ⊢
                go_simp
                have hh := hN _ _ rfl (.inl (Below.refl _ _))
                revert hh
                go_simp
              refine owed_cons (fun vs u hS hD N => ?_) ?_
              · have d2 := hD 2 (by decide)
                simp only [fact, layAt, depOn, dstOf, List.map_cons, List.map_nil, List.foldl_cons, List.foldl_nil, List.getD_cons_zero, List.getD_cons_succ, List.getElem?_cons_zero, List.getElem?_cons_succ, Option.bind_some] at d2
                have d12 := hD 12 (by decide)
                simp only [fact, layAt, depOn, dstOf, List.map_cons, List.map_nil, List.foldl_cons, List.foldl_nil, List.getD_cons_zero, List.getD_cons_succ, List.getElem?_cons_zero, List.getElem?_cons_succ, Option.bind_some] at d12
                clear hD
                intro hN
                simp only [fact, layAt, depOn, dstOf, List.map_cons, List.map_nil, List.foldl_cons, List.foldl_nil, List.getD_cons_zero, List.getD_cons_succ, List.getElem?_cons_zero, List.getElem?_cons_succ, Option.bind_some, d2, d12] at hN ⊢
                go_simp
                have hh := hN _ _ rfl (.inl (Below.refl _ _))
                revert hh
                go_simp
              refine owed_cons (fun vs u hS hD N => ?_) ?_
              · have d2 := hD 2 (by decide)
                simp only [fact, layAt, depOn, dstOf, List.map_cons, List.map_nil, List.foldl_cons, List.foldl_nil, List.getD_cons_zero, List.getD_cons_succ, List.getElem?_cons_zero, List.getElem?_cons_succ, Option.bind_some] at d2
                have d13 := hD 13 (by decide)
                simp only [fact, layAt, depOn, dstOf, List.map_cons, List.map_nil, List.foldl_cons, List.foldl_nil, List.getD_cons_zero, List.getD_cons_succ, List.getElem?_cons_zero, List.getElem?_cons_succ, Option.bind_some] at d13
                clear hD
                intro hN
                simp only [fact, layAt, depOn, dstOf, List.map_cons, List.map_nil, List.foldl_cons, List.foldl_nil, List.getD_cons_zero, List.getD_cons_succ, List.getElem?_cons_zero, List.getElem?_cons_succ, Option.bind_some, d2, d13] at hN ⊢
                go_simp
                have hh := hN _ _ rfl (.inl (Below.refl _ _))
                revert hh
                go_simp
              refine owed_cons (fun vs u hS hD N => ?_) ?_
              · have d14 := hD 14 (by decide)
                simp only [fact, layAt, depOn, dstOf, List.map_cons, List.map_nil, List.foldl_cons, List.foldl_nil, List.getD_cons_zero, List.getD_cons_succ, List.getElem?_cons_zero, List.getElem?_cons_succ, Option.bind_some] at d14
                clear hD
                intro hN
                simp only [fact, layAt, depOn, dstOf, List.map_cons, List.map_nil, List.foldl_cons, List.foldl_nil, List.getD_cons_zero, List.getD_cons_succ, List.getElem?_cons_zero, List.getElem?_cons_succ, Option.bind_some, d14] at hN ⊢
                go_simp
                have hh := hN _ _ rfl (.inl (Below.refl _ _))
                revert hh
                go_simp
              refine owed_cons (fun vs u hS hD N => ?_) ?_
              · have d15 := hD 15 (by decide)
                simp only [fact, layAt, depOn, dstOf, List.map_cons, List.map_nil, List.foldl_cons, List.foldl_nil, List.getD_cons_zero, List.getD_cons_succ, List.getElem?_cons_zero, List.getElem?_cons_succ, Option.bind_some] at d15
                clear hD
                intro hN
                simp only [fact, layAt, depOn, dstOf, List.map_cons, List.map_nil, List.foldl_cons, List.foldl_nil, List.getD_cons_zero, List.getD_cons_succ, List.getElem?_cons_zero, List.getElem?_cons_succ, Option.bind_some, d15] at hN ⊢
                go_simp
                have hh := hN _ _ rfl (.inl (Below.refl _ _))
                revert hh
                go_simp
              refine owed_cons (fun vs u hS hD N => ?_) ?_
              · have d15 := hD 15 (by decide)
                simp only [fact, layAt, depOn, dstOf, List.map_cons, List.map_nil, List.foldl_cons, List.foldl_nil, List.getD_cons_zero, List.getD_cons_succ, List.getElem?_cons_zero, List.getElem?_cons_succ, Option.bind_some] at d15
                clear hD
                intro hN
                simp only [fact, layAt, depOn, dstOf, List.map_cons, List.map_nil, List.foldl_cons, List.foldl_nil, List.getD_cons_zero, List.getD_cons_succ, List.getElem?_cons_zero, List.getElem?_cons_succ, Option.bind_some, d15] at hN ⊢
                go_simp
                have hh := hN _ _ rfl (.inl (Below.refl _ _))
                revert hh
                go_simp
              refine owed_cons (fun vs u hS hD N => ?_) ?_
              · have d15 := hD 15 (by decide)
                simp only [fact, layAt, depOn, dstOf, List.map_cons, List.map_nil, List.foldl_cons, List.foldl_nil, List.getD_cons_zero, List.getD_cons_succ, List.getElem?_cons_zero, List.getElem?_cons_succ, Option.bind_some] at d15
                clear hD
                intro hN
                simp only [fact, layAt, depOn, dstOf, List.map_cons, List.map_nil, List.foldl_cons, List.foldl_nil, List.getD_cons_zero, List.getD_cons_succ, List.getElem?_cons_zero, List.getElem?_cons_succ, Option.bind_some, d15] at hN ⊢
                go_simp
                have hh := hN _ _ rfl (.inl (Below.refl _ _))
                revert hh
                go_simp
              refine owed_cons (fun vs u hS hD N => ?_) ?_
              · have d15 := hD 15 (by decide)
                simp only [fact, layAt, depOn, dstOf, List.map_cons, List.map_nil, List.foldl_cons, List.foldl_nil, List.getD_cons_zero, List.getD_cons_succ, List.getElem?_cons_zero, List.getElem?_cons_succ, Option.bind_some] at d15
                have d17 := hD 17 (by decide)
                simp only [fact, layAt, depOn, dstOf, List.map_cons, List.map_nil, List.foldl_cons, List.foldl_nil, List.getD_cons_zero, List.getD_cons_succ, List.getElem?_cons_zero, List.getElem?_cons_succ, Option.bind_some] at d17
                have d18 := hD 18 (by decide)
                simp only [fact, layAt, depOn, dstOf, List.map_cons, List.map_nil, List.foldl_cons, List.foldl_nil, List.getD_cons_zero, List.getD_cons_succ, List.getElem?_cons_zero, List.getElem?_cons_succ, Option.bind_some] at d18
                clear hD
                intro hN
                simp only [fact, layAt, depOn, dstOf, List.map_cons, List.map_nil, List.foldl_cons, List.foldl_nil, List.getD_cons_zero, List.getD_cons_succ, List.getElem?_cons_zero, List.getElem?_cons_succ, Option.bind_some, d15, d17, d18] at hN ⊢
                go_simp
                have hh := hN _ _ rfl (.inl (Below.refl _ _))
                revert hh
                go_simp
              refine owed_cons (fun vs u hS hD N => ?_) ?_
              · have d15 := hD 15 (by decide)
                simp only [fact, layAt, depOn, dstOf, List.map_cons, List.map_nil, List.foldl_cons, List.foldl_nil, List.getD_cons_zero, List.getD_cons_succ, List.getElem?_cons_zero, List.getElem?_cons_succ, Option.bind_some] at d15
                have d19 := hD 19 (by decide)
                simp only [fact, layAt, depOn, dstOf, List.map_cons, List.map_nil, List.foldl_cons, List.foldl_nil, List.getD_cons_zero, List.getD_cons_succ, List.getElem?_cons_zero, List.getElem?_cons_succ, Option.bind_some] at d19
                clear hD
                intro hN
                simp only [fact, layAt, depOn, dstOf, List.map_cons, List.map_nil, List.foldl_cons, List.foldl_nil, List.getD_cons_zero, List.getD_cons_succ, List.getElem?_cons_zero, List.getElem?_cons_succ, Option.bind_some, d15, d19] at hN ⊢
                go_simp
                have x0 := X0 _ hS
                have x1 := X1 _ hS
                go_simp
                have hh := hN _ _ rfl (.inl (Below.refl _ _))
                revert hh
                go_simp
              refine owed_cons (fun vs u hS hD N => ?_) ?_
              · have d15 := hD 15 (by decide)
                simp only [fact, layAt, depOn, dstOf, List.map_cons, List.map_nil, List.foldl_cons, List.foldl_nil, List.getD_cons_zero, List.getD_cons_succ, List.getElem?_cons_zero, List.getElem?_cons_succ, Option.bind_some] at d15
                have d16 := hD 16 (by decide)
                simp only [fact, layAt, depOn, dstOf, List.map_cons, List.map_nil, List.foldl_cons, List.foldl_nil, List.getD_cons_zero, List.getD_cons_succ, List.getElem?_cons_zero, List.getElem?_cons_succ, Option.bind_some] at d16
                have d20 := hD 20 (by decide)
                simp only [fact, layAt, depOn, dstOf, List.map_cons, List.map_nil, List.foldl_cons, List.foldl_nil, List.getD_cons_zero, List.getD_cons_succ, List.getElem?_cons_zero, List.getElem?_cons_succ, Option.bind_some] at d20
                clear hD
                intro hN
                simp only [fact, layAt, depOn, dstOf, List.map_cons, List.map_nil, List.foldl_cons, List.foldl_nil, List.getD_cons_zero, List.getD_cons_succ, List.getElem?_cons_zero, List.getElem?_cons_succ, Option.bind_some, d15, d16, d20] at hN ⊢
                go_simp
                refine (has_any A n c L x1 x2 u (((rL.below f1).below (hS.mono f1.size)).more (Nat.le_trans f1.size hS.size)) (by omega)).mono ?_
                rintro e u' ⟨rfl, f⟩
                rw [decide_eq_true HM.out]
                have hh := hN _ _ rfl (.inl f)
                revert hh
                go_simp
              refine owed_cons (fun vs u hS hD N => ?_) ?_
              · have d15 := hD 15 (by decide)
                simp only [fact, layAt, depOn, dstOf, List.map_cons, List.map_nil, List.foldl_cons, List.foldl_nil, List.getD_cons_zero, List.getD_cons_succ, List.getElem?_cons_zero, List.getElem?_cons_succ, Option.bind_some] at d15
                have d21 := hD 21 (by decide)
                simp only [fact, layAt, depOn, dstOf, List.map_cons, List.map_nil, List.foldl_cons, List.foldl_nil, List.getD_cons_zero, List.getD_cons_succ, List.getElem?_cons_zero, List.getElem?_cons_succ, Option.bind_some] at d21
                clear hD
                intro hN
                simp only [fact, layAt, depOn, dstOf, List.map_cons, List.map_nil, List.foldl_cons, List.foldl_nil, List.getD_cons_zero, List.getD_cons_succ, List.getElem?_cons_zero, List.getElem?_cons_succ, Option.bind_some, d15, d21] at hN ⊢
                go_simp
                have hh := hN _ _ rfl (.inl (Below.refl _ _))
                revert hh
                go_simp
              refine owed_cons (fun vs u hS hD N => ?_) ?_
              · have d15 := hD 15 (by decide)
                simp only [fact, layAt, depOn, dstOf, List.map_cons, List.map_nil, List.foldl_cons, List.foldl_nil, List.getD_cons_zero, List.getD_cons_succ, List.getElem?_cons_zero, List.getElem?_cons_succ, Option.bind_some] at d15
                have d22 := hD 22 (by decide)
                simp only [fact, layAt, depOn, dstOf, List.map_cons, List.map_nil, List.foldl_cons, List.foldl_nil, List.getD_cons_zero, List.getD_cons_succ, List.getElem?_cons_zero, List.getElem?_cons_succ, Option.bind_some] at d22
                clear hD
                intro hN
                simp only [fact, layAt, depOn, dstOf, List.map_cons, List.map_nil, List.foldl_cons, List.foldl_nil, List.getD_cons_zero, List.getD_cons_succ, List.getElem?_cons_zero, List.getElem?_cons_succ, Option.bind_some, d15, d22] at hN ⊢
                go_simp
                have hh := hN _ _ rfl (.inl (Below.refl _ _))
                revert hh
                go_simp
              exact owed_nil
            ·
              intro vs u hS hF
              have d23 := hF 23 (by decide) (by decide)
              simp only [fact, layAt, depOn, dstOf, List.map_cons, List.map_nil, List.foldl_cons, List.foldl_nil, List.getD_cons_zero, List.getD_cons_succ, List.getElem?_cons_zero, List.getElem?_cons_succ, Option.bind_some] at d23
              clear hF
              simp only [List.length_cons, List.length_nil, Nat.reduceAdd, List.range, List.range.loop, fact, layAt, depOn, dstOf, List.map_cons, List.map_nil, List.foldl_cons, List.foldl_nil, List.getD_cons_zero, List.getD_cons_succ, List.getElem?_cons_zero, List.getElem?_cons_succ, Option.bind_some, d23]
              go_simp
              replace f1 := f1.trans (hS.mono f1.size)
              replace rX := (rX.below hS).more hS.size
              go_wp2_with fail
              go_roundw
              case rel => exact ⟨k + 1, by go_num, by omega, rX, f1⟩
              case measure => simp [intOf]; omega
        · have d2 : decide ((k : Int) < (m : Int)) = false := by simp; omega
          go_wp2_with fail
          clear hk hlt
          go_loopw [6] (fun i wr => ∃ k : Nat, i = .int .i64 k ∧ k ≤ n ∧ RdN wr wr.heap.size AX m X ∧ Below w.heap.size w wr) (fun i _ => n - (intOf i).toNat)
          case atStart => exact ⟨0, rfl, Nat.zero_le _, rX, f1⟩
          case round =>
            clear rX f1 d2
            obtain ⟨k, rfl, hk, rX, f1⟩ := hrel
            by_cases hlt : k < n
            · have d2 : decide ((k : Int) < (n : Int)) = true := by simp; omega
              have b1 : (0 : Int) ≤ (k : Int) := by omega
              have b2 : (k : Int) < (n : Int) := by omega
              have b3 : (0 : Int) < (n : Int) := by omega
              have b4 : 0 < n := by omega
              have rl := (rL.below f1).more f1.size
              obtain ⟨bl, ol, hA, hbl, q0, q1⟩ := rl.at_ hlt
              obtain ⟨bl', ol', hA', _, p0, p1⟩ := rl.at_ (k := 0) b4
              rw [hA] at hA'
              injection hA' with hA'
              injection hA' with hb' ho' _
              subst hb' ho'
              rw [Nat.zero_mul, Nat.add_zero] at p0 p1
              have K0' := fun (u : World) (h : Below wr.heap.size wr u) => (h.cell (p := ⟨bl, ol + k * 2, none⟩) hbl).trans q0
              have K1' := fun (u : World) (h : Below wr.heap.size wr u) => (h.cell (p := ⟨bl, ol + k * 2 + 1, none⟩) hbl).trans q1
              have O0' := fun (u : World) (h : Below wr.heap.size wr u) => (h.cell (p := ⟨bl, ol, none⟩) hbl).trans p0
              have O1' := fun (u : World) (h : Below wr.heap.size wr u) => (h.cell (p := ⟨bl, ol + 1, none⟩) hbl).trans p1
              have hm1 : nmAt L k ∈ X := (HMEM.out _).2 (by rw [nmAt_eq (by omega)]; exact List.getElem_mem _)
              have hcs := nmCmp_cases (nmAt L k) (nmAt L 0)
              have hcn := nmCmp_neg (nmAt L 0) (nmAt L k)
              obtain ⟨k1, k2, hx⟩ : ∃ a b, nmAt L k = (a, b) := ⟨_, _, rfl⟩
              obtain ⟨o1, o2, ho⟩ : ∃ a b, nmAt L 0 = (a, b) := ⟨_, _, rfl⟩
              rw [hx] at K0' K1' hm1 hcs hcn
              rw [ho] at O0' O1' hcs hcn
              have K0 : ∀ u : World, Below wr.heap.size wr u → u.cell? ⟨bl, ol + k * 2, none⟩ = some (.string (strB k1)) := K0'
              have K1 : ∀ u : World, Below wr.heap.size wr u → u.cell? ⟨bl, ol + k * 2 + 1, none⟩ = some (.string (strB k2)) := K1'
              have O0 : ∀ u : World, Below wr.heap.size wr u → u.cell? ⟨bl, ol, none⟩ = some (.string (strB o1)) := O0'
              have O1 : ∀ u : World, Below wr.heap.size wr u → u.cell? ⟨bl, ol + 1, none⟩ = some (.string (strB o2)) := O1'
              have HM := Lib.hid hm1
              clear K0' K1' O0' O1' hm1 q0 q1 p0 p1 hx ho
              subst hA
              rcases hcs with ⟨_, _, hne, hz⟩ | ⟨_, _, hne, hz⟩ | ⟨hne, _, _, hz⟩
              · rw [hz] at hcn
                have HC1 := Lib.hid (show cmpN k1 k2 o1 o2 = (-1) from hz)
                have HC2 := Lib.hid (show cmpN o1 o2 k1 k2 = 1 from hcn)
                have HQ := Lib.hid (show decide ((k1, k2) = (o1, o2)) = false from decide_eq_false hne)
                clear hz hcn hne
                have wm : IntKind.i64.wrap (-1) = -1 := by decide
                have wo : IntKind.i64.wrap 1 = 1 := by decide
                have wz : IntKind.i64.wrap 0 = 0 := by decide
                go_upto_region 17 with fail
                refine wp_region_facts (fun u => Below wr.heap.size wr u) [
                    fun v _ => v = .slice AX m cx,
                    fun v _ => v = .slice (some ⟨bl, ol, none⟩) n c,
                    fun v _ => v = .int .i64 (k : Int),
                    fun v _ => v = .pointer (some ⟨bl, ol + k * 2, none⟩),
                    fun v _ => v = .agg #[.string (strB k1), .string (strB k2)],
                    fun v _ => v = .bool true,
                    fun v _ => v = .bool false,
                    fun v _ => v = .bool false,
                    fun v _ => v = .slice (some ⟨bl, ol, none⟩) n c,
                    fun v _ => v = .int .i64 (k : Int),
                    fun v _ => v = .pointer (some ⟨bl, ol + k * 2, none⟩),
                    fun v _ => v = .agg #[.string (strB k1), .string (strB k2)],
                    fun v _ => v = .slice (some ⟨bl, ol, none⟩) n c,
                    fun v _ => v = .pointer (some ⟨bl, ol, none⟩),
                    fun v _ => v = .agg #[.string (strB o1), .string (strB o2)],
                    fun v _ => v = .int .i64 (-1),
                    fun v _ => v = .slice (some ⟨bl, ol, none⟩) n c,
                    fun v _ => v = .pointer (some ⟨bl, ol, none⟩),
                    fun v _ => v = .agg #[.string (strB o1), .string (strB o2)],
                    fun v _ => v = .slice (some ⟨bl, ol, none⟩) n c,
                    fun v _ => v = .int .i64 (k : Int),
                    fun v _ => v = .pointer (some ⟨bl, ol + k * 2, none⟩),
                    fun v _ => v = .agg #[.string (strB k1), .string (strB k2)],
                    fun v _ => v = .int .i64 1,
                    fun v _ => v = .int .i64 (-1),
                    fun v _ => v = .bool false,
                    fun v _ => v = .bool false,
                    fun v _ => v = .bool false,
                    fun v _ => v = .slice (some ⟨bl, ol, none⟩) n c,
                    fun v _ => v = .int .i64 (k : Int),
                    fun v _ => v = .pointer (some ⟨bl, ol + k * 2, none⟩),
                    fun v _ => v = .agg #[.string (strB k1), .string (strB k2)],
                    fun v _ => v = .slice (some ⟨bl, ol, none⟩) n c,
                    fun v _ => v = .pointer (some ⟨bl, ol, none⟩),
                    fun v _ => v = .agg #[.string (strB o1), .string (strB o2)],
                    fun v _ => v = .int .i64 (-1),
                    fun v _ => v = .bool false,
                    fun v _ => v = .slice (some ⟨bl, ol, none⟩) n c,
                    fun v _ => v = .int .i64 (k : Int),
                    fun v _ => v = .pointer (some ⟨bl, ol + k * 2, none⟩),
                    fun v _ => v = .agg #[.string (strB k1), .string (strB k2)],
                    fun v _ => v = .slice (some ⟨bl, ol, none⟩) n c,
                    fun v _ => v = .pointer (some ⟨bl, ol, none⟩),
                    fun v _ => v = .agg #[.string (strB o1), .string (strB o2)],
                    fun v _ => v = .bool false,
                    fun v _ => v = .bool false,
                    fun v _ => v = .bool false] (fun u u' => Below u.heap.size u u')
                    [[], [], [], [1, 2], [3], [0, 4], [5], [6], [7], [7], [7, 8, 9], [7, 10], [7], [7, 12], [7, 13], [7, 11, 14], [7], [7, 16], [7, 17], [7], [7], [7, 19, 20], [7, 21], [7, 18, 22], [7, 23], [7, 15, 24], [7, 25], [26], [27], [27], [27, 28, 29], [27, 30], [27], [27, 32], [27, 33], [27, 31, 34], [27, 35], [27], [27], [27, 37, 38], [27, 39], [27], [27, 41], [27, 42], [27, 40, 43], [27, 36, 44], [27, 45]] []
                    (by kernel_rfl) (by kernel_rfl) ?_ (fun _ _ _ _ _ h => h) ((Below.refl _ _).drew) ?_ ?_
                · refine hE_of (fun u u' h f => f.trans (h.mono f.size)) ?_
                  repeat' (first | exact mono_nil | refine mono_cons (fun v u u' h => ?_) ?_)
                  all_goals exact _root_.id
                ·
                  refine owed_cons (fun vs u hS hD N => ?_) ?_
                  · clear hD
                    intro hN
                    simp only [fact, layAt, depOn, dstOf, List.map_cons, List.map_nil, List.foldl_cons, List.foldl_nil, List.getD_cons_zero, List.getD_cons_succ, List.getElem?_cons_zero, List.getElem?_cons_succ, Option.bind_some] at hN ⊢
                    go_simp
                    have hh := hN _ _ rfl (.inl (Below.refl _ _))
                    revert hh
                    go_simp
                  refine owed_cons (fun vs u hS hD N => ?_) ?_
                  · clear hD
                    intro hN
                    simp only [fact, layAt, depOn, dstOf, List.map_cons, List.map_nil, List.foldl_cons, List.foldl_nil, List.getD_cons_zero, List.getD_cons_succ, List.getElem?_cons_zero, List.getElem?_cons_succ, Option.bind_some] at hN ⊢
                    go_simp
                    have hh := hN _ _ rfl (.inl (Below.refl _ _))
                    revert hh
                    go_simp
                  refine owed_cons (fun vs u hS hD N => ?_) ?_
                  · clear hD
                    intro hN
                    simp only [fact, layAt, depOn, dstOf, List.map_cons, List.map_nil, List.foldl_cons, List.foldl_nil, List.getD_cons_zero, List.getD_cons_succ, List.getElem?_cons_zero, List.getElem?_cons_succ, Option.bind_some] at hN ⊢
                    go_simp
                    have hh := hN _ _ rfl (.inl (Below.refl _ _))
                    revert hh
                    go_simp
                  refine owed_cons (fun vs u hS hD N => ?_) ?_
                  · have d1 := hD 1 (by decide)
                    simp only [fact, layAt, depOn, dstOf, List.map_cons, List.map_nil, List.foldl_cons, List.foldl_nil, List.getD_cons_zero, List.getD_cons_succ, List.getElem?_cons_zero, List.getElem?_cons_succ, Option.bind_some] at d1
                    have d2 := hD 2 (by decide)
                    simp only [fact, layAt, depOn, dstOf, List.map_cons, List.map_nil, List.foldl_cons, List.foldl_nil, List.getD_cons_zero, List.getD_cons_succ, List.getElem?_cons_zero, List.getElem?_cons_succ, Option.bind_some] at d2
                    clear hD
                    intro hN
                    simp only [fact, layAt, depOn, dstOf, List.map_cons, List.map_nil, List.foldl_cons, List.foldl_nil, List.getD_cons_zero, List.getD_cons_succ, List.getElem?_cons_zero, List.getElem?_cons_succ, Option.bind_some, d1, d2] at hN ⊢
                    go_simp
                    have hh := hN _ _ rfl (.inl (Below.refl _ _))
                    revert hh
                    go_simp
                  refine owed_cons (fun vs u hS hD N => ?_) ?_
                  · have d3 := hD 3 (by decide)
                    simp only [fact, layAt, depOn, dstOf, List.map_cons, List.map_nil, List.foldl_cons, List.foldl_nil, List.getD_cons_zero, List.getD_cons_succ, List.getElem?_cons_zero, List.getElem?_cons_succ, Option.bind_some] at d3
                    clear hD
                    intro hN
                    simp only [fact, layAt, depOn, dstOf, List.map_cons, List.map_nil, List.foldl_cons, List.foldl_nil, List.getD_cons_zero, List.getD_cons_succ, List.getElem?_cons_zero, List.getElem?_cons_succ, Option.bind_some, d3] at hN ⊢
                    go_simp
                    have k0 := K0 _ hS
                    have k1 := K1 _ hS
                    go_simp
                    have hh := hN _ _ rfl (.inl (Below.refl _ _))
                    revert hh
                    go_simp
                  refine owed_cons (fun vs u hS hD N => ?_) ?_
                  · have d0 := hD 0 (by decide)
                    simp only [fact, layAt, depOn, dstOf, List.map_cons, List.map_nil, List.foldl_cons, List.foldl_nil, List.getD_cons_zero, List.getD_cons_succ, List.getElem?_cons_zero, List.getElem?_cons_succ, Option.bind_some] at d0
                    have d4 := hD 4 (by decide)
                    simp only [fact, layAt, depOn, dstOf, List.map_cons, List.map_nil, List.foldl_cons, List.foldl_nil, List.getD_cons_zero, List.getD_cons_succ, List.getElem?_cons_zero, List.getElem?_cons_succ, Option.bind_some] at d4
                    clear hD
                    intro hN
                    simp only [fact, layAt, depOn, dstOf, List.map_cons, List.map_nil, List.foldl_cons, List.foldl_nil, List.getD_cons_zero, List.getD_cons_succ, List.getElem?_cons_zero, List.getElem?_cons_succ, Option.bind_some, d0, d4] at hN ⊢
                    go_simp
                    refine (has_any AX m cx X k1 k2 u ((rX.below hS).more hS.size) (by omega)).mono ?_
                    rintro e u' ⟨rfl, f⟩
                    rw [decide_eq_true HM.out]
                    have hh := hN _ _ rfl (.inl f)
                    revert hh
                    go_simp
                  refine owed_cons (fun vs u hS hD N => ?_) ?_
                  · have d5 := hD 5 (by decide)
                    simp only [fact, layAt, depOn, dstOf, List.map_cons, List.map_nil, List.foldl_cons, List.foldl_nil, List.getD_cons_zero, List.getD_cons_succ, List.getElem?_cons_zero, List.getElem?_cons_succ, Option.bind_some] at d5
                    clear hD
                    intro hN
                    simp only [fact, layAt, depOn, dstOf, List.map_cons, List.map_nil, List.foldl_cons, List.foldl_nil, List.getD_cons_zero, List.getD_cons_succ, List.getElem?_cons_zero, List.getElem?_cons_succ, Option.bind_some, d5] at hN ⊢
                    go_simp
                    have hh := hN _ _ rfl (.inl (Below.refl _ _))
                    revert hh
                    go_simp
                  refine owed_cons (fun vs u hS hD N => ?_) ?_
                  · have d6 := hD 6 (by decide)
                    simp only [fact, layAt, depOn, dstOf, List.map_cons, List.map_nil, List.foldl_cons, List.foldl_nil, List.getD_cons_zero, List.getD_cons_succ, List.getElem?_cons_zero, List.getElem?_cons_succ, Option.bind_some] at d6
                    clear hD
                    intro hN
                    simp only [fact, layAt, depOn, dstOf, List.map_cons, List.map_nil, List.foldl_cons, List.foldl_nil, List.getD_cons_zero, List.getD_cons_succ, List.getElem?_cons_zero, List.getElem?_cons_succ, Option.bind_some, d6] at hN ⊢
                    go_simp
                    have hh := hN _ _ rfl (.inl (Below.refl _ _))
                    revert hh
                    go_simp
                  refine owed_cons (fun vs u hS hD N => ?_) ?_
                  · have d7 := hD 7 (by decide)
                    simp only [fact, layAt, depOn, dstOf, List.map_cons, List.map_nil, List.foldl_cons, List.foldl_nil, List.getD_cons_zero, List.getD_cons_succ, List.getElem?_cons_zero, List.getElem?_cons_succ, Option.bind_some] at d7
                    clear hD
                    intro hN
                    simp only [fact, layAt, depOn, dstOf, List.map_cons, List.map_nil, List.foldl_cons, List.foldl_nil, List.getD_cons_zero, List.getD_cons_succ, List.getElem?_cons_zero, List.getElem?_cons_succ, Option.bind_some, d7] at hN ⊢
                    go_simp
                    have hh := hN _ _ rfl (.inl (Below.refl _ _))
                    revert hh
                    go_simp
                  refine owed_cons (fun vs u hS hD N => ?_) ?_
                  · have d7 := hD 7 (by decide)
                    simp only [fact, layAt, depOn, dstOf, List.map_cons, List.map_nil, List.foldl_cons, List.foldl_nil, List.getD_cons_zero, List.getD_cons_succ, List.getElem?_cons_zero, List.getElem?_cons_succ, Option.bind_some] at d7
                    clear hD
                    intro hN
                    simp only [fact, layAt, depOn, dstOf, List.map_cons, List.map_nil, List.foldl_cons, List.foldl_nil, List.getD_cons_zero, List.getD_cons_succ, List.getElem?_cons_zero, List.getElem?_cons_succ, Option.bind_some, d7] at hN ⊢
                    go_simp
                    have hh := hN _ _ rfl (.inl (Below.refl _ _))
                    revert hh
                    go_simp
                  refine owed_cons (fun vs u hS hD N => ?_) ?_
                  · have d7 := hD 7 (by decide)
                    simp only [fact, layAt, depOn, dstOf, List.map_cons, List.map_nil, List.foldl_cons, List.foldl_nil, List.getD_cons_zero, List.getD_cons_succ, List.getElem?_cons_zero, List.getElem?_cons_succ, Option.bind_some] at d7
                    have d8 := hD 8 (by decide)
                    simp only [fact, layAt, depOn, dstOf, List.map_cons, List.map_nil, List.foldl_cons, List.foldl_nil, List.getD_cons_zero, List.getD_cons_succ, List.getElem?_cons_zero, List.getElem?_cons_succ, Option.bind_some] at d8
                    have d9 := hD 9 (by decide)
                    simp only [fact, layAt, depOn, dstOf, List.map_cons, List.map_nil, List.foldl_cons, List.foldl_nil, List.getD_cons_zero, List.getD_cons_succ, List.getElem?_cons_zero, List.getElem?_cons_succ, Option.bind_some] at d9
                    clear hD
                    intro hN
                    simp only [fact, layAt, depOn, dstOf, List.map_cons, List.map_nil, List.foldl_cons, List.foldl_nil, List.getD_cons_zero, List.getD_cons_succ, List.getElem?_cons_zero, List.getElem?_cons_succ, Option.bind_some, d7, d8, d9] at hN ⊢
                    go_simp
                    have hh := hN _ _ rfl (.inl (Below.refl _ _))
                    revert hh
                    go_simp
                  refine owed_cons (fun vs u hS hD N => ?_) ?_
                  · have d7 := hD 7 (by decide)
                    simp only [fact, layAt, depOn, dstOf, List.map_cons, List.map_nil, List.foldl_cons, List.foldl_nil, List.getD_cons_zero, List.getD_cons_succ, List.getElem?_cons_zero, List.getElem?_cons_succ, Option.bind_some] at d7
                    have d10 := hD 10 (by decide)
                    simp only [fact, layAt, depOn, dstOf, List.map_cons, List.map_nil, List.foldl_cons, List.foldl_nil, List.getD_cons_zero, List.getD_cons_succ, List.getElem?_cons_zero, List.getElem?_cons_succ, Option.bind_some] at d10
                    clear hD
                    intro hN
                    simp only [fact, layAt, depOn, dstOf, List.map_cons, List.map_nil, List.foldl_cons, List.foldl_nil, List.getD_cons_zero, List.getD_cons_succ, List.getElem?_cons_zero, List.getElem?_cons_succ, Option.bind_some, d7, d10] at hN ⊢
                    go_simp
                    have k0 := K0 _ hS
                    have k1 := K1 _ hS
                    go_simp
                    have hh := hN _ _ rfl (.inl (Below.refl _ _))
                    revert hh
                    go_simp
                  refine owed_cons (fun vs u hS hD N => ?_) ?_
                  · have d7 := hD 7 (by decide)
                    simp only [fact, layAt, depOn, dstOf, List.map_cons, List.map_nil, List.foldl_cons, List.foldl_nil, List.getD_cons_zero, List.getD_cons_succ, List.getElem?_cons_zero, List.getElem?_cons_succ, Option.bind_some] at d7
                    clear hD
                    intro hN
                    simp only [fact, layAt, depOn, dstOf, List.map_cons, List.map_nil, List.foldl_cons, List.foldl_nil, List.getD_cons_zero, List.getD_cons_succ, List.getElem?_cons_zero, List.getElem?_cons_succ, Option.bind_some, d7] at hN ⊢
                    go_simp
                    have hh := hN _ _ rfl (.inl (Below.refl _ _))
                    revert hh
                    go_simp
                  refine owed_cons (fun vs u hS hD N => ?_) ?_
                  · have d7 := hD 7 (by decide)
                    simp only [fact, layAt, depOn, dstOf, List.map_cons, List.map_nil, List.foldl_cons, List.foldl_nil, List.getD_cons_zero, List.getD_cons_succ, List.getElem?_cons_zero, List.getElem?_cons_succ, Option.bind_some] at d7
                    have d12 := hD 12 (by decide)
                    simp only [fact, layAt, depOn, dstOf, List.map_cons, List.map_nil, List.foldl_cons, List.foldl_nil, List.getD_cons_zero, List.getD_cons_succ, List.getElem?_cons_zero, List.getElem?_cons_succ, Option.bind_some] at d12
                    clear hD
                    intro hN
                    simp only [fact, layAt, depOn, dstOf, List.map_cons, List.map_nil, List.foldl_cons, List.foldl_nil, List.getD_cons_zero, List.getD_cons_succ, List.getElem?_cons_zero, List.getElem?_cons_succ, Option.bind_some, d7, d12] at hN ⊢
                    go_simp
                    have hh := hN _ _ rfl (.inl (Below.refl _ _))
                    revert hh
                    go_simp
                  refine owed_cons (fun vs u hS hD N => ?_) ?_
                  · have d7 := hD 7 (by decide)
                    simp only [fact, layAt, depOn, dstOf, List.map_cons, List.map_nil, List.foldl_cons, List.foldl_nil, List.getD_cons_zero, List.getD_cons_succ, List.getElem?_cons_zero, List.getElem?_cons_succ, Option.bind_some] at d7
                    have d13 := hD 13 (by decide)
                    simp only [fact, layAt, depOn, dstOf, List.map_cons, List.map_nil, List.foldl_cons, List.foldl_nil, List.getD_cons_zero, List.getD_cons_succ, List.getElem?_cons_zero, List.getElem?_cons_succ, Option.bind_some] at d13
                    clear hD
                    intro hN
                    simp only [fact, layAt, depOn, dstOf, List.map_cons, List.map_nil, List.foldl_cons, List.foldl_nil, List.getD_cons_zero, List.getD_cons_succ, List.getElem?_cons_zero, List.getElem?_cons_succ, Option.bind_some, d7, d13] at hN ⊢
                    go_simp
                    have o0 := O0 _ hS
                    have o1 := O1 _ hS
                    go_simp
                    have hh := hN _ _ rfl (.inl (Below.refl _ _))
                    revert hh
                    go_simp
                  refine owed_cons (fun vs u hS hD N => ?_) ?_
                  · have d7 := hD 7 (by decide)
                    simp only [fact, layAt, depOn, dstOf, List.map_cons, List.map_nil, List.foldl_cons, List.foldl_nil, List.getD_cons_zero, List.getD_cons_succ, List.getElem?_cons_zero, List.getElem?_cons_succ, Option.bind_some] at d7
                    have d11 := hD 11 (by decide)
                    simp only [fact, layAt, depOn, dstOf, List.map_cons, List.map_nil, List.foldl_cons, List.foldl_nil, List.getD_cons_zero, List.getD_cons_succ, List.getElem?_cons_zero, List.getElem?_cons_succ, Option.bind_some] at d11
                    have d14 := hD 14 (by decide)
                    simp only [fact, layAt, depOn, dstOf, List.map_cons, List.map_nil, List.foldl_cons, List.foldl_nil, List.getD_cons_zero, List.getD_cons_succ, List.getElem?_cons_zero, List.getElem?_cons_succ, Option.bind_some] at d14
                    clear hD
                    intro hN
                    simp only [fact, layAt, depOn, dstOf, List.map_cons, List.map_nil, List.foldl_cons, List.foldl_nil, List.getD_cons_zero, List.getD_cons_succ, List.getElem?_cons_zero, List.getElem?_cons_succ, Option.bind_some, d7, d11, d14] at hN ⊢
                    go_simp
                    refine (cmp_any k1 k2 o1 o2 u).mono ?_
                    rintro e u' ⟨rfl, f⟩
                    rw [HC1.out]
                    have hh := hN _ _ rfl (.inl f)
                    revert hh
                    go_simp
                  refine owed_cons (fun vs u hS hD N => ?_) ?_
                  · have d7 := hD 7 (by decide)
                    simp only [fact, layAt, depOn, dstOf, List.map_cons, List.map_nil, List.foldl_cons, List.foldl_nil, List.getD_cons_zero, List.getD_cons_succ, List.getElem?_cons_zero, List.getElem?_cons_succ, Option.bind_some] at d7
                    clear hD
                    intro hN
                    simp only [fact, layAt, depOn, dstOf, List.map_cons, List.map_nil, List.foldl_cons, List.foldl_nil, List.getD_cons_zero, List.getD_cons_succ, List.getElem?_cons_zero, List.getElem?_cons_succ, Option.bind_some, d7] at hN ⊢
                    go_simp
                    have hh := hN _ _ rfl (.inl (Below.refl _ _))
                    revert hh
                    go_simp
                  refine owed_cons (fun vs u hS hD N => ?_) ?_
                  · have d7 := hD 7 (by decide)
                    simp only [fact, layAt, depOn, dstOf, List.map_cons, List.map_nil, List.foldl_cons, List.foldl_nil, List.getD_cons_zero, List.getD_cons_succ, List.getElem?_cons_zero, List.getElem?_cons_succ, Option.bind_some] at d7
                    have d16 := hD 16 (by decide)
                    simp only [fact, layAt, depOn, dstOf, List.map_cons, List.map_nil, List.foldl_cons, List.foldl_nil, List.getD_cons_zero, List.getD_cons_succ, List.getElem?_cons_zero, List.getElem?_cons_succ, Option.bind_some] at d16
                    clear hD
                    intro hN
                    simp only [fact, layAt, depOn, dstOf, List.map_cons, List.map_nil, List.foldl_cons, List.foldl_nil, List.getD_cons_zero, List.getD_cons_succ, List.getElem?_cons_zero, List.getElem?_cons_succ, Option.bind_some, d7, d16] at hN ⊢
                    go_simp
                    have hh := hN _ _ rfl (.inl (Below.refl _ _))
                    revert hh
                    go_simp
                  refine owed_cons (fun vs u hS hD N => ?_) ?_
                  · have d7 := hD 7 (by decide)
                    simp only [fact, layAt, depOn, dstOf, List.map_cons, List.map_nil, List.foldl_cons, List.foldl_nil, List.getD_cons_zero, List.getD_cons_succ, List.getElem?_cons_zero, List.getElem?_cons_succ, Option.bind_some] at d7
                    have d17 := hD 17 (by decide)
                    simp only [fact, layAt, depOn, dstOf, List.map_cons, List.map_nil, List.foldl_cons, List.foldl_nil, List.getD_cons_zero, List.getD_cons_succ, List.getElem?_cons_zero, List.getElem?_cons_succ, Option.bind_some] at d17
                    clear hD
                    intro hN
                    simp only [fact, layAt, depOn, dstOf, List.map_cons, List.map_nil, List.foldl_cons, List.foldl_nil, List.getD_cons_zero, List.getD_cons_succ, List.getElem?_cons_zero, List.getElem?_cons_succ, Option.bind_some, d7, d17] at hN ⊢
                    go_simp
                    have o0 := O0 _ hS
                    have o1 := O1 _ hS
                    go_simp
                    have hh := hN _ _ rfl (.inl (Below.refl _ _))
                    revert hh
                    go_simp
                  refine owed_cons (fun vs u hS hD N => ?_) ?_
                  · have d7 := hD 7 (by decide)
                    simp only [fact, layAt, depOn, dstOf, List.map_cons, List.map_nil, List.foldl_cons, List.foldl_nil, List.getD_cons_zero, List.getD_cons_succ, List.getElem?_cons_zero, List.getElem?_cons_succ, Option.bind_some] at d7
                    clear hD
                    intro hN
                    simp only [fact, layAt, depOn, dstOf, List.map_cons, List.map_nil, List.foldl_cons, List.foldl_nil, List.getD_cons_zero, List.getD_cons_succ, List.getElem?_cons_zero, List.getElem?_cons_succ, Option.bind_some, d7] at hN ⊢
                    go_simp
                    have hh := hN _ _ rfl (.inl (Below.refl _ _))
                    revert hh
                    go_simp
                  refine owed_cons (fun vs u hS hD N => ?_) ?_
                  · have d7 := hD 7 (by decide)
                    simp only [fact, layAt, depOn, dstOf, List.map_cons, List.map_nil, List.foldl_cons, List.foldl_nil, List.getD_cons_zero, List.getD_cons_succ, List.getElem?_cons_zero, List.getElem?_cons_succ, Option.bind_some] at d7
                    clear hD
                    intro hN
                    simp only [fact, layAt, depOn, dstOf, List.map_cons, List.map_nil, List.foldl_cons, List.foldl_nil, List.getD_cons_zero, List.getD_cons_succ, List.getElem?_cons_zero, List.getElem?_cons_succ, Option.bind_some, d7] at hN ⊢
                    go_simp
                    have hh := hN _ _ rfl (.inl (Below.refl _ _))
                    revert hh
                    go_simp
                  refine owed_cons (fun vs u hS hD N => ?_) ?_
                  · have d7 := hD 7 (by decide)
                    simp only [fact, layAt, depOn, dstOf, List.map_cons, List.map_nil, List.foldl_cons, List.foldl_nil, List.getD_cons_zero, List.getD_cons_succ, List.getElem?_cons_zero, List.getElem?_cons_succ, Option.bind_some] at d7
                    have d19 := hD 19 (by decide)
                    simp only [fact, layAt, depOn, dstOf, List.map_cons, List.map_nil, List.foldl_cons, List.foldl_nil, List.getD_cons_zero, List.getD_cons_succ, List.getElem?_cons_zero, List.getElem?_cons_succ, Option.bind_some] at d19
                    have d20 := hD 20 (by decide)
                    simp only [fact, layAt, depOn, dstOf, List.map_cons, List.map_nil, List.foldl_cons, List.foldl_nil, List.getD_cons_zero, List.getD_cons_succ, List.getElem?_cons_zero, List.getElem?_cons_succ, Option.bind_some] at d20
                    clear hD
                    intro hN
                    simp only [fact, layAt, depOn, dstOf, List.map_cons, List.map_nil, List.foldl_cons, List.foldl_nil, List.getD_cons_zero, List.getD_cons_succ, List.getElem?_cons_zero, List.getElem?_cons_succ, Option.bind_some, d7, d19, d20] at hN ⊢
                    go_simp
                    have hh := hN _ _ rfl (.inl (Below.refl _ _))
                    revert hh
                    go_simp
                  refine owed_cons (fun vs u hS hD N => ?_) ?_
                  · have d7 := hD 7 (by decide)
                    simp only [fact, layAt, depOn, dstOf, List.map_cons, List.map_nil, List.foldl_cons, List.foldl_nil, List.getD_cons_zero, List.getD_cons_succ, List.getElem?_cons_zero, List.getElem?_cons_succ, Option.bind_some] at d7
                    have d21 := hD 21 (by decide)
                    simp only [fact, layAt, depOn, dstOf, List.map_cons, List.map_nil, List.foldl_cons, List.foldl_nil, List.getD_cons_zero, List.getD_cons_succ, List.getElem?_cons_zero, List.getElem?_cons_succ, Option.bind_some] at d21
                    clear hD
                    intro hN
                    simp only [fact, layAt, depOn, dstOf, List.map_cons, List.map_nil, List.foldl_cons, List.foldl_nil, List.getD_cons_zero, List.getD_cons_succ, List.getElem?_cons_zero, List.getElem?_cons_succ, Option.bind_some, d7, d21] at hN ⊢
                    go_simp
                    have k0 := K0 _ hS
                    have k1 := K1 _ hS
                    go_simp
                    have hh := hN _ _ rfl (.inl (Below.refl _ _))
                    revert hh
                    go_simp
                  refine owed_cons (fun vs u hS hD N => ?_) ?_
                  · have d7 := hD 7 (by decide)
                    simp only [fact, layAt, depOn, dstOf, List.map_cons, List.map_nil, List.foldl_cons, List.foldl_nil, List.getD_cons_zero, List.getD_cons_succ, List.getElem?_cons_zero, List.getElem?_cons_succ, Option.bind_some] at d7
                    have d18 := hD 18 (by decide)
                    simp only [fact, layAt, depOn, dstOf, List.map_cons, List.map_nil, List.foldl_cons, List.foldl_nil, List.getD_cons_zero, List.getD_cons_succ, List.getElem?_cons_zero, List.getElem?_cons_succ, Option.bind_some] at d18
                    have d22 := hD 22 (by decide)
                    simp only [fact, layAt, depOn, dstOf, List.map_cons, List.map_nil, List.foldl_cons, List.foldl_nil, List.getD_cons_zero, List.getD_cons_succ, List.getElem?_cons_zero, List.getElem?_cons_succ, Option.bind_some] at d22
                    clear hD
                    intro hN
                    simp only [fact, layAt, depOn, dstOf, List.map_cons, List.map_nil, List.foldl_cons, List.foldl_nil, List.getD_cons_zero, List.getD_cons_succ, List.getElem?_cons_zero, List.getElem?_cons_succ, Option.bind_some, d7, d18, d22] at hN ⊢
                    go_simp
                    refine (cmp_any o1 o2 k1 k2 u).mono ?_
                    rintro e u' ⟨rfl, f⟩
                    rw [HC2.out]
                    have hh := hN _ _ rfl (.inl f)
                    revert hh
                    go_simp
                  refine owed_cons (fun vs u hS hD N => ?_) ?_
                  · have d7 := hD 7 (by decide)
                    simp only [fact, layAt, depOn, dstOf, List.map_cons, List.map_nil, List.foldl_cons, List.foldl_nil, List.getD_cons_zero, List.getD_cons_succ, List.getElem?_cons_zero, List.getElem?_cons_succ, Option.bind_some] at d7
                    have d23 := hD 23 (by decide)
                    simp only [fact, layAt, depOn, dstOf, List.map_cons, List.map_nil, List.foldl_cons, List.foldl_nil, List.getD_cons_zero, List.getD_cons_succ, List.getElem?_cons_zero, List.getElem?_cons_succ, Option.bind_some] at d23
                    clear hD
                    intro hN
                    simp only [fact, layAt, depOn, dstOf, List.map_cons, List.map_nil, List.foldl_cons, List.foldl_nil, List.getD_cons_zero, List.getD_cons_succ, List.getElem?_cons_zero, List.getElem?_cons_succ, Option.bind_some, d7, d23] at hN ⊢
                    go_simp
                    have hh := hN _ _ rfl (.inl (Below.refl _ _))
                    revert hh
                    go_simp
                  refine owed_cons (fun vs u hS hD N => ?_) ?_
                  · have d7 := hD 7 (by decide)
                    simp only [fact, layAt, depOn, dstOf, List.map_cons, List.map_nil, List.foldl_cons, List.foldl_nil, List.getD_cons_zero, List.getD_cons_succ, List.getElem?_cons_zero, List.getElem?_cons_succ, Option.bind_some] at d7
                    have d15 := hD 15 (by decide)
                    simp only [fact, layAt, depOn, dstOf, List.map_cons, List.map_nil, List.foldl_cons, List.foldl_nil, List.getD_cons_zero, List.getD_cons_succ, List.getElem?_cons_zero, List.getElem?_cons_succ, Option.bind_some] at d15
                    have d24 := hD 24 (by decide)
                    simp only [fact, layAt, depOn, dstOf, List.map_cons, List.map_nil, List.foldl_cons, List.foldl_nil, List.getD_cons_zero, List.getD_cons_succ, List.getElem?_cons_zero, List.getElem?_cons_succ, Option.bind_some] at d24
                    clear hD
                    intro hN
                    simp only [fact, layAt, depOn, dstOf, List.map_cons, List.map_nil, List.foldl_cons, List.foldl_nil, List.getD_cons_zero, List.getD_cons_succ, List.getElem?_cons_zero, List.getElem?_cons_succ, Option.bind_some, d7, d15, d24] at hN ⊢
                    go_simp
                    have hh := hN _ _ rfl (.inl (Below.refl _ _))
                    revert hh
                    go_simp
                  refine owed_cons (fun vs u hS hD N => ?_) ?_
                  · have d7 := hD 7 (by decide)
                    simp only [fact, layAt, depOn, dstOf, List.map_cons, List.map_nil, List.foldl_cons, List.foldl_nil, List.getD_cons_zero, List.getD_cons_succ, List.getElem?_cons_zero, List.getElem?_cons_succ, Option.bind_some] at d7
                    have d25 := hD 25 (by decide)
                    simp only [fact, layAt, depOn, dstOf, List.map_cons, List.map_nil, List.foldl_cons, List.foldl_nil, List.getD_cons_zero, List.getD_cons_succ, List.getElem?_cons_zero, List.getElem?_cons_succ, Option.bind_some] at d25
                    clear hD
                    intro hN
                    simp only [fact, layAt, depOn, dstOf, List.map_cons, List.map_nil, List.foldl_cons, List.foldl_nil, List.getD_cons_zero, List.getD_cons_succ, List.getElem?_cons_zero, List.getElem?_cons_succ, Option.bind_some, d7, d25] at hN ⊢
                    go_simp
                    have hh := hN _ _ rfl (.inl (Below.refl _ _))
                    revert hh
                    go_simp
                  refine owed_cons (fun vs u hS hD N => ?_) ?_
                  · have d26 := hD 26 (by decide)
                    simp only [fact, layAt, depOn, dstOf, List.map_cons, List.map_nil, List.foldl_cons, List.foldl_nil, List.getD_cons_zero, List.getD_cons_succ, List.getElem?_cons_zero, List.getElem?_cons_succ, Option.bind_some] at d26
                    clear hD
                    intro hN
                    simp only [fact, layAt, depOn, dstOf, List.map_cons, List.map_nil, List.foldl_cons, List.foldl_nil, List.getD_cons_zero, List.getD_cons_succ, List.getElem?_cons_zero, List.getElem?_cons_succ, Option.bind_some, d26] at hN ⊢
                    go_simp
                    have hh := hN _ _ rfl (.inl (Below.refl _ _))
                    revert hh
                    go_simp
                  refine owed_cons (fun vs u hS hD N => ?_) ?_
                  · have d27 := hD 27 (by decide)
                    simp only [fact, layAt, depOn, dstOf, List.map_cons, List.map_nil, List.foldl_cons, List.foldl_nil, List.getD_cons_zero, List.getD_cons_succ, List.getElem?_cons_zero, List.getElem?_cons_succ, Option.bind_some] at d27
                    clear hD
                    intro hN
                    simp only [fact, layAt, depOn, dstOf, List.map_cons, List.map_nil, List.foldl_cons, List.foldl_nil, List.getD_cons_zero, List.getD_cons_succ, List.getElem?_cons_zero, List.getElem?_cons_succ, Option.bind_some, d27] at hN ⊢
                    go_simp
                    have hh := hN _ _ rfl (.inl (Below.refl _ _))
                    revert hh
                    go_simp
                  refine owed_cons (fun vs u hS hD N => ?_) ?_
                  · have d27 := hD 27 (by decide)
                    simp only [fact, layAt, depOn, dstOf, List.map_cons, List.map_nil, List.foldl_cons, List.foldl_nil, List.getD_cons_zero, List.getD_cons_succ, List.getElem?_cons_zero, List.getElem?_cons_succ, Option.bind_some] at d27
                    clear hD
                    intro hN
                    simp only [fact, layAt, depOn, dstOf, List.map_cons, List.map_nil, List.foldl_cons, List.foldl_nil, List.getD_cons_zero, List.getD_cons_succ, List.getElem?_cons_zero, List.getElem?_cons_succ, Option.bind_some, d27] at hN ⊢
                    go_simp
                    have hh := hN _ _ rfl (.inl (Below.refl _ _))
                    revert hh
                    go_simp
                  refine owed_cons (fun vs u hS hD N => ?_) ?_
                  · have d27 := hD 27 (by decide)
                    simp only [fact, layAt, depOn, dstOf, List.map_cons, List.map_nil, List.foldl_cons, List.foldl_nil, List.getD_cons_zero, List.getD_cons_succ, List.getElem?_cons_zero, List.getElem?_cons_succ, Option.bind_some] at d27
                    have d28 := hD 28 (by decide)
                    simp only [fact, layAt, depOn, dstOf, List.map_cons, List.map_nil, List.foldl_cons, List.foldl_nil, List.getD_cons_zero, List.getD_cons_succ, List.getElem?_cons_zero, List.getElem?_cons_succ, Option.bind_some] at d28
                    have d29 := hD 29 (by decide)
                    simp only [fact, layAt, depOn, dstOf, List.map_cons, List.map_nil, List.foldl_cons, List.foldl_nil, List.getD_cons_zero, List.getD_cons_succ, List.getElem?_cons_zero, List.getElem?_cons_succ, Option.bind_some] at d29
                    clear hD
                    intro hN
                    simp only [fact, layAt, depOn, dstOf, List.map_cons, List.map_nil, List.foldl_cons, List.foldl_nil, List.getD_cons_zero, List.getD_cons_succ, List.getElem?_cons_zero, List.getElem?_cons_succ, Option.bind_some, d27, d28, d29] at hN ⊢
                    go_simp
                    have hh := hN _ _ rfl (.inl (Below.refl _ _))
                    revert hh
                    go_simp
                  refine owed_cons (fun vs u hS hD N => ?_) ?_
                  · have d27 := hD 27 (by decide)
                    simp only [fact, layAt, depOn, dstOf, List.map_cons, List.map_nil, List.foldl_cons, List.foldl_nil, List.getD_cons_zero, List.getD_cons_succ, List.getElem?_cons_zero, List.getElem?_cons_succ, Option.bind_some] at d27
                    have d30 := hD 30 (by decide)
                    simp only [fact, layAt, depOn, dstOf, List.map_cons, List.map_nil, List.foldl_cons, List.foldl_nil, List.getD_cons_zero, List.getD_cons_succ, List.getElem?_cons_zero, List.getElem?_cons_succ, Option.bind_some] at d30
                    clear hD
                    intro hN
                    simp only [fact, layAt, depOn, dstOf, List.map_cons, List.map_nil, List.foldl_cons, List.foldl_nil, List.getD_cons_zero, List.getD_cons_succ, List.getElem?_cons_zero, List.getElem?_cons_succ, Option.bind_some, d27, d30] at hN ⊢
                    go_simp
                    have k0 := K0 _ hS
                    have k1 := K1 _ hS
                    go_simp
                    have hh := hN _ _ rfl (.inl (Below.refl _ _))
                    revert hh
                    go_simp
                  refine owed_cons (fun vs u hS hD N => ?_) ?_
                  · have d27 := hD 27 (by decide)
                    simp only [fact, layAt, depOn, dstOf, List.map_cons, List.map_nil, List.foldl_cons, List.foldl_nil, List.getD_cons_zero, List.getD_cons_succ, List.getElem?_cons_zero, List.getElem?_cons_succ, Option.bind_some] at d27
                    clear hD
                    intro hN
                    simp only [fact, layAt, depOn, dstOf, List.map_cons, List.map_nil, List.foldl_cons, List.foldl_nil, List.getD_cons_zero, List.getD_cons_succ, List.getElem?_cons_zero, List.getElem?_cons_succ, Option.bind_some, d27] at hN ⊢
                    go_simp
                    have hh := hN _ _ rfl (.inl (Below.refl _ _))
                    revert hh
                    go_simp
                  refine owed_cons (fun vs u hS hD N => ?_) ?_
                  · have d27 := hD 27 (by decide)
                    simp only [fact, layAt, depOn, dstOf, List.map_cons, List.map_nil, List.foldl_cons, List.foldl_nil, List.getD_cons_zero, List.getD_cons_succ, List.getElem?_cons_zero, List.getElem?_cons_succ, Option.bind_some] at d27
                    have d32 := hD 32 (by decide)
                    simp only [fact, layAt, depOn, dstOf, List.map_cons, List.map_nil, List.foldl_cons, List.foldl_nil, List.getD_cons_zero, List.getD_cons_succ, List.getElem?_cons_zero, List.getElem?_cons_succ, Option.bind_some] at d32
                    clear hD
                    intro hN
                    simp only [fact, layAt, depOn, dstOf, List.map_cons, List.map_nil, List.foldl_cons, List.foldl_nil, List.getD_cons_zero, List.getD_cons_succ, List.getElem?_cons_zero, List.getElem?_cons_succ, Option.bind_some, d27, d32] at hN ⊢
                    go_simp
                    have hh := hN _ _ rfl (.inl (Below.refl _ _))
                    revert hh
                    go_simp
                  refine owed_cons (fun vs u hS hD N => ?_) ?_
                  · have d27 := hD 27 (by decide)
                    simp only [fact, layAt, depOn, dstOf, List.map_cons, List.map_nil, List.foldl_cons, List.foldl_nil, List.getD_cons_zero, List.getD_cons_succ, List.getElem?_cons_zero, List.getElem?_cons_succ, Option.bind_some] at d27
                    have d33 := hD 33 (by decide)
                    simp only [fact, layAt, depOn, dstOf, List.map_cons, List.map_nil, List.foldl_cons, List.foldl_nil, List.getD_cons_zero, List.getD_cons_succ, List.getElem?_cons_zero, List.getElem?_cons_succ, Option.bind_some] at d33
                    clear hD
                    intro hN
                    simp only [fact, layAt, depOn, dstOf, List.map_cons, List.map_nil, List.foldl_cons, List.foldl_nil, List.getD_cons_zero, List.getD_cons_succ, List.getElem?_cons_zero, List.getElem?_cons_succ, Option.bind_some, d27, d33] at hN ⊢
                    go_simp
                    have o0 := O0 _ hS
                    have o1 := O1 _ hS
                    go_simp
                    have hh := hN _ _ rfl (.inl (Below.refl _ _))
                    revert hh
                    go_simp
                  refine owed_cons (fun vs u hS hD N => ?_) ?_
                  · have d27 := hD 27 (by decide)
                    simp only [fact, layAt, depOn, dstOf, List.map_cons, List.map_nil, List.foldl_cons, List.foldl_nil, List.getD_cons_zero, List.getD_cons_succ, List.getElem?_cons_zero, List.getElem?_cons_succ, Option.bind_some] at d27
                    have d31 := hD 31 (by decide)
                    simp only [fact, layAt, depOn, dstOf, List.map_cons, List.map_nil, List.foldl_cons, List.foldl_nil, List.getD_cons_zero, List.getD_cons_succ, List.getElem?_cons_zero, List.getElem?_cons_succ, Option.bind_some] at d31
                    have d34 := hD 34 (by decide)
                    simp only [fact, layAt, depOn, dstOf, List.map_cons, List.map_nil, List.foldl_cons, List.foldl_nil, List.getD_cons_zero, List.getD_cons_succ, List.getElem?_cons_zero, List.getElem?_cons_succ, Option.bind_some] at d34
                    clear hD
                    intro hN
                    simp only [fact, layAt, depOn, dstOf, List.map_cons, List.map_nil, List.foldl_cons, List.foldl_nil, List.getD_cons_zero, List.getD_cons_succ, List.getElem?_cons_zero, List.getElem?_cons_succ, Option.bind_some, d27, d31, d34] at hN ⊢
                    go_simp
                    refine (cmp_any k1 k2 o1 o2 u).mono ?_
                    rintro e u' ⟨rfl, f⟩
                    rw [HC1.out]
                    have hh := hN _ _ rfl (.inl f)
                    revert hh
                    go_simp
                  refine owed_cons (fun vs u hS hD N => ?_) ?_
                  · have d27 := hD 27 (by decide)
                    simp only [fact, layAt, depOn, dstOf, List.map_cons, List.map_nil, List.foldl_cons, List.foldl_nil, List.getD_cons_zero, List.getD_cons_succ, List.getElem?_cons_zero, List.getElem?_cons_succ, Option.bind_some] at d27
                    have d35 := hD 35 (by decide)
                    simp only [fact, layAt, depOn, dstOf, List.map_cons, List.map_nil, List.foldl_cons, List.foldl_nil, List.getD_cons_zero, List.getD_cons_succ, List.getElem?_cons_zero, List.getElem?_cons_succ, Option.bind_some] at d35
                    clear hD
                    intro hN
                    simp only [fact, layAt, depOn, dstOf, List.map_cons, List.map_nil, List.foldl_cons, List.foldl_nil, List.getD_cons_zero, List.getD_cons_succ, List.getElem?_cons_zero, List.getElem?_cons_succ, Option.bind_some, d27, d35] at hN ⊢
                    go_simp
                    have hh := hN _ _ rfl (.inl (Below.refl _ _))
                    revert hh
                    go_simp
                  refine owed_cons (fun vs u hS hD N => ?_) ?_
                  · have d27 := hD 27 (by decide)
                    simp only [fact, layAt, depOn, dstOf, List.map_cons, List.map_nil, List.foldl_cons, List.foldl_nil, List.getD_cons_zero, List.getD_cons_succ, List.getElem?_cons_zero, List.getElem?_cons_succ, Option.bind_some] at d27
                    clear hD
                    intro hN
                    simp only [fact, layAt, depOn, dstOf, List.map_cons, List.map_nil, List.foldl_cons, List.foldl_nil, List.getD_cons_zero, List.getD_cons_succ, List.getElem?_cons_zero, List.getElem?_cons_succ, Option.bind_some, d27] at hN ⊢
                    go_simp
                    have hh := hN _ _ rfl (.inl (Below.refl _ _))
                    revert hh
                    go_simp
                  refine owed_cons (fun vs u hS hD N => ?_) ?_
                  · have d27 := hD 27 (by decide)
                    simp only [fact, layAt, depOn, dstOf, List.map_cons, List.map_nil, List.foldl_cons, List.foldl_nil, List.getD_cons_zero, List.getD_cons_succ, List.getElem?_cons_zero, List.getElem?_cons_succ, Option.bind_some] at d27
                    clear hD
                    intro hN
                    simp only [fact, layAt, depOn, dstOf, List.map_cons, List.map_nil, List.foldl_cons, List.foldl_nil, List.getD_cons_zero, List.getD_cons_succ, List.getElem?_cons_zero, List.getElem?_cons_succ, Option.bind_some, d27] at hN ⊢
                    go_simp
                    have hh := hN _ _ rfl (.inl (Below.refl _ _))
                    revert hh
                    go_simp
                  refine owed_cons (fun vs u hS hD N => ?_) ?_
                  · have d27 := hD 27 (by decide)
                    simp only [fact, layAt, depOn, dstOf, List.map_cons, List.map_nil, List.foldl_cons, List.foldl_nil, List.getD_cons_zero, List.getD_cons_succ, List.getElem?_cons_zero, List.getElem?_cons_succ, Option.bind_some] at d27
                    have d37 := hD 37 (by decide)
                    simp only [fact, layAt, depOn, dstOf, List.map_cons, List.map_nil, List.foldl_cons, List.foldl_nil, List.getD_cons_zero, List.getD_cons_succ, List.getElem?_cons_zero, List.getElem?_cons_succ, Option.bind_some] at d37
                    have d38 := hD 38 (by decide)
                    simp only [fact, layAt, depOn, dstOf, List.map_cons, List.map_nil, List.foldl_cons, List.foldl_nil, List.getD_cons_zero, List.getD_cons_succ, List.getElem?_cons_zero, List.getElem?_cons_succ, Option.bind_some] at d38
                    clear hD
                    intro hN
                    simp only [fact, layAt, depOn, dstOf, List.map_cons, List.map_nil, List.foldl_cons, List.foldl_nil, List.getD_cons_zero, List.getD_cons_succ, List.getElem?_cons_zero, List.getElem?_cons_succ, Option.bind_some, d27, d37, d38] at hN ⊢
                    go_simp
                    have hh := hN _ _ rfl (.inl (Below.refl _ _))
                    revert hh
                    go_simp
                  refine owed_cons (fun vs u hS hD N => ?_) ?_
                  · have d27 := hD 27 (by decide)
                    simp only [fact, layAt, depOn, dstOf, List.map_cons, List.map_nil, List.foldl_cons, List.foldl_nil, List.getD_cons_zero, List.getD_cons_succ, List.getElem?_cons_zero, List.getElem?_cons_succ, Option.bind_some] at d27
                    have d39 := hD 39 (by decide)
                    simp only [fact, layAt, depOn, dstOf, List.map_cons, List.map_nil, List.foldl_cons, List.foldl_nil, List.getD_cons_zero, List.getD_cons_succ, List.getElem?_cons_zero, List.getElem?_cons_succ, Option.bind_some] at d39
                    clear hD
                    intro hN
                    simp only [fact, layAt, depOn, dstOf, List.map_cons, List.map_nil, List.foldl_cons, List.foldl_nil, List.getD_cons_zero, List.getD_cons_succ, List.getElem?_cons_zero, List.getElem?_cons_succ, Option.bind_some, d27, d39] at hN ⊢
                    go_simp
                    have k0 := K0 _ hS
                    have k1 := K1 _ hS
                    go_simp
                    have hh := hN _ _ rfl (.inl (Below.refl _ _))
                    revert hh
                    go_simp
                  refine owed_cons (fun vs u hS hD N => ?_) ?_
                  · have d27 := hD 27 (by decide)
                    simp only [fact, layAt, depOn, dstOf, List.map_cons, List.map_nil, List.foldl_cons, List.foldl_nil, List.getD_cons_zero, List.getD_cons_succ, List.getElem?_cons_zero, List.getElem?_cons_succ, Option.bind_some] at d27
                    clear hD
                    intro hN
                    simp only [fact, layAt, depOn, dstOf, List.map_cons, List.map_nil, List.foldl_cons, List.foldl_nil, List.getD_cons_zero, List.getD_cons_succ, List.getElem?_cons_zero, List.getElem?_cons_succ, Option.bind_some, d27] at hN ⊢
                    go_simp
                    have hh := hN _ _ rfl (.inl (Below.refl _ _))
                    revert hh
                    go_simp
                  refine owed_cons (fun vs u hS hD N => ?_) ?_
                  · have d27 := hD 27 (by decide)
                    simp only [fact, layAt, depOn, dstOf, List.map_cons, List.map_nil, List.foldl_cons, List.foldl_nil, List.getD_cons_zero, List.getD_cons_succ, List.getElem?_cons_zero, List.getElem?_cons_succ, Option.bind_some] at d27
                    have d41 := hD 41 (by decide)
                    simp only [fact, layAt, depOn, dstOf, List.map_cons, List.map_nil, List.foldl_cons, List.foldl_nil, List.getD_cons_zero, List.getD_cons_succ, List.getElem?_cons_zero, List.getElem?_cons_succ, Option.bind_some] at d41
                    clear hD
                    intro hN
                    simp only [fact, layAt, depOn, dstOf, List.map_cons, List.map_nil, List.foldl_cons, List.foldl_nil, List.getD_cons_zero, List.getD_cons_succ, List.getElem?_cons_zero, List.getElem?_cons_succ, Option.bind_some, d27, d41] at hN ⊢
                    go_simp
                    have hh := hN _ _ rfl (.inl (Below.refl _ _))
                    revert hh
                    go_simp
                  refine owed_cons (fun vs u hS hD N => ?_) ?_
                  · have d27 := hD 27 (by decide)
                    simp only [fact, layAt, depOn, dstOf, List.map_cons, List.map_nil, List.foldl_cons, List.foldl_nil, List.getD_cons_zero, List.getD_cons_succ, List.getElem?_cons_zero, List.getElem?_cons_succ, Option.bind_some] at d27
                    have d42 := hD 42 (by decide)
                    simp only [fact, layAt, depOn, dstOf, List.map_cons, List.map_nil, List.foldl_cons, List.foldl_nil, List.getD_cons_zero, List.getD_cons_succ, List.getElem?_cons_zero, List.getElem?_cons_succ, Option.bind_some] at d42
                    clear hD
                    intro hN
                    simp only [fact, layAt, depOn, dstOf, List.map_cons, List.map_nil, List.foldl_cons, List.foldl_nil, List.getD_cons_zero, List.getD_cons_succ, List.getElem?_cons_zero, List.getElem?_cons_succ, Option.bind_some, d27, d42] at hN ⊢
                    go_simp
                    have o0 := O0 _ hS
                    have o1 := O1 _ hS
                    go_simp
                    have hh := hN _ _ rfl (.inl (Below.refl _ _))
                    revert hh
                    go_simp
                  refine owed_cons (fun vs u hS hD N => ?_) ?_
                  · have d27 := hD 27 (by decide)
                    simp only [fact, layAt, depOn, dstOf, List.map_cons, List.map_nil, List.foldl_cons, List.foldl_nil, List.getD_cons_zero, List.getD_cons_succ, List.getElem?_cons_zero, List.getElem?_cons_succ, Option.bind_some] at d27
                    have d40 := hD 40 (by decide)
                    simp only [fact, layAt, depOn, dstOf, List.map_cons, List.map_nil, List.foldl_cons, List.foldl_nil, List.getD_cons_zero, List.getD_cons_succ, List.getElem?_cons_zero, List.getElem?_cons_succ, Option.bind_some] at d40
                    have d43 := hD 43 (by decide)
                    simp only [fact, layAt, depOn, dstOf, List.map_cons, List.map_nil, List.foldl_cons, List.foldl_nil, List.getD_cons_zero, List.getD_cons_succ, List.getElem?_cons_zero, List.getElem?_cons_succ, Option.bind_some] at d43
                    clear hD
                    intro hN
                    simp only [fact, layAt, depOn, dstOf, List.map_cons, List.map_nil, List.foldl_cons, List.foldl_nil, List.getD_cons_zero, List.getD_cons_succ, List.getElem?_cons_zero, List.getElem?_cons_succ, Option.bind_some, d27, d40, d43] at hN ⊢
                    rw [if_pos (by rfl)]
                    have qe := fun w : World => run_nm_eq k1 k2 o1 o2 w
                    rw [HQ.out] at qe
                    go_simp
                    have hh := hN _ _ rfl (.inl (Below.refl _ _))
                    revert hh
                    go_simp
                  refine owed_cons (fun vs u hS hD N => ?_) ?_
                  · have d27 := hD 27 (by decide)
                    simp only [fact, layAt, depOn, dstOf, List.map_cons, List.map_nil, List.foldl_cons, List.foldl_nil, List.getD_cons_zero, List.getD_cons_succ, List.getElem?_cons_zero, List.getElem?_cons_succ, Option.bind_some] at d27
                    have d36 := hD 36 (by decide)
                    simp only [fact, layAt, depOn, dstOf, List.map_cons, List.map_nil, List.foldl_cons, List.foldl_nil, List.getD_cons_zero, List.getD_cons_succ, List.getElem?_cons_zero, List.getElem?_cons_succ, Option.bind_some] at d36
                    have d44 := hD 44 (by decide)
                    simp only [fact, layAt, depOn, dstOf, List.map_cons, List.map_nil, List.foldl_cons, List.foldl_nil, List.getD_cons_zero, List.getD_cons_succ, List.getElem?_cons_zero, List.getElem?_cons_succ, Option.bind_some] at d44
                    clear hD
                    intro hN
                    simp only [fact, layAt, depOn, dstOf, List.map_cons, List.map_nil, List.foldl_cons, List.foldl_nil, List.getD_cons_zero, List.getD_cons_succ, List.getElem?_cons_zero, List.getElem?_cons_succ, Option.bind_some, d27, d36, d44] at hN ⊢
                    go_simp
                    have hh := hN _ _ rfl (.inl (Below.refl _ _))
                    revert hh
                    go_simp
                  refine owed_cons (fun vs u hS hD N => ?_) ?_
                  · have d27 := hD 27 (by decide)
                    simp only [fact, layAt, depOn, dstOf, List.map_cons, List.map_nil, List.foldl_cons, List.foldl_nil, List.getD_cons_zero, List.getD_cons_succ, List.getElem?_cons_zero, List.getElem?_cons_succ, Option.bind_some] at d27
                    have d45 := hD 45 (by decide)
                    simp only [fact, layAt, depOn, dstOf, List.map_cons, List.map_nil, List.foldl_cons, List.foldl_nil, List.getD_cons_zero, List.getD_cons_succ, List.getElem?_cons_zero, List.getElem?_cons_succ, Option.bind_some] at d45
                    clear hD
                    intro hN
                    simp only [fact, layAt, depOn, dstOf, List.map_cons, List.map_nil, List.foldl_cons, List.foldl_nil, List.getD_cons_zero, List.getD_cons_succ, List.getElem?_cons_zero, List.getElem?_cons_succ, Option.bind_some, d27, d45] at hN ⊢
                    go_simp
                    have hh := hN _ _ rfl (.inl (Below.refl _ _))
                    revert hh
                    go_simp
                  exact owed_nil
                ·
                  intro vs u hS hF
                  have d46 := hF 46 (by decide) (by decide)
                  simp only [fact, layAt, depOn, dstOf, List.map_cons, List.map_nil, List.foldl_cons, List.foldl_nil, List.getD_cons_zero, List.getD_cons_succ, List.getElem?_cons_zero, List.getElem?_cons_succ, Option.bind_some] at d46
                  clear hF
                  simp only [List.length_cons, List.length_nil, Nat.reduceAdd, List.range, List.range.loop, fact, layAt, depOn, dstOf, List.map_cons, List.map_nil, List.foldl_cons, List.foldl_nil, List.getD_cons_zero, List.getD_cons_succ, List.getElem?_cons_zero, List.getElem?_cons_succ, Option.bind_some, d46]
                  go_simp
                  replace f1 := f1.trans (hS.mono f1.size)
                  replace rX := (rX.below hS).more hS.size
                  go_wp2_with fail
                  go_roundw
                  case rel => exact ⟨k + 1, by go_num, by omega, rX, f1⟩
                  case measure => simp [intOf]; omega
              · rw [hz] at hcn
                have HC1 := Lib.hid (show cmpN k1 k2 o1 o2 = 1 from hz)
                have HC2 := Lib.hid (show cmpN o1 o2 k1 k2 = (-1) from hcn)
                have HQ := Lib.hid (show decide ((k1, k2) = (o1, o2)) = false from decide_eq_false hne)
                clear hz hcn hne
                have wm : IntKind.i64.wrap (-1) = -1 := by decide
                have wo : IntKind.i64.wrap 1 = 1 := by decide
                have wz : IntKind.i64.wrap 0 = 0 := by decide
                go_upto_region 17 with fail
                refine wp_region_facts (fun u => Below wr.heap.size wr u) [
                    fun v _ => v = .slice AX m cx,
                    fun v _ => v = .slice (some ⟨bl, ol, none⟩) n c,
                    fun v _ => v = .int .i64 (k : Int),
                    fun v _ => v = .pointer (some ⟨bl, ol + k * 2, none⟩),
                    fun v _ => v = .agg #[.string (strB k1), .string (strB k2)],
                    fun v _ => v = .bool true,
                    fun v _ => v = .bool false,
                    fun v _ => v = .bool false,
                    fun v _ => v = .slice (some ⟨bl, ol, none⟩) n c,
                    fun v _ => v = .int .i64 (k : Int),
                    fun v _ => v = .pointer (some ⟨bl, ol + k * 2, none⟩),
                    fun v _ => v = .agg #[.string (strB k1), .string (strB k2)],
                    fun v _ => v = .slice (some ⟨bl, ol, none⟩) n c,
                    fun v _ => v = .pointer (some ⟨bl, ol, none⟩),
                    fun v _ => v = .agg #[.string (strB o1), .string (strB o2)],
                    fun v _ => v = .int .i64 1,
                    fun v _ => v = .slice (some ⟨bl, ol, none⟩) n c,
                    fun v _ => v = .pointer (some ⟨bl, ol, none⟩),
                    fun v _ => v = .agg #[.string (strB o1), .string (strB o2)],
                    fun v _ => v = .slice (some ⟨bl, ol, none⟩) n c,
                    fun v _ => v = .int .i64 (k : Int),
                    fun v _ => v = .pointer (some ⟨bl, ol + k * 2, none⟩),
                    fun v _ => v = .agg #[.string (strB k1), .string (strB k2)],
                    fun v _ => v = .int .i64 (-1),
                    fun v _ => v = .int .i64 1,
                    fun v _ => v = .bool false,
                    fun v _ => v = .bool false,
                    fun v _ => v = .bool false,
                    fun v _ => v = .slice (some ⟨bl, ol, none⟩) n c,
                    fun v _ => v = .int .i64 (k : Int),
                    fun v _ => v = .pointer (some ⟨bl, ol + k * 2, none⟩),
                    fun v _ => v = .agg #[.string (strB k1), .string (strB k2)],
                    fun v _ => v = .slice (some ⟨bl, ol, none⟩) n c,
                    fun v _ => v = .pointer (some ⟨bl, ol, none⟩),
                    fun v _ => v = .agg #[.string (strB o1), .string (strB o2)],
                    fun v _ => v = .int .i64 1,
                    fun v _ => v = .bool false,
                    fun v _ => v = .slice (some ⟨bl, ol, none⟩) n c,
                    fun v _ => v = .int .i64 (k : Int),
                    fun v _ => v = .pointer (some ⟨bl, ol + k * 2, none⟩),
                    fun v _ => v = .agg #[.string (strB k1), .string (strB k2)],
                    fun v _ => v = .slice (some ⟨bl, ol, none⟩) n c,
                    fun v _ => v = .pointer (some ⟨bl, ol, none⟩),
                    fun v _ => v = .agg #[.string (strB o1), .string (strB o2)],
                    fun v _ => v = .bool false,
                    fun v _ => v = .bool false,
                    fun v _ => v = .bool false] (fun u u' => Below u.heap.size u u')
                    [[], [], [], [1, 2], [3], [0, 4], [5], [6], [7], [7], [7, 8, 9], [7, 10], [7], [7, 12], [7, 13], [7, 11, 14], [7], [7, 16], [7, 17], [7], [7], [7, 19, 20], [7, 21], [7, 18, 22], [7, 23], [7, 15, 24], [7, 25], [26], [27], [27], [27, 28, 29], [27, 30], [27], [27, 32], [27, 33], [27, 31, 34], [27, 35], [27], [27], [27, 37, 38], [27, 39], [27], [27, 41], [27, 42], [27, 40, 43], [27, 36, 44], [27, 45]] []
                    (by kernel_rfl) (by kernel_rfl) ?_ (fun _ _ _ _ _ h => h) ((Below.refl _ _).drew) ?_ ?_
                · refine hE_of (fun u u' h f => f.trans (h.mono f.size)) ?_
                  repeat' (first | exact mono_nil | refine mono_cons (fun v u u' h => ?_) ?_)
                  all_goals exact _root_.id
                ·
                  refine owed_cons (fun vs u hS hD N => ?_) ?_
                  · clear hD
                    intro hN
                    simp only [fact, layAt, depOn, dstOf, List.map_cons, List.map_nil, List.foldl_cons, List.foldl_nil, List.getD_cons_zero, List.getD_cons_succ, List.getElem?_cons_zero, List.getElem?_cons_succ, Option.bind_some] at hN ⊢
                    go_simp
                    have hh := hN _ _ rfl (.inl (Below.refl _ _))
                    revert hh
                    go_simp
                  refine owed_cons (fun vs u hS hD N => ?_) ?_
                  · clear hD
                    intro hN
                    simp only [fact, layAt, depOn, dstOf, List.map_cons, List.map_nil, List.foldl_cons, List.foldl_nil, List.getD_cons_zero, List.getD_cons_succ, List.getElem?_cons_zero, List.getElem?_cons_succ, Option.bind_some] at hN ⊢
                    go_simp
                    have hh := hN _ _ rfl (.inl (Below.refl _ _))
                    revert hh
                    go_simp
                  refine owed_cons (fun vs u hS hD N => ?_) ?_
                  · clear hD
                    intro hN
                    simp only [fact, layAt, depOn, dstOf, List.map_cons, List.map_nil, List.foldl_cons, List.foldl_nil, List.getD_cons_zero, List.getD_cons_succ, List.getElem?_cons_zero, List.getElem?_cons_succ, Option.bind_some] at hN ⊢
                    go_simp
                    have hh := hN _ _ rfl (.inl (Below.refl _ _))
                    revert hh
                    go_simp
                  refine owed_cons (fun vs u hS hD N => ?_) ?_
                  · have d1 := hD 1 (by decide)
                    simp only [fact, layAt, depOn, dstOf, List.map_cons, List.map_nil, List.foldl_cons, List.foldl_nil, List.getD_cons_zero, List.getD_cons_succ, List.getElem?_cons_zero, List.getElem?_cons_succ, Option.bind_some] at d1
                    have d2 := hD 2 (by decide)
                    simp only [fact, layAt, depOn, dstOf, List.map_cons, List.map_nil, List.foldl_cons, List.foldl_nil, List.getD_cons_zero, List.getD_cons_succ, List.getElem?_cons_zero, List.getElem?_cons_succ, Option.bind_some] at d2
                    clear hD
                    intro hN
                    simp only [fact, layAt, depOn, dstOf, List.map_cons, List.map_nil, List.foldl_cons, List.foldl_nil, List.getD_cons_zero, List.getD_cons_succ, List.getElem?_cons_zero, List.getElem?_cons_succ, Option.bind_some, d1, d2] at hN ⊢
                    go_simp
                    have hh := hN _ _ rfl (.inl (Below.refl _ _))
                    revert hh
                    go_simp
                  refine owed_cons (fun vs u hS hD N => ?_) ?_
                  · have d3 := hD 3 (by decide)
                    simp only [fact, layAt, depOn, dstOf, List.map_cons, List.map_nil, List.foldl_cons, List.foldl_nil, List.getD_cons_zero, List.getD_cons_succ, List.getElem?_cons_zero, List.getElem?_cons_succ, Option.bind_some] at d3
                    clear hD
                    intro hN
                    simp only [fact, layAt, depOn, dstOf, List.map_cons, List.map_nil, List.foldl_cons, List.foldl_nil, List.getD_cons_zero, List.getD_cons_succ, List.getElem?_cons_zero, List.getElem?_cons_succ, Option.bind_some, d3] at hN ⊢
                    go_simp
                    have k0 := K0 _ hS
                    have k1 := K1 _ hS
                    go_simp
                    have hh := hN _ _ rfl (.inl (Below.refl _ _))
                    revert hh
                    go_simp
                  refine owed_cons (fun vs u hS hD N => ?_) ?_
                  · have d0 := hD 0 (by decide)
                    simp only [fact, layAt, depOn, dstOf, List.map_cons, List.map_nil, List.foldl_cons, List.foldl_nil, List.getD_cons_zero, List.getD_cons_succ, List.getElem?_cons_zero, List.getElem?_cons_succ, Option.bind_some] at d0
                    have d4 := hD 4 (by decide)
                    simp only [fact, layAt, depOn, dstOf, List.map_cons, List.map_nil, List.foldl_cons, List.foldl_nil, List.getD_cons_zero, List.getD_cons_succ, List.getElem?_cons_zero, List.getElem?_cons_succ, Option.bind_some] at d4
                    clear hD
                    intro hN
                    simp only [fact, layAt, depOn, dstOf, List.map_cons, List.map_nil, List.foldl_cons, List.foldl_nil, List.getD_cons_zero, List.getD_cons_succ, List.getElem?_cons_zero, List.getElem?_cons_succ, Option.bind_some, d0, d4] at hN ⊢
                    go_simp
                    refine (has_any AX m cx X k1 k2 u ((rX.below hS).more hS.size) (by omega)).mono ?_
                    rintro e u' ⟨rfl, f⟩
                    rw [decide_eq_true HM.out]
                    have hh := hN _ _ rfl (.inl f)
                    revert hh
                    go_simp
                  refine owed_cons (fun vs u hS hD N => ?_) ?_
                  · have d5 := hD 5 (by decide)
                    simp only [fact, layAt, depOn, dstOf, List.map_cons, List.map_nil, List.foldl_cons, List.foldl_nil, List.getD_cons_zero, List.getD_cons_succ, List.getElem?_cons_zero, List.getElem?_cons_succ, Option.bind_some] at d5
                    clear hD
                    intro hN
                    simp only [fact, layAt, depOn, dstOf, List.map_cons, List.map_nil, List.foldl_cons, List.foldl_nil, List.getD_cons_zero, List.getD_cons_succ, List.getElem?_cons_zero, List.getElem?_cons_succ, Option.bind_some, d5] at hN ⊢
                    go_simp
                    have hh := hN _ _ rfl (.inl (Below.refl _ _))
                    revert hh
                    go_simp
                  refine owed_cons (fun vs u hS hD N => ?_) ?_
                  · have d6 := hD 6 (by decide)
                    simp only [fact, layAt, depOn, dstOf, List.map_cons, List.map_nil, List.foldl_cons, List.foldl_nil, List.getD_cons_zero, List.getD_cons_succ, List.getElem?_cons_zero, List.getElem?_cons_succ, Option.bind_some] at d6
                    clear hD
                    intro hN
                    simp only [fact, layAt, depOn, dstOf, List.map_cons, List.map_nil, List.foldl_cons, List.foldl_nil, List.getD_cons_zero, List.getD_cons_succ, List.getElem?_cons_zero, List.getElem?_cons_succ, Option.bind_some, d6] at hN ⊢
                    go_simp
                    have hh := hN _ _ rfl (.inl (Below.refl _ _))
                    revert hh
                    go_simp
                  refine owed_cons (fun vs u hS hD N => ?_) ?_
                  · have d7 := hD 7 (by decide)
                    simp only [fact, layAt, depOn, dstOf, List.map_cons, List.map_nil, List.foldl_cons, List.foldl_nil, List.getD_cons_zero, List.getD_cons_succ, List.getElem?_cons_zero, List.getElem?_cons_succ, Option.bind_some] at d7
                    clear hD
                    intro hN
                    simp only [fact, layAt, depOn, dstOf, List.map_cons, List.map_nil, List.foldl_cons, List.foldl_nil, List.getD_cons_zero, List.getD_cons_succ, List.getElem?_cons_zero, List.getElem?_cons_succ, Option.bind_some, d7] at hN ⊢
                    go_simp
                    have hh := hN _ _ rfl (.inl (Below.refl _ _))
                    revert hh
                    go_simp
                  refine owed_cons (fun vs u hS hD N => ?_) ?_
                  · have d7 := hD 7 (by decide)
                    simp only [fact, layAt, depOn, dstOf, List.map_cons, List.map_nil, List.foldl_cons, List.foldl_nil, List.getD_cons_zero, List.getD_cons_succ, List.getElem?_cons_zero, List.getElem?_cons_succ, Option.bind_some] at d7
                    clear hD
                    intro hN
                    simp only [fact, layAt, depOn, dstOf, List.map_cons, List.map_nil, List.foldl_cons, List.foldl_nil, List.getD_cons_zero, List.getD_cons_succ, List.getElem?_cons_zero, List.getElem?_cons_succ, Option.bind_some, d7] at hN ⊢
                    go_simp
                    have hh := hN _ _ rfl (.inl (Below.refl _ _))
                    revert hh
                    go_simp
                  refine owed_cons (fun vs u hS hD N => ?_) ?_
                  · have d7 := hD 7 (by decide)
                    simp only [fact, layAt, depOn, dstOf, List.map_cons, List.map_nil, List.foldl_cons, List.foldl_nil, List.getD_cons_zero, List.getD_cons_succ, List.getElem?_cons_zero, List.getElem?_cons_succ, Option.bind_some] at d7
                    have d8 := hD 8 (by decide)
                    simp only [fact, layAt, depOn, dstOf, List.map_cons, List.map_nil, List.foldl_cons, List.foldl_nil, List.getD_cons_zero, List.getD_cons_succ, List.getElem?_cons_zero, List.getElem?_cons_succ, Option.bind_some] at d8
                    have d9 := hD 9 (by decide)
                    simp only [fact, layAt, depOn, dstOf, List.map_cons, List.map_nil, List.foldl_cons, List.foldl_nil, List.getD_cons_zero, List.getD_cons_succ, List.getElem?_cons_zero, List.getElem?_cons_succ, Option.bind_some] at d9
                    clear hD
                    intro hN
                    simp only [fact, layAt, depOn, dstOf, List.map_cons, List.map_nil, List.foldl_cons, List.foldl_nil, List.getD_cons_zero, List.getD_cons_succ, List.getElem?_cons_zero, List.getElem?_cons_succ, Option.bind_some, d7, d8, d9] at hN ⊢
                    go_simp
                    have hh := hN _ _ rfl (.inl (Below.refl _ _))
                    revert hh
                    go_simp
                  refine owed_cons (fun vs u hS hD N => ?_) ?_
                  · have d7 := hD 7 (by decide)
                    simp only [fact, layAt, depOn, dstOf, List.map_cons, List.map_nil, List.foldl_cons, List.foldl_nil, List.getD_cons_zero, List.getD_cons_succ, List.getElem?_cons_zero, List.getElem?_cons_succ, Option.bind_some] at d7
                    have d10 := hD 10 (by decide)
                    simp only [fact, layAt, depOn, dstOf, List.map_cons, List.map_nil, List.foldl_cons, List.foldl_nil, List.getD_cons_zero, List.getD_cons_succ, List.getElem?_cons_zero, List.getElem?_cons_succ, Option.bind_some] at d10
                    clear hD
                    intro hN
                    simp only [fact, layAt, depOn, dstOf, List.map_cons, List.map_nil, List.foldl_cons, List.foldl_nil, List.getD_cons_zero, List.getD_cons_succ, List.getElem?_cons_zero, List.getElem?_cons_succ, Option.bind_some, d7, d10] at hN ⊢
                    go_simp
                    have k0 := K0 _ hS
                    have k1 := K1 _ hS
                    go_simp
                    have hh := hN _ _ rfl (.inl (Below.refl _ _))
                    revert hh
                    go_simp
                  refine owed_cons (fun vs u hS hD N => ?_) ?_
                  · have d7 := hD 7 (by decide)
                    simp only [fact, layAt, depOn, dstOf, List.map_cons, List.map_nil, List.foldl_cons, List.foldl_nil, List.getD_cons_zero, List.getD_cons_succ, List.getElem?_cons_zero, List.getElem?_cons_succ, Option.bind_some] at d7
                    clear hD
                    intro hN
                    simp only [fact, layAt, depOn, dstOf, List.map_cons, List.map_nil, List.foldl_cons, List.foldl_nil, List.getD_cons_zero, List.getD_cons_succ, List.getElem?_cons_zero, List.getElem?_cons_succ, Option.bind_some, d7] at hN ⊢
                    go_simp
                    have hh := hN _ _ rfl (.inl (Below.refl _ _))
                    revert hh
                    go_simp
                  refine owed_cons (fun vs u hS hD N => ?_) ?_
                  · have d7 := hD 7 (by decide)
                    simp only [fact, layAt, depOn, dstOf, List.map_cons, List.map_nil, List.foldl_cons, List.foldl_nil, List.getD_cons_zero, List.getD_cons_succ, List.getElem?_cons_zero, List.getElem?_cons_succ, Option.bind_some] at d7
                    have d12 := hD 12 (by decide)
                    simp only [fact, layAt, depOn, dstOf, List.map_cons, List.map_nil, List.foldl_cons, List.foldl_nil, List.getD_cons_zero, List.getD_cons_succ, List.getElem?_cons_zero, List.getElem?_cons_succ, Option.bind_some] at d12
                    clear hD
                    intro hN
                    simp only [fact, layAt, depOn, dstOf, List.map_cons, List.map_nil, List.foldl_cons, List.foldl_nil, List.getD_cons_zero, List.getD_cons_succ, List.getElem?_cons_zero, List.getElem?_cons_succ, Option.bind_some, d7, d12] at hN ⊢
                    go_simp
                    have hh := hN _ _ rfl (.inl (Below.refl _ _))
                    revert hh
                    go_simp
                  refine owed_cons (fun vs u hS hD N => ?_) ?_
                  · have d7 := hD 7 (by decide)
                    simp only [fact, layAt, depOn, dstOf, List.map_cons, List.map_nil, List.foldl_cons, List.foldl_nil, List.getD_cons_zero, List.getD_cons_succ, List.getElem?_cons_zero, List.getElem?_cons_succ, Option.bind_some] at d7
                    have d13 := hD 13 (by decide)
                    simp only [fact, layAt, depOn, dstOf, List.map_cons, List.map_nil, List.foldl_cons, List.foldl_nil, List.getD_cons_zero, List.getD_cons_succ, List.getElem?_cons_zero, List.getElem?_cons_succ, Option.bind_some] at d13
                    clear hD
                    intro hN
                    simp only [fact, layAt, depOn, dstOf, List.map_cons, List.map_nil, List.foldl_cons, List.foldl_nil, List.getD_cons_zero, List.getD_cons_succ, List.getElem?_cons_zero, List.getElem?_cons_succ, Option.bind_some, d7, d13] at hN ⊢
                    go_simp
                    have o0 := O0 _ hS
                    have o1 := O1 _ hS
                    go_simp
                    have hh := hN _ _ rfl (.inl (Below.refl _ _))
                    revert hh
                    go_simp
                  refine owed_cons (fun vs u hS hD N => ?_) ?_
                  · have d7 := hD 7 (by decide)
                    simp only [fact, layAt, depOn, dstOf, List.map_cons, List.map_nil, List.foldl_cons, List.foldl_nil, List.getD_cons_zero, List.getD_cons_succ, List.getElem?_cons_zero, List.getElem?_cons_succ, Option.bind_some] at d7
                    have d11 := hD 11 (by decide)
                    simp only [fact, layAt, depOn, dstOf, List.map_cons, List.map_nil, List.foldl_cons, List.foldl_nil, List.getD_cons_zero, List.getD_cons_succ, List.getElem?_cons_zero, List.getElem?_cons_succ, Option.bind_some] at d11
                    have d14 := hD 14 (by decide)
                    simp only [fact, layAt, depOn, dstOf, List.map_cons, List.map_nil, List.foldl_cons, List.foldl_nil, List.getD_cons_zero, List.getD_cons_succ, List.getElem?_cons_zero, List.getElem?_cons_succ, Option.bind_some] at d14
                    clear hD
                    intro hN
                    simp only [fact, layAt, depOn, dstOf, List.map_cons, List.map_nil, List.foldl_cons, List.foldl_nil, List.getD_cons_zero, List.getD_cons_succ, List.getElem?_cons_zero, List.getElem?_cons_succ, Option.bind_some, d7, d11, d14] at hN ⊢
                    go_simp
                    refine (cmp_any k1 k2 o1 o2 u).mono ?_
                    rintro e u' ⟨rfl, f⟩
                    rw [HC1.out]
                    have hh := hN _ _ rfl (.inl f)
                    revert hh
                    go_simp
                  refine owed_cons (fun vs u hS hD N => ?_) ?_
                  · have d7 := hD 7 (by decide)
                    simp only [fact, layAt, depOn, dstOf, List.map_cons, List.map_nil, List.foldl_cons, List.foldl_nil, List.getD_cons_zero, List.getD_cons_succ, List.getElem?_cons_zero, List.getElem?_cons_succ, Option.bind_some] at d7
                    clear hD
                    intro hN
                    simp only [fact, layAt, depOn, dstOf, List.map_cons, List.map_nil, List.foldl_cons, List.foldl_nil, List.getD_cons_zero, List.getD_cons_succ, List.getElem?_cons_zero, List.getElem?_cons_succ, Option.bind_some, d7] at hN ⊢
                    go_simp
                    have hh := hN _ _ rfl (.inl (Below.refl _ _))
                    revert hh
                    go_simp
                  refine owed_cons (fun vs u hS hD N => ?_) ?_
                  · have d7 := hD 7 (by decide)
                    simp only [fact, layAt, depOn, dstOf, List.map_cons, List.map_nil, List.foldl_cons, List.foldl_nil, List.getD_cons_zero, List.getD_cons_succ, List.getElem?_cons_zero, List.getElem?_cons_succ, Option.bind_some] at d7
                    have d16 := hD 16 (by decide)
                    simp only [fact, layAt, depOn, dstOf, List.map_cons, List.map_nil, List.foldl_cons, List.foldl_nil, List.getD_cons_zero, List.getD_cons_succ, List.getElem?_cons_zero, List.getElem?_cons_succ, Option.bind_some] at d16
                    clear hD
                    intro hN
                    simp only [fact, layAt, depOn, dstOf, List.map_cons, List.map_nil, List.foldl_cons, List.foldl_nil, List.getD_cons_zero, List.getD_cons_succ, List.getElem?_cons_zero, List.getElem?_cons_succ, Option.bind_some, d7, d16] at hN ⊢
                    go_simp
                    have hh := hN _ _ rfl (.inl (Below.refl _ _))
                    revert hh
                    go_simp
                  refine owed_cons (fun vs u hS hD N => ?_) ?_
                  · have d7 := hD 7 (by decide)
                    simp only [fact, layAt, depOn, dstOf, List.map_cons, List.map_nil, List.foldl_cons, List.foldl_nil, List.getD_cons_zero, List.getD_cons_succ, List.getElem?_cons_zero, List.getElem?_cons_succ, Option.bind_some] at d7
                    have d17 := hD 17 (by decide)
                    simp only [fact, layAt, depOn, dstOf, List.map_cons, List.map_nil, List.foldl_cons, List.foldl_nil, List.getD_cons_zero, List.getD_cons_succ, List.getElem?_cons_zero, List.getElem?_cons_succ, Option.bind_some] at d17
                    clear hD
                    intro hN
                    simp only [fact, layAt, depOn, dstOf, List.map_cons, List.map_nil, List.foldl_cons, List.foldl_nil, List.getD_cons_zero, List.getD_cons_succ, List.getElem?_cons_zero, List.getElem?_cons_succ, Option.bind_some, d7, d17] at hN ⊢
                    go_simp
                    have o0 := O0 _ hS
                    have o1 := O1 _ hS
                    go_simp
                    have hh := hN _ _ rfl (.inl (Below.refl _ _))
                    revert hh
                    go_simp
                  refine owed_cons (fun vs u hS hD N => ?_) ?_
                  · have d7 := hD 7 (by decide)
                    simp only [fact, layAt, depOn, dstOf, List.map_cons, List.map_nil, List.foldl_cons, List.foldl_nil, List.getD_cons_zero, List.getD_cons_succ, List.getElem?_cons_zero, List.getElem?_cons_succ, Option.bind_some] at d7
                    clear hD
                    intro hN
                    simp only [fact, layAt, depOn, dstOf, List.map_cons, List.map_nil, List.foldl_cons, List.foldl_nil, List.getD_cons_zero, List.getD_cons_succ, List.getElem?_cons_zero, List.getElem?_cons_succ, Option.bind_some, d7] at hN ⊢
                    go_simp
                    have hh := hN _ _ rfl (.inl (Below.refl _ _))
                    revert hh
                    go_simp
                  refine owed_cons (fun vs u hS hD N => ?_) ?_
                  · have d7 := hD 7 (by decide)
                    simp only [fact, layAt, depOn, dstOf, List.map_cons, List.map_nil, List.foldl_cons, List.foldl_nil, List.getD_cons_zero, List.getD_cons_succ, List.getElem?_cons_zero, List.getElem?_cons_succ, Option.bind_some] at d7
                    clear hD
                    intro hN
                    simp only [fact, layAt, depOn, dstOf, List.map_cons, List.map_nil, List.foldl_cons, List.foldl_nil, List.getD_cons_zero, List.getD_cons_succ, List.getElem?_cons_zero, List.getElem?_cons_succ, Option.bind_some, d7] at hN ⊢
                    go_simp
                    have hh := hN _ _ rfl (.inl (Below.refl _ _))
                    revert hh
                    go_simp
                  refine owed_cons (fun vs u hS hD N => ?_) ?_
                  · have d7 := hD 7 (by decide)
                    simp only [fact, layAt, depOn, dstOf, List.map_cons, List.map_nil, List.foldl_cons, List.foldl_nil, List.getD_cons_zero, List.getD_cons_succ, List.getElem?_cons_zero, List.getElem?_cons_succ, Option.bind_some] at d7
                    have d19 := hD 19 (by decide)
                    simp only [fact, layAt, depOn, dstOf, List.map_cons, List.map_nil, List.foldl_cons, List.foldl_nil, List.getD_cons_zero, List.getD_cons_succ, List.getElem?_cons_zero, List.getElem?_cons_succ, Option.bind_some] at d19
                    have d20 := hD 20 (by decide)
                    simp only [fact, layAt, depOn, dstOf, List.map_cons, List.map_nil, List.foldl_cons, List.foldl_nil, List.getD_cons_zero, List.getD_cons_succ, List.getElem?_cons_zero, List.getElem?_cons_succ, Option.bind_some] at d20
                    clear hD
                    intro hN
                    simp only [fact, layAt, depOn, dstOf, List.map_cons, List.map_nil, List.foldl_cons, List.foldl_nil, List.getD_cons_zero, List.getD_cons_succ, List.getElem?_cons_zero, List.getElem?_cons_succ, Option.bind_some, d7, d19, d20] at hN ⊢
                    go_simp
                    have hh := hN _ _ rfl (.inl (Below.refl _ _))
                    revert hh
                    go_simp
                  refine owed_cons (fun vs u hS hD N => ?_) ?_
                  · have d7 := hD 7 (by decide)
                    simp only [fact, layAt, depOn, dstOf, List.map_cons, List.map_nil, List.foldl_cons, List.foldl_nil, List.getD_cons_zero, List.getD_cons_succ, List.getElem?_cons_zero, List.getElem?_cons_succ, Option.bind_some] at d7
                    have d21 := hD 21 (by decide)
                    simp only [fact, layAt, depOn, dstOf, List.map_cons, List.map_nil, List.foldl_cons, List.foldl_nil, List.getD_cons_zero, List.getD_cons_succ, List.getElem?_cons_zero, List.getElem?_cons_succ, Option.bind_some] at d21
                    clear hD
                    intro hN
                    simp only [fact, layAt, depOn, dstOf, List.map_cons, List.map_nil, List.foldl_cons, List.foldl_nil, List.getD_cons_zero, List.getD_cons_succ, List.getElem?_cons_zero, List.getElem?_cons_succ, Option.bind_some, d7, d21] at hN ⊢
                    go_simp
                    have k0 := K0 _ hS
                    have k1 := K1 _ hS
                    go_simp
                    have hh := hN _ _ rfl (.inl (Below.refl _ _))
                    revert hh
                    go_simp
                  refine owed_cons (fun vs u hS hD N => ?_) ?_
                  · have d7 := hD 7 (by decide)
                    simp only [fact, layAt, depOn, dstOf, List.map_cons, List.map_nil, List.foldl_cons, List.foldl_nil, List.getD_cons_zero, List.getD_cons_succ, List.getElem?_cons_zero, List.getElem?_cons_succ, Option.bind_some] at d7
                    have d18 := hD 18 (by decide)
                    simp only [fact, layAt, depOn, dstOf, List.map_cons, List.map_nil, List.foldl_cons, List.foldl_nil, List.getD_cons_zero, List.getD_cons_succ, List.getElem?_cons_zero, List.getElem?_cons_succ, Option.bind_some] at d18
                    have d22 := hD 22 (by decide)
                    simp only [fact, layAt, depOn, dstOf, List.map_cons, List.map_nil, List.foldl_cons, List.foldl_nil, List.getD_cons_zero, List.getD_cons_succ, List.getElem?_cons_zero, List.getElem?_cons_succ, Option.bind_some] at d22
                    clear hD
                    intro hN
                    simp only [fact, layAt, depOn, dstOf, List.map_cons, List.map_nil, List.foldl_cons, List.foldl_nil, List.getD_cons_zero, List.getD_cons_succ, List.getElem?_cons_zero, List.getElem?_cons_succ, Option.bind_some, d7, d18, d22] at hN ⊢
                    go_simp
                    refine (cmp_any o1 o2 k1 k2 u).mono ?_
                    rintro e u' ⟨rfl, f⟩
                    rw [HC2.out]
                    have hh := hN _ _ rfl (.inl f)
                    revert hh
                    go_simp
                  refine owed_cons (fun vs u hS hD N => ?_) ?_
                  · have d7 := hD 7 (by decide)
                    simp only [fact, layAt, depOn, dstOf, List.map_cons, List.map_nil, List.foldl_cons, List.foldl_nil, List.getD_cons_zero, List.getD_cons_succ, List.getElem?_cons_zero, List.getElem?_cons_succ, Option.bind_some] at d7
                    have d23 := hD 23 (by decide)
                    simp only [fact, layAt, depOn, dstOf, List.map_cons, List.map_nil, List.foldl_cons, List.foldl_nil, List.getD_cons_zero, List.getD_cons_succ, List.getElem?_cons_zero, List.getElem?_cons_succ, Option.bind_some] at d23
                    clear hD
                    intro hN
                    simp only [fact, layAt, depOn, dstOf, List.map_cons, List.map_nil, List.foldl_cons, List.foldl_nil, List.getD_cons_zero, List.getD_cons_succ, List.getElem?_cons_zero, List.getElem?_cons_succ, Option.bind_some, d7, d23] at hN ⊢
                    go_simp
                    have hh := hN _ _ rfl (.inl (Below.refl _ _))
                    revert hh
                    go_simp
                  refine owed_cons (fun vs u hS hD N => ?_) ?_
                  · have d7 := hD 7 (by decide)
                    simp only [fact, layAt, depOn, dstOf, List.map_cons, List.map_nil, List.foldl_cons, List.foldl_nil, List.getD_cons_zero, List.getD_cons_succ, List.getElem?_cons_zero, List.getElem?_cons_succ, Option.bind_some] at d7
                    have d15 := hD 15 (by decide)
                    simp only [fact, layAt, depOn, dstOf, List.map_cons, List.map_nil, List.foldl_cons, List.foldl_nil, List.getD_cons_zero, List.getD_cons_succ, List.getElem?_cons_zero, List.getElem?_cons_succ, Option.bind_some] at d15
                    have d24 := hD 24 (by decide)
                    simp only [fact, layAt, depOn, dstOf, List.map_cons, List.map_nil, List.foldl_cons, List.foldl_nil, List.getD_cons_zero, List.getD_cons_succ, List.getElem?_cons_zero, List.getElem?_cons_succ, Option.bind_some] at d24
                    clear hD
                    intro hN
                    simp only [fact, layAt, depOn, dstOf, List.map_cons, List.map_nil, List.foldl_cons, List.foldl_nil, List.getD_cons_zero, List.getD_cons_succ, List.getElem?_cons_zero, List.getElem?_cons_succ, Option.bind_some, d7, d15, d24] at hN ⊢
                    go_simp
                    have hh := hN _ _ rfl (.inl (Below.refl _ _))
                    revert hh
                    go_simp
                  refine owed_cons (fun vs u hS hD N => ?_) ?_
                  · have d7 := hD 7 (by decide)
                    simp only [fact, layAt, depOn, dstOf, List.map_cons, List.map_nil, List.foldl_cons, List.foldl_nil, List.getD_cons_zero, List.getD_cons_succ, List.getElem?_cons_zero, List.getElem?_cons_succ, Option.bind_some] at d7
                    have d25 := hD 25 (by decide)
                    simp only [fact, layAt, depOn, dstOf, List.map_cons, List.map_nil, List.foldl_cons, List.foldl_nil, List.getD_cons_zero, List.getD_cons_succ, List.getElem?_cons_zero, List.getElem?_cons_succ, Option.bind_some] at d25
                    clear hD
                    intro hN
                    simp only [fact, layAt, depOn, dstOf, List.map_cons, List.map_nil, List.foldl_cons, List.foldl_nil, List.getD_cons_zero, List.getD_cons_succ, List.getElem?_cons_zero, List.getElem?_cons_succ, Option.bind_some, d7, d25] at hN ⊢
                    go_simp
                    have hh := hN _ _ rfl (.inl (Below.refl _ _))
                    revert hh
                    go_simp
                  refine owed_cons (fun vs u hS hD N => ?_) ?_
                  · have d26 := hD 26 (by decide)
                    simp only [fact, layAt, depOn, dstOf, List.map_cons, List.map_nil, List.foldl_cons, List.foldl_nil, List.getD_cons_zero, List.getD_cons_succ, List.getElem?_cons_zero, List.getElem?_cons_succ, Option.bind_some] at d26
                    clear hD
                    intro hN
                    simp only [fact, layAt, depOn, dstOf, List.map_cons, List.map_nil, List.foldl_cons, List.foldl_nil, List.getD_cons_zero, List.getD_cons_succ, List.getElem?_cons_zero, List.getElem?_cons_succ, Option.bind_some, d26] at hN ⊢
                    go_simp
                    have hh := hN _ _ rfl (.inl (Below.refl _ _))
                    revert hh
                    go_simp
                  refine owed_cons (fun vs u hS hD N => ?_) ?_
                  · have d27 := hD 27 (by decide)
                    simp only [fact, layAt, depOn, dstOf, List.map_cons, List.map_nil, List.foldl_cons, List.foldl_nil, List.getD_cons_zero, List.getD_cons_succ, List.getElem?_cons_zero, List.getElem?_cons_succ, Option.bind_some] at d27
                    clear hD
                    intro hN
                    simp only [fact, layAt, depOn, dstOf, List.map_cons, List.map_nil, List.foldl_cons, List.foldl_nil, List.getD_cons_zero, List.getD_cons_succ, List.getElem?_cons_zero, List.getElem?_cons_succ, Option.bind_some, d27] at hN ⊢
                    go_simp
                    have hh := hN _ _ rfl (.inl (Below.refl _ _))
                    revert hh
                    go_simp
                  refine owed_cons (fun vs u hS hD N => ?_) ?_
                  · have d27 := hD 27 (by decide)
                    simp only [fact, layAt, depOn, dstOf, List.map_cons, List.map_nil, List.foldl_cons, List.foldl_nil, List.getD_cons_zero, List.getD_cons_succ, List.getElem?_cons_zero, List.getElem?_cons_succ, Option.bind_some] at d27
                    clear hD
                    intro hN
                    simp only [fact, layAt, depOn, dstOf, List.map_cons, List.map_nil, List.foldl_cons, List.foldl_nil, List.getD_cons_zero, List.getD_cons_succ, List.getElem?_cons_zero, List.getElem?_cons_succ, Option.bind_some, d27] at hN ⊢
                    go_simp
                    have hh := hN _ _ rfl (.inl (Below.refl _ _))
                    revert hh
                    go_simp
                  refine owed_cons (fun vs u hS hD N => ?_) ?_
                  · have d27 := hD 27 (by decide)
                    simp only [fact, layAt, depOn, dstOf, List.map_cons, List.map_nil, List.foldl_cons, List.foldl_nil, List.getD_cons_zero, List.getD_cons_succ, List.getElem?_cons_zero, List.getElem?_cons_succ, Option.bind_some] at d27
                    have d28 := hD 28 (by decide)
                    simp only [fact, layAt, depOn, dstOf, List.map_cons, List.map_nil, List.foldl_cons, List.foldl_nil, List.getD_cons_zero, List.getD_cons_succ, List.getElem?_cons_zero, List.getElem?_cons_succ, Option.bind_some] at d28
                    have d29 := hD 29 (by decide)
                    simp only [fact, layAt, depOn, dstOf, List.map_cons, List.map_nil, List.foldl_cons, List.foldl_nil, List.getD_cons_zero, List.getD_cons_succ, List.getElem?_cons_zero, List.getElem?_cons_succ, Option.bind_some] at d29
                    clear hD
                    intro hN
                    simp only [fact, layAt, depOn, dstOf, List.map_cons, List.map_nil, List.foldl_cons, List.foldl_nil, List.getD_cons_zero, List.getD_cons_succ, List.getElem?_cons_zero, List.getElem?_cons_succ, Option.bind_some, d27, d28, d29] at hN ⊢
                    go_simp
                    have hh := hN _ _ rfl (.inl (Below.refl _ _))
                    revert hh
                    go_simp
                  refine owed_cons (fun vs u hS hD N => ?_) ?_
                  · have d27 := hD 27 (by decide)
                    simp only [fact, layAt, depOn, dstOf, List.map_cons, List.map_nil, List.foldl_cons, List.foldl_nil, List.getD_cons_zero, List.getD_cons_succ, List.getElem?_cons_zero, List.getElem?_cons_succ, Option.bind_some] at d27
                    have d30 := hD 30 (by decide)
                    simp only [fact, layAt, depOn, dstOf, List.map_cons, List.map_nil, List.foldl_cons, List.foldl_nil, List.getD_cons_zero, List.getD_cons_succ, List.getElem?_cons_zero, List.getElem?_cons_succ, Option.bind_some] at d30
                    clear hD
                    intro hN
                    simp only [fact, layAt, depOn, dstOf, List.map_cons, List.map_nil, List.foldl_cons, List.foldl_nil, List.getD_cons_zero, List.getD_cons_succ, List.getElem?_cons_zero, List.getElem?_cons_succ, Option.bind_some, d27, d30] at hN ⊢
                    go_simp
                    have k0 := K0 _ hS
                    have k1 := K1 _ hS
                    go_simp
                    have hh := hN _ _ rfl (.inl (Below.refl _ _))
                    revert hh
                    go_simp
                  refine owed_cons (fun vs u hS hD N => ?_) ?_
                  · have d27 := hD 27 (by decide)
                    simp only [fact, layAt, depOn, dstOf, List.map_cons, List.map_nil, List.foldl_cons, List.foldl_nil, List.getD_cons_zero, List.getD_cons_succ, List.getElem?_cons_zero, List.getElem?_cons_succ, Option.bind_some] at d27
                    clear hD
                    intro hN
                    simp only [fact, layAt, depOn, dstOf, List.map_cons, List.map_nil, List.foldl_cons, List.foldl_nil, List.getD_cons_zero, List.getD_cons_succ, List.getElem?_cons_zero, List.getElem?_cons_succ, Option.bind_some, d27] at hN ⊢
                    go_simp
                    have hh := hN _ _ rfl (.inl (Below.refl _ _))
                    revert hh
                    go_simp
                  refine owed_cons (fun vs u hS hD N => ?_) ?_
                  · have d27 := hD 27 (by decide)
                    simp only [fact, layAt, depOn, dstOf, List.map_cons, List.map_nil, List.foldl_cons, List.foldl_nil, List.getD_cons_zero, List.getD_cons_succ, List.getElem?_cons_zero, List.getElem?_cons_succ, Option.bind_some] at d27
                    have d32 := hD 32 (by decide)
                    simp only [fact, layAt, depOn, dstOf, List.map_cons, List.map_nil, List.foldl_cons, List.foldl_nil, List.getD_cons_zero, List.getD_cons_succ, List.getElem?_cons_zero, List.getElem?_cons_succ, Option.bind_some] at d32
                    clear hD
                    intro hN
                    simp only [fact, layAt, depOn, dstOf, List.map_cons, List.map_nil, List.foldl_cons, List.foldl_nil, List.getD_cons_zero, List.getD_cons_succ, List.getElem?_cons_zero, List.getElem?_cons_succ, Option.bind_some, d27, d32] at hN ⊢
                    go_simp
                    have hh := hN _ _ rfl (.inl (Below.refl _ _))
                    revert hh
                    go_simp
                  refine owed_cons (fun vs u hS hD N => ?_) ?_
                  · have d27 := hD 27 (by decide)
                    simp only [fact, layAt, depOn, dstOf, List.map_cons, List.map_nil, List.foldl_cons, List.foldl_nil, List.getD_cons_zero, List.getD_cons_succ, List.getElem?_cons_zero, List.getElem?_cons_succ, Option.bind_some] at d27
                    have d33 := hD 33 (by decide)
                    simp only [fact, layAt, depOn, dstOf, List.map_cons, List.map_nil, List.foldl_cons, List.foldl_nil, List.getD_cons_zero, List.getD_cons_succ, List.getElem?_cons_zero, List.getElem?_cons_succ, Option.bind_some] at d33
                    clear hD
                    intro hN
                    simp only [fact, layAt, depOn, dstOf, List.map_cons, List.map_nil, List.foldl_cons, List.foldl_nil, List.getD_cons_zero, List.getD_cons_succ, List.getElem?_cons_zero, List.getElem?_cons_succ, Option.bind_some, d27, d33] at hN ⊢
                    go_simp
                    have o0 := O0 _ hS
                    have o1 := O1 _ hS
                    go_simp
                    have hh := hN _ _ rfl (.inl (Below.refl _ _))
                    revert hh
                    go_simp
                  refine owed_cons (fun vs u hS hD N => ?_) ?_
                  · have d27 := hD 27 (by decide)
                    simp only [fact, layAt, depOn, dstOf, List.map_cons, List.map_nil, List.foldl_cons, List.foldl_nil, List.getD_cons_zero, List.getD_cons_succ, List.getElem?_cons_zero, List.getElem?_cons_succ, Option.bind_some] at d27
                    have d31 := hD 31 (by decide)
                    simp only [fact, layAt, depOn, dstOf, List.map_cons, List.map_nil, List.foldl_cons, List.foldl_nil, List.getD_cons_zero, List.getD_cons_succ, List.getElem?_cons_zero, List.getElem?_cons_succ, Option.bind_some] at d31
                    have d34 := hD 34 (by decide)
                    simp only [fact, layAt, depOn, dstOf, List.map_cons, List.map_nil, List.foldl_cons, List.foldl_nil, List.getD_cons_zero, List.getD_cons_succ, List.getElem?_cons_zero, List.getElem?_cons_succ, Option.bind_some] at d34
                    clear hD
                    intro hN
                    simp only [fact, layAt, depOn, dstOf, List.map_cons, List.map_nil, List.foldl_cons, List.foldl_nil, List.getD_cons_zero, List.getD_cons_succ, List.getElem?_cons_zero, List.getElem?_cons_succ, Option.bind_some, d27, d31, d34] at hN ⊢
                    go_simp
                    refine (cmp_any k1 k2 o1 o2 u).mono ?_
                    rintro e u' ⟨rfl, f⟩
                    rw [HC1.out]
                    have hh := hN _ _ rfl (.inl f)
                    revert hh
                    go_simp
                  refine owed_cons (fun vs u hS hD N => ?_) ?_
                  · have d27 := hD 27 (by decide)
                    simp only [fact, layAt, depOn, dstOf, List.map_cons, List.map_nil, List.foldl_cons, List.foldl_nil, List.getD_cons_zero, List.getD_cons_succ, List.getElem?_cons_zero, List.getElem?_cons_succ, Option.bind_some] at d27
                    have d35 := hD 35 (by decide)
                    simp only [fact, layAt, depOn, dstOf, List.map_cons, List.map_nil, List.foldl_cons, List.foldl_nil, List.getD_cons_zero, List.getD_cons_succ, List.getElem?_cons_zero, List.getElem?_cons_succ, Option.bind_some] at d35
                    clear hD
                    intro hN
                    simp only [fact, layAt, depOn, dstOf, List.map_cons, List.map_nil, List.foldl_cons, List.foldl_nil, List.getD_cons_zero, List.getD_cons_succ, List.getElem?_cons_zero, List.getElem?_cons_succ, Option.bind_some, d27, d35] at hN ⊢
                    go_simp
                    have hh := hN _ _ rfl (.inl (Below.refl _ _))
                    revert hh
                    go_simp
                  refine owed_cons (fun vs u hS hD N => ?_) ?_
                  · have d27 := hD 27 (by decide)
                    simp only [fact, layAt, depOn, dstOf, List.map_cons, List.map_nil, List.foldl_cons, List.foldl_nil, List.getD_cons_zero, List.getD_cons_succ, List.getElem?_cons_zero, List.getElem?_cons_succ, Option.bind_some] at d27
                    clear hD
                    intro hN
                    simp only [fact, layAt, depOn, dstOf, List.map_cons, List.map_nil, List.foldl_cons, List.foldl_nil, List.getD_cons_zero, List.getD_cons_succ, List.getElem?_cons_zero, List.getElem?_cons_succ, Option.bind_some, d27] at hN ⊢
                    go_simp
                    have hh := hN _ _ rfl (.inl (Below.refl _ _))
                    revert hh
                    go_simp
                  refine owed_cons (fun vs u hS hD N => ?_) ?_
                  · have d27 := hD 27 (by decide)
                    simp only [fact, layAt, depOn, dstOf, List.map_cons, List.map_nil, List.foldl_cons, List.foldl_nil, List.getD_cons_zero, List.getD_cons_succ, List.getElem?_cons_zero, List.getElem?_cons_succ, Option.bind_some] at d27
                    clear hD
                    intro hN
                    simp only [fact, layAt, depOn, dstOf, List.map_cons, List.map_nil, List.foldl_cons, List.foldl_nil, List.getD_cons_zero, List.getD_cons_succ, List.getElem?_cons_zero, List.getElem?_cons_succ, Option.bind_some, d27] at hN ⊢
                    go_simp
                    have hh := hN _ _ rfl (.inl (Below.refl _ _))
                    revert hh
                    go_simp
                  refine owed_cons (fun vs u hS hD N => ?_) ?_
                  · have d27 := hD 27 (by decide)
                    simp only [fact, layAt, depOn, dstOf, List.map_cons, List.map_nil, List.foldl_cons, List.foldl_nil, List.getD_cons_zero, List.getD_cons_succ, List.getElem?_cons_zero, List.getElem?_cons_succ, Option.bind_some] at d27
                    have d37 := hD 37 (by decide)
                    simp only [fact, layAt, depOn, dstOf, List.map_cons, List.map_nil, List.foldl_cons, List.foldl_nil, List.getD_cons_zero, List.getD_cons_succ, List.getElem?_cons_zero, List.getElem?_cons_succ, Option.bind_some] at d37
                    have d38 := hD 38 (by decide)
                    simp only [fact, layAt, depOn, dstOf, List.map_cons, List.map_nil, List.foldl_cons, List.foldl_nil, List.getD_cons_zero, List.getD_cons_succ, List.getElem?_cons_zero, List.getElem?_cons_succ, Option.bind_some] at d38
                    clear hD
                    intro hN
                    simp only [fact, layAt, depOn, dstOf, List.map_cons, List.map_nil, List.foldl_cons, List.foldl_nil, List.getD_cons_zero, List.getD_cons_succ, List.getElem?_cons_zero, List.getElem?_cons_succ, Option.bind_some, d27, d37, d38] at hN ⊢
                    go_simp
                    have hh := hN _ _ rfl (.inl (Below.refl _ _))
                    revert hh
                    go_simp
                  refine owed_cons (fun vs u hS hD N => ?_) ?_
                  · have d27 := hD 27 (by decide)
                    simp only [fact, layAt, depOn, dstOf, List.map_cons, List.map_nil, List.foldl_cons, List.foldl_nil, List.getD_cons_zero, List.getD_cons_succ, List.getElem?_cons_zero, List.getElem?_cons_succ, Option.bind_some] at d27
                    have d39 := hD 39 (by decide)
                    simp only [fact, layAt, depOn, dstOf, List.map_cons, List.map_nil, List.foldl_cons, List.foldl_nil, List.getD_cons_zero, List.getD_cons_succ, List.getElem?_cons_zero, List.getElem?_cons_succ, Option.bind_some] at d39
                    clear hD
                    intro hN
                    simp only [fact, layAt, depOn, dstOf, List.map_cons, List.map_nil, List.foldl_cons, List.foldl_nil, List.getD_cons_zero, List.getD_cons_succ, List.getElem?_cons_zero, List.getElem?_cons_succ, Option.bind_some, d27, d39] at hN ⊢
                    go_simp
                    have k0 := K0 _ hS
                    have k1 := K1 _ hS
                    go_simp
                    have hh := hN _ _ rfl (.inl (Below.refl _ _))
                    revert hh
                    go_simp
                  refine owed_cons (fun vs u hS hD N => ?_) ?_
                  · have d27 := hD 27 (by decide)
                    simp only [fact, layAt, depOn, dstOf, List.map_cons, List.map_nil, List.foldl_cons, List.foldl_nil, List.getD_cons_zero, List.getD_cons_succ, List.getElem?_cons_zero, List.getElem?_cons_succ, Option.bind_some] at d27
                    clear hD
                    intro hN
                    simp only [fact, layAt, depOn, dstOf, List.map_cons, List.map_nil, List.foldl_cons, List.foldl_nil, List.getD_cons_zero, List.getD_cons_succ, List.getElem?_cons_zero, List.getElem?_cons_succ, Option.bind_some, d27] at hN ⊢
                    go_simp
                    have hh := hN _ _ rfl (.inl (Below.refl _ _))
                    revert hh
                    go_simp
                  refine owed_cons (fun vs u hS hD N => ?_) ?_
                  · have d27 := hD 27 (by decide)
                    simp only [fact, layAt, depOn, dstOf, List.map_cons, List.map_nil, List.foldl_cons, List.foldl_nil, List.getD_cons_zero, List.getD_cons_succ, List.getElem?_cons_zero, List.getElem?_cons_succ, Option.bind_some] at d27
                    have d41 := hD 41 (by decide)
                    simp only [fact, layAt, depOn, dstOf, List.map_cons, List.map_nil, List.foldl_cons, List.foldl_nil, List.getD_cons_zero, List.getD_cons_succ, List.getElem?_cons_zero, List.getElem?_cons_succ, Option.bind_some] at d41
                    clear hD
                    intro hN
                    simp only [fact, layAt, depOn, dstOf, List.map_cons, List.map_nil, List.foldl_cons, List.foldl_nil, List.getD_cons_zero, List.getD_cons_succ, List.getElem?_cons_zero, List.getElem?_cons_succ, Option.bind_some, d27, d41] at hN ⊢
                    go_simp
                    have hh := hN _ _ rfl (.inl (Below.refl _ _))
                    revert hh
                    go_simp
                  refine owed_cons (fun vs u hS hD N => ?_) ?_
                  · have d27 := hD 27 (by decide)
                    simp only [fact, layAt, depOn, dstOf, List.map_cons, List.map_nil, List.foldl_cons, List.foldl_nil, List.getD_cons_zero, List.getD_cons_succ, List.getElem?_cons_zero, List.getElem?_cons_succ, Option.bind_some] at d27
                    have d42 := hD 42 (by decide)
                    simp only [fact, layAt, depOn, dstOf, List.map_cons, List.map_nil, List.foldl_cons, List.foldl_nil, List.getD_cons_zero, List.getD_cons_succ, List.getElem?_cons_zero, List.getElem?_cons_succ, Option.bind_some] at d42
                    clear hD
                    intro hN
                    simp only [fact, layAt, depOn, dstOf, List.map_cons, List.map_nil, List.foldl_cons, List.foldl_nil, List.getD_cons_zero, List.getD_cons_succ, List.getElem?_cons_zero, List.getElem?_cons_succ, Option.bind_some, d27, d42] at hN ⊢
                    go_simp
                    have o0 := O0 _ hS
                    have o1 := O1 _ hS
                    go_simp
                    have hh := hN _ _ rfl (.inl (Below.refl _ _))
                    revert hh
                    go_simp
                  refine owed_cons (fun vs u hS hD N => ?_) ?_
                  · have d27 := hD 27 (by decide)
                    simp only [fact, layAt, depOn, dstOf, List.map_cons, List.map_nil, List.foldl_cons, List.foldl_nil, List.getD_cons_zero, List.getD_cons_succ, List.getElem?_cons_zero, List.getElem?_cons_succ, Option.bind_some] at d27
                    have d40 := hD 40 (by decide)
                    simp only [fact, layAt, depOn, dstOf, List.map_cons, List.map_nil, List.foldl_cons, List.foldl_nil, List.getD_cons_zero, List.getD_cons_succ, List.getElem?_cons_zero, List.getElem?_cons_succ, Option.bind_some] at d40
                    have d43 := hD 43 (by decide)
                    simp only [fact, layAt, depOn, dstOf, List.map_cons, List.map_nil, List.foldl_cons, List.foldl_nil, List.getD_cons_zero, List.getD_cons_succ, List.getElem?_cons_zero, List.getElem?_cons_succ, Option.bind_some] at d43
                    clear hD
                    intro hN
                    simp only [fact, layAt, depOn, dstOf, List.map_cons, List.map_nil, List.foldl_cons, List.foldl_nil, List.getD_cons_zero, List.getD_cons_succ, List.getElem?_cons_zero, List.getElem?_cons_succ, Option.bind_some, d27, d40, d43] at hN ⊢
                    rw [if_pos (by rfl)]
                    have qe := fun w : World => run_nm_eq k1 k2 o1 o2 w
                    rw [HQ.out] at qe
                    go_simp
                    have hh := hN _ _ rfl (.inl (Below.refl _ _))
                    revert hh
                    go_simp
                  refine owed_cons (fun vs u hS hD N => ?_) ?_
                  · have d27 := hD 27 (by decide)
                    simp only [fact, layAt, depOn, dstOf, List.map_cons, List.map_nil, List.foldl_cons, List.foldl_nil, List.getD_cons_zero, List.getD_cons_succ, List.getElem?_cons_zero, List.getElem?_cons_succ, Option.bind_some] at d27
                    have d36 := hD 36 (by decide)
                    simp only [fact, layAt, depOn, dstOf, List.map_cons, List.map_nil, List.foldl_cons, List.foldl_nil, List.getD_cons_zero, List.getD_cons_succ, List.getElem?_cons_zero, List.getElem?_cons_succ, Option.bind_some] at d36
                    have d44 := hD 44 (by decide)
                    simp only [fact, layAt, depOn, dstOf, List.map_cons, List.map_nil, List.foldl_cons, List.foldl_nil, List.getD_cons_zero, List.getD_cons_succ, List.getElem?_cons_zero, List.getElem?_cons_succ, Option.bind_some] at d44
                    clear hD
                    intro hN
                    simp only [fact, layAt, depOn, dstOf, List.map_cons, List.map_nil, List.foldl_cons, List.foldl_nil, List.getD_cons_zero, List.getD_cons_succ, List.getElem?_cons_zero, List.getElem?_cons_succ, Option.bind_some, d27, d36, d44] at hN ⊢
                    go_simp
                    have hh := hN _ _ rfl (.inl (Below.refl _ _))
                    revert hh
                    go_simp
                  refine owed_cons (fun vs u hS hD N => ?_) ?_
                  · have d27 := hD 27 (by decide)
                    simp only [fact, layAt, depOn, dstOf, List.map_cons, List.map_nil, List.foldl_cons, List.foldl_nil, List.getD_cons_zero, List.getD_cons_succ, List.getElem?_cons_zero, List.getElem?_cons_succ, Option.bind_some] at d27
                    have d45 := hD 45 (by decide)
                    simp only [fact, layAt, depOn, dstOf, List.map_cons, List.map_nil, List.foldl_cons, List.foldl_nil, List.getD_cons_zero, List.getD_cons_succ, List.getElem?_cons_zero, List.getElem?_cons_succ, Option.bind_some] at d45
                    clear hD
                    intro hN
                    simp only [fact, layAt, depOn, dstOf, List.map_cons, List.map_nil, List.foldl_cons, List.foldl_nil, List.getD_cons_zero, List.getD_cons_succ, List.getElem?_cons_zero, List.getElem?_cons_succ, Option.bind_some, d27, d45] at hN ⊢
                    go_simp
                    have hh := hN _ _ rfl (.inl (Below.refl _ _))
                    revert hh
                    go_simp
                  exact owed_nil
                ·
                  intro vs u hS hF
                  have d46 := hF 46 (by decide) (by decide)
                  simp only [fact, layAt, depOn, dstOf, List.map_cons, List.map_nil, List.foldl_cons, List.foldl_nil, List.getD_cons_zero, List.getD_cons_succ, List.getElem?_cons_zero, List.getElem?_cons_succ, Option.bind_some] at d46
                  clear hF
                  simp only [List.length_cons, List.length_nil, Nat.reduceAdd, List.range, List.range.loop, fact, layAt, depOn, dstOf, List.map_cons, List.map_nil, List.foldl_cons, List.foldl_nil, List.getD_cons_zero, List.getD_cons_succ, List.getElem?_cons_zero, List.getElem?_cons_succ, Option.bind_some, d46]
                  go_simp
                  replace f1 := f1.trans (hS.mono f1.size)
                  replace rX := (rX.below hS).more hS.size
                  go_wp2_with fail
                  go_roundw
                  case rel => exact ⟨k + 1, by go_num, by omega, rX, f1⟩
                  case measure => simp [intOf]; omega
              · rw [hz] at hcn
                have HC1 := Lib.hid (show cmpN k1 k2 o1 o2 = 0 from hz)
                have HC2 := Lib.hid (show cmpN o1 o2 k1 k2 = 0 from hcn)
                have HQ := Lib.hid (show decide ((k1, k2) = (o1, o2)) = true from decide_eq_true hne)
                clear hz hcn hne
                have wm : IntKind.i64.wrap (-1) = -1 := by decide
                have wo : IntKind.i64.wrap 1 = 1 := by decide
                have wz : IntKind.i64.wrap 0 = 0 := by decide
                go_upto_region 17 with fail
                refine wp_region_facts (fun u => Below wr.heap.size wr u) [
                    fun v _ => v = .slice AX m cx,
                    fun v _ => v = .slice (some ⟨bl, ol, none⟩) n c,
                    fun v _ => v = .int .i64 (k : Int),
                    fun v _ => v = .pointer (some ⟨bl, ol + k * 2, none⟩),
                    fun v _ => v = .agg #[.string (strB k1), .string (strB k2)],
                    fun v _ => v = .bool true,
                    fun v _ => v = .bool false,
                    fun v _ => v = .bool false,
                    fun v _ => v = .slice (some ⟨bl, ol, none⟩) n c,
                    fun v _ => v = .int .i64 (k : Int),
                    fun v _ => v = .pointer (some ⟨bl, ol + k * 2, none⟩),
                    fun v _ => v = .agg #[.string (strB k1), .string (strB k2)],
                    fun v _ => v = .slice (some ⟨bl, ol, none⟩) n c,
                    fun v _ => v = .pointer (some ⟨bl, ol, none⟩),
                    fun v _ => v = .agg #[.string (strB o1), .string (strB o2)],
                    fun v _ => v = .int .i64 0,
                    fun v _ => v = .slice (some ⟨bl, ol, none⟩) n c,
                    fun v _ => v = .pointer (some ⟨bl, ol, none⟩),
                    fun v _ => v = .agg #[.string (strB o1), .string (strB o2)],
                    fun v _ => v = .slice (some ⟨bl, ol, none⟩) n c,
                    fun v _ => v = .int .i64 (k : Int),
                    fun v _ => v = .pointer (some ⟨bl, ol + k * 2, none⟩),
                    fun v _ => v = .agg #[.string (strB k1), .string (strB k2)],
                    fun v _ => v = .int .i64 0,
                    fun v _ => v = .int .i64 0,
                    fun v _ => v = .bool false,
                    fun v _ => v = .bool false,
                    fun v _ => v = .bool false,
                    fun v _ => v = .slice (some ⟨bl, ol, none⟩) n c,
                    fun v _ => v = .int .i64 (k : Int),
                    fun v _ => v = .pointer (some ⟨bl, ol + k * 2, none⟩),
                    fun v _ => v = .agg #[.string (strB k1), .string (strB k2)],
                    fun v _ => v = .slice (some ⟨bl, ol, none⟩) n c,
                    fun v _ => v = .pointer (some ⟨bl, ol, none⟩),
                    fun v _ => v = .agg #[.string (strB o1), .string (strB o2)],
                    fun v _ => v = .int .i64 0,
                    fun v _ => v = .bool true,
                    fun v _ => v = .slice (some ⟨bl, ol, none⟩) n c,
                    fun v _ => v = .int .i64 (k : Int),
                    fun v _ => v = .pointer (some ⟨bl, ol + k * 2, none⟩),
                    fun v _ => v = .agg #[.string (strB k1), .string (strB k2)],
                    fun v _ => v = .slice (some ⟨bl, ol, none⟩) n c,
                    fun v _ => v = .pointer (some ⟨bl, ol, none⟩),
                    fun v _ => v = .agg #[.string (strB o1), .string (strB o2)],
                    fun v _ => v = .bool true,
                    fun v _ => v = .bool false,
                    fun v _ => v = .bool false] (fun u u' => Below u.heap.size u u')
                    [[], [], [], [1, 2], [3], [0, 4], [5], [6], [7], [7], [7, 8, 9], [7, 10], [7], [7, 12], [7, 13], [7, 11, 14], [7], [7, 16], [7, 17], [7], [7], [7, 19, 20], [7, 21], [7, 18, 22], [7, 23], [7, 15, 24], [7, 25], [26], [27], [27], [27, 28, 29], [27, 30], [27], [27, 32], [27, 33], [27, 31, 34], [27, 35], [27], [27], [27, 37, 38], [27, 39], [27], [27, 41], [27, 42], [27, 40, 43], [27, 36, 44], [27, 45]] []
                    (by kernel_rfl) (by kernel_rfl) ?_ (fun _ _ _ _ _ h => h) ((Below.refl _ _).drew) ?_ ?_
                · refine hE_of (fun u u' h f => f.trans (h.mono f.size)) ?_
                  repeat' (first | exact mono_nil | refine mono_cons (fun v u u' h => ?_) ?_)
                  all_goals exact _root_.id
                ·
                  refine owed_cons (fun vs u hS hD N => ?_) ?_
                  · clear hD
                    intro hN
                    simp only [fact, layAt, depOn, dstOf, List.map_cons, List.map_nil, List.foldl_cons, List.foldl_nil, List.getD_cons_zero, List.getD_cons_succ, List.getElem?_cons_zero, List.getElem?_cons_succ, Option.bind_some] at hN ⊢
                    go_simp
                    have hh := hN _ _ rfl (.inl (Below.refl _ _))
                    revert hh
                    go_simp
                  refine owed_cons (fun vs u hS hD N => ?_) ?_
                  · clear hD
                    intro hN
                    simp only [fact, layAt, depOn, dstOf, List.map_cons, List.map_nil, List.foldl_cons, List.foldl_nil, List.getD_cons_zero, List.getD_cons_succ, List.getElem?_cons_zero, List.getElem?_cons_succ, Option.bind_some] at hN ⊢
                    go_simp
                    have hh := hN _ _ rfl (.inl (Below.refl _ _))
                    revert hh
                    go_simp
                  refine owed_cons (fun vs u hS hD N => ?_) ?_
                  · clear hD
                    intro hN
                    simp only [fact, layAt, depOn, dstOf, List.map_cons, List.map_nil, List.foldl_cons, List.foldl_nil, List.getD_cons_zero, List.getD_cons_succ, List.getElem?_cons_zero, List.getElem?_cons_succ, Option.bind_some] at hN ⊢
                    go_simp
                    have hh := hN _ _ rfl (.inl (Below.refl _ _))
                    revert hh
                    go_simp
                  refine owed_cons (fun vs u hS hD N => ?_) ?_
                  · have d1 := hD 1 (by decide)
                    simp only [fact, layAt, depOn, dstOf, List.map_cons, List.map_nil, List.foldl_cons, List.foldl_nil, List.getD_cons_zero, List.getD_cons_succ, List.getElem?_cons_zero, List.getElem?_cons_succ, Option.bind_some] at d1
                    have d2 := hD 2 (by decide)
                    simp only [fact, layAt, depOn, dstOf, List.map_cons, List.map_nil, List.foldl_cons, List.foldl_nil, List.getD_cons_zero, List.getD_cons_succ, List.getElem?_cons_zero, List.getElem?_cons_succ, Option.bind_some] at d2
                    clear hD
                    intro hN
                    simp only [fact, layAt, depOn, dstOf, List.map_cons, List.map_nil, List.foldl_cons, List.foldl_nil, List.getD_cons_zero, List.getD_cons_succ, List.getElem?_cons_zero, List.getElem?_cons_succ, Option.bind_some, d1, d2] at hN ⊢
                    go_simp
                    have hh := hN _ _ rfl (.inl (Below.refl _ _))
                    revert hh
                    go_simp
                  refine owed_cons (fun vs u hS hD N => ?_) ?_
                  · have d3 := hD 3 (by decide)
                    simp only [fact, layAt, depOn, dstOf, List.map_cons, List.map_nil, List.foldl_cons, List.foldl_nil, List.getD_cons_zero, List.getD_cons_succ, List.getElem?_cons_zero, List.getElem?_cons_succ, Option.bind_some] at d3
                    clear hD
                    intro hN
                    simp only [fact, layAt, depOn, dstOf, List.map_cons, List.map_nil, List.foldl_cons, List.foldl_nil, List.getD_cons_zero, List.getD_cons_succ, List.getElem?_cons_zero, List.getElem?_cons_succ, Option.bind_some, d3] at hN ⊢
                    go_simp
                    have k0 := K0 _ hS
                    have k1 := K1 _ hS
                    go_simp
                    have hh := hN _ _ rfl (.inl (Below.refl _ _))
                    revert hh
                    go_simp
                  refine owed_cons (fun vs u hS hD N => ?_) ?_
                  · have d0 := hD 0 (by decide)
                    simp only [fact, layAt, depOn, dstOf, List.map_cons, List.map_nil, List.foldl_cons, List.foldl_nil, List.getD_cons_zero, List.getD_cons_succ, List.getElem?_cons_zero, List.getElem?_cons_succ, Option.bind_some] at d0
                    have d4 := hD 4 (by decide)
                    simp only [fact, layAt, depOn, dstOf, List.map_cons, List.map_nil, List.foldl_cons, List.foldl_nil, List.getD_cons_zero, List.getD_cons_succ, List.getElem?_cons_zero, List.getElem?_cons_succ, Option.bind_some] at d4
                    clear hD
                    intro hN
                    simp only [fact, layAt, depOn, dstOf, List.map_cons, List.map_nil, List.foldl_cons, List.foldl_nil, List.getD_cons_zero, List.getD_cons_succ, List.getElem?_cons_zero, List.getElem?_cons_succ, Option.bind_some, d0, d4] at hN ⊢
                    go_simp
                    refine (has_any AX m cx X k1 k2 u ((rX.below hS).more hS.size) (by omega)).mono ?_
                    rintro e u' ⟨rfl, f⟩
                    rw [decide_eq_true HM.out]
                    have hh := hN _ _ rfl (.inl f)
                    revert hh
                    go_simp
                  refine owed_cons (fun vs u hS hD N => ?_) ?_
                  · have d5 := hD 5 (by decide)
                    simp only [fact, layAt, depOn, dstOf, List.map_cons, List.map_nil, List.foldl_cons, List.foldl_nil, List.getD_cons_zero, List.getD_cons_succ, List.getElem?_cons_zero, List.getElem?_cons_succ, Option.bind_some] at d5
                    clear hD
                    intro hN
                    simp only [fact, layAt, depOn, dstOf, List.map_cons, List.map_nil, List.foldl_cons, List.foldl_nil, List.getD_cons_zero, List.getD_cons_succ, List.getElem?_cons_zero, List.getElem?_cons_succ, Option.bind_some, d5] at hN ⊢
                    go_simp
                    have hh := hN _ _ rfl (.inl (Below.refl _ _))
                    revert hh
                    go_simp
                  refine owed_cons (fun vs u hS hD N => ?_) ?_
                  · have d6 := hD 6 (by decide)
                    simp only [fact, layAt, depOn, dstOf, List.map_cons, List.map_nil, List.foldl_cons, List.foldl_nil, List.getD_cons_zero, List.getD_cons_succ, List.getElem?_cons_zero, List.getElem?_cons_succ, Option.bind_some] at d6
                    clear hD
                    intro hN
                    simp only [fact, layAt, depOn, dstOf, List.map_cons, List.map_nil, List.foldl_cons, List.foldl_nil, List.getD_cons_zero, List.getD_cons_succ, List.getElem?_cons_zero, List.getElem?_cons_succ, Option.bind_some, d6] at hN ⊢
                    go_simp
                    have hh := hN _ _ rfl (.inl (Below.refl _ _))
                    revert hh
                    go_simp
                  refine owed_cons (fun vs u hS hD N => ?_) ?_
                  · have d7 := hD 7 (by decide)
                    simp only [fact, layAt, depOn, dstOf, List.map_cons, List.map_nil, List.foldl_cons, List.foldl_nil, List.getD_cons_zero, List.getD_cons_succ, List.getElem?_cons_zero, List.getElem?_cons_succ, Option.bind_some] at d7
                    clear hD
                    intro hN
                    simp only [fact, layAt, depOn, dstOf, List.map_cons, List.map_nil, List.foldl_cons, List.foldl_nil, List.getD_cons_zero, List.getD_cons_succ, List.getElem?_cons_zero, List.getElem?_cons_succ, Option.bind_some, d7] at hN ⊢
                    go_simp
                    have hh := hN _ _ rfl (.inl (Below.refl _ _))
                    revert hh
                    go_simp
                  refine owed_cons (fun vs u hS hD N => ?_) ?_
                  · have d7 := hD 7 (by decide)
                    simp only [fact, layAt, depOn, dstOf, List.map_cons, List.map_nil, List.foldl_cons, List.foldl_nil, List.getD_cons_zero, List.getD_cons_succ, List.getElem?_cons_zero, List.getElem?_cons_succ, Option.bind_some] at d7
                    clear hD
                    intro hN
                    simp only [fact, layAt, depOn, dstOf, List.map_cons, List.map_nil, List.foldl_cons, List.foldl_nil, List.getD_cons_zero, List.getD_cons_succ, List.getElem?_cons_zero, List.getElem?_cons_succ, Option.bind_some, d7] at hN ⊢
                    go_simp
                    have hh := hN _ _ rfl (.inl (Below.refl _ _))
                    revert hh
                    go_simp
                  refine owed_cons (fun vs u hS hD N => ?_) ?_
                  · have d7 := hD 7 (by decide)
                    simp only [fact, layAt, depOn, dstOf, List.map_cons, List.map_nil, List.foldl_cons, List.foldl_nil, List.getD_cons_zero, List.getD_cons_succ, List.getElem?_cons_zero, List.getElem?_cons_succ, Option.bind_some] at d7
                    have d8 := hD 8 (by decide)
                    simp only [fact, layAt, depOn, dstOf, List.map_cons, List.map_nil, List.foldl_cons, List.foldl_nil, List.getD_cons_zero, List.getD_cons_succ, List.getElem?_cons_zero, List.getElem?_cons_succ, Option.bind_some] at d8
                    have d9 := hD 9 (by decide)
                    simp only [fact, layAt, depOn, dstOf, List.map_cons, List.map_nil, List.foldl_cons, List.foldl_nil, List.getD_cons_zero, List.getD_cons_succ, List.getElem?_cons_zero, List.getElem?_cons_succ, Option.bind_some] at d9
                    clear hD
                    intro hN
                    simp only [fact, layAt, depOn, dstOf, List.map_cons, List.map_nil, List.foldl_cons, List.foldl_nil, List.getD_cons_zero, List.getD_cons_succ, List.getElem?_cons_zero, List.getElem?_cons_succ, Option.bind_some, d7, d8, d9] at hN ⊢
                    go_simp
                    have hh := hN _ _ rfl (.inl (Below.refl _ _))
                    revert hh
                    go_simp
                  refine owed_cons (fun vs u hS hD N => ?_) ?_
                  · have d7 := hD 7 (by decide)
                    simp only [fact, layAt, depOn, dstOf, List.map_cons, List.map_nil, List.foldl_cons, List.foldl_nil, List.getD_cons_zero, List.getD_cons_succ, List.getElem?_cons_zero, List.getElem?_cons_succ, Option.bind_some] at d7
                    have d10 := hD 10 (by decide)
                    simp only [fact, layAt, depOn, dstOf, List.map_cons, List.map_nil, List.foldl_cons, List.foldl_nil, List.getD_cons_zero, List.getD_cons_succ, List.getElem?_cons_zero, List.getElem?_cons_succ, Option.bind_some] at d10
                    clear hD
                    intro hN
                    simp only [fact, layAt, depOn, dstOf, List.map_cons, List.map_nil, List.foldl_cons, List.foldl_nil, List.getD_cons_zero, List.getD_cons_succ, List.getElem?_cons_zero, List.getElem?_cons_succ, Option.bind_some, d7, d10] at hN ⊢
                    go_simp
                    have k0 := K0 _ hS
                    have k1 := K1 _ hS
                    go_simp
                    have hh := hN _ _ rfl (.inl (Below.refl _ _))
                    revert hh
                    go_simp
                  refine owed_cons (fun vs u hS hD N => ?_) ?_
                  · have d7 := hD 7 (by decide)
                    simp only [fact, layAt, depOn, dstOf, List.map_cons, List.map_nil, List.foldl_cons, List.foldl_nil, List.getD_cons_zero, List.getD_cons_succ, List.getElem?_cons_zero, List.getElem?_cons_succ, Option.bind_some] at d7
                    clear hD
                    intro hN
                    simp only [fact, layAt, depOn, dstOf, List.map_cons, List.map_nil, List.foldl_cons, List.foldl_nil, List.getD_cons_zero, List.getD_cons_succ, List.getElem?_cons_zero, List.getElem?_cons_succ, Option.bind_some, d7] at hN ⊢
                    go_simp
                    have hh := hN _ _ rfl (.inl (Below.refl _ _))
                    revert hh
                    go_simp
                  refine owed_cons (fun vs u hS hD N => ?_) ?_
                  · have d7 := hD 7 (by decide)
                    simp only [fact, layAt, depOn, dstOf, List.map_cons, List.map_nil, List.foldl_cons, List.foldl_nil, List.getD_cons_zero, List.getD_cons_succ, List.getElem?_cons_zero, List.getElem?_cons_succ, Option.bind_some] at d7
                    have d12 := hD 12 (by decide)
                    simp only [fact, layAt, depOn, dstOf, List.map_cons, List.map_nil, List.foldl_cons, List.foldl_nil, List.getD_cons_zero, List.getD_cons_succ, List.getElem?_cons_zero, List.getElem?_cons_succ, Option.bind_some] at d12
                    clear hD
                    intro hN
                    simp only [fact, layAt, depOn, dstOf, List.map_cons, List.map_nil, List.foldl_cons, List.foldl_nil, List.getD_cons_zero, List.getD_cons_succ, List.getElem?_cons_zero, List.getElem?_cons_succ, Option.bind_some, d7, d12] at hN ⊢
                    go_simp
                    have hh := hN _ _ rfl (.inl (Below.refl _ _))
                    revert hh
                    go_simp
                  refine owed_cons (fun vs u hS hD N => ?_) ?_
                  · have d7 := hD 7 (by decide)
                    simp only [fact, layAt, depOn, dstOf, List.map_cons, List.map_nil, List.foldl_cons, List.foldl_nil, List.getD_cons_zero, List.getD_cons_succ, List.getElem?_cons_zero, List.getElem?_cons_succ, Option.bind_some] at d7
                    have d13 := hD 13 (by decide)
                    simp only [fact, layAt, depOn, dstOf, List.map_cons, List.map_nil, List.foldl_cons, List.foldl_nil, List.getD_cons_zero, List.getD_cons_succ, List.getElem?_cons_zero, List.getElem?_cons_succ, Option.bind_some] at d13
                    clear hD
                    intro hN
                    simp only [fact, layAt, depOn, dstOf, List.map_cons, List.map_nil, List.foldl_cons, List.foldl_nil, List.getD_cons_zero, List.getD_cons_succ, List.getElem?_cons_zero, List.getElem?_cons_succ, Option.bind_some, d7, d13] at hN ⊢
                    go_simp
                    have o0 := O0 _ hS
                    have o1 := O1 _ hS
                    go_simp
                    have hh := hN _ _ rfl (.inl (Below.refl _ _))
                    revert hh
                    go_simp
                  refine owed_cons (fun vs u hS hD N => ?_) ?_
                  · have d7 := hD 7 (by decide)
                    simp only [fact, layAt, depOn, dstOf, List.map_cons, List.map_nil, List.foldl_cons, List.foldl_nil, List.getD_cons_zero, List.getD_cons_succ, List.getElem?_cons_zero, List.getElem?_cons_succ, Option.bind_some] at d7
                    have d11 := hD 11 (by decide)
                    simp only [fact, layAt, depOn, dstOf, List.map_cons, List.map_nil, List.foldl_cons, List.foldl_nil, List.getD_cons_zero, List.getD_cons_succ, List.getElem?_cons_zero, List.getElem?_cons_succ, Option.bind_some] at d11
                    have d14 := hD 14 (by decide)
                    simp only [fact, layAt, depOn, dstOf, List.map_cons, List.map_nil, List.foldl_cons, List.foldl_nil, List.getD_cons_zero, List.getD_cons_succ, List.getElem?_cons_zero, List.getElem?_cons_succ, Option.bind_some] at d14
                    clear hD
                    intro hN
                    simp only [fact, layAt, depOn, dstOf, List.map_cons, List.map_nil, List.foldl_cons, List.foldl_nil, List.getD_cons_zero, List.getD_cons_succ, List.getElem?_cons_zero, List.getElem?_cons_succ, Option.bind_some, d7, d11, d14] at hN ⊢
                    go_simp
                    refine (cmp_any k1 k2 o1 o2 u).mono ?_
                    rintro e u' ⟨rfl, f⟩
                    rw [HC1.out]
                    have hh := hN _ _ rfl (.inl f)
                    revert hh
                    go_simp
                  refine owed_cons (fun vs u hS hD N => ?_) ?_
                  · have d7 := hD 7 (by decide)
                    simp only [fact, layAt, depOn, dstOf, List.map_cons, List.map_nil, List.foldl_cons, List.foldl_nil, List.getD_cons_zero, List.getD_cons_succ, List.getElem?_cons_zero, List.getElem?_cons_succ, Option.bind_some] at d7
                    clear hD
                    intro hN
                    simp only [fact, layAt, depOn, dstOf, List.map_cons, List.map_nil, List.foldl_cons, List.foldl_nil, List.getD_cons_zero, List.getD_cons_succ, List.getElem?_cons_zero, List.getElem?_cons_succ, Option.bind_some, d7] at hN ⊢
                    go_simp
                    have hh := hN _ _ rfl (.inl (Below.refl _ _))
                    revert hh
                    go_simp
                  refine owed_cons (fun vs u hS hD N => ?_) ?_
                  · have d7 := hD 7 (by decide)
                    simp only [fact, layAt, depOn, dstOf, List.map_cons, List.map_nil, List.foldl_cons, List.foldl_nil, List.getD_cons_zero, List.getD_cons_succ, List.getElem?_cons_zero, List.getElem?_cons_succ, Option.bind_some] at d7
                    have d16 := hD 16 (by decide)
                    simp only [fact, layAt, depOn, dstOf, List.map_cons, List.map_nil, List.foldl_cons, List.foldl_nil, List.getD_cons_zero, List.getD_cons_succ, List.getElem?_cons_zero, List.getElem?_cons_succ, Option.bind_some] at d16
                    clear hD
                    intro hN
                    simp only [fact, layAt, depOn, dstOf, List.map_cons, List.map_nil, List.foldl_cons, List.foldl_nil, List.getD_cons_zero, List.getD_cons_succ, List.getElem?_cons_zero, List.getElem?_cons_succ, Option.bind_some, d7, d16] at hN ⊢
                    go_simp
                    have hh := hN _ _ rfl (.inl (Below.refl _ _))
                    revert hh
                    go_simp
                  refine owed_cons (fun vs u hS hD N => ?_) ?_
                  · have d7 := hD 7 (by decide)
                    simp only [fact, layAt, depOn, dstOf, List.map_cons, List.map_nil, List.foldl_cons, List.foldl_nil, List.getD_cons_zero, List.getD_cons_succ, List.getElem?_cons_zero, List.getElem?_cons_succ, Option.bind_some] at d7
                    have d17 := hD 17 (by decide)
                    simp only [fact, layAt, depOn, dstOf, List.map_cons, List.map_nil, List.foldl_cons, List.foldl_nil, List.getD_cons_zero, List.getD_cons_succ, List.getElem?_cons_zero, List.getElem?_cons_succ, Option.bind_some] at d17
                    clear hD
                    intro hN
                    simp only [fact, layAt, depOn, dstOf, List.map_cons, List.map_nil, List.foldl_cons, List.foldl_nil, List.getD_cons_zero, List.getD_cons_succ, List.getElem?_cons_zero, List.getElem?_cons_succ, Option.bind_some, d7, d17] at hN ⊢
                    go_simp
                    have o0 := O0 _ hS
                    have o1 := O1 _ hS
                    go_simp
                    have hh := hN _ _ rfl (.inl (Below.refl _ _))
                    revert hh
                    go_simp
                  refine owed_cons (fun vs u hS hD N => ?_) ?_
                  · have d7 := hD 7 (by decide)
                    simp only [fact, layAt, depOn, dstOf, List.map_cons, List.map_nil, List.foldl_cons, List.foldl_nil, List.getD_cons_zero, List.getD_cons_succ, List.getElem?_cons_zero, List.getElem?_cons_succ, Option.bind_some] at d7
                    clear hD
                    intro hN
                    simp only [fact, layAt, depOn, dstOf, List.map_cons, List.map_nil, List.foldl_cons, List.foldl_nil, List.getD_cons_zero, List.getD_cons_succ, List.getElem?_cons_zero, List.getElem?_cons_succ, Option.bind_some, d7] at hN ⊢
                    go_simp
                    have hh := hN _ _ rfl (.inl (Below.refl _ _))
                    revert hh
                    go_simp
                  refine owed_cons (fun vs u hS hD N => ?_) ?_
                  · have d7 := hD 7 (by decide)
                    simp only [fact, layAt, depOn, dstOf, List.map_cons, List.map_nil, List.foldl_cons, List.foldl_nil, List.getD_cons_zero, List.getD_cons_succ, List.getElem?_cons_zero, List.getElem?_cons_succ, Option.bind_some] at d7
                    clear hD
                    intro hN
                    simp only [fact, layAt, depOn, dstOf, List.map_cons, List.map_nil, List.foldl_cons, List.foldl_nil, List.getD_cons_zero, List.getD_cons_succ, List.getElem?_cons_zero, List.getElem?_cons_succ, Option.bind_some, d7] at hN ⊢
                    go_simp
                    have hh := hN _ _ rfl (.inl (Below.refl _ _))
                    revert hh
                    go_simp
                  refine owed_cons (fun vs u hS hD N => ?_) ?_
                  · have d7 := hD 7 (by decide)
                    simp only [fact, layAt, depOn, dstOf, List.map_cons, List.map_nil, List.foldl_cons, List.foldl_nil, List.getD_cons_zero, List.getD_cons_succ, List.getElem?_cons_zero, List.getElem?_cons_succ, Option.bind_some] at d7
                    have d19 := hD 19 (by decide)
                    simp only [fact, layAt, depOn, dstOf, List.map_cons, List.map_nil, List.foldl_cons, List.foldl_nil, List.getD_cons_zero, List.getD_cons_succ, List.getElem?_cons_zero, List.getElem?_cons_succ, Option.bind_some] at d19
                    have d20 := hD 20 (by decide)
                    simp only [fact, layAt, depOn, dstOf, List.map_cons, List.map_nil, List.foldl_cons, List.foldl_nil, List.getD_cons_zero, List.getD_cons_succ, List.getElem?_cons_zero, List.getElem?_cons_succ, Option.bind_some] at d20
                    clear hD
                    intro hN
                    simp only [fact, layAt, depOn, dstOf, List.map_cons, List.map_nil, List.foldl_cons, List.foldl_nil, List.getD_cons_zero, List.getD_cons_succ, List.getElem?_cons_zero, List.getElem?_cons_succ, Option.bind_some, d7, d19, d20] at hN ⊢
                    go_simp
                    have hh := hN _ _ rfl (.inl (Below.refl _ _))
                    revert hh
                    go_simp
                  refine owed_cons (fun vs u hS hD N => ?_) ?_
                  · have d7 := hD 7 (by decide)
                    simp only [fact, layAt, depOn, dstOf, List.map_cons, List.map_nil, List.foldl_cons, List.foldl_nil, List.getD_cons_zero, List.getD_cons_succ, List.getElem?_cons_zero, List.getElem?_cons_succ, Option.bind_some] at d7
                    have d21 := hD 21 (by decide)
                    simp only [fact, layAt, depOn, dstOf, List.map_cons, List.map_nil, List.foldl_cons, List.foldl_nil, List.getD_cons_zero, List.getD_cons_succ, List.getElem?_cons_zero, List.getElem?_cons_succ, Option.bind_some] at d21
                    clear hD
                    intro hN
                    simp only [fact, layAt, depOn, dstOf, List.map_cons, List.map_nil, List.foldl_cons, List.foldl_nil, List.getD_cons_zero, List.getD_cons_succ, List.getElem?_cons_zero, List.getElem?_cons_succ, Option.bind_some, d7, d21] at hN ⊢
                    go_simp
                    have k0 := K0 _ hS
                    have k1 := K1 _ hS
                    go_simp
                    have hh := hN _ _ rfl (.inl (Below.refl _ _))
                    revert hh
                    go_simp
                  refine owed_cons (fun vs u hS hD N => ?_) ?_
                  · have d7 := hD 7 (by decide)
                    simp only [fact, layAt, depOn, dstOf, List.map_cons, List.map_nil, List.foldl_cons, List.foldl_nil, List.getD_cons_zero, List.getD_cons_succ, List.getElem?_cons_zero, List.getElem?_cons_succ, Option.bind_some] at d7
                    have d18 := hD 18 (by decide)
                    simp only [fact, layAt, depOn, dstOf, List.map_cons, List.map_nil, List.foldl_cons, List.foldl_nil, List.getD_cons_zero, List.getD_cons_succ, List.getElem?_cons_zero, List.getElem?_cons_succ, Option.bind_some] at d18
                    have d22 := hD 22 (by decide)
                    simp only [fact, layAt, depOn, dstOf, List.map_cons, List.map_nil, List.foldl_cons, List.foldl_nil, List.getD_cons_zero, List.getD_cons_succ, List.getElem?_cons_zero, List.getElem?_cons_succ, Option.bind_some] at d22
                    clear hD
                    intro hN
                    simp only [fact, layAt, depOn, dstOf, List.map_cons, List.map_nil, List.foldl_cons, List.foldl_nil, List.getD_cons_zero, List.getD_cons_succ, List.getElem?_cons_zero, List.getElem?_cons_succ, Option.bind_some, d7, d18, d22] at hN ⊢
                    go_simp
                    refine (cmp_any o1 o2 k1 k2 u).mono ?_
                    rintro e u' ⟨rfl, f⟩
                    rw [HC2.out]
                    have hh := hN _ _ rfl (.inl f)
                    revert hh
                    go_simp
                  refine owed_cons (fun vs u hS hD N => ?_) ?_
                  · have d7 := hD 7 (by decide)
                    simp only [fact, layAt, depOn, dstOf, List.map_cons, List.map_nil, List.foldl_cons, List.foldl_nil, List.getD_cons_zero, List.getD_cons_succ, List.getElem?_cons_zero, List.getElem?_cons_succ, Option.bind_some] at d7
                    have d23 := hD 23 (by decide)
                    simp only [fact, layAt, depOn, dstOf, List.map_cons, List.map_nil, List.foldl_cons, List.foldl_nil, List.getD_cons_zero, List.getD_cons_succ, List.getElem?_cons_zero, List.getElem?_cons_succ, Option.bind_some] at d23
                    clear hD
                    intro hN
                    simp only [fact, layAt, depOn, dstOf, List.map_cons, List.map_nil, List.foldl_cons, List.foldl_nil, List.getD_cons_zero, List.getD_cons_succ, List.getElem?_cons_zero, List.getElem?_cons_succ, Option.bind_some, d7, d23] at hN ⊢
                    go_simp
                    have hh := hN _ _ rfl (.inl (Below.refl _ _))
                    revert hh
                    go_simp
                  refine owed_cons (fun vs u hS hD N => ?_) ?_
                  · have d7 := hD 7 (by decide)
                    simp only [fact, layAt, depOn, dstOf, List.map_cons, List.map_nil, List.foldl_cons, List.foldl_nil, List.getD_cons_zero, List.getD_cons_succ, List.getElem?_cons_zero, List.getElem?_cons_succ, Option.bind_some] at d7
                    have d15 := hD 15 (by decide)
                    simp only [fact, layAt, depOn, dstOf, List.map_cons, List.map_nil, List.foldl_cons, List.foldl_nil, List.getD_cons_zero, List.getD_cons_succ, List.getElem?_cons_zero, List.getElem?_cons_succ, Option.bind_some] at d15
                    have d24 := hD 24 (by decide)
                    simp only [fact, layAt, depOn, dstOf, List.map_cons, List.map_nil, List.foldl_cons, List.foldl_nil, List.getD_cons_zero, List.getD_cons_succ, List.getElem?_cons_zero, List.getElem?_cons_succ, Option.bind_some] at d24
                    clear hD
                    intro hN
                    simp only [fact, layAt, depOn, dstOf, List.map_cons, List.map_nil, List.foldl_cons, List.foldl_nil, List.getD_cons_zero, List.getD_cons_succ, List.getElem?_cons_zero, List.getElem?_cons_succ, Option.bind_some, d7, d15, d24] at hN ⊢
                    go_simp
                    have hh := hN _ _ rfl (.inl (Below.refl _ _))
                    revert hh
                    go_simp
                  refine owed_cons (fun vs u hS hD N => ?_) ?_
                  · have d7 := hD 7 (by decide)
                    simp only [fact, layAt, depOn, dstOf, List.map_cons, List.map_nil, List.foldl_cons, List.foldl_nil, List.getD_cons_zero, List.getD_cons_succ, List.getElem?_cons_zero, List.getElem?_cons_succ, Option.bind_some] at d7
                    have d25 := hD 25 (by decide)
                    simp only [fact, layAt, depOn, dstOf, List.map_cons, List.map_nil, List.foldl_cons, List.foldl_nil, List.getD_cons_zero, List.getD_cons_succ, List.getElem?_cons_zero, List.getElem?_cons_succ, Option.bind_some] at d25
                    clear hD
                    intro hN
                    simp only [fact, layAt, depOn, dstOf, List.map_cons, List.map_nil, List.foldl_cons, List.foldl_nil, List.getD_cons_zero, List.getD_cons_succ, List.getElem?_cons_zero, List.getElem?_cons_succ, Option.bind_some, d7, d25] at hN ⊢
                    go_simp
                    have hh := hN _ _ rfl (.inl (Below.refl _ _))
                    revert hh
                    go_simp
                  refine owed_cons (fun vs u hS hD N => ?_) ?_
                  · have d26 := hD 26 (by decide)
                    simp only [fact, layAt, depOn, dstOf, List.map_cons, List.map_nil, List.foldl_cons, List.foldl_nil, List.getD_cons_zero, List.getD_cons_succ, List.getElem?_cons_zero, List.getElem?_cons_succ, Option.bind_some] at d26
                    clear hD
                    intro hN
                    simp only [fact, layAt, depOn, dstOf, List.map_cons, List.map_nil, List.foldl_cons, List.foldl_nil, List.getD_cons_zero, List.getD_cons_succ, List.getElem?_cons_zero, List.getElem?_cons_succ, Option.bind_some, d26] at hN ⊢
                    go_simp
                    have hh := hN _ _ rfl (.inl (Below.refl _ _))
                    revert hh
                    go_simp
                  refine owed_cons (fun vs u hS hD N => ?_) ?_
                  · have d27 := hD 27 (by decide)
                    simp only [fact, layAt, depOn, dstOf, List.map_cons, List.map_nil, List.foldl_cons, List.foldl_nil, List.getD_cons_zero, List.getD_cons_succ, List.getElem?_cons_zero, List.getElem?_cons_succ, Option.bind_some] at d27
                    clear hD
                    intro hN
                    simp only [fact, layAt, depOn, dstOf, List.map_cons, List.map_nil, List.foldl_cons, List.foldl_nil, List.getD_cons_zero, List.getD_cons_succ, List.getElem?_cons_zero, List.getElem?_cons_succ, Option.bind_some, d27] at hN ⊢
                    go_simp
                    have hh := hN _ _ rfl (.inl (Below.refl _ _))
                    revert hh
                    go_simp
                  refine owed_cons (fun vs u hS hD N => ?_) ?_
                  · have d27 := hD 27 (by decide)
                    simp only [fact, layAt, depOn, dstOf, List.map_cons, List.map_nil, List.foldl_cons, List.foldl_nil, List.getD_cons_zero, List.getD_cons_succ, List.getElem?_cons_zero, List.getElem?_cons_succ, Option.bind_some] at d27
                    clear hD
                    intro hN
                    simp only [fact, layAt, depOn, dstOf, List.map_cons, List.map_nil, List.foldl_cons, List.foldl_nil, List.getD_cons_zero, List.getD_cons_succ, List.getElem?_cons_zero, List.getElem?_cons_succ, Option.bind_some, d27] at hN ⊢
                    go_simp
                    have hh := hN _ _ rfl (.inl (Below.refl _ _))
                    revert hh
                    go_simp
                  refine owed_cons (fun vs u hS hD N => ?_) ?_
                  · have d27 := hD 27 (by decide)
                    simp only [fact, layAt, depOn, dstOf, List.map_cons, List.map_nil, List.foldl_cons, List.foldl_nil, List.getD_cons_zero, List.getD_cons_succ, List.getElem?_cons_zero, List.getElem?_cons_succ, Option.bind_some] at d27
                    have d28 := hD 28 (by decide)
                    simp only [fact, layAt, depOn, dstOf, List.map_cons, List.map_nil, List.foldl_cons, List.foldl_nil, List.getD_cons_zero, List.getD_cons_succ, List.getElem?_cons_zero, List.getElem?_cons_succ, Option.bind_some] at d28
                    have d29 := hD 29 (by decide)
                    simp only [fact, layAt, depOn, dstOf, List.map_cons, List.map_nil, List.foldl_cons, List.foldl_nil, List.getD_cons_zero, List.getD_cons_succ, List.getElem?_cons_zero, List.getElem?_cons_succ, Option.bind_some] at d29
                    clear hD
                    intro hN
                    simp only [fact, layAt, depOn, dstOf, List.map_cons, List.map_nil, List.foldl_cons, List.foldl_nil, List.getD_cons_zero, List.getD_cons_succ, List.getElem?_cons_zero, List.getElem?_cons_succ, Option.bind_some, d27, d28, d29] at hN ⊢
                    go_simp
                    have hh := hN _ _ rfl (.inl (Below.refl _ _))
                    revert hh
                    go_simp
                  refine owed_cons (fun vs u hS hD N => ?_) ?_
                  · have d27 := hD 27 (by decide)
                    simp only [fact, layAt, depOn, dstOf, List.map_cons, List.map_nil, List.foldl_cons, List.foldl_nil, List.getD_cons_zero, List.getD_cons_succ, List.getElem?_cons_zero, List.getElem?_cons_succ, Option.bind_some] at d27
                    have d30 := hD 30 (by decide)
                    simp only [fact, layAt, depOn, dstOf, List.map_cons, List.map_nil, List.foldl_cons, List.foldl_nil, List.getD_cons_zero, List.getD_cons_succ, List.getElem?_cons_zero, List.getElem?_cons_succ, Option.bind_some] at d30
                    clear hD
                    intro hN
                    simp only [fact, layAt, depOn, dstOf, List.map_cons, List.map_nil, List.foldl_cons, List.foldl_nil, List.getD_cons_zero, List.getD_cons_succ, List.getElem?_cons_zero, List.getElem?_cons_succ, Option.bind_some, d27, d30] at hN ⊢
                    go_simp
                    have k0 := K0 _ hS
                    have k1 := K1 _ hS
                    go_simp
                    have hh := hN _ _ rfl (.inl (Below.refl _ _))
                    revert hh
                    go_simp
                  refine owed_cons (fun vs u hS hD N => ?_) ?_
                  · have d27 := hD 27 (by decide)
                    simp only [fact, layAt, depOn, dstOf, List.map_cons, List.map_nil, List.foldl_cons, List.foldl_nil, List.getD_cons_zero, List.getD_cons_succ, List.getElem?_cons_zero, List.getElem?_cons_succ, Option.bind_some] at d27
                    clear hD
                    intro hN
                    simp only [fact, layAt, depOn, dstOf, List.map_cons, List.map_nil, List.foldl_cons, List.foldl_nil, List.getD_cons_zero, List.getD_cons_succ, List.getElem?_cons_zero, List.getElem?_cons_succ, Option.bind_some, d27] at hN ⊢
                    go_simp
                    have hh := hN _ _ rfl (.inl (Below.refl _ _))
                    revert hh
                    go_simp
                  refine owed_cons (fun vs u hS hD N => ?_) ?_
                  · have d27 := hD 27 (by decide)
                    simp only [fact, layAt, depOn, dstOf, List.map_cons, List.map_nil, List.foldl_cons, List.foldl_nil, List.getD_cons_zero, List.getD_cons_succ, List.getElem?_cons_zero, List.getElem?_cons_succ, Option.bind_some] at d27
                    have d32 := hD 32 (by decide)
                    simp only [fact, layAt, depOn, dstOf, List.map_cons, List.map_nil, List.foldl_cons, List.foldl_nil, List.getD_cons_zero, List.getD_cons_succ, List.getElem?_cons_zero, List.getElem?_cons_succ, Option.bind_some] at d32
                    clear hD
                    intro hN
                    simp only [fact, layAt, depOn, dstOf, List.map_cons, List.map_nil, List.foldl_cons, List.foldl_nil, List.getD_cons_zero, List.getD_cons_succ, List.getElem?_cons_zero, List.getElem?_cons_succ, Option.bind_some, d27, d32] at hN ⊢
                    go_simp
                    have hh := hN _ _ rfl (.inl (Below.refl _ _))
                    revert hh
                    go_simp
                  refine owed_cons (fun vs u hS hD N => ?_) ?_
                  · have d27 := hD 27 (by decide)
                    simp only [fact, layAt, depOn, dstOf, List.map_cons, List.map_nil, List.foldl_cons, List.foldl_nil, List.getD_cons_zero, List.getD_cons_succ, List.getElem?_cons_zero, List.getElem?_cons_succ, Option.bind_some] at d27
                    have d33 := hD 33 (by decide)
                    simp only [fact, layAt, depOn, dstOf, List.map_cons, List.map_nil, List.foldl_cons, List.foldl_nil, List.getD_cons_zero, List.getD_cons_succ, List.getElem?_cons_zero, List.getElem?_cons_succ, Option.bind_some] at d33
                    clear hD
                    intro hN
                    simp only [fact, layAt, depOn, dstOf, List.map_cons, List.map_nil, List.foldl_cons, List.foldl_nil, List.getD_cons_zero, List.getD_cons_succ, List.getElem?_cons_zero, List.getElem?_cons_succ, Option.bind_some, d27, d33] at hN ⊢
                    go_simp
                    have o0 := O0 _ hS
                    have o1 := O1 _ hS
                    go_simp
                    have hh := hN _ _ rfl (.inl (Below.refl _ _))
                    revert hh
                    go_simp
                  refine owed_cons (fun vs u hS hD N => ?_) ?_
                  · have d27 := hD 27 (by decide)
                    simp only [fact, layAt, depOn, dstOf, List.map_cons, List.map_nil, List.foldl_cons, List.foldl_nil, List.getD_cons_zero, List.getD_cons_succ, List.getElem?_cons_zero, List.getElem?_cons_succ, Option.bind_some] at d27
                    have d31 := hD 31 (by decide)
                    simp only [fact, layAt, depOn, dstOf, List.map_cons, List.map_nil, List.foldl_cons, List.foldl_nil, List.getD_cons_zero, List.getD_cons_succ, List.getElem?_cons_zero, List.getElem?_cons_succ, Option.bind_some] at d31
                    have d34 := hD 34 (by decide)
                    simp only [fact, layAt, depOn, dstOf, List.map_cons, List.map_nil, List.foldl_cons, List.foldl_nil, List.getD_cons_zero, List.getD_cons_succ, List.getElem?_cons_zero, List.getElem?_cons_succ, Option.bind_some] at d34
                    clear hD
                    intro hN
                    simp only [fact, layAt, depOn, dstOf, List.map_cons, List.map_nil, List.foldl_cons, List.foldl_nil, List.getD_cons_zero, List.getD_cons_succ, List.getElem?_cons_zero, List.getElem?_cons_succ, Option.bind_some, d27, d31, d34] at hN ⊢
                    go_simp
                    refine (cmp_any k1 k2 o1 o2 u).mono ?_
                    rintro e u' ⟨rfl, f⟩
                    rw [HC1.out]
                    have hh := hN _ _ rfl (.inl f)
                    revert hh
                    go_simp
                  refine owed_cons (fun vs u hS hD N => ?_) ?_
                  · have d27 := hD 27 (by decide)
                    simp only [fact, layAt, depOn, dstOf, List.map_cons, List.map_nil, List.foldl_cons, List.foldl_nil, List.getD_cons_zero, List.getD_cons_succ, List.getElem?_cons_zero, List.getElem?_cons_succ, Option.bind_some] at d27
                    have d35 := hD 35 (by decide)
                    simp only [fact, layAt, depOn, dstOf, List.map_cons, List.map_nil, List.foldl_cons, List.foldl_nil, List.getD_cons_zero, List.getD_cons_succ, List.getElem?_cons_zero, List.getElem?_cons_succ, Option.bind_some] at d35
                    clear hD
                    intro hN
                    simp only [fact, layAt, depOn, dstOf, List.map_cons, List.map_nil, List.foldl_cons, List.foldl_nil, List.getD_cons_zero, List.getD_cons_succ, List.getElem?_cons_zero, List.getElem?_cons_succ, Option.bind_some, d27, d35] at hN ⊢
                    go_simp
                    have hh := hN _ _ rfl (.inl (Below.refl _ _))
                    revert hh
                    go_simp
                  refine owed_cons (fun vs u hS hD N => ?_) ?_
                  · have d27 := hD 27 (by decide)
                    simp only [fact, layAt, depOn, dstOf, List.map_cons, List.map_nil, List.foldl_cons, List.foldl_nil, List.getD_cons_zero, List.getD_cons_succ, List.getElem?_cons_zero, List.getElem?_cons_succ, Option.bind_some] at d27
                    clear hD
                    intro hN
                    simp only [fact, layAt, depOn, dstOf, List.map_cons, List.map_nil, List.foldl_cons, List.foldl_nil, List.getD_cons_zero, List.getD_cons_succ, List.getElem?_cons_zero, List.getElem?_cons_succ, Option.bind_some, d27] at hN ⊢
                    go_simp
                    have hh := hN _ _ rfl (.inl (Below.refl _ _))
                    revert hh
                    go_simp
                  refine owed_cons (fun vs u hS hD N => ?_) ?_
                  · have d27 := hD 27 (by decide)
                    simp only [fact, layAt, depOn, dstOf, List.map_cons, List.map_nil, List.foldl_cons, List.foldl_nil, List.getD_cons_zero, List.getD_cons_succ, List.getElem?_cons_zero, List.getElem?_cons_succ, Option.bind_some] at d27
                    clear hD
                    intro hN
                    simp only [fact, layAt, depOn, dstOf, List.map_cons, List.map_nil, List.foldl_cons, List.foldl_nil, List.getD_cons_zero, List.getD_cons_succ, List.getElem?_cons_zero, List.getElem?_cons_succ, Option.bind_some, d27] at hN ⊢
                    go_simp
                    have hh := hN _ _ rfl (.inl (Below.refl _ _))
                    revert hh
                    go_simp
                  refine owed_cons (fun vs u hS hD N => ?_) ?_
                  · have d27 := hD 27 (by decide)
                    simp only [fact, layAt, depOn, dstOf, List.map_cons, List.map_nil, List.foldl_cons, List.foldl_nil, List.getD_cons_zero, List.getD_cons_succ, List.getElem?_cons_zero, List.getElem?_cons_succ, Option.bind_some] at d27
                    have d37 := hD 37 (by decide)
                    simp only [fact, layAt, depOn, dstOf, List.map_cons, List.map_nil, List.foldl_cons, List.foldl_nil, List.getD_cons_zero, List.getD_cons_succ, List.getElem?_cons_zero, List.getElem?_cons_succ, Option.bind_some] at d37
                    have d38 := hD 38 (by decide)
                    simp only [fact, layAt, depOn, dstOf, List.map_cons, List.map_nil, List.foldl_cons, List.foldl_nil, List.getD_cons_zero, List.getD_cons_succ, List.getElem?_cons_zero, List.getElem?_cons_succ, Option.bind_some] at d38
                    clear hD
                    intro hN
                    simp only [fact, layAt, depOn, dstOf, List.map_cons, List.map_nil, List.foldl_cons, List.foldl_nil, List.getD_cons_zero, List.getD_cons_succ, List.getElem?_cons_zero, List.getElem?_cons_succ, Option.bind_some, d27, d37, d38] at hN ⊢
                    go_simp
                    have hh := hN _ _ rfl (.inl (Below.refl _ _))
                    revert hh
                    go_simp
                  refine owed_cons (fun vs u hS hD N => ?_) ?_
                  · have d27 := hD 27 (by decide)
                    simp only [fact, layAt, depOn, dstOf, List.map_cons, List.map_nil, List.foldl_cons, List.foldl_nil, List.getD_cons_zero, List.getD_cons_succ, List.getElem?_cons_zero, List.getElem?_cons_succ, Option.bind_some] at d27
                    have d39 := hD 39 (by decide)
                    simp only [fact, layAt, depOn, dstOf, List.map_cons, List.map_nil, List.foldl_cons, List.foldl_nil, List.getD_cons_zero, List.getD_cons_succ, List.getElem?_cons_zero, List.getElem?_cons_succ, Option.bind_some] at d39
                    clear hD
                    intro hN
                    simp only [fact, layAt, depOn, dstOf, List.map_cons, List.map_nil, List.foldl_cons, List.foldl_nil, List.getD_cons_zero, List.getD_cons_succ, List.getElem?_cons_zero, List.getElem?_cons_succ, Option.bind_some, d27, d39] at hN ⊢
                    go_simp
                    have k0 := K0 _ hS
                    have k1 := K1 _ hS
                    go_simp
                    have hh := hN _ _ rfl (.inl (Below.refl _ _))
                    revert hh
                    go_simp
                  refine owed_cons (fun vs u hS hD N => ?_) ?_
                  · have d27 := hD 27 (by decide)
                    simp only [fact, layAt, depOn, dstOf, List.map_cons, List.map_nil, List.foldl_cons, List.foldl_nil, List.getD_cons_zero, List.getD_cons_succ, List.getElem?_cons_zero, List.getElem?_cons_succ, Option.bind_some] at d27
                    clear hD
                    intro hN
                    simp only [fact, layAt, depOn, dstOf, List.map_cons, List.map_nil, List.foldl_cons, List.foldl_nil, List.getD_cons_zero, List.getD_cons_succ, List.getElem?_cons_zero, List.getElem?_cons_succ, Option.bind_some, d27] at hN ⊢
                    go_simp
                    have hh := hN _ _ rfl (.inl (Below.refl _ _))
                    revert hh
                    go_simp
                  refine owed_cons (fun vs u hS hD N => ?_) ?_
                  · have d27 := hD 27 (by decide)
                    simp only [fact, layAt, depOn, dstOf, List.map_cons, List.map_nil, List.foldl_cons, List.foldl_nil, List.getD_cons_zero, List.getD_cons_succ, List.getElem?_cons_zero, List.getElem?_cons_succ, Option.bind_some] at d27
                    have d41 := hD 41 (by decide)
                    simp only [fact, layAt, depOn, dstOf, List.map_cons, List.map_nil, List.foldl_cons, List.foldl_nil, List.getD_cons_zero, List.getD_cons_succ, List.getElem?_cons_zero, List.getElem?_cons_succ, Option.bind_some] at d41
                    clear hD
                    intro hN
                    simp only [fact, layAt, depOn, dstOf, List.map_cons, List.map_nil, List.foldl_cons, List.foldl_nil, List.getD_cons_zero, List.getD_cons_succ, List.getElem?_cons_zero, List.getElem?_cons_succ, Option.bind_some, d27, d41] at hN ⊢
                    go_simp
                    have hh := hN _ _ rfl (.inl (Below.refl _ _))
                    revert hh
                    go_simp
                  refine owed_cons (fun vs u hS hD N => ?_) ?_
                  · have d27 := hD 27 (by decide)
                    simp only [fact, layAt, depOn, dstOf, List.map_cons, List.map_nil, List.foldl_cons, List.foldl_nil, List.getD_cons_zero, List.getD_cons_succ, List.getElem?_cons_zero, List.getElem?_cons_succ, Option.bind_some] at d27
                    have d42 := hD 42 (by decide)
                    simp only [fact, layAt, depOn, dstOf, List.map_cons, List.map_nil, List.foldl_cons, List.foldl_nil, List.getD_cons_zero, List.getD_cons_succ, List.getElem?_cons_zero, List.getElem?_cons_succ, Option.bind_some] at d42
                    clear hD
                    intro hN
                    simp only [fact, layAt, depOn, dstOf, List.map_cons, List.map_nil, List.foldl_cons, List.foldl_nil, List.getD_cons_zero, List.getD_cons_succ, List.getElem?_cons_zero, List.getElem?_cons_succ, Option.bind_some, d27, d42] at hN ⊢
                    go_simp
                    have o0 := O0 _ hS
                    have o1 := O1 _ hS
                    go_simp
                    have hh := hN _ _ rfl (.inl (Below.refl _ _))
                    revert hh
                    go_simp
                  refine owed_cons (fun vs u hS hD N => ?_) ?_
                  · have d27 := hD 27 (by decide)
                    simp only [fact, layAt, depOn, dstOf, List.map_cons, List.map_nil, List.foldl_cons, List.foldl_nil, List.getD_cons_zero, List.getD_cons_succ, List.getElem?_cons_zero, List.getElem?_cons_succ, Option.bind_some] at d27
                    have d40 := hD 40 (by decide)
                    simp only [fact, layAt, depOn, dstOf, List.map_cons, List.map_nil, List.foldl_cons, List.foldl_nil, List.getD_cons_zero, List.getD_cons_succ, List.getElem?_cons_zero, List.getElem?_cons_succ, Option.bind_some] at d40
                    have d43 := hD 43 (by decide)
                    simp only [fact, layAt, depOn, dstOf, List.map_cons, List.map_nil, List.foldl_cons, List.foldl_nil, List.getD_cons_zero, List.getD_cons_succ, List.getElem?_cons_zero, List.getElem?_cons_succ, Option.bind_some] at d43
                    clear hD
                    intro hN
                    simp only [fact, layAt, depOn, dstOf, List.map_cons, List.map_nil, List.foldl_cons, List.foldl_nil, List.getD_cons_zero, List.getD_cons_succ, List.getElem?_cons_zero, List.getElem?_cons_succ, Option.bind_some, d27, d40, d43] at hN ⊢
                    rw [if_pos (by rfl)]
                    have qe := fun w : World => run_nm_eq k1 k2 o1 o2 w
                    rw [HQ.out] at qe
                    go_simp
                    have hh := hN _ _ rfl (.inl (Below.refl _ _))
                    revert hh
                    go_simp
                  refine owed_cons (fun vs u hS hD N => ?_) ?_
                  · have d27 := hD 27 (by decide)
                    simp only [fact, layAt, depOn, dstOf, List.map_cons, List.map_nil, List.foldl_cons, List.foldl_nil, List.getD_cons_zero, List.getD_cons_succ, List.getElem?_cons_zero, List.getElem?_cons_succ, Option.bind_some] at d27
                    have d36 := hD 36 (by decide)
                    simp only [fact, layAt, depOn, dstOf, List.map_cons, List.map_nil, List.foldl_cons, List.foldl_nil, List.getD_cons_zero, List.getD_cons_succ, List.getElem?_cons_zero, List.getElem?_cons_succ, Option.bind_some] at d36
                    have d44 := hD 44 (by decide)
                    simp only [fact, layAt, depOn, dstOf, List.map_cons, List.map_nil, List.foldl_cons, List.foldl_nil, List.getD_cons_zero, List.getD_cons_succ, List.getElem?_cons_zero, List.getElem?_cons_succ, Option.bind_some] at d44
                    clear hD
                    intro hN
                    simp only [fact, layAt, depOn, dstOf, List.map_cons, List.map_nil, List.foldl_cons, List.foldl_nil, List.getD_cons_zero, List.getD_cons_succ, List.getElem?_cons_zero, List.getElem?_cons_succ, Option.bind_some, d27, d36, d44] at hN ⊢
                    go_simp
                    have hh := hN _ _ rfl (.inl (Below.refl _ _))
                    revert hh
                    go_simp
                  refine owed_cons (fun vs u hS hD N => ?_) ?_
                  · have d27 := hD 27 (by decide)
                    simp only [fact, layAt, depOn, dstOf, List.map_cons, List.map_nil, List.foldl_cons, List.foldl_nil, List.getD_cons_zero, List.getD_cons_succ, List.getElem?_cons_zero, List.getElem?_cons_succ, Option.bind_some] at d27
                    have d45 := hD 45 (by decide)
                    simp only [fact, layAt, depOn, dstOf, List.map_cons, List.map_nil, List.foldl_cons, List.foldl_nil, List.getD_cons_zero, List.getD_cons_succ, List.getElem?_cons_zero, List.getElem?_cons_succ, Option.bind_some] at d45
                    clear hD
                    intro hN
                    simp only [fact, layAt, depOn, dstOf, List.map_cons, List.map_nil, List.foldl_cons, List.foldl_nil, List.getD_cons_zero, List.getD_cons_succ, List.getElem?_cons_zero, List.getElem?_cons_succ, Option.bind_some, d27, d45] at hN ⊢
                    go_simp
                    have hh := hN _ _ rfl (.inl (Below.refl _ _))
                    revert hh
                    go_simp
                  exact owed_nil
                ·
                  intro vs u hS hF
                  have d46 := hF 46 (by decide) (by decide)
                  simp only [fact, layAt, depOn, dstOf, List.map_cons, List.map_nil, List.foldl_cons, List.foldl_nil, List.getD_cons_zero, List.getD_cons_succ, List.getElem?_cons_zero, List.getElem?_cons_succ, Option.bind_some] at d46
                  clear hF
                  simp only [List.length_cons, List.length_nil, Nat.reduceAdd, List.range, List.range.loop, fact, layAt, depOn, dstOf, List.map_cons, List.map_nil, List.foldl_cons, List.foldl_nil, List.getD_cons_zero, List.getD_cons_succ, List.getElem?_cons_zero, List.getElem?_cons_succ, Option.bind_some, d46]
                  go_simp
                  replace f1 := f1.trans (hS.mono f1.size)
                  replace rX := (rX.below hS).more hS.size
                  go_wp2_with fail
                  go_roundw
                  case rel => exact ⟨k + 1, by go_num, by omega, rX, f1⟩
                  case measure => simp [intOf]; omega
            · have d2 : decide ((k : Int) < (n : Int)) = false := by simp; omega
              go_wp2_with fail
              refine (awake5_any wr (hL.below h0 f1)).mono ?_
              rintro e w9 ⟨rfl, f9⟩
              go_wp2_with fail
              go_ret
              exact ⟨rfl, f1.trans (f9.mono f1.size)⟩
end Go.Proofs.Ytopemhdoccgjmaa
