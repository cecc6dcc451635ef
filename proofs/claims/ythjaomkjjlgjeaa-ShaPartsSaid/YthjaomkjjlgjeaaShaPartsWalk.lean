/- The law ShaParts, walked. No condition. -/
import Derived.Test.YthjaomkjjlgjeaaShaAwake
import Derived.Test.YthjaomkjjlgjeaaShaPartsLaw
import Derived.Test.YthjaomkjjlgjeaaFacts
import Derived.Test.YthjaomkjjlgjeaaOrder
import Derived.Test.YthjaomkjjlgjeaaSlices
import Derived.Test.YthjaomkjjlgjeaaOpenI
namespace Go.Proofs.Ythjaomkjjlgjeaa
open Go.RowKit
set_option linter.unusedSimpArgs false
set_option linter.unusedVariables false
theorem exec_slice_lh {P : Program} {t e : TypeId} {o : Oper} {a : Act} {A : Option Addr} {n c : Nat} (T : ByteTy P t e) {x y z : Operand} (ho : o.op = .slice t x (some z) (some y) none) (hx : a.eval x = .slice A n c) {i k : Nat} (hy : a.eval y = .int .i64 (k : Int)) (hz : a.eval z = .int .i64 (i : Int)) (hi : i ≤ k) (hk : k ≤ n) (hc : n ≤ c) {v : Value} (he : sliced A i k c 1 = v) (u : World) :
    (execOp a.eval o).run P u = .ok (.value v) u := by
  unfold execOp
  simp only [ho, hx, hy, hz, Option.map_some, Option.map_none, Sem.run_bind]
  rw [run_sliceB T (some (.int .i64 (i : Int))) (some (.int .i64 (k : Int))) (i := i) (k := k) (by simp [Instr.sliceBounds, run_sliceBound, show (k : Int) ≤ c by omega, show (i : Int) ≤ k by omega]), he]
  rfl
set_option maxRecDepth 100000 in
set_option maxHeartbeats 4000000 in
theorem shaParts_walk (w : World) (A : Option Addr) (n c : Nat) (l : List UInt8) (rl : RdB w w.heap.size A n l) (hnc : n ≤ c) (_ : c ≤ maxLen) (A2 : Option Addr) (m c2 : Nat) (cs : List Int) (rc : RdZ w w.heap.size A2 m cs) (hmc : m ≤ c2) (_ : c2 ≤ maxLen)
    (hcs : ∀ x ∈ cs, -9223372036854775808 ≤ x ∧ x ≤ 9223372036854775807) :
    Calls Try.prog 11 #[.slice A n c, .slice A2 m c2] w fun e w' => e = .returned (.bool true) ∧ Below w.heap.size w w' := by
  have hz : (Try.prog.info? 26).map (·.size) = some 32 := by kernel_rfl
  have Hz := Lib.hid hz; clear hz
  have hi : (Try.prog.info? 43).map (·.size) = some 10 := by kernel_rfl
  have Hi := Lib.hid hi; clear hi
  by_cases hn : 4000 < n
  · have d1 : decide ((4000 : Int) < (n : Int)) = true := by simp; omega
    go_enter Try.func11, Try.ntmps11
    go_wp2_with fail
    refine (awake1_any _).mono ?_
    rintro e w1 ⟨rfl, f1⟩
    go_wp2_with fail
    go_ret
    exact ⟨rfl, f1⟩
  have d1 : decide ((4000 : Int) < (n : Int)) = false := by simp; omega
  by_cases hm : 100 < m
  · have d2 : decide ((100 : Int) < (m : Int)) = true := by simp; omega
    go_enter Try.func11, Try.ntmps11
    go_wp2_with fail
    refine (awake1_any _).mono ?_
    rintro e w1 ⟨rfl, f1⟩
    go_wp2_with fail
    go_ret
    exact ⟨rfl, f1⟩
  have d2 : decide ((100 : Int) < (m : Int)) = false := by simp; omega
  have hl := rl.1
  have Hl := Lib.hid hl; clear hl
  have hzm : (Try.prog.info? 26).map (·.size) = some (bvs (shaB l)).length := by rw [bvs_length, shaB_length]; exact Hz.out
  have Hzm := Lib.hid hzm; clear hzm
  go_enter Try.func11, Try.ntmps11
  go_wp2_with fail
  refine absC (fun w1 => RdL w1 w1.heap.size (some ⟨w.heap.size, 0, none⟩) 1 [⟨A, n, c, l⟩] ∧ Below w.heap.size w w1) ⟨?_, (Below.refl _ w).alloc (Nat.le_refl _) _⟩ ?_
  · refine RdL.of_blk (ps := [⟨A, n, c, l⟩]) (t := 23) (Blk.newAt rfl _ _) ?_
    intro p hp
    obtain rfl : p = ⟨A, n, c, l⟩ := by simpa using hp
    exact (rl.alloc (Nat.le_refl _) _).more (by simp)
  rintro w1 ⟨q1, f1⟩
  refine (of_any _ 1 1 _ w1 q1 (by have := Hl.out; simp [catB]; omega) (by omega)).mono ?_
  rintro e w2 ⟨rfl, f2⟩
  rw [show catB [(⟨A, n, c, l⟩ : Part)] = l from by simp [catB]]
  replace f1 := f1.trans (f2.mono f1.size)
  clear f2 q1 w1
  go_wp2_with (first | (refine store_blk (Blk.of_new w2 26 (bvs (List.replicate 32 0))) rfl 26 (.tmp 5) (.tmp 22) rfl rfl (us := bvs (shaB l)) rfl Hzm.out (by simp [bvs_length, shaB_length]) (bvs_all _) ?_; intro w3 k3 hg; have f3 : Below w.heap.size w w3 := (f1.alloc f1.size _).grown hg (by have := f1.size; simp; omega) (by have := f1.size; simp; omega)))
  generalize w2.heap.size = g3 at *
  clear hg f1 w2
  refine (new_of w3).mono ?_
  rintro e w4 ⟨rfl, f4⟩
  replace k3 := k3.below f4 k3.lt
  have hl3 := f3.size
  replace f3 := f3.trans (f4.mono f3.size)
  clear f4
  have hsz : ∀ L A c, (Try.prog.info? 43).map (·.size) = some (shaL L A c).length := fun L A c => by rw [shaL_length]; exact Hi.out
  have HS := Lib.hid hsz; clear hsz
  have lg := k3.lt
  have lw := f3.size
  go_wp2_with (first | (refine store_blk (Blk.newAt rfl 43 _) rfl 43 (.tmp 6) (.tmp 23) rfl rfl (us := shaL [] none 0) rfl (HS.out _ _ _) (by rw [shaL_length]; rfl) (shaL_all _ _ _) ?_; intro w5 k5 hg; have f5 : Below w4.heap.size w4 w5 := ((Below.refl _ w4).alloc (Nat.le_refl _) _).grown hg (by simp) (by simp)))
  replace k3 := k3.below f5 lg
  replace f3 := f3.trans (f5.mono f3.size)
  clear hg f5
  generalize w4.heap.size = g5 at *
  clear w4 hl3 w3
  try go_frame
  go_loopw [8, 7] (fun s8 s7 wr => ∃ (j a : Nat) (A1 : Option Addr) (c1 : Nat), j ≤ m ∧ a ≤ n ∧ s8 = .int .i64 j ∧ s7 = .int .i64 a ∧ Blk wr g3 26 (bvs (shaB l)) ∧ Blk wr g5 43 (shaL (l.take a) A1 c1) ∧ RdT wr (l.take a) A1 ∧ Below w.heap.size w wr) (fun s8 _ _ => m - (intOf s8).toNat)
  case atStart => exact ⟨0, 0, none, 0, by omega, by omega, rfl, rfl, k3, by rw [List.take_zero]; exact k5, by rw [List.take_zero]; exact RdT.nil, f3⟩
  case round =>
    clear k3 k5 f3
    obtain ⟨j, a, A1, c1, hj, ha, rfl, rfl, k3, k5, r5, f3⟩ := hrel
    by_cases hlt : j < m
    · have dj : decide ((j : Int) < (m : Int)) = true := by simp; omega
      obtain ⟨b, off, x, rfl, hb, hcx, hx⟩ := rc.at_ hlt
      have hxb := hcs x hx
      replace hcx := (f3.cell (p := ⟨b, off + j, none⟩) hb).trans hcx
      have b1 : (0 : Int) ≤ (j : Int) := by omega
      have b2 : (j : Int) < (m : Int) := by omega
      go_upto_region 10 with fail
      obtain ⟨q, hq, hqn⟩ : ∃ q : Nat, (if (if 0 < x then x else 0) < (n : Int) - (a : Int) then if 0 < x then x else 0 else (n : Int) - (a : Int)) = (q : Int) ∧ a + q ≤ n := by
        refine ⟨(if (if 0 < x then x else 0) < (n : Int) - (a : Int) then if 0 < x then x else 0 else (n : Int) - (a : Int)).toNat, ?_, ?_⟩
        · split <;> split <;> omega
        · split <;> split <;> omega
      rw [hq]
      generalize (if 0 < x then x else (0 : Int)) = y
      obtain ⟨A', e', r'⟩ := rl.sliced (i := a) (k := a + q) (by omega) hqn hnc
      rw [show a + q - a = q from by omega] at r' e'
      have hnx := parts_next l a q
      have HNX := Lib.hid hnx
      clear hnx hq hcx hxb
      refine wp_region_order (fun u => Blk u g5 43 (shaL (l.take a) A1 c1)) 8 [(0,0), (1,0), (2,0), (3,0), (4,0), (5,0), (6,0), (7,1), (8,2)] (by kernel_rfl) (by kernel_rfl) ?_
      simp only [pick, List.filterMap_cons, List.filterMap_nil, List.getElem?_cons_zero, List.getElem?_cons_succ, Option.map_some]
      have hS : Blk wr.drew g5 43 (shaL (l.take a) A1 c1) := k5.drew
      refine wpF_load hS rfl 43 (.tmp 6) rfl rfl (fun _ h => h.whole) Try.underlying43 (HS.out _ _ _) (fun _ _ _ h => h) ?_
      go_simp
      refine wpF_take (v := ?_) hS rfl ?_ (fun _ _ _ h => h) ?_
      rotate_left
      · intro w' hS'
        obtain _ := hS'
        go_simp <;> rfl
      go_simp
      refine wpF_take (v := ?_) hS rfl ?_ (fun _ _ _ h => h) ?_
      rotate_left
      · intro w' hS'
        obtain _ := hS'
        go_simp <;> rfl
      go_simp
      refine wpF_take (v := ?_) hS rfl ?_ (fun _ _ _ h => h) ?_
      rotate_left
      · intro w' hS'
        obtain _ := hS'
        go_simp <;> rfl
      go_simp
      refine wpF_take (v := ?_) hS rfl ?_ (fun _ _ _ h => h) ?_
      rotate_left
      · intro w' hS'
        obtain _ := hS'
        go_simp <;> rfl
      go_simp
      have hw := IntWalk.i64_in ((a : Int) + (q : Int)) (by omega)
      refine wpF_take (v := ?_) hS rfl ?_ (fun _ _ _ h => h) ?_
      rotate_left
      · intro w' hS'
        obtain _ := hS'
        go_simp <;> rfl
      go_simp
      refine wpF_take (v := .slice A' q (c - a)) hS rfl (fun u _ => exec_slice_lh T23 rfl rfl (i := a) (k := a + q) (by push_cast; rfl) rfl (by omega) hqn hnc e' u) (fun _ _ _ h => h) ?_
      go_simp
      refine wpF_only rfl (fun K hK => ?_)
      go_wp2_with fail
      refine (write_of (l.take a) A1 c1 A' q (c - a) _ wr.drew r5 (((r'.below f3.drew).more f3.drew.size)) (by rw [List.length_take]; omega)).mono ?_
      rintro e w6 ⟨A6, c6, rfl, r6, f6⟩
      rw [← HNX.out] at r6 ⊢
      have hS6 : Blk w6 g5 43 (shaL (l.take a) A1 c1) := hS.below f6 k5.lt
      have k36 : Blk w6 g3 26 (bvs (shaB l)) := k3.drew.below f6 k3.lt
      have f36 := f3.drew.trans (f6.mono f3.size)
      have l5 : g5 < wr.drew.heap.size := k5.lt
      clear hS k3 k5 r5 f3 f6 r'
      go_wp2_with fail
      refine ⟨fun _ => hS6, ?_⟩
      go_simp
      refine wpF_only rfl (fun K hK => ?_)
      refine wp_store_blk hS6 43 (.tmp 6) (.tmp 47) rfl rfl (us := shaL (l.take (a + q)) A6 c6) rfl (HS.out _ _ _) (by rw [shaL_length, shaL_length]) (shaL_all _ _ _) ?_
      intro w7 k7 hg7
      refine hK _ _ ⟨fun h => absurd h (by omega), wpF_nil ?_⟩
      go_wp2_with fail
      go_roundw
      case rel => exact ⟨j + 1, a + q, A6, c6, by omega, hqn, by go_num, by go_num, k36.grown hg7 (by simp; omega), k7, (r6.grown hg7 l5).rd, f36.grown hg7 f36.size (by simp; omega)⟩
      case measure => simp [intOf]; omega
    · obtain rfl : j = m := by omega
      have dj : decide ((j : Int) < (j : Int)) = false := by simp
      go_upto_region 13 with fail
      rw [show (a : Int) / 2 = ((a / 2 : Nat) : Int) from by omega]
      have hk : a / 2 ≤ a := by omega
      generalize a / 2 = k at *
      have hlw := rl.1
      have rw1 := (rl.below f3)
      have hBw := f3.size
      have lb3 := k3.lt
      have lb5 := k5.lt
      have hja : l.take a ++ l.drop a = l := List.take_append_drop a l
      refine wp_region_facts (fun u => Below wr.heap.size wr u) [
        fun v _ => v = .agg (shaL (l.take a) A1 c1).toArray,
        fun v _ => v = .slice A n c,
        fun v _ => v = .int .i64 (a : Int),
        fun v _ => ∃ A', v = .slice A' (n - a) (c - a) ∧ RdB wr w.heap.size A' (n - a) (l.drop a),
        fun v u => ∃ A' c', v = .agg (shaL l A' c').toArray ∧ RdT u l A',
        fun v _ => v = .agg (bvs (shaB l)).toArray,
        fun v _ => v = .agg (bvs (shaB l)).toArray,
        fun v _ => v = .bool true,
        fun v _ => v = .bool true,
        fun v _ => v = .slice A n c,
        fun v _ => v = .int .i64 (k : Int),
        fun v _ => ∃ A', v = .slice A' k c ∧ RdB wr w.heap.size A' k (l.take k),
        fun v _ => v = .slice A n c,
        fun v _ => v = .int .i64 (k : Int),
        fun v _ => v = .int .i64 (a : Int),
        fun v _ => ∃ A', v = .slice A' (a - k) (c - k) ∧ RdB wr w.heap.size A' (a - k) ((l.take a).drop k),
        fun v _ => v = .slice A n c,
        fun v _ => v = .int .i64 (a : Int),
        fun v _ => ∃ A', v = .slice A' (n - a) (c - a) ∧ RdB wr w.heap.size A' (n - a) (l.drop a),
        fun v u => ∃ g ps, v = .slice (some ⟨g, 0, none⟩) 4 4 ∧ Blk u g 23 (ps.map Part.v) ∧ ps.length = 4 ∧ (∀ p ∈ ps, RdB wr w.heap.size p.A p.n p.l) ∧ catB ps = l,
        fun v _ => v = .agg (bvs (shaB l)).toArray,
        fun v _ => v = .agg (bvs (shaB l)).toArray,
        fun v _ => v = .bool true,
        fun v _ => v = .bool true,
        fun v _ => v = .bool true,
        fun v _ => v = .bool true,
        fun v _ => v = .bool true,
        fun v _ => v = .bool true] (fun u u' => Below u.heap.size u u')
        [[], [], [], [1, 2], [0, 3], [4], [], [5, 6], [7], [8], [8], [8, 9, 10], [8], [8], [8], [8, 12, 13, 14], [8], [8], [8, 16, 17], [8, 11, 15, 18], [8, 19], [8], [8, 20, 21], [8, 22], [23], [24], [24, 25], [26]] []
        (by kernel_rfl) (by kernel_rfl) ?_ (fun _ _ _ _ _ h => h) ((Below.refl _ _).drew) ?_ ?_
      · refine hE_of (fun u u' h f => f.trans (h.mono f.size)) ?_
        repeat' (first | exact mono_nil | refine mono_cons (fun v u u' h => ?_) ?_)
        all_goals first | exact _root_.id | (rintro ⟨g, ps, e, k, h1⟩; exact ⟨g, ps, e, k.below h k.lt, h1⟩) | (rintro ⟨A', c', e, r⟩; exact ⟨A', c', e, r.below h⟩)
      ·
        refine owed_cons (fun vs u hS hD N => ?_) ?_
        · clear hD
          intro hN
          simp only [fact, layAt, depOn, dstOf, List.map_cons, List.map_nil, List.foldl_cons, List.foldl_nil, List.getD_cons_zero, List.getD_cons_succ, List.getElem?_cons_zero, List.getElem?_cons_succ, Option.bind_some] at hN ⊢
          rw [if_pos (by rfl)]
          refine wp_load_blk (k5.below hS k5.lt) 43 (.tmp 6) rfl rfl Try.underlying43 (HS.out _ _ _) ?_
          exact hN _ _ rfl (.inl (Below.refl _ _))
        refine owed_cons (fun vs u hS hD N => ?_) ?_
        · clear hD
          intro hN
          simp only [fact, layAt, depOn, dstOf, List.map_cons, List.map_nil, List.foldl_cons, List.foldl_nil, List.getD_cons_zero, List.getD_cons_succ, List.getElem?_cons_zero, List.getElem?_cons_succ, Option.bind_some] at hN ⊢
          go_simp
          have hh := hN _ _ rfl (.inl (Below.refl _ _))
          revert hh
          go_simp
        refine owed_cons (fun vs u hS hD N => ?_) ?_
        · clear hD
          intro hN
          simp only [fact, layAt, depOn, dstOf, List.map_cons, List.map_nil, List.foldl_cons, List.foldl_nil, List.getD_cons_zero, List.getD_cons_succ, List.getElem?_cons_zero, List.getElem?_cons_succ, Option.bind_some] at hN ⊢
          go_simp
          have hh := hN _ _ rfl (.inl (Below.refl _ _))
          revert hh
          go_simp
        refine owed_cons (fun vs u hS hD N => ?_) ?_
        · have d1 := hD 1 (by decide)
          simp only [fact, layAt, depOn, dstOf, List.map_cons, List.map_nil, List.foldl_cons, List.foldl_nil, List.getD_cons_zero, List.getD_cons_succ, List.getElem?_cons_zero, List.getElem?_cons_succ, Option.bind_some] at d1
          have d2 := hD 2 (by decide)
          simp only [fact, layAt, depOn, dstOf, List.map_cons, List.map_nil, List.foldl_cons, List.foldl_nil, List.getD_cons_zero, List.getD_cons_succ, List.getElem?_cons_zero, List.getElem?_cons_succ, Option.bind_some] at d2
          clear hD
          intro hN
          simp only [fact, layAt, depOn, dstOf, List.map_cons, List.map_nil, List.foldl_cons, List.foldl_nil, List.getD_cons_zero, List.getD_cons_succ, List.getElem?_cons_zero, List.getElem?_cons_succ, Option.bind_some, d1, d2] at hN ⊢
          rw [if_pos (by rfl)]
          refine wp_slice_l T23 rfl (A := A) (n := n) (c := c) rfl (i := a) rfl rw1 ha hnc ?_
          exact fun A' r => hN _ _ ⟨A', rfl, r⟩ (.inl (Below.refl _ _))
        refine owed_cons (fun vs u hS hD N => ?_) ?_
        · have d0 := hD 0 (by decide)
          simp only [fact, layAt, depOn, dstOf, List.map_cons, List.map_nil, List.foldl_cons, List.foldl_nil, List.getD_cons_zero, List.getD_cons_succ, List.getElem?_cons_zero, List.getElem?_cons_succ, Option.bind_some] at d0
          have d3 := hD 3 (by decide)
          simp only [fact, layAt, depOn, dstOf, List.map_cons, List.map_nil, List.foldl_cons, List.foldl_nil, List.getD_cons_zero, List.getD_cons_succ, List.getElem?_cons_zero, List.getElem?_cons_succ, Option.bind_some] at d3
          obtain ⟨B1, e3, r1⟩ := d3
          clear hD
          intro hN
          simp only [fact, layAt, depOn, dstOf, List.map_cons, List.map_nil, List.foldl_cons, List.foldl_nil, List.getD_cons_zero, List.getD_cons_succ, List.getElem?_cons_zero, List.getElem?_cons_succ, Option.bind_some, d0, e3] at hN ⊢
          go_simp
          refine (write_of (l.take a) A1 c1 B1 (n - a) (c - a) _ u (r5.below hS) ((r1.below (hS.mono hBw)).more (Nat.le_trans hBw hS.size)) (by rw [List.length_take]; omega)).mono ?_
          rintro e u' ⟨A', c', rfl, r', f⟩
          rw [hja] at r' ⊢
          have hh := hN _ _ ⟨A', c', rfl, r'.rd⟩ (.inl f)
          revert hh
          go_simp
        refine owed_cons (fun vs u hS hD N => ?_) ?_
        · have d4 := hD 4 (by decide)
          simp only [fact, layAt, depOn, dstOf, List.map_cons, List.map_nil, List.foldl_cons, List.foldl_nil, List.getD_cons_zero, List.getD_cons_succ, List.getElem?_cons_zero, List.getElem?_cons_succ, Option.bind_some] at d4
          obtain ⟨A', c', e4, r'⟩ := d4
          clear hD
          intro hN
          simp only [fact, layAt, depOn, dstOf, List.map_cons, List.map_nil, List.foldl_cons, List.foldl_nil, List.getD_cons_zero, List.getD_cons_succ, List.getElem?_cons_zero, List.getElem?_cons_succ, Option.bind_some, e4] at hN ⊢
          go_simp
          refine (sum_of l A' c' u r').mono ?_
          rintro e u' ⟨rfl, f⟩
          have hh := hN _ _ rfl (.inl f)
          revert hh
          go_simp
        refine owed_cons (fun vs u hS hD N => ?_) ?_
        · clear hD
          intro hN
          simp only [fact, layAt, depOn, dstOf, List.map_cons, List.map_nil, List.foldl_cons, List.foldl_nil, List.getD_cons_zero, List.getD_cons_succ, List.getElem?_cons_zero, List.getElem?_cons_succ, Option.bind_some] at hN ⊢
          rw [if_pos (by rfl)]
          refine wp_load_blk (k3.below hS k3.lt) 26 (.tmp 5) rfl rfl Try.underlying26 Hzm.out ?_
          exact hN _ _ rfl (.inl (Below.refl _ _))
        refine owed_cons (fun vs u hS hD N => ?_) ?_
        · have d5 := hD 5 (by decide)
          simp only [fact, layAt, depOn, dstOf, List.map_cons, List.map_nil, List.foldl_cons, List.foldl_nil, List.getD_cons_zero, List.getD_cons_succ, List.getElem?_cons_zero, List.getElem?_cons_succ, Option.bind_some] at d5
          have d6 := hD 6 (by decide)
          simp only [fact, layAt, depOn, dstOf, List.map_cons, List.map_nil, List.foldl_cons, List.foldl_nil, List.getD_cons_zero, List.getD_cons_succ, List.getElem?_cons_zero, List.getElem?_cons_succ, Option.bind_some] at d6
          clear hD
          intro hN
          simp only [fact, layAt, depOn, dstOf, List.map_cons, List.map_nil, List.foldl_cons, List.foldl_nil, List.getD_cons_zero, List.getD_cons_succ, List.getElem?_cons_zero, List.getElem?_cons_succ, Option.bind_some, d5, d6] at hN ⊢
          go_simp
          rw [run_equalIn_bytes (P := Try.prog) Try.underlying26 Try.underlying5 (by kernel_rfl) _ _ (shaB_length _) (shaB_length _) u]
          go_simp
          have hh := hN _ _ rfl (.inl (Below.refl _ _))
          revert hh
          go_simp
        refine owed_cons (fun vs u hS hD N => ?_) ?_
        · have d7 := hD 7 (by decide)
          simp only [fact, layAt, depOn, dstOf, List.map_cons, List.map_nil, List.foldl_cons, List.foldl_nil, List.getD_cons_zero, List.getD_cons_succ, List.getElem?_cons_zero, List.getElem?_cons_succ, Option.bind_some] at d7
          clear hD
          intro hN
          simp only [fact, layAt, depOn, dstOf, List.map_cons, List.map_nil, List.foldl_cons, List.foldl_nil, List.getD_cons_zero, List.getD_cons_succ, List.getElem?_cons_zero, List.getElem?_cons_succ, Option.bind_some, d7] at hN ⊢
          go_simp
          have hh := hN _ _ rfl (.inl (Below.refl _ _))
          revert hh
          go_simp
        refine owed_cons (fun vs u hS hD N => ?_) ?_
        · have d8 := hD 8 (by decide)
          simp only [fact, layAt, depOn, dstOf, List.map_cons, List.map_nil, List.foldl_cons, List.foldl_nil, List.getD_cons_zero, List.getD_cons_succ, List.getElem?_cons_zero, List.getElem?_cons_succ, Option.bind_some] at d8
          clear hD
          intro hN
          simp only [fact, layAt, depOn, dstOf, List.map_cons, List.map_nil, List.foldl_cons, List.foldl_nil, List.getD_cons_zero, List.getD_cons_succ, List.getElem?_cons_zero, List.getElem?_cons_succ, Option.bind_some, d8] at hN ⊢
          go_simp
          have hh := hN _ _ rfl (.inl (Below.refl _ _))
          revert hh
          go_simp
        refine owed_cons (fun vs u hS hD N => ?_) ?_
        · have d8 := hD 8 (by decide)
          simp only [fact, layAt, depOn, dstOf, List.map_cons, List.map_nil, List.foldl_cons, List.foldl_nil, List.getD_cons_zero, List.getD_cons_succ, List.getElem?_cons_zero, List.getElem?_cons_succ, Option.bind_some] at d8
          clear hD
          intro hN
          simp only [fact, layAt, depOn, dstOf, List.map_cons, List.map_nil, List.foldl_cons, List.foldl_nil, List.getD_cons_zero, List.getD_cons_succ, List.getElem?_cons_zero, List.getElem?_cons_succ, Option.bind_some, d8] at hN ⊢
          go_simp
          have hh := hN _ _ rfl (.inl (Below.refl _ _))
          revert hh
          go_simp
        refine owed_cons (fun vs u hS hD N => ?_) ?_
        · have d8 := hD 8 (by decide)
          simp only [fact, layAt, depOn, dstOf, List.map_cons, List.map_nil, List.foldl_cons, List.foldl_nil, List.getD_cons_zero, List.getD_cons_succ, List.getElem?_cons_zero, List.getElem?_cons_succ, Option.bind_some] at d8
          have d9 := hD 9 (by decide)
          simp only [fact, layAt, depOn, dstOf, List.map_cons, List.map_nil, List.foldl_cons, List.foldl_nil, List.getD_cons_zero, List.getD_cons_succ, List.getElem?_cons_zero, List.getElem?_cons_succ, Option.bind_some] at d9
          have d10 := hD 10 (by decide)
          simp only [fact, layAt, depOn, dstOf, List.map_cons, List.map_nil, List.foldl_cons, List.foldl_nil, List.getD_cons_zero, List.getD_cons_succ, List.getElem?_cons_zero, List.getElem?_cons_succ, Option.bind_some] at d10
          clear hD
          intro hN
          simp only [fact, layAt, depOn, dstOf, List.map_cons, List.map_nil, List.foldl_cons, List.foldl_nil, List.getD_cons_zero, List.getD_cons_succ, List.getElem?_cons_zero, List.getElem?_cons_succ, Option.bind_some, d8, d9, d10] at hN ⊢
          rw [if_pos (by rfl)]
          refine wp_slice_h T23 rfl (A := A) (n := n) (c := c) rfl (k := k) rfl rw1 (by omega) hnc ?_
          exact fun A' r => hN _ _ ⟨A', rfl, r⟩ (.inl (Below.refl _ _))
        refine owed_cons (fun vs u hS hD N => ?_) ?_
        · have d8 := hD 8 (by decide)
          simp only [fact, layAt, depOn, dstOf, List.map_cons, List.map_nil, List.foldl_cons, List.foldl_nil, List.getD_cons_zero, List.getD_cons_succ, List.getElem?_cons_zero, List.getElem?_cons_succ, Option.bind_some] at d8
          clear hD
          intro hN
          simp only [fact, layAt, depOn, dstOf, List.map_cons, List.map_nil, List.foldl_cons, List.foldl_nil, List.getD_cons_zero, List.getD_cons_succ, List.getElem?_cons_zero, List.getElem?_cons_succ, Option.bind_some, d8] at hN ⊢
          go_simp
          have hh := hN _ _ rfl (.inl (Below.refl _ _))
          revert hh
          go_simp
        refine owed_cons (fun vs u hS hD N => ?_) ?_
        · have d8 := hD 8 (by decide)
          simp only [fact, layAt, depOn, dstOf, List.map_cons, List.map_nil, List.foldl_cons, List.foldl_nil, List.getD_cons_zero, List.getD_cons_succ, List.getElem?_cons_zero, List.getElem?_cons_succ, Option.bind_some] at d8
          clear hD
          intro hN
          simp only [fact, layAt, depOn, dstOf, List.map_cons, List.map_nil, List.foldl_cons, List.foldl_nil, List.getD_cons_zero, List.getD_cons_succ, List.getElem?_cons_zero, List.getElem?_cons_succ, Option.bind_some, d8] at hN ⊢
          go_simp
          have hh := hN _ _ rfl (.inl (Below.refl _ _))
          revert hh
          go_simp
        refine owed_cons (fun vs u hS hD N => ?_) ?_
        · have d8 := hD 8 (by decide)
          simp only [fact, layAt, depOn, dstOf, List.map_cons, List.map_nil, List.foldl_cons, List.foldl_nil, List.getD_cons_zero, List.getD_cons_succ, List.getElem?_cons_zero, List.getElem?_cons_succ, Option.bind_some] at d8
          clear hD
          intro hN
          simp only [fact, layAt, depOn, dstOf, List.map_cons, List.map_nil, List.foldl_cons, List.foldl_nil, List.getD_cons_zero, List.getD_cons_succ, List.getElem?_cons_zero, List.getElem?_cons_succ, Option.bind_some, d8] at hN ⊢
          go_simp
          have hh := hN _ _ rfl (.inl (Below.refl _ _))
          revert hh
          go_simp
        refine owed_cons (fun vs u hS hD N => ?_) ?_
        · have d8 := hD 8 (by decide)
          simp only [fact, layAt, depOn, dstOf, List.map_cons, List.map_nil, List.foldl_cons, List.foldl_nil, List.getD_cons_zero, List.getD_cons_succ, List.getElem?_cons_zero, List.getElem?_cons_succ, Option.bind_some] at d8
          have d12 := hD 12 (by decide)
          simp only [fact, layAt, depOn, dstOf, List.map_cons, List.map_nil, List.foldl_cons, List.foldl_nil, List.getD_cons_zero, List.getD_cons_succ, List.getElem?_cons_zero, List.getElem?_cons_succ, Option.bind_some] at d12
          have d13 := hD 13 (by decide)
          simp only [fact, layAt, depOn, dstOf, List.map_cons, List.map_nil, List.foldl_cons, List.foldl_nil, List.getD_cons_zero, List.getD_cons_succ, List.getElem?_cons_zero, List.getElem?_cons_succ, Option.bind_some] at d13
          have d14 := hD 14 (by decide)
          simp only [fact, layAt, depOn, dstOf, List.map_cons, List.map_nil, List.foldl_cons, List.foldl_nil, List.getD_cons_zero, List.getD_cons_succ, List.getElem?_cons_zero, List.getElem?_cons_succ, Option.bind_some] at d14
          clear hD
          intro hN
          simp only [fact, layAt, depOn, dstOf, List.map_cons, List.map_nil, List.foldl_cons, List.foldl_nil, List.getD_cons_zero, List.getD_cons_succ, List.getElem?_cons_zero, List.getElem?_cons_succ, Option.bind_some, d8, d12, d13, d14] at hN ⊢
          rw [if_pos (by rfl)]
          refine wp_slice_lh T23 rfl (A := A) (n := n) (c := c) rfl (i := k) (k := a) rfl rfl rw1 hk ha hnc ?_
          exact fun A' r => hN _ _ ⟨A', rfl, r⟩ (.inl (Below.refl _ _))
        refine owed_cons (fun vs u hS hD N => ?_) ?_
        · have d8 := hD 8 (by decide)
          simp only [fact, layAt, depOn, dstOf, List.map_cons, List.map_nil, List.foldl_cons, List.foldl_nil, List.getD_cons_zero, List.getD_cons_succ, List.getElem?_cons_zero, List.getElem?_cons_succ, Option.bind_some] at d8
          clear hD
          intro hN
          simp only [fact, layAt, depOn, dstOf, List.map_cons, List.map_nil, List.foldl_cons, List.foldl_nil, List.getD_cons_zero, List.getD_cons_succ, List.getElem?_cons_zero, List.getElem?_cons_succ, Option.bind_some, d8] at hN ⊢
          go_simp
          have hh := hN _ _ rfl (.inl (Below.refl _ _))
          revert hh
          go_simp
        refine owed_cons (fun vs u hS hD N => ?_) ?_
        · have d8 := hD 8 (by decide)
          simp only [fact, layAt, depOn, dstOf, List.map_cons, List.map_nil, List.foldl_cons, List.foldl_nil, List.getD_cons_zero, List.getD_cons_succ, List.getElem?_cons_zero, List.getElem?_cons_succ, Option.bind_some] at d8
          clear hD
          intro hN
          simp only [fact, layAt, depOn, dstOf, List.map_cons, List.map_nil, List.foldl_cons, List.foldl_nil, List.getD_cons_zero, List.getD_cons_succ, List.getElem?_cons_zero, List.getElem?_cons_succ, Option.bind_some, d8] at hN ⊢
          go_simp
          have hh := hN _ _ rfl (.inl (Below.refl _ _))
          revert hh
          go_simp
        refine owed_cons (fun vs u hS hD N => ?_) ?_
        · have d8 := hD 8 (by decide)
          simp only [fact, layAt, depOn, dstOf, List.map_cons, List.map_nil, List.foldl_cons, List.foldl_nil, List.getD_cons_zero, List.getD_cons_succ, List.getElem?_cons_zero, List.getElem?_cons_succ, Option.bind_some] at d8
          have d16 := hD 16 (by decide)
          simp only [fact, layAt, depOn, dstOf, List.map_cons, List.map_nil, List.foldl_cons, List.foldl_nil, List.getD_cons_zero, List.getD_cons_succ, List.getElem?_cons_zero, List.getElem?_cons_succ, Option.bind_some] at d16
          have d17 := hD 17 (by decide)
          simp only [fact, layAt, depOn, dstOf, List.map_cons, List.map_nil, List.foldl_cons, List.foldl_nil, List.getD_cons_zero, List.getD_cons_succ, List.getElem?_cons_zero, List.getElem?_cons_succ, Option.bind_some] at d17
          clear hD
          intro hN
          simp only [fact, layAt, depOn, dstOf, List.map_cons, List.map_nil, List.foldl_cons, List.foldl_nil, List.getD_cons_zero, List.getD_cons_succ, List.getElem?_cons_zero, List.getElem?_cons_succ, Option.bind_some, d8, d16, d17] at hN ⊢
          rw [if_pos (by rfl)]
          refine wp_slice_l T23 rfl (A := A) (n := n) (c := c) rfl (i := a) rfl rw1 ha hnc ?_
          exact fun A' r => hN _ _ ⟨A', rfl, r⟩ (.inl (Below.refl _ _))
        refine owed_cons (fun vs u hS hD N => ?_) ?_
        · have d8 := hD 8 (by decide)
          simp only [fact, layAt, depOn, dstOf, List.map_cons, List.map_nil, List.foldl_cons, List.foldl_nil, List.getD_cons_zero, List.getD_cons_succ, List.getElem?_cons_zero, List.getElem?_cons_succ, Option.bind_some] at d8
          have d11 := hD 11 (by decide)
          simp only [fact, layAt, depOn, dstOf, List.map_cons, List.map_nil, List.foldl_cons, List.foldl_nil, List.getD_cons_zero, List.getD_cons_succ, List.getElem?_cons_zero, List.getElem?_cons_succ, Option.bind_some] at d11
          obtain ⟨B1, e11, r1⟩ := d11
          have d15 := hD 15 (by decide)
          simp only [fact, layAt, depOn, dstOf, List.map_cons, List.map_nil, List.foldl_cons, List.foldl_nil, List.getD_cons_zero, List.getD_cons_succ, List.getElem?_cons_zero, List.getElem?_cons_succ, Option.bind_some] at d15
          obtain ⟨B2, e15, r2⟩ := d15
          have d18 := hD 18 (by decide)
          simp only [fact, layAt, depOn, dstOf, List.map_cons, List.map_nil, List.foldl_cons, List.foldl_nil, List.getD_cons_zero, List.getD_cons_succ, List.getElem?_cons_zero, List.getElem?_cons_succ, Option.bind_some] at d18
          obtain ⟨B3, e18, r3⟩ := d18
          clear hD
          intro hN
          simp only [fact, layAt, depOn, dstOf, List.map_cons, List.map_nil, List.foldl_cons, List.foldl_nil, List.getD_cons_zero, List.getD_cons_succ, List.getElem?_cons_zero, List.getElem?_cons_succ, Option.bind_some, d8, e11, e15, e18] at hN ⊢
          go_simp
          have kk : Blk (u.alloc (.cells #[.slice B1 k c, .slice none 0 0, .slice B2 (a - k) (c - k), .slice B3 (n - a) (c - a)] 23)) u.heap.size 23 (([⟨B1, k, c, l.take k⟩, ⟨none, 0, 0, []⟩, ⟨B2, a - k, c - k, (l.take a).drop k⟩, ⟨B3, n - a, c - a, l.drop a⟩] : List Part).map Part.v) := Blk.newAt rfl _ _
          have hp : ∀ p ∈ ([⟨B1, k, c, l.take k⟩, ⟨none, 0, 0, []⟩, ⟨B2, a - k, c - k, (l.take a).drop k⟩, ⟨B3, n - a, c - a, l.drop a⟩] : List Part), RdB wr w.heap.size p.A p.n p.l := by
            intro p hp
            simp only [List.mem_cons, List.not_mem_nil, or_false] at hp
            rcases hp with rfl | rfl | rfl | rfl
            · exact r1
            · exact RdB.nil
            · exact r2
            · exact r3
          have hc : catB [⟨B1, k, c, l.take k⟩, ⟨none, 0, 0, []⟩, ⟨B2, a - k, c - k, (l.take a).drop k⟩, ⟨B3, n - a, c - a, l.drop a⟩] = l := by
            have h1 : l.take k = (l.take a).take k := by rw [List.take_take, Nat.min_eq_left hk]
            simp only [catB, List.flatMap_cons, List.flatMap_nil, List.append_nil, List.nil_append]
            rw [h1, ← List.append_assoc, List.take_append_drop, List.take_append_drop]
          have hh := hN _ _ ⟨_, _, rfl, kk, rfl, hp, hc⟩ (.inl ((Below.refl _ u).alloc (Nat.le_refl _) _))
          revert hh
          go_simp
        refine owed_cons (fun vs u hS hD N => ?_) ?_
        · have d8 := hD 8 (by decide)
          simp only [fact, layAt, depOn, dstOf, List.map_cons, List.map_nil, List.foldl_cons, List.foldl_nil, List.getD_cons_zero, List.getD_cons_succ, List.getElem?_cons_zero, List.getElem?_cons_succ, Option.bind_some] at d8
          have d19 := hD 19 (by decide)
          simp only [fact, layAt, depOn, dstOf, List.map_cons, List.map_nil, List.foldl_cons, List.foldl_nil, List.getD_cons_zero, List.getD_cons_succ, List.getElem?_cons_zero, List.getElem?_cons_succ, Option.bind_some] at d19
          obtain ⟨g, ps, e19, kb, h4, hp, hc⟩ := d19
          clear hD
          intro hN
          simp only [fact, layAt, depOn, dstOf, List.map_cons, List.map_nil, List.foldl_cons, List.foldl_nil, List.getD_cons_zero, List.getD_cons_succ, List.getElem?_cons_zero, List.getElem?_cons_succ, Option.bind_some, d8, e19] at hN ⊢
          go_simp
          have hq := RdL.of_blk kb (fun p hpm => ((hp p hpm).below (hS.mono hBw)).more (Nat.le_trans hBw hS.size))
          rw [h4] at hq
          refine (of_any _ 4 4 ps u hq (by rw [hc]; omega) (by omega)).mono ?_
          rintro e u' ⟨rfl, f⟩
          rw [hc]
          have hh := hN _ _ rfl (.inl f)
          revert hh
          go_simp
        refine owed_cons (fun vs u hS hD N => ?_) ?_
        · have d8 := hD 8 (by decide)
          simp only [fact, layAt, depOn, dstOf, List.map_cons, List.map_nil, List.foldl_cons, List.foldl_nil, List.getD_cons_zero, List.getD_cons_succ, List.getElem?_cons_zero, List.getElem?_cons_succ, Option.bind_some] at d8
          clear hD
          intro hN
          simp only [fact, layAt, depOn, dstOf, List.map_cons, List.map_nil, List.foldl_cons, List.foldl_nil, List.getD_cons_zero, List.getD_cons_succ, List.getElem?_cons_zero, List.getElem?_cons_succ, Option.bind_some, d8] at hN ⊢
          rw [if_pos (by rfl)]
          refine wp_load_blk (k3.below hS k3.lt) 26 (.tmp 5) rfl rfl Try.underlying26 Hzm.out ?_
          exact hN _ _ rfl (.inl (Below.refl _ _))
        refine owed_cons (fun vs u hS hD N => ?_) ?_
        · have d8 := hD 8 (by decide)
          simp only [fact, layAt, depOn, dstOf, List.map_cons, List.map_nil, List.foldl_cons, List.foldl_nil, List.getD_cons_zero, List.getD_cons_succ, List.getElem?_cons_zero, List.getElem?_cons_succ, Option.bind_some] at d8
          have d20 := hD 20 (by decide)
          simp only [fact, layAt, depOn, dstOf, List.map_cons, List.map_nil, List.foldl_cons, List.foldl_nil, List.getD_cons_zero, List.getD_cons_succ, List.getElem?_cons_zero, List.getElem?_cons_succ, Option.bind_some] at d20
          have d21 := hD 21 (by decide)
          simp only [fact, layAt, depOn, dstOf, List.map_cons, List.map_nil, List.foldl_cons, List.foldl_nil, List.getD_cons_zero, List.getD_cons_succ, List.getElem?_cons_zero, List.getElem?_cons_succ, Option.bind_some] at d21
          clear hD
          intro hN
          simp only [fact, layAt, depOn, dstOf, List.map_cons, List.map_nil, List.foldl_cons, List.foldl_nil, List.getD_cons_zero, List.getD_cons_succ, List.getElem?_cons_zero, List.getElem?_cons_succ, Option.bind_some, d8, d20, d21] at hN ⊢
          go_simp
          rw [run_equalIn_bytes (P := Try.prog) Try.underlying26 Try.underlying5 (by kernel_rfl) _ _ (shaB_length _) (shaB_length _) u]
          go_simp
          have hh := hN _ _ rfl (.inl (Below.refl _ _))
          revert hh
          go_simp
        refine owed_cons (fun vs u hS hD N => ?_) ?_
        · have d8 := hD 8 (by decide)
          simp only [fact, layAt, depOn, dstOf, List.map_cons, List.map_nil, List.foldl_cons, List.foldl_nil, List.getD_cons_zero, List.getD_cons_succ, List.getElem?_cons_zero, List.getElem?_cons_succ, Option.bind_some] at d8
          have d22 := hD 22 (by decide)
          simp only [fact, layAt, depOn, dstOf, List.map_cons, List.map_nil, List.foldl_cons, List.foldl_nil, List.getD_cons_zero, List.getD_cons_succ, List.getElem?_cons_zero, List.getElem?_cons_succ, Option.bind_some] at d22
          clear hD
          intro hN
          simp only [fact, layAt, depOn, dstOf, List.map_cons, List.map_nil, List.foldl_cons, List.foldl_nil, List.getD_cons_zero, List.getD_cons_succ, List.getElem?_cons_zero, List.getElem?_cons_succ, Option.bind_some, d8, d22] at hN ⊢
          go_simp
          have hh := hN _ _ rfl (.inl (Below.refl _ _))
          revert hh
          go_simp
        refine owed_cons (fun vs u hS hD N => ?_) ?_
        · have d23 := hD 23 (by decide)
          simp only [fact, layAt, depOn, dstOf, List.map_cons, List.map_nil, List.foldl_cons, List.foldl_nil, List.getD_cons_zero, List.getD_cons_succ, List.getElem?_cons_zero, List.getElem?_cons_succ, Option.bind_some] at d23
          clear hD
          intro hN
          simp only [fact, layAt, depOn, dstOf, List.map_cons, List.map_nil, List.foldl_cons, List.foldl_nil, List.getD_cons_zero, List.getD_cons_succ, List.getElem?_cons_zero, List.getElem?_cons_succ, Option.bind_some, d23] at hN ⊢
          go_simp
          have hh := hN _ _ rfl (.inl (Below.refl _ _))
          revert hh
          go_simp
        refine owed_cons (fun vs u hS hD N => ?_) ?_
        · have d24 := hD 24 (by decide)
          simp only [fact, layAt, depOn, dstOf, List.map_cons, List.map_nil, List.foldl_cons, List.foldl_nil, List.getD_cons_zero, List.getD_cons_succ, List.getElem?_cons_zero, List.getElem?_cons_succ, Option.bind_some] at d24
          clear hD
          intro hN
          simp only [fact, layAt, depOn, dstOf, List.map_cons, List.map_nil, List.foldl_cons, List.foldl_nil, List.getD_cons_zero, List.getD_cons_succ, List.getElem?_cons_zero, List.getElem?_cons_succ, Option.bind_some, d24] at hN ⊢
          go_simp
          refine (awake1_any _).mono ?_
          rintro e u' ⟨rfl, f⟩
          have hh := hN _ _ rfl (.inl f)
          revert hh
          go_simp
        refine owed_cons (fun vs u hS hD N => ?_) ?_
        · have d24 := hD 24 (by decide)
          simp only [fact, layAt, depOn, dstOf, List.map_cons, List.map_nil, List.foldl_cons, List.foldl_nil, List.getD_cons_zero, List.getD_cons_succ, List.getElem?_cons_zero, List.getElem?_cons_succ, Option.bind_some] at d24
          have d25 := hD 25 (by decide)
          simp only [fact, layAt, depOn, dstOf, List.map_cons, List.map_nil, List.foldl_cons, List.foldl_nil, List.getD_cons_zero, List.getD_cons_succ, List.getElem?_cons_zero, List.getElem?_cons_succ, Option.bind_some] at d25
          clear hD
          intro hN
          simp only [fact, layAt, depOn, dstOf, List.map_cons, List.map_nil, List.foldl_cons, List.foldl_nil, List.getD_cons_zero, List.getD_cons_succ, List.getElem?_cons_zero, List.getElem?_cons_succ, Option.bind_some, d24, d25] at hN ⊢
          go_simp
          have hh := hN _ _ rfl (.inl (Below.refl _ _))
          revert hh
          go_simp
        refine owed_cons (fun vs u hS hD N => ?_) ?_
        · have d26 := hD 26 (by decide)
          simp only [fact, layAt, depOn, dstOf, List.map_cons, List.map_nil, List.foldl_cons, List.foldl_nil, List.getD_cons_zero, List.getD_cons_succ, List.getElem?_cons_zero, List.getElem?_cons_succ, Option.bind_some] at d26
          clear hD
          intro hN
          simp only [fact, layAt, depOn, dstOf, List.map_cons, List.map_nil, List.foldl_cons, List.foldl_nil, List.getD_cons_zero, List.getD_cons_succ, List.getElem?_cons_zero, List.getElem?_cons_succ, Option.bind_some, d26] at hN ⊢
          go_simp
          have hh := hN _ _ rfl (.inl (Below.refl _ _))
          revert hh
          go_simp
        exact owed_nil
      ·
        intro vs u hS hF
        have d27 := hF 27 (by decide) (by decide)
        simp only [fact, layAt, depOn, dstOf, List.map_cons, List.map_nil, List.foldl_cons, List.foldl_nil, List.getD_cons_zero, List.getD_cons_succ, List.getElem?_cons_zero, List.getElem?_cons_succ, Option.bind_some] at d27
        clear hF
        simp only [List.length_cons, List.length_nil, Nat.reduceAdd, List.range, List.range.loop, fact, layAt, depOn, dstOf, List.map_cons, List.map_nil, List.foldl_cons, List.foldl_nil, List.getD_cons_zero, List.getD_cons_succ, List.getElem?_cons_zero, List.getElem?_cons_succ, Option.bind_some, d27]
        go_simp
        go_wp2_with fail
        go_ret
        exact ⟨rfl, f3.trans (hS.mono f3.size)⟩
end Go.Proofs.Ythjaomkjjlgjeaa
