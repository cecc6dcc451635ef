/- The law MacParts, walked. No condition. -/
import Derived.Test.YthjaomkjjlgjeaaMacAwake
import Derived.Test.YthjaomkjjlgjeaaFacts
import Derived.Test.YthjaomkjjlgjeaaSlices
namespace Go.Proofs.Ythjaomkjjlgjeaa
open Go.RowKit
set_option linter.unusedSimpArgs false
set_option linter.unusedVariables false
set_option maxRecDepth 100000 in
set_option maxHeartbeats 4000000 in
theorem macParts_walk (w : World) (A : Option Addr) (n c : Nat) (l : List UInt8) (rl : RdB w w.heap.size A n l) (_ : n ≤ c) (_ : c ≤ maxLen) (A2 : Option Addr) (m c2 : Nat) (l2 : List UInt8) (rl2 : RdB w w.heap.size A2 m l2) (hmc : m ≤ c2) (_ : c2 ≤ maxLen)
    (one : Int) (ho1 : -9223372036854775808 ≤ one) (ho2 : one ≤ 9223372036854775807) (two : Int) (ht1 : -9223372036854775808 ≤ two) (ht2 : two ≤ 9223372036854775807) :
    Calls Try.prog 6 #[.slice A n c, .slice A2 m c2, .int .i64 one, .int .i64 two] w fun e w' => e = .returned (.bool true) ∧ Below w.heap.size w w' := by
  have hz : (Try.prog.info? 26).map (·.size) = some 32 := by kernel_rfl
  have Hz := Lib.hid hz; clear hz
  by_cases hn : 1000 < n
  · have d1 : decide ((1000 : Int) < (n : Int)) = true := by simp; omega
    go_enter Try.func6, Try.ntmps6
    go_wp2_with fail
    refine (awake2_any _).mono ?_
    rintro e w1 ⟨rfl, f1⟩
    go_wp2_with fail
    go_ret
    exact ⟨rfl, f1⟩
  have d1 : decide ((1000 : Int) < (n : Int)) = false := by simp; omega
  by_cases hm : 1000 < m
  · have d2 : decide ((1000 : Int) < (m : Int)) = true := by simp; omega
    go_enter Try.func6, Try.ntmps6
    go_wp2_with fail
    refine (awake2_any _).mono ?_
    rintro e w1 ⟨rfl, f1⟩
    go_wp2_with fail
    go_ret
    exact ⟨rfl, f1⟩
  have d2 : decide ((1000 : Int) < (m : Int)) = false := by simp; omega
  have hzm : (Try.prog.info? 26).map (·.size) = some (bvs (macB l l2)).length := by rw [bvs_length, macB_length]; exact Hz.out
  have Hzm := Lib.hid hzm; clear hzm
  go_enter Try.func6, Try.ntmps6
  go_upto_region 3 with fail
  go_cut [9] from 12 (fun s9 wx => wx = w ∧ ∃ i : Nat, i ≤ m ∧ s9 = .int .i64 (i : Int))
  case first =>
    go_wp2_with fail
    all_goals go_meet
    all_goals refine ⟨rfl, ?_⟩
    all_goals first | exact ⟨m, by omega, rfl⟩ | exact ⟨0, by omega, rfl⟩ | exact ⟨one.toNat, by omega, by congr 1; omega⟩
  case rest =>
    obtain ⟨rfl, i, hi, rfl⟩ := hcut
    go_upto_region 4 with fail
    go_cut [10] from 12 (fun s10 wx => wx = wc ∧ ∃ k : Nat, i ≤ k ∧ k ≤ m ∧ s10 = .int .i64 (k : Int))
    case first =>
      go_wp2_with fail
      all_goals go_meet
      all_goals refine ⟨rfl, ?_⟩
      all_goals first | exact ⟨m, by omega, by omega, rfl⟩ | exact ⟨i, by omega, by omega, rfl⟩ | exact ⟨two.toNat, by omega, by omega, by congr 1; omega⟩
    case rest =>
      obtain ⟨rfl, k, hik, hkm, rfl⟩ := hcut
      go_wp2_with fail
      refine absC (fun w1 => RdB w1 w1.heap.size A n l ∧ RdL w1 w1.heap.size (some ⟨wc.heap.size, 0, none⟩) 1 [⟨A2, m, c2, l2⟩] ∧ Below wc.heap.size wc w1) ⟨(rl.alloc (Nat.le_refl _) _).more (by simp), ?_, (Below.refl _ wc).alloc (Nat.le_refl _) _⟩ ?_
      · refine RdL.of_blk (ps := [⟨A2, m, c2, l2⟩]) (t := 23) (Blk.newAt rfl _ _) ?_
        intro p hp
        obtain rfl : p = ⟨A2, m, c2, l2⟩ := by simpa using hp
        exact (rl2.alloc (Nat.le_refl _) _).more (by simp)
      rintro w1 ⟨r1, q1, f1⟩
      have hn1 := rl.1
      have hm1 := rl2.1
      refine (mac_any _ n c l _ 1 1 _ w1 r1 (by omega) q1 (by simp [catB]; omega) (by omega)).mono ?_
      rintro e w2 ⟨rfl, f2⟩
      rw [show catB [(⟨A2, m, c2, l2⟩ : Part)] = l2 from by simp [catB]]
      replace f1 := f1.trans (f2.mono f1.size)
      clear f2 r1 q1 w1
      go_wp2_with (first | (refine store_blk (Blk.of_new w2 26 (bvs (List.replicate 32 0))) rfl 26 (.tmp 11) (.tmp 35) rfl rfl (us := bvs (macB l l2)) rfl Hzm.out (by simp [bvs_length, macB_length]) (bvs_all _) ?_; intro w3 k3 hg; have f3 : Below wc.heap.size wc w3 := (f1.alloc f1.size _).grown hg (by have := f1.size; simp; omega) (by have := f1.size; simp; omega)))
      refine abs (fun w4 => w4 = w3) rfl ?_
      rintro w4 rfl
      clear hg
      refine wp_region_facts (fun u => Below w4.heap.size w4 u) [
        fun v _ => v = .slice A n c,
        fun v _ => v = .slice A2 m c2,
        fun v _ => v = .int .i64 (i : Int),
        fun v _ => ∃ A', v = .slice A' i c2 ∧ RdB wc wc.heap.size A' i (l2.take i),
        fun v _ => v = .slice A2 m c2,
        fun v _ => v = .int .i64 (i : Int),
        fun v _ => v = .int .i64 (k : Int),
        fun v _ => ∃ A', v = .slice A' (k - i) (c2 - i) ∧ RdB wc wc.heap.size A' (k - i) ((l2.take k).drop i),
        fun v _ => v = .slice A2 m c2,
        fun v _ => v = .int .i64 (k : Int),
        fun v _ => ∃ A', v = .slice A' (m - k) (c2 - k) ∧ RdB wc wc.heap.size A' (m - k) (l2.drop k),
        fun v u => ∃ g ps, v = .slice (some ⟨g, 0, none⟩) 4 4 ∧ Blk u g 23 (ps.map Part.v) ∧ ps.length = 4 ∧ (∀ p ∈ ps, RdB wc wc.heap.size p.A p.n p.l) ∧ catB ps = l2,
        fun v _ => v = .agg (bvs (macB l l2)).toArray,
        fun v _ => v = .agg (bvs (macB l l2)).toArray,
        fun v _ => v = .bool true,
        fun v _ => v = .bool true,
        fun v _ => v = .slice A n c,
        fun v _ => v = .slice A2 m c2,
        fun v u => ∃ g, v = .slice (some ⟨g, 0, none⟩) 2 2 ∧ Blk u g 23 [.slice none 0 0, .slice A2 m c2],
        fun v _ => v = .agg (bvs (macB l l2)).toArray,
        fun v _ => v = .agg (bvs (macB l l2)).toArray,
        fun v _ => v = .bool true,
        fun v _ => v = .bool true,
        fun v _ => v = .bool true,
        fun v _ => v = .bool true,
        fun v _ => v = .bool true,
        fun v _ => v = .bool true] (fun u u' => Below u.heap.size u u')
        [[], [], [], [1, 2], [], [], [], [4, 5, 6], [], [], [8, 9], [3, 7, 10], [0, 11], [], [12, 13], [14], [15], [15], [17, 15], [16, 18, 15], [15], [19, 20, 15], [15, 21], [22], [23], [23, 24], [25]] []
        (by kernel_rfl) (by kernel_rfl) ?_ (fun _ _ _ _ _ h => h) ((Below.refl _ _).drew) ?_ ?_
      · refine hE_of (fun u u' h f => f.trans (h.mono f.size)) ?_
        repeat' (first | exact mono_nil | refine mono_cons (fun v u u' h => ?_) ?_)
        all_goals first | exact _root_.id | (rintro ⟨g, ps, e, k, h1⟩; exact ⟨g, ps, e, k.below h k.lt, h1⟩) | (rintro ⟨g, e, k⟩; exact ⟨g, e, k.below h k.lt⟩)
      ·
        refine owed_cons (fun vs u hS hD N => ?_) ?_
        · clear hD
          intro hN
          simp only [fact, layAt, depOn, dstOf, List.foldl_cons, List.foldl_nil, List.getD_cons_zero, List.getD_cons_succ, List.getElem?_cons_zero, List.getElem?_cons_succ, Option.bind_some] at hN ⊢
          go_simp
          have hh := hN _ _ rfl (.inl (Below.refl _ _))
          revert hh
          go_simp
        refine owed_cons (fun vs u hS hD N => ?_) ?_
        · clear hD
          intro hN
          simp only [fact, layAt, depOn, dstOf, List.foldl_cons, List.foldl_nil, List.getD_cons_zero, List.getD_cons_succ, List.getElem?_cons_zero, List.getElem?_cons_succ, Option.bind_some] at hN ⊢
          go_simp
          have hh := hN _ _ rfl (.inl (Below.refl _ _))
          revert hh
          go_simp
        refine owed_cons (fun vs u hS hD N => ?_) ?_
        · clear hD
          intro hN
          simp only [fact, layAt, depOn, dstOf, List.foldl_cons, List.foldl_nil, List.getD_cons_zero, List.getD_cons_succ, List.getElem?_cons_zero, List.getElem?_cons_succ, Option.bind_some] at hN ⊢
          go_simp
          have hh := hN _ _ rfl (.inl (Below.refl _ _))
          revert hh
          go_simp
        refine owed_cons (fun vs u hS hD N => ?_) ?_
        · have d1 := hD 1 (by decide)
          simp only [fact, layAt, depOn, dstOf, List.foldl_cons, List.foldl_nil, List.getD_cons_zero, List.getD_cons_succ, List.getElem?_cons_zero, List.getElem?_cons_succ, Option.bind_some] at d1
          have d2 := hD 2 (by decide)
          simp only [fact, layAt, depOn, dstOf, List.foldl_cons, List.foldl_nil, List.getD_cons_zero, List.getD_cons_succ, List.getElem?_cons_zero, List.getElem?_cons_succ, Option.bind_some] at d2
          clear hD
          intro hN
          simp only [fact, layAt, depOn, dstOf, List.foldl_cons, List.foldl_nil, List.getD_cons_zero, List.getD_cons_succ, List.getElem?_cons_zero, List.getElem?_cons_succ, Option.bind_some, d1, d2] at hN ⊢
          rw [if_pos (by rfl)]
          refine wp_slice_h T23 rfl (A := A2) (n := m) (c := c2) rfl (k := i) rfl rl2 hi hmc ?_
          exact fun A' r => hN _ _ ⟨A', rfl, r⟩ (.inl (Below.refl _ _))
        refine owed_cons (fun vs u hS hD N => ?_) ?_
        · clear hD
          intro hN
          simp only [fact, layAt, depOn, dstOf, List.foldl_cons, List.foldl_nil, List.getD_cons_zero, List.getD_cons_succ, List.getElem?_cons_zero, List.getElem?_cons_succ, Option.bind_some] at hN ⊢
          go_simp
          have hh := hN _ _ rfl (.inl (Below.refl _ _))
          revert hh
          go_simp
        refine owed_cons (fun vs u hS hD N => ?_) ?_
        · clear hD
          intro hN
          simp only [fact, layAt, depOn, dstOf, List.foldl_cons, List.foldl_nil, List.getD_cons_zero, List.getD_cons_succ, List.getElem?_cons_zero, List.getElem?_cons_succ, Option.bind_some] at hN ⊢
          go_simp
          have hh := hN _ _ rfl (.inl (Below.refl _ _))
          revert hh
          go_simp
        refine owed_cons (fun vs u hS hD N => ?_) ?_
        · clear hD
          intro hN
          simp only [fact, layAt, depOn, dstOf, List.foldl_cons, List.foldl_nil, List.getD_cons_zero, List.getD_cons_succ, List.getElem?_cons_zero, List.getElem?_cons_succ, Option.bind_some] at hN ⊢
          go_simp
          have hh := hN _ _ rfl (.inl (Below.refl _ _))
          revert hh
          go_simp
        refine owed_cons (fun vs u hS hD N => ?_) ?_
        · have d4 := hD 4 (by decide)
          simp only [fact, layAt, depOn, dstOf, List.foldl_cons, List.foldl_nil, List.getD_cons_zero, List.getD_cons_succ, List.getElem?_cons_zero, List.getElem?_cons_succ, Option.bind_some] at d4
          have d5 := hD 5 (by decide)
          simp only [fact, layAt, depOn, dstOf, List.foldl_cons, List.foldl_nil, List.getD_cons_zero, List.getD_cons_succ, List.getElem?_cons_zero, List.getElem?_cons_succ, Option.bind_some] at d5
          have d6 := hD 6 (by decide)
          simp only [fact, layAt, depOn, dstOf, List.foldl_cons, List.foldl_nil, List.getD_cons_zero, List.getD_cons_succ, List.getElem?_cons_zero, List.getElem?_cons_succ, Option.bind_some] at d6
          clear hD
          intro hN
          simp only [fact, layAt, depOn, dstOf, List.foldl_cons, List.foldl_nil, List.getD_cons_zero, List.getD_cons_succ, List.getElem?_cons_zero, List.getElem?_cons_succ, Option.bind_some, d4, d5, d6] at hN ⊢
          rw [if_pos (by rfl)]
          refine wp_slice_lh T23 rfl (A := A2) (n := m) (c := c2) rfl (i := i) (k := k) rfl rfl rl2 hik hkm hmc ?_
          exact fun A' r => hN _ _ ⟨A', rfl, r⟩ (.inl (Below.refl _ _))
        refine owed_cons (fun vs u hS hD N => ?_) ?_
        · clear hD
          intro hN
          simp only [fact, layAt, depOn, dstOf, List.foldl_cons, List.foldl_nil, List.getD_cons_zero, List.getD_cons_succ, List.getElem?_cons_zero, List.getElem?_cons_succ, Option.bind_some] at hN ⊢
          go_simp
          have hh := hN _ _ rfl (.inl (Below.refl _ _))
          revert hh
          go_simp
        refine owed_cons (fun vs u hS hD N => ?_) ?_
        · clear hD
          intro hN
          simp only [fact, layAt, depOn, dstOf, List.foldl_cons, List.foldl_nil, List.getD_cons_zero, List.getD_cons_succ, List.getElem?_cons_zero, List.getElem?_cons_succ, Option.bind_some] at hN ⊢
          go_simp
          have hh := hN _ _ rfl (.inl (Below.refl _ _))
          revert hh
          go_simp
        refine owed_cons (fun vs u hS hD N => ?_) ?_
        · have d8 := hD 8 (by decide)
          simp only [fact, layAt, depOn, dstOf, List.foldl_cons, List.foldl_nil, List.getD_cons_zero, List.getD_cons_succ, List.getElem?_cons_zero, List.getElem?_cons_succ, Option.bind_some] at d8
          have d9 := hD 9 (by decide)
          simp only [fact, layAt, depOn, dstOf, List.foldl_cons, List.foldl_nil, List.getD_cons_zero, List.getD_cons_succ, List.getElem?_cons_zero, List.getElem?_cons_succ, Option.bind_some] at d9
          clear hD
          intro hN
          simp only [fact, layAt, depOn, dstOf, List.foldl_cons, List.foldl_nil, List.getD_cons_zero, List.getD_cons_succ, List.getElem?_cons_zero, List.getElem?_cons_succ, Option.bind_some, d8, d9] at hN ⊢
          rw [if_pos (by rfl)]
          refine wp_slice_l T23 rfl (A := A2) (n := m) (c := c2) rfl (i := k) rfl rl2 hkm hmc ?_
          exact fun A' r => hN _ _ ⟨A', rfl, r⟩ (.inl (Below.refl _ _))
        refine owed_cons (fun vs u hS hD N => ?_) ?_
        · have d3 := hD 3 (by decide)
          simp only [fact, layAt, depOn, dstOf, List.foldl_cons, List.foldl_nil, List.getD_cons_zero, List.getD_cons_succ, List.getElem?_cons_zero, List.getElem?_cons_succ, Option.bind_some] at d3
          obtain ⟨B1, e3, r1⟩ := d3
          have d7 := hD 7 (by decide)
          simp only [fact, layAt, depOn, dstOf, List.foldl_cons, List.foldl_nil, List.getD_cons_zero, List.getD_cons_succ, List.getElem?_cons_zero, List.getElem?_cons_succ, Option.bind_some] at d7
          obtain ⟨B2, e7, r2⟩ := d7
          have d10 := hD 10 (by decide)
          simp only [fact, layAt, depOn, dstOf, List.foldl_cons, List.foldl_nil, List.getD_cons_zero, List.getD_cons_succ, List.getElem?_cons_zero, List.getElem?_cons_succ, Option.bind_some] at d10
          obtain ⟨B3, e10, r3⟩ := d10
          clear hD
          intro hN
          simp only [fact, layAt, depOn, dstOf, List.foldl_cons, List.foldl_nil, List.getD_cons_zero, List.getD_cons_succ, List.getElem?_cons_zero, List.getElem?_cons_succ, Option.bind_some, e3, e7, e10] at hN ⊢
          go_simp
          have kk : Blk (u.alloc (.cells #[.slice B1 i c2, .slice B2 (k - i) (c2 - i), .slice none 0 0, .slice B3 (m - k) (c2 - k)] 23)) u.heap.size 23 (([⟨B1, i, c2, l2.take i⟩, ⟨B2, k - i, c2 - i, (l2.take k).drop i⟩, ⟨none, 0, 0, []⟩, ⟨B3, m - k, c2 - k, l2.drop k⟩] : List Part).map Part.v) := Blk.newAt rfl _ _
          have hp : ∀ p ∈ ([⟨B1, i, c2, l2.take i⟩, ⟨B2, k - i, c2 - i, (l2.take k).drop i⟩, ⟨none, 0, 0, []⟩, ⟨B3, m - k, c2 - k, l2.drop k⟩] : List Part), RdB wc wc.heap.size p.A p.n p.l := by
            intro p hp
            simp only [List.mem_cons, List.not_mem_nil, or_false] at hp
            rcases hp with rfl | rfl | rfl | rfl
            · exact r1
            · exact r2
            · exact RdB.nil
            · exact r3
          have hc : catB [⟨B1, i, c2, l2.take i⟩, ⟨B2, k - i, c2 - i, (l2.take k).drop i⟩, ⟨none, 0, 0, []⟩, ⟨B3, m - k, c2 - k, l2.drop k⟩] = l2 := by
            have h1 : l2.take i = (l2.take k).take i := by rw [List.take_take, Nat.min_eq_left hik]
            simp only [catB, List.flatMap_cons, List.flatMap_nil, List.append_nil, List.nil_append]
            rw [h1, ← List.append_assoc, List.take_append_drop, List.take_append_drop]
          have hh := hN _ _ ⟨_, _, rfl, kk, rfl, hp, hc⟩ (.inl ((Below.refl _ u).alloc (Nat.le_refl _) _))
          revert hh
          go_simp
        refine owed_cons (fun vs u hS hD N => ?_) ?_
        · have d0 := hD 0 (by decide)
          simp only [fact, layAt, depOn, dstOf, List.foldl_cons, List.foldl_nil, List.getD_cons_zero, List.getD_cons_succ, List.getElem?_cons_zero, List.getElem?_cons_succ, Option.bind_some] at d0
          have d11 := hD 11 (by decide)
          simp only [fact, layAt, depOn, dstOf, List.foldl_cons, List.foldl_nil, List.getD_cons_zero, List.getD_cons_succ, List.getElem?_cons_zero, List.getElem?_cons_succ, Option.bind_some] at d11
          obtain ⟨g, ps, e11, kb, h4, hp, hc⟩ := d11
          clear hD
          intro hN
          simp only [fact, layAt, depOn, dstOf, List.foldl_cons, List.foldl_nil, List.getD_cons_zero, List.getD_cons_succ, List.getElem?_cons_zero, List.getElem?_cons_succ, Option.bind_some, d0, e11] at hN ⊢
          go_simp
          have hq := RdL.of_blk kb (fun p hpm => ((hp p hpm).below (f3.trans (hS.mono f3.size))).more (Nat.le_trans f3.size hS.size))
          rw [h4] at hq
          refine (mac_any _ n c l _ 4 4 ps u ((rl.below (f3.trans (hS.mono f3.size))).more (Nat.le_trans f3.size hS.size)) (by omega) hq (by rw [hc]; omega) (by omega)).mono ?_
          rintro e u' ⟨rfl, f⟩
          rw [hc]
          have hh := hN _ _ rfl (.inl f)
          revert hh
          go_simp
        refine owed_cons (fun vs u hS hD N => ?_) ?_
        · clear hD
          intro hN
          simp only [fact, layAt, depOn, dstOf, List.foldl_cons, List.foldl_nil, List.getD_cons_zero, List.getD_cons_succ, List.getElem?_cons_zero, List.getElem?_cons_succ, Option.bind_some] at hN ⊢
          rw [if_pos (by rfl)]
          refine wp_load_blk (k3.below hS k3.lt) 26 (.tmp 11) rfl rfl Try.underlying26 Hzm.out ?_
          exact hN _ _ rfl (.inl (Below.refl _ _))
        refine owed_cons (fun vs u hS hD N => ?_) ?_
        · have d12 := hD 12 (by decide)
          simp only [fact, layAt, depOn, dstOf, List.foldl_cons, List.foldl_nil, List.getD_cons_zero, List.getD_cons_succ, List.getElem?_cons_zero, List.getElem?_cons_succ, Option.bind_some] at d12
          have d13 := hD 13 (by decide)
          simp only [fact, layAt, depOn, dstOf, List.foldl_cons, List.foldl_nil, List.getD_cons_zero, List.getD_cons_succ, List.getElem?_cons_zero, List.getElem?_cons_succ, Option.bind_some] at d13
          clear hD
          intro hN
          simp only [fact, layAt, depOn, dstOf, List.foldl_cons, List.foldl_nil, List.getD_cons_zero, List.getD_cons_succ, List.getElem?_cons_zero, List.getElem?_cons_succ, Option.bind_some, d12, d13] at hN ⊢
          go_simp
          rw [run_equalIn_bytes (P := Try.prog) Try.underlying26 Try.underlying5 (by kernel_rfl) _ _ (macB_length _ _) (macB_length _ _) u]
          go_simp
          have hh := hN _ _ rfl (.inl (Below.refl _ _))
          revert hh
          go_simp
        refine owed_cons (fun vs u hS hD N => ?_) ?_
        · have d14 := hD 14 (by decide)
          simp only [fact, layAt, depOn, dstOf, List.foldl_cons, List.foldl_nil, List.getD_cons_zero, List.getD_cons_succ, List.getElem?_cons_zero, List.getElem?_cons_succ, Option.bind_some] at d14
          clear hD
          intro hN
          simp only [fact, layAt, depOn, dstOf, List.foldl_cons, List.foldl_nil, List.getD_cons_zero, List.getD_cons_succ, List.getElem?_cons_zero, List.getElem?_cons_succ, Option.bind_some, d14] at hN ⊢
          go_simp
          have hh := hN _ _ rfl (.inl (Below.refl _ _))
          revert hh
          go_simp
        refine owed_cons (fun vs u hS hD N => ?_) ?_
        · have d15 := hD 15 (by decide)
          simp only [fact, layAt, depOn, dstOf, List.foldl_cons, List.foldl_nil, List.getD_cons_zero, List.getD_cons_succ, List.getElem?_cons_zero, List.getElem?_cons_succ, Option.bind_some] at d15
          clear hD
          intro hN
          simp only [fact, layAt, depOn, dstOf, List.foldl_cons, List.foldl_nil, List.getD_cons_zero, List.getD_cons_succ, List.getElem?_cons_zero, List.getElem?_cons_succ, Option.bind_some, d15] at hN ⊢
          go_simp
          have hh := hN _ _ rfl (.inl (Below.refl _ _))
          revert hh
          go_simp
        refine owed_cons (fun vs u hS hD N => ?_) ?_
        · have d15 := hD 15 (by decide)
          simp only [fact, layAt, depOn, dstOf, List.foldl_cons, List.foldl_nil, List.getD_cons_zero, List.getD_cons_succ, List.getElem?_cons_zero, List.getElem?_cons_succ, Option.bind_some] at d15
          clear hD
          intro hN
          simp only [fact, layAt, depOn, dstOf, List.foldl_cons, List.foldl_nil, List.getD_cons_zero, List.getD_cons_succ, List.getElem?_cons_zero, List.getElem?_cons_succ, Option.bind_some, d15] at hN ⊢
          go_simp
          have hh := hN _ _ rfl (.inl (Below.refl _ _))
          revert hh
          go_simp
        refine owed_cons (fun vs u hS hD N => ?_) ?_
        · have d17 := hD 17 (by decide)
          simp only [fact, layAt, depOn, dstOf, List.foldl_cons, List.foldl_nil, List.getD_cons_zero, List.getD_cons_succ, List.getElem?_cons_zero, List.getElem?_cons_succ, Option.bind_some] at d17
          have d15 := hD 15 (by decide)
          simp only [fact, layAt, depOn, dstOf, List.foldl_cons, List.foldl_nil, List.getD_cons_zero, List.getD_cons_succ, List.getElem?_cons_zero, List.getElem?_cons_succ, Option.bind_some] at d15
          clear hD
          intro hN
          simp only [fact, layAt, depOn, dstOf, List.foldl_cons, List.foldl_nil, List.getD_cons_zero, List.getD_cons_succ, List.getElem?_cons_zero, List.getElem?_cons_succ, Option.bind_some, d17, d15] at hN ⊢
          go_simp
          have kk : Blk (u.alloc (.cells #[.slice none 0 0, .slice A2 m c2] 23)) u.heap.size 23 [.slice none 0 0, .slice A2 m c2] := Blk.newAt rfl _ _
          have hh := hN _ _ ⟨_, rfl, kk⟩ (.inl ((Below.refl _ u).alloc (Nat.le_refl _) _))
          revert hh
          go_simp
        refine owed_cons (fun vs u hS hD N => ?_) ?_
        · have d16 := hD 16 (by decide)
          simp only [fact, layAt, depOn, dstOf, List.foldl_cons, List.foldl_nil, List.getD_cons_zero, List.getD_cons_succ, List.getElem?_cons_zero, List.getElem?_cons_succ, Option.bind_some] at d16
          have d18 := hD 18 (by decide)
          simp only [fact, layAt, depOn, dstOf, List.foldl_cons, List.foldl_nil, List.getD_cons_zero, List.getD_cons_succ, List.getElem?_cons_zero, List.getElem?_cons_succ, Option.bind_some] at d18
          obtain ⟨g, e18, kb⟩ := d18
          have d15 := hD 15 (by decide)
          simp only [fact, layAt, depOn, dstOf, List.foldl_cons, List.foldl_nil, List.getD_cons_zero, List.getD_cons_succ, List.getElem?_cons_zero, List.getElem?_cons_succ, Option.bind_some] at d15
          clear hD
          intro hN
          simp only [fact, layAt, depOn, dstOf, List.foldl_cons, List.foldl_nil, List.getD_cons_zero, List.getD_cons_succ, List.getElem?_cons_zero, List.getElem?_cons_succ, Option.bind_some, d16, e18, d15] at hN ⊢
          go_simp
          have hq := RdL.of_blk (ps := [⟨none, 0, 0, []⟩, ⟨A2, m, c2, l2⟩]) kb (by
            intro p hp
            simp only [List.mem_cons, List.not_mem_nil, or_false] at hp
            rcases hp with rfl | rfl
            · exact RdB.nil
            · exact (rl2.below (f3.trans (hS.mono f3.size))).more (Nat.le_trans f3.size hS.size))
          refine (mac_any _ n c l _ 2 2 _ u ((rl.below (f3.trans (hS.mono f3.size))).more (Nat.le_trans f3.size hS.size)) (by omega) hq (by simp [catB]; omega) (by omega)).mono ?_
          rintro e u' ⟨rfl, f⟩
          rw [show catB [(⟨none, 0, 0, []⟩ : Part), ⟨A2, m, c2, l2⟩] = l2 from by simp [catB]]
          have hh := hN _ _ rfl (.inl f)
          revert hh
          go_simp
        refine owed_cons (fun vs u hS hD N => ?_) ?_
        · have d15 := hD 15 (by decide)
          simp only [fact, layAt, depOn, dstOf, List.foldl_cons, List.foldl_nil, List.getD_cons_zero, List.getD_cons_succ, List.getElem?_cons_zero, List.getElem?_cons_succ, Option.bind_some] at d15
          clear hD
          intro hN
          simp only [fact, layAt, depOn, dstOf, List.foldl_cons, List.foldl_nil, List.getD_cons_zero, List.getD_cons_succ, List.getElem?_cons_zero, List.getElem?_cons_succ, Option.bind_some, d15] at hN ⊢
          rw [if_pos (by rfl)]
          refine wp_load_blk (k3.below hS k3.lt) 26 (.tmp 11) rfl rfl Try.underlying26 Hzm.out ?_
          exact hN _ _ rfl (.inl (Below.refl _ _))
        refine owed_cons (fun vs u hS hD N => ?_) ?_
        · have d19 := hD 19 (by decide)
          simp only [fact, layAt, depOn, dstOf, List.foldl_cons, List.foldl_nil, List.getD_cons_zero, List.getD_cons_succ, List.getElem?_cons_zero, List.getElem?_cons_succ, Option.bind_some] at d19
          have d20 := hD 20 (by decide)
          simp only [fact, layAt, depOn, dstOf, List.foldl_cons, List.foldl_nil, List.getD_cons_zero, List.getD_cons_succ, List.getElem?_cons_zero, List.getElem?_cons_succ, Option.bind_some] at d20
          have d15 := hD 15 (by decide)
          simp only [fact, layAt, depOn, dstOf, List.foldl_cons, List.foldl_nil, List.getD_cons_zero, List.getD_cons_succ, List.getElem?_cons_zero, List.getElem?_cons_succ, Option.bind_some] at d15
          clear hD
          intro hN
          simp only [fact, layAt, depOn, dstOf, List.foldl_cons, List.foldl_nil, List.getD_cons_zero, List.getD_cons_succ, List.getElem?_cons_zero, List.getElem?_cons_succ, Option.bind_some, d19, d20, d15] at hN ⊢
          go_simp
          rw [run_equalIn_bytes (P := Try.prog) Try.underlying26 Try.underlying5 (by kernel_rfl) _ _ (macB_length _ _) (macB_length _ _) u]
          go_simp
          have hh := hN _ _ rfl (.inl (Below.refl _ _))
          revert hh
          go_simp
        refine owed_cons (fun vs u hS hD N => ?_) ?_
        · have d15 := hD 15 (by decide)
          simp only [fact, layAt, depOn, dstOf, List.foldl_cons, List.foldl_nil, List.getD_cons_zero, List.getD_cons_succ, List.getElem?_cons_zero, List.getElem?_cons_succ, Option.bind_some] at d15
          have d21 := hD 21 (by decide)
          simp only [fact, layAt, depOn, dstOf, List.foldl_cons, List.foldl_nil, List.getD_cons_zero, List.getD_cons_succ, List.getElem?_cons_zero, List.getElem?_cons_succ, Option.bind_some] at d21
          clear hD
          intro hN
          simp only [fact, layAt, depOn, dstOf, List.foldl_cons, List.foldl_nil, List.getD_cons_zero, List.getD_cons_succ, List.getElem?_cons_zero, List.getElem?_cons_succ, Option.bind_some, d15, d21] at hN ⊢
          go_simp
          have hh := hN _ _ rfl (.inl (Below.refl _ _))
          revert hh
          go_simp
        refine owed_cons (fun vs u hS hD N => ?_) ?_
        · have d22 := hD 22 (by decide)
          simp only [fact, layAt, depOn, dstOf, List.foldl_cons, List.foldl_nil, List.getD_cons_zero, List.getD_cons_succ, List.getElem?_cons_zero, List.getElem?_cons_succ, Option.bind_some] at d22
          clear hD
          intro hN
          simp only [fact, layAt, depOn, dstOf, List.foldl_cons, List.foldl_nil, List.getD_cons_zero, List.getD_cons_succ, List.getElem?_cons_zero, List.getElem?_cons_succ, Option.bind_some, d22] at hN ⊢
          go_simp
          have hh := hN _ _ rfl (.inl (Below.refl _ _))
          revert hh
          go_simp
        refine owed_cons (fun vs u hS hD N => ?_) ?_
        · have d23 := hD 23 (by decide)
          simp only [fact, layAt, depOn, dstOf, List.foldl_cons, List.foldl_nil, List.getD_cons_zero, List.getD_cons_succ, List.getElem?_cons_zero, List.getElem?_cons_succ, Option.bind_some] at d23
          clear hD
          intro hN
          simp only [fact, layAt, depOn, dstOf, List.foldl_cons, List.foldl_nil, List.getD_cons_zero, List.getD_cons_succ, List.getElem?_cons_zero, List.getElem?_cons_succ, Option.bind_some, d23] at hN ⊢
          go_simp
          refine (awake2_any _).mono ?_
          rintro e u' ⟨rfl, f⟩
          have hh := hN _ _ rfl (.inl f)
          revert hh
          go_simp
        refine owed_cons (fun vs u hS hD N => ?_) ?_
        · have d23 := hD 23 (by decide)
          simp only [fact, layAt, depOn, dstOf, List.foldl_cons, List.foldl_nil, List.getD_cons_zero, List.getD_cons_succ, List.getElem?_cons_zero, List.getElem?_cons_succ, Option.bind_some] at d23
          have d24 := hD 24 (by decide)
          simp only [fact, layAt, depOn, dstOf, List.foldl_cons, List.foldl_nil, List.getD_cons_zero, List.getD_cons_succ, List.getElem?_cons_zero, List.getElem?_cons_succ, Option.bind_some] at d24
          clear hD
          intro hN
          simp only [fact, layAt, depOn, dstOf, List.foldl_cons, List.foldl_nil, List.getD_cons_zero, List.getD_cons_succ, List.getElem?_cons_zero, List.getElem?_cons_succ, Option.bind_some, d23, d24] at hN ⊢
          go_simp
          have hh := hN _ _ rfl (.inl (Below.refl _ _))
          revert hh
          go_simp
        refine owed_cons (fun vs u hS hD N => ?_) ?_
        · have d25 := hD 25 (by decide)
          simp only [fact, layAt, depOn, dstOf, List.foldl_cons, List.foldl_nil, List.getD_cons_zero, List.getD_cons_succ, List.getElem?_cons_zero, List.getElem?_cons_succ, Option.bind_some] at d25
          clear hD
          intro hN
          simp only [fact, layAt, depOn, dstOf, List.foldl_cons, List.foldl_nil, List.getD_cons_zero, List.getD_cons_succ, List.getElem?_cons_zero, List.getElem?_cons_succ, Option.bind_some, d25] at hN ⊢
          go_simp
          have hh := hN _ _ rfl (.inl (Below.refl _ _))
          revert hh
          go_simp
        exact owed_nil
      ·
        intro vs u hS hF
        have d26 := hF 26 (by decide) (by decide)
        simp only [fact, layAt, depOn, dstOf, List.foldl_cons, List.foldl_nil, List.getD_cons_zero, List.getD_cons_succ, List.getElem?_cons_zero, List.getElem?_cons_succ, Option.bind_some] at d26
        clear hF
        simp only [List.length_cons, List.length_nil, Nat.reduceAdd, List.range, List.range.loop, fact, layAt, depOn, dstOf, List.foldl_cons, List.foldl_nil, List.getD_cons_zero, List.getD_cons_succ, List.getElem?_cons_zero, List.getElem?_cons_succ, Option.bind_some, d26]
        go_simp
        go_wp2_with fail
        go_ret
        exact ⟨rfl, f3.trans (hS.mono f3.size)⟩
end Go.Proofs.Ythjaomkjjlgjeaa
