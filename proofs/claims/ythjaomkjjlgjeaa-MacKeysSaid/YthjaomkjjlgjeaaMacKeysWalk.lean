/- The law MacKeys, walked. No condition. -/
import Derived.Test.YthjaomkjjlgjeaaMacAwake
import Derived.Test.YthjaomkjjlgjeaaFacts
namespace Go.Proofs.Ythjaomkjjlgjeaa
open Go.RowKit
set_option linter.unusedSimpArgs false
set_option linter.unusedVariables false
theorem padB_nought (l : List UInt8) (h : l.length ≤ 63) : padB (l ++ [0]) = padB l := by
  unfold padB
  rw [List.append_assoc]
  congr 1
  rw [List.length_append, List.length_singleton, List.drop_replicate, List.drop_replicate, show 64 - l.length = (64 - (l.length + 1)) + 1 by omega]
  rfl
theorem keyB_short (l : List UInt8) (h : l.length ≤ 64) : keyB l = l := by unfold keyB; rw [if_neg (by omega)]
theorem macB_nought (l m : List UInt8) (h : l.length ≤ 63) : macB (l ++ [0]) m = macB l m := by
  unfold macB macOut macIn
  rw [keyB_short (l ++ [0]) (by simp; omega), keyB_short l (by omega), padB_nought l h]
theorem macB_long (l m : List UInt8) (h : 64 < l.length) : macB (shaB l) m = macB l m := by
  unfold macB macOut macIn
  have : keyB (shaB l) = keyB l := by
    rw [keyB_short (shaB l) (by rw [shaB_length]; omega)]
    unfold keyB
    rw [if_pos h]
  rw [this]
set_option maxRecDepth 100000 in
set_option maxHeartbeats 4000000 in
theorem macKeys_walk (w : World) (A : Option Addr) (n c : Nat) (l : List UInt8) (rl : RdB w w.heap.size A n l) (_ : n ≤ c) (_ : c ≤ maxLen) (A2 : Option Addr) (m c2 : Nat) (l2 : List UInt8) (rl2 : RdB w w.heap.size A2 m l2) (_ : m ≤ c2) (_ : c2 ≤ maxLen) :
    Calls Try.prog 5 #[.slice A n c, .slice A2 m c2] w fun e w' => e = .returned (.bool true) ∧ Below w.heap.size w w' := by
  have hs := (Try.underlying26)
  have hz : (Try.prog.info? 26).map (·.size) = some 32 := by kernel_rfl
  have Hz := Lib.hid hz; clear hz hs
  have haw := awake2_any
  by_cases hn : 1000 < n
  · have d1 : decide ((1000 : Int) < (n : Int)) = true := by simp; omega
    go_enter Try.func5, Try.ntmps5
    go_wp2_with fail
    refine (awake2_any _).mono ?_
    rintro e w1 ⟨rfl, f1⟩
    go_wp2_with fail
    go_ret
    exact ⟨rfl, f1⟩
  have d1 : decide ((1000 : Int) < (n : Int)) = false := by simp; omega
  by_cases hm : 1000 < m
  · have d2 : decide ((1000 : Int) < (m : Int)) = true := by simp; omega
    go_enter Try.func5, Try.ntmps5
    go_wp2_with fail
    refine (awake2_any _).mono ?_
    rintro e w1 ⟨rfl, f1⟩
    go_wp2_with fail
    go_ret
    exact ⟨rfl, f1⟩
  have d2 : decide ((1000 : Int) < (m : Int)) = false := by simp; omega
  by_cases h63 : n ≤ 63
  · have d3 : decide ((n : Int) ≤ 63) = true := by simp; omega
    have hzm : (Try.prog.info? 26).map (·.size) = some (bvs (macB l l2)).length := by rw [bvs_length, macB_length]; exact Hz.out
    have Hzm := Lib.hid hzm; clear hzm
    go_enter Try.func5, Try.ntmps5
    go_wp2_with fail
    refine absC (fun w1 => RdB w1 w1.heap.size A n l ∧ RdL w1 w1.heap.size (some ⟨w.heap.size, 0, none⟩) 1 [⟨A2, m, c2, l2⟩] ∧ Below w.heap.size w w1) ⟨(rl.alloc (Nat.le_refl _) _).more (by simp), ?_, (Below.refl _ w).alloc (Nat.le_refl _) _⟩ ?_
    · refine RdL.of_blk (ps := [⟨A2, m, c2, l2⟩]) (t := 23) (Blk.newAt rfl _ _) ?_
      intro p hp
      obtain rfl : p = ⟨A2, m, c2, l2⟩ := by simpa using hp
      exact (rl2.alloc (Nat.le_refl _) _).more (by simp)
    rintro w1 ⟨r1, q1, f1⟩
    have hn1 := rl.1
    have hm1 := rl2.1
    refine (mac_any _ n c l _ 1 1 _ w1 r1 (by omega) q1 (by simp [catB]; omega) (by omega)).mono ?_
    rintro e w2 ⟨rfl, f2⟩
    rw [show catB [(⟨A2, m, c2, l2⟩ : Part)] = l2 from by simp [catB]]
    replace f1 := f1.trans (f2.mono f1.size)
    clear f2 r1 q1 w1
    go_wp2_with (first | (refine store_blk (Blk.of_new w2 26 (bvs (List.replicate 32 0))) rfl 26 (.tmp 5) (.tmp 19) rfl rfl (us := bvs (macB l l2)) rfl Hzm.out (by simp [bvs_length, macB_length]) (bvs_all _) ?_; intro w3 k3 hg; have f3 : Below w.heap.size w w3 := (f1.alloc f1.size _).grown hg (by have := f1.size; simp; omega) (by have := f1.size; simp; omega)))
    refine abs (fun w4 => w4 = w3) rfl ?_
    rintro w4 rfl
    have rl3 := rl.below f3
    have rl4 := rl2.below f3
    refine wp_region_facts (fun u => Below w4.heap.size w4 u) [
      fun v u => ∃ g, v = .slice (some ⟨g, 0, none⟩) 0 0 ∧ w4.heap.size ≤ g ∧ Blk u g 5 (bvs []),
      fun v _ => v = .slice A n c,
      fun v u => ∃ A' c', v = .slice A' n c' ∧ OwnB u w4.heap.size 5 (.slice A' n c') l,
      fun v u => ∃ g, v = .slice (some ⟨g, 0, none⟩) 1 1 ∧ Blk u g 5 (bvs [0]),
      fun v u => ∃ A' c', v = .slice A' (n + 1) c' ∧ RdB u u.heap.size A' (n + 1) (l ++ [0]),
      fun v _ => v = .slice A2 m c2,
      fun v u => ∃ g, v = .slice (some ⟨g, 0, none⟩) 1 1 ∧ Blk u g 23 [.slice A2 m c2],
      fun v _ => v = .agg (bvs (macB l l2)).toArray,
      fun v _ => v = .agg (bvs (macB l l2)).toArray,
      fun v _ => v = .bool true,
      fun v _ => v = .bool true,
      fun v _ => v = .bool true,
      fun v _ => v = .bool true,
      fun v _ => v = .bool true] (fun u u' => Below u.heap.size u u') [[], [], [0, 1], [], [2, 3], [], [5], [4, 6], [], [7, 8], [9], [10], [10, 11], [12]]
      [[], [], [0], [], [0, 2, 3], [], [], [], [], [], [], [], [], []] (by kernel_rfl) (by kernel_rfl) ?_ (fun _ _ _ _ _ h => h) ((Below.refl _ _).drew) ?_ ?_
    · refine hE_of (fun u u' h f => f.trans (h.mono f.size)) ?_
      repeat' (first | exact mono_nil | refine mono_cons (fun v u u' h => ?_) ?_)
      all_goals first | exact id | (rintro ⟨g, e, h1, k⟩; exact ⟨g, e, h1, k.below h k.lt⟩) | (rintro ⟨A', c', e, o⟩; exact ⟨A', c', e, o.below (Nat.le_refl _) h⟩) | (rintro ⟨g, e, k⟩; exact ⟨g, e, k.below h k.lt⟩) | (rintro ⟨A', c', e, r⟩; exact ⟨A', c', e, (r.below h).more h.size⟩)
    ·
      refine owed_cons (fun vs u hS hD N => ?_) ?_
      · clear hD
        intro hN
        simp only [fact, layAt, depOn, dstOf, List.foldl_cons, List.foldl_nil, List.getD_cons_zero, List.getD_cons_succ, List.getElem?_cons_zero, List.getElem?_cons_succ, Option.bind_some] at hN ⊢
        go_simp
        have hh := hN _ _ ⟨_, rfl, hS.size, Blk.newAt rfl _ _⟩ (.inl ((Below.refl _ u).alloc (Nat.le_refl _) _))
        revert hh
        go_simp
      refine owed_cons (fun vs u hS hD N => ?_) ?_
      · clear hD
        intro hN
        simp only [fact, layAt, depOn, dstOf, List.foldl_cons, List.foldl_nil, List.getD_cons_zero, List.getD_cons_succ, List.getElem?_cons_zero, List.getElem?_cons_succ, Option.bind_some] at hN ⊢
        go_simp
        have hh := hN _ _ rfl (.inl (Below.refl _ _))
        revert hh
        go_simp
      refine owed_cons (fun vs u hS hD N => ?_) ?_
      · have d0 := hD 0 (by decide)
        simp only [fact, layAt, depOn, dstOf, List.foldl_cons, List.foldl_nil, List.getD_cons_zero, List.getD_cons_succ, List.getElem?_cons_zero, List.getElem?_cons_succ, Option.bind_some] at d0
        obtain ⟨g, e0, hg, k0⟩ := d0
        have d1 := hD 1 (by decide)
        simp only [fact, layAt, depOn, dstOf, List.foldl_cons, List.foldl_nil, List.getD_cons_zero, List.getD_cons_succ, List.getElem?_cons_zero, List.getElem?_cons_succ, Option.bind_some] at d1
        clear hD
        intro hN
        simp only [fact, layAt, depOn, dstOf, List.foldl_cons, List.foldl_nil, List.getD_cons_zero, List.getD_cons_succ, List.getElem?_cons_zero, List.getElem?_cons_succ, Option.bind_some, e0, d1] at hN ⊢
        rw [if_pos (by rfl)]
        refine wp_appendR T23 rfl (A := some ⟨g, 0, none⟩) (n := 0) (c := 0) rfl (OwnB.of_blk k0 hg rfl (by decide)) (A2 := A) (m := n) (c2 := c) rfl (rl3.below (hS.mono f3.size)) (by omega) hS (Nat.le_refl _) ?_
        intro A' c' w' o' b' g'
        rw [Nat.zero_add] at o' ⊢
        refine hN _ _ ⟨A', c', rfl, o'⟩ (.inr ⟨b', fun j v h1 h2 h3 => ?_⟩)
        match j with
        | 0 => exact absurd (by decide) h2
        | 3 => exact fun ⟨g3, e3, k3⟩ => ⟨g3, e3, k3.grown g' (fun e => (k0.ne k3 (.inr (by simp [bvs]))) (by simpa [Value.ownBlock] using e.symm))⟩
        | 4 => exact absurd (show true = false from h3) (by decide)
        | 6 => exact fun ⟨g3, e3, k3⟩ => ⟨g3, e3, k3.grown g' (fun e => (k0.ne k3 (.inr (by simp [bvs]))) (by simpa [Value.ownBlock] using e.symm))⟩
        | 1 | 5 | 7 | 8 | 9 | 10 | 11 | 12 | 13 | _ + 14 => exact id
      refine owed_cons (fun vs u hS hD N => ?_) ?_
      · clear hD
        intro hN
        simp only [fact, layAt, depOn, dstOf, List.foldl_cons, List.foldl_nil, List.getD_cons_zero, List.getD_cons_succ, List.getElem?_cons_zero, List.getElem?_cons_succ, Option.bind_some] at hN ⊢
        go_simp
        have kk : Blk (u.alloc (.cells #[.int .u8 0] 5)) u.heap.size 5 (bvs [0]) := Blk.newAt rfl _ _
        have hh := hN _ _ ⟨_, rfl, kk⟩ (.inl ((Below.refl _ u).alloc (Nat.le_refl _) _))
        revert hh
        go_simp
      refine owed_cons (fun vs u hS hD N => ?_) ?_
      · have d2 := hD 2 (by decide)
        simp only [fact, layAt, depOn, dstOf, List.foldl_cons, List.foldl_nil, List.getD_cons_zero, List.getD_cons_succ, List.getElem?_cons_zero, List.getElem?_cons_succ, Option.bind_some] at d2
        obtain ⟨A', c', e2, o⟩ := d2
        have d3 := hD 3 (by decide)
        simp only [fact, layAt, depOn, dstOf, List.foldl_cons, List.foldl_nil, List.getD_cons_zero, List.getD_cons_succ, List.getElem?_cons_zero, List.getElem?_cons_succ, Option.bind_some] at d3
        obtain ⟨g, e3, k⟩ := d3
        clear hD
        intro hN
        simp only [fact, layAt, depOn, dstOf, List.foldl_cons, List.foldl_nil, List.getD_cons_zero, List.getD_cons_succ, List.getElem?_cons_zero, List.getElem?_cons_succ, Option.bind_some, e2, e3] at hN ⊢
        rw [if_pos (by rfl)]
        refine wp_appendR T23 rfl (A := A') (n := n) (c := c') rfl o (A2 := some ⟨g, 0, none⟩) (m := 1) (c2 := 1) rfl (k.rdB rfl) (by omega) hS (Nat.le_refl _) ?_
        intro A2' c2' w' o' b' g'
        refine hN _ _ ⟨A2', c2', rfl, o'.rd⟩ (.inr ⟨b', fun j v h1 h2 h3 => ?_⟩)
        match j with
        | 0 | 2 | 3 => exact absurd (by decide) h2
        | 4 => exact absurd rfl h1
        | 6 => exact fun ⟨g3, e3, k3⟩ => ⟨g3, e3, k3.grown g' (o.not_row k3 (by decide))⟩
        | 1 | 5 | 7 | 8 | 9 | 10 | 11 | 12 | 13 | _ + 14 => exact id
      refine owed_cons (fun vs u hS hD N => ?_) ?_
      · clear hD
        intro hN
        simp only [fact, layAt, depOn, dstOf, List.foldl_cons, List.foldl_nil, List.getD_cons_zero, List.getD_cons_succ, List.getElem?_cons_zero, List.getElem?_cons_succ, Option.bind_some] at hN ⊢
        go_simp
        have hh := hN _ _ rfl (.inl (Below.refl _ _))
        revert hh
        go_simp
      refine owed_cons (fun vs u hS hD N => ?_) ?_
      · have d5 := hD 5 (by decide)
        simp only [fact, layAt, depOn, dstOf, List.foldl_cons, List.foldl_nil, List.getD_cons_zero, List.getD_cons_succ, List.getElem?_cons_zero, List.getElem?_cons_succ, Option.bind_some] at d5
        clear hD
        intro hN
        simp only [fact, layAt, depOn, dstOf, List.foldl_cons, List.foldl_nil, List.getD_cons_zero, List.getD_cons_succ, List.getElem?_cons_zero, List.getElem?_cons_succ, Option.bind_some, d5] at hN ⊢
        go_simp
        have kk : Blk (u.alloc (.cells #[.slice A2 m c2] 23)) u.heap.size 23 [.slice A2 m c2] := Blk.newAt rfl _ _
        have hh := hN _ _ ⟨_, rfl, kk⟩ (.inl ((Below.refl _ u).alloc (Nat.le_refl _) _))
        revert hh
        go_simp
      refine owed_cons (fun vs u hS hD N => ?_) ?_
      · have d4 := hD 4 (by decide)
        simp only [fact, layAt, depOn, dstOf, List.foldl_cons, List.foldl_nil, List.getD_cons_zero, List.getD_cons_succ, List.getElem?_cons_zero, List.getElem?_cons_succ, Option.bind_some] at d4
        obtain ⟨A', c', e4, r⟩ := d4
        have d6 := hD 6 (by decide)
        simp only [fact, layAt, depOn, dstOf, List.foldl_cons, List.foldl_nil, List.getD_cons_zero, List.getD_cons_succ, List.getElem?_cons_zero, List.getElem?_cons_succ, Option.bind_some] at d6
        obtain ⟨g, e6, k⟩ := d6
        clear hD
        intro hN
        simp only [fact, layAt, depOn, dstOf, List.foldl_cons, List.foldl_nil, List.getD_cons_zero, List.getD_cons_succ, List.getElem?_cons_zero, List.getElem?_cons_succ, Option.bind_some, e4, e6] at hN ⊢
        go_simp
        refine (mac_any A' (n + 1) c' (l ++ [0]) _ 1 1 [⟨A2, m, c2, l2⟩] u r (by omega) (RdL.of_blk (ps := [⟨A2, m, c2, l2⟩]) k ?_) (by simp [catB]; omega) (by omega)).mono ?_
        · intro p hp
          obtain rfl : p = ⟨A2, m, c2, l2⟩ := by simpa using hp
          exact (rl4.below (hS.mono f3.size)).more (Nat.le_trans f3.size hS.size)
        rintro e u' ⟨rfl, f⟩
        rw [show catB [(⟨A2, m, c2, l2⟩ : Part)] = l2 from by simp [catB], macB_nought l l2 (by omega)]
        have hh := hN _ _ rfl (.inl f)
        revert hh
        go_simp
      refine owed_cons (fun vs u hS hD N => ?_) ?_
      · clear hD
        intro hN
        simp only [fact, layAt, depOn, dstOf, List.foldl_cons, List.foldl_nil, List.getD_cons_zero, List.getD_cons_succ, List.getElem?_cons_zero, List.getElem?_cons_succ, Option.bind_some] at hN ⊢
        rw [if_pos (by rfl)]
        refine wp_load_blk (k3.below hS k3.lt) 26 (.tmp 5) rfl rfl Try.underlying26 Hzm.out ?_
        exact hN _ _ rfl (.inl (Below.refl _ _))
      refine owed_cons (fun vs u hS hD N => ?_) ?_
      · have d7 := hD 7 (by decide)
        simp only [fact, layAt, depOn, dstOf, List.foldl_cons, List.foldl_nil, List.getD_cons_zero, List.getD_cons_succ, List.getElem?_cons_zero, List.getElem?_cons_succ, Option.bind_some] at d7
        have d8 := hD 8 (by decide)
        simp only [fact, layAt, depOn, dstOf, List.foldl_cons, List.foldl_nil, List.getD_cons_zero, List.getD_cons_succ, List.getElem?_cons_zero, List.getElem?_cons_succ, Option.bind_some] at d8
        clear hD
        intro hN
        simp only [fact, layAt, depOn, dstOf, List.foldl_cons, List.foldl_nil, List.getD_cons_zero, List.getD_cons_succ, List.getElem?_cons_zero, List.getElem?_cons_succ, Option.bind_some, d7, d8] at hN ⊢
        go_simp
        rw [run_equalIn_bytes (P := Try.prog) Try.underlying26 Try.underlying5 (by kernel_rfl) _ _ (macB_length _ _) (macB_length _ _) u]
        go_simp
        have hh := hN _ _ rfl (.inl (Below.refl _ _))
        revert hh
        go_simp
      refine owed_cons (fun vs u hS hD N => ?_) ?_
      · have d9 := hD 9 (by decide)
        simp only [fact, layAt, depOn, dstOf, List.foldl_cons, List.foldl_nil, List.getD_cons_zero, List.getD_cons_succ, List.getElem?_cons_zero, List.getElem?_cons_succ, Option.bind_some] at d9
        clear hD
        intro hN
        simp only [fact, layAt, depOn, dstOf, List.foldl_cons, List.foldl_nil, List.getD_cons_zero, List.getD_cons_succ, List.getElem?_cons_zero, List.getElem?_cons_succ, Option.bind_some, d9] at hN ⊢
        go_simp
        have hh := hN _ _ rfl (.inl (Below.refl _ _))
        revert hh
        go_simp
      refine owed_cons (fun vs u hS hD N => ?_) ?_
      · have d10 := hD 10 (by decide)
        simp only [fact, layAt, depOn, dstOf, List.foldl_cons, List.foldl_nil, List.getD_cons_zero, List.getD_cons_succ, List.getElem?_cons_zero, List.getElem?_cons_succ, Option.bind_some] at d10
        clear hD
        intro hN
        simp only [fact, layAt, depOn, dstOf, List.foldl_cons, List.foldl_nil, List.getD_cons_zero, List.getD_cons_succ, List.getElem?_cons_zero, List.getElem?_cons_succ, Option.bind_some, d10] at hN ⊢
        go_simp
        refine (awake2_any _).mono ?_
        rintro e u' ⟨rfl, f⟩
        have hh := hN _ _ rfl (.inl f)
        revert hh
        go_simp
      refine owed_cons (fun vs u hS hD N => ?_) ?_
      · have d10 := hD 10 (by decide)
        simp only [fact, layAt, depOn, dstOf, List.foldl_cons, List.foldl_nil, List.getD_cons_zero, List.getD_cons_succ, List.getElem?_cons_zero, List.getElem?_cons_succ, Option.bind_some] at d10
        have d11 := hD 11 (by decide)
        simp only [fact, layAt, depOn, dstOf, List.foldl_cons, List.foldl_nil, List.getD_cons_zero, List.getD_cons_succ, List.getElem?_cons_zero, List.getElem?_cons_succ, Option.bind_some] at d11
        clear hD
        intro hN
        simp only [fact, layAt, depOn, dstOf, List.foldl_cons, List.foldl_nil, List.getD_cons_zero, List.getD_cons_succ, List.getElem?_cons_zero, List.getElem?_cons_succ, Option.bind_some, d10, d11] at hN ⊢
        go_simp
        have hh := hN _ _ rfl (.inl (Below.refl _ _))
        revert hh
        go_simp
      refine owed_cons (fun vs u hS hD N => ?_) ?_
      · have d12 := hD 12 (by decide)
        simp only [fact, layAt, depOn, dstOf, List.foldl_cons, List.foldl_nil, List.getD_cons_zero, List.getD_cons_succ, List.getElem?_cons_zero, List.getElem?_cons_succ, Option.bind_some] at d12
        clear hD
        intro hN
        simp only [fact, layAt, depOn, dstOf, List.foldl_cons, List.foldl_nil, List.getD_cons_zero, List.getD_cons_succ, List.getElem?_cons_zero, List.getElem?_cons_succ, Option.bind_some, d12] at hN ⊢
        go_simp
        have hh := hN _ _ rfl (.inl (Below.refl _ _))
        revert hh
        go_simp
      exact owed_nil
    ·
      intro vs u hS hF
      have d13 := hF 13 (by decide) (by decide)
      simp only [fact, layAt, depOn, dstOf, List.foldl_cons, List.foldl_nil, List.getD_cons_zero, List.getD_cons_succ, List.getElem?_cons_zero, List.getElem?_cons_succ, Option.bind_some] at d13
      clear hF
      simp only [List.length_cons, List.length_nil, Nat.reduceAdd, List.range, List.range.loop, fact, layAt, depOn, dstOf, List.foldl_cons, List.foldl_nil, List.getD_cons_zero, List.getD_cons_succ, List.getElem?_cons_zero, List.getElem?_cons_succ, Option.bind_some, d13]
      go_simp
      go_wp2_with fail
      go_ret
      exact ⟨rfl, f3.trans (hS.mono f3.size)⟩
  have d3 : decide ((n : Int) ≤ 63) = false := by simp; omega
  have hzm : (Try.prog.info? 26).map (·.size) = some (bvs (macB l l2)).length := by rw [bvs_length, macB_length]; exact Hz.out
  have Hzm := Lib.hid hzm; clear hzm
  by_cases h64 : n = 64
  · have d4 : ((n : Int) == 64) = true := by simp; omega
    clear h64
    go_enter Try.func5, Try.ntmps5
    go_wp2_with fail
    refine absC (fun w1 => RdB w1 w1.heap.size A n l ∧ RdL w1 w1.heap.size (some ⟨w.heap.size, 0, none⟩) 1 [⟨A2, m, c2, l2⟩] ∧ Below w.heap.size w w1) ⟨(rl.alloc (Nat.le_refl _) _).more (by simp), ?_, (Below.refl _ w).alloc (Nat.le_refl _) _⟩ ?_
    · refine RdL.of_blk (ps := [⟨A2, m, c2, l2⟩]) (t := 23) (Blk.newAt rfl _ _) ?_
      intro p hp
      obtain rfl : p = ⟨A2, m, c2, l2⟩ := by simpa using hp
      exact (rl2.alloc (Nat.le_refl _) _).more (by simp)
    rintro w1 ⟨r1, q1, f1⟩
    have hn1 := rl.1
    have hm1 := rl2.1
    refine (mac_any _ n c l _ 1 1 _ w1 r1 (by omega) q1 (by simp [catB]; omega) (by omega)).mono ?_
    rintro e w2 ⟨rfl, f2⟩
    rw [show catB [(⟨A2, m, c2, l2⟩ : Part)] = l2 from by simp [catB]]
    replace f1 := f1.trans (f2.mono f1.size)
    clear f2 r1 q1 w1
    go_wp2_with (first | (refine store_blk (Blk.of_new w2 26 (bvs (List.replicate 32 0))) rfl 26 (.tmp 5) (.tmp 19) rfl rfl (us := bvs (macB l l2)) rfl Hzm.out (by simp [bvs_length, macB_length]) (bvs_all _) ?_; intro w3 k3 hg; have f3 : Below w.heap.size w w3 := (f1.alloc f1.size _).grown hg (by have := f1.size; simp; omega) (by have := f1.size; simp; omega)))
    refine (awake2_any _).mono ?_
    rintro e w4 ⟨rfl, f4⟩
    go_wp2_with fail
    go_ret
    exact ⟨rfl, f3.trans (f4.mono f3.size)⟩
  have d4 : ((n : Int) == 64) = false := by simp; omega
  have hzs : (Try.prog.info? 26).map (·.size) = some (bvs (shaB l)).length := by rw [bvs_length, shaB_length]; exact Hz.out
  have Hzs := Lib.hid hzs; clear hzs
  go_enter Try.func5, Try.ntmps5
  go_wp2_with fail
  refine absC (fun w1 => RdB w1 w1.heap.size A n l ∧ RdL w1 w1.heap.size (some ⟨w.heap.size, 0, none⟩) 1 [⟨A2, m, c2, l2⟩] ∧ Below w.heap.size w w1) ⟨(rl.alloc (Nat.le_refl _) _).more (by simp), ?_, (Below.refl _ w).alloc (Nat.le_refl _) _⟩ ?_
  · refine RdL.of_blk (ps := [⟨A2, m, c2, l2⟩]) (t := 23) (Blk.newAt rfl _ _) ?_
    intro p hp
    obtain rfl : p = ⟨A2, m, c2, l2⟩ := by simpa using hp
    exact (rl2.alloc (Nat.le_refl _) _).more (by simp)
  rintro w1 ⟨r1, q1, f1⟩
  have hn1 := rl.1
  have hm1 := rl2.1
  refine (mac_any _ n c l _ 1 1 _ w1 r1 (by omega) q1 (by simp [catB]; omega) (by omega)).mono ?_
  rintro e w2 ⟨rfl, f2⟩
  rw [show catB [(⟨A2, m, c2, l2⟩ : Part)] = l2 from by simp [catB]]
  replace f1 := f1.trans (f2.mono f1.size)
  clear f2 r1 q1 w1
  go_wp2_with (first | (refine store_blk (Blk.of_new w2 26 (bvs (List.replicate 32 0))) rfl 26 (.tmp 5) (.tmp 19) rfl rfl (us := bvs (macB l l2)) rfl Hzm.out (by simp [bvs_length, macB_length]) (bvs_all _) ?_; intro w3 k3 hg; have f3 : Below w.heap.size w w3 := (f1.alloc f1.size _).grown hg (by have := f1.size; simp; omega) (by have := f1.size; simp; omega)))
  refine absC (fun w4 => RdL w4 w4.heap.size (some ⟨w3.heap.size, 0, none⟩) 1 [⟨A, n, c, l⟩] ∧ Blk w4 w2.heap.size 26 (bvs (macB l l2)) ∧ Below w.heap.size w w4) ⟨?_, k3.alloc _, f3.alloc f3.size _⟩ ?_
  · refine RdL.of_blk (ps := [⟨A, n, c, l⟩]) (t := 23) (Blk.newAt rfl _ _) ?_
    intro p hp
    obtain rfl : p = ⟨A, n, c, l⟩ := by simpa using hp
    exact (((rl.below f3).more f3.size).alloc (Nat.le_refl _) _).more (by simp)
  clear hg
  rintro w4 ⟨q4, k4, f4⟩
  clear k3 f3
  refine (of_any _ 1 1 _ w4 q4 (by simp [catB]; omega) (by omega)).mono ?_
  rintro e w5 ⟨rfl, f5⟩
  rw [show catB [(⟨A, n, c, l⟩ : Part)] = l from by simp [catB]]
  replace k4 := k4.below f5 k4.lt
  replace f4 := f4.trans (f5.mono f4.size)
  clear f5 q4
  go_wp2_with (first | (refine store_blk (Blk.of_new w5 26 (bvs (List.replicate 32 0))) rfl 26 (.tmp 6) (.tmp 42) rfl rfl (us := bvs (shaB l)) rfl Hzs.out (by simp [bvs_length, shaB_length]) (bvs_all _) ?_; intro w6 k6 hg; have f6 : Below w.heap.size w w6 := (f4.alloc f4.size _).grown hg (by have := f4.size; simp; omega) (by have := f4.size; simp; omega); have k5 := (k4.alloc (.cells (bvs (List.replicate 32 0)).toArray 26)).grown hg (by have := k4.lt; simp; omega)))
  refine abs (fun w7 => w7 = w6) rfl ?_
  rintro w7 rfl
  have rl4 := rl2.below f6
  refine wp_region_facts (fun u => Below w7.heap.size w7 u) [
    fun v _ => v = .slice (some ⟨w5.heap.size, 0, none⟩) 32 32,
    fun v _ => v = .slice A2 m c2,
    fun v u => ∃ g, v = .slice (some ⟨g, 0, none⟩) 1 1 ∧ Blk u g 23 [.slice A2 m c2],
    fun v _ => v = .agg (bvs (macB l l2)).toArray,
    fun v _ => v = .agg (bvs (macB l l2)).toArray,
    fun v _ => v = .bool true,
    fun v _ => v = .bool true,
    fun v _ => v = .bool true,
    fun v _ => v = .bool true,
    fun v _ => v = .bool true] (fun u u' => Below u.heap.size u u') [[], [], [1], [0, 2], [], [3, 4], [5], [6], [6, 7], [8]] []
    (by kernel_rfl) (by kernel_rfl) ?_ (fun _ _ _ _ _ h => h) ((Below.refl _ _).drew) ?_ ?_
  · refine hE_of (fun u u' h f => f.trans (h.mono f.size)) ?_
    repeat' (first | exact mono_nil | refine mono_cons (fun v u u' h => ?_) ?_)
    all_goals first | exact id | (rintro ⟨g, e, k⟩; exact ⟨g, e, k.below h k.lt⟩)
  ·
    refine owed_cons (fun vs u hS hD N => ?_) ?_
    · clear hD
      intro hN
      simp only [fact, layAt, depOn, dstOf, List.foldl_cons, List.foldl_nil, List.getD_cons_zero, List.getD_cons_succ, List.getElem?_cons_zero, List.getElem?_cons_succ, Option.bind_some] at hN ⊢
      go_simp
      have hh := hN _ _ rfl (.inl (Below.refl _ _))
      revert hh
      go_simp
    refine owed_cons (fun vs u hS hD N => ?_) ?_
    · clear hD
      intro hN
      simp only [fact, layAt, depOn, dstOf, List.foldl_cons, List.foldl_nil, List.getD_cons_zero, List.getD_cons_succ, List.getElem?_cons_zero, List.getElem?_cons_succ, Option.bind_some] at hN ⊢
      go_simp
      have hh := hN _ _ rfl (.inl (Below.refl _ _))
      revert hh
      go_simp
    refine owed_cons (fun vs u hS hD N => ?_) ?_
    · have d1 := hD 1 (by decide)
      simp only [fact, layAt, depOn, dstOf, List.foldl_cons, List.foldl_nil, List.getD_cons_zero, List.getD_cons_succ, List.getElem?_cons_zero, List.getElem?_cons_succ, Option.bind_some] at d1
      clear hD
      intro hN
      simp only [fact, layAt, depOn, dstOf, List.foldl_cons, List.foldl_nil, List.getD_cons_zero, List.getD_cons_succ, List.getElem?_cons_zero, List.getElem?_cons_succ, Option.bind_some, d1] at hN ⊢
      go_simp
      have kk : Blk (u.alloc (.cells #[.slice A2 m c2] 23)) u.heap.size 23 [.slice A2 m c2] := Blk.newAt rfl _ _
      have hh := hN _ _ ⟨_, rfl, kk⟩ (.inl ((Below.refl _ u).alloc (Nat.le_refl _) _))
      revert hh
      go_simp
    refine owed_cons (fun vs u hS hD N => ?_) ?_
    · have d0 := hD 0 (by decide)
      simp only [fact, layAt, depOn, dstOf, List.foldl_cons, List.foldl_nil, List.getD_cons_zero, List.getD_cons_succ, List.getElem?_cons_zero, List.getElem?_cons_succ, Option.bind_some] at d0
      have d2 := hD 2 (by decide)
      simp only [fact, layAt, depOn, dstOf, List.foldl_cons, List.foldl_nil, List.getD_cons_zero, List.getD_cons_succ, List.getElem?_cons_zero, List.getElem?_cons_succ, Option.bind_some] at d2
      obtain ⟨g, e2, k⟩ := d2
      clear hD
      intro hN
      simp only [fact, layAt, depOn, dstOf, List.foldl_cons, List.foldl_nil, List.getD_cons_zero, List.getD_cons_succ, List.getElem?_cons_zero, List.getElem?_cons_succ, Option.bind_some, d0, e2] at hN ⊢
      go_simp
      refine (mac_any _ 32 32 (shaB l) _ 1 1 [⟨A2, m, c2, l2⟩] u ((k6.below hS k6.lt).rdB (shaB_length _)) (by omega) (RdL.of_blk (ps := [⟨A2, m, c2, l2⟩]) k ?_) (by simp [catB]; omega) (by omega)).mono ?_
      · intro p hp
        obtain rfl : p = ⟨A2, m, c2, l2⟩ := by simpa using hp
        exact (rl4.below (hS.mono f6.size)).more (Nat.le_trans f6.size hS.size)
      rintro e u' ⟨rfl, f⟩
      rw [show catB [(⟨A2, m, c2, l2⟩ : Part)] = l2 from by simp [catB], macB_long l l2 (by omega)]
      have hh := hN _ _ rfl (.inl f)
      revert hh
      go_simp
    refine owed_cons (fun vs u hS hD N => ?_) ?_
    · clear hD
      intro hN
      simp only [fact, layAt, depOn, dstOf, List.foldl_cons, List.foldl_nil, List.getD_cons_zero, List.getD_cons_succ, List.getElem?_cons_zero, List.getElem?_cons_succ, Option.bind_some] at hN ⊢
      rw [if_pos (by rfl)]
      refine wp_load_blk (k5.below hS k5.lt) 26 (.tmp 5) rfl rfl Try.underlying26 Hzm.out ?_
      exact hN _ _ rfl (.inl (Below.refl _ _))
    refine owed_cons (fun vs u hS hD N => ?_) ?_
    · have d3 := hD 3 (by decide)
      simp only [fact, layAt, depOn, dstOf, List.foldl_cons, List.foldl_nil, List.getD_cons_zero, List.getD_cons_succ, List.getElem?_cons_zero, List.getElem?_cons_succ, Option.bind_some] at d3
      have d4 := hD 4 (by decide)
      simp only [fact, layAt, depOn, dstOf, List.foldl_cons, List.foldl_nil, List.getD_cons_zero, List.getD_cons_succ, List.getElem?_cons_zero, List.getElem?_cons_succ, Option.bind_some] at d4
      clear hD
      intro hN
      simp only [fact, layAt, depOn, dstOf, List.foldl_cons, List.foldl_nil, List.getD_cons_zero, List.getD_cons_succ, List.getElem?_cons_zero, List.getElem?_cons_succ, Option.bind_some, d3, d4] at hN ⊢
      go_simp
      rw [run_equalIn_bytes (P := Try.prog) Try.underlying26 Try.underlying5 (by kernel_rfl) _ _ (macB_length _ _) (macB_length _ _) u]
      go_simp
      have hh := hN _ _ rfl (.inl (Below.refl _ _))
      revert hh
      go_simp
    refine owed_cons (fun vs u hS hD N => ?_) ?_
    · have d5 := hD 5 (by decide)
      simp only [fact, layAt, depOn, dstOf, List.foldl_cons, List.foldl_nil, List.getD_cons_zero, List.getD_cons_succ, List.getElem?_cons_zero, List.getElem?_cons_succ, Option.bind_some] at d5
      clear hD
      intro hN
      simp only [fact, layAt, depOn, dstOf, List.foldl_cons, List.foldl_nil, List.getD_cons_zero, List.getD_cons_succ, List.getElem?_cons_zero, List.getElem?_cons_succ, Option.bind_some, d5] at hN ⊢
      go_simp
      have hh := hN _ _ rfl (.inl (Below.refl _ _))
      revert hh
      go_simp
    refine owed_cons (fun vs u hS hD N => ?_) ?_
    · have d6 := hD 6 (by decide)
      simp only [fact, layAt, depOn, dstOf, List.foldl_cons, List.foldl_nil, List.getD_cons_zero, List.getD_cons_succ, List.getElem?_cons_zero, List.getElem?_cons_succ, Option.bind_some] at d6
      clear hD
      intro hN
      simp only [fact, layAt, depOn, dstOf, List.foldl_cons, List.foldl_nil, List.getD_cons_zero, List.getD_cons_succ, List.getElem?_cons_zero, List.getElem?_cons_succ, Option.bind_some, d6] at hN ⊢
      go_simp
      refine (awake2_any _).mono ?_
      rintro e u' ⟨rfl, f⟩
      have hh := hN _ _ rfl (.inl f)
      revert hh
      go_simp
    refine owed_cons (fun vs u hS hD N => ?_) ?_
    · have d6 := hD 6 (by decide)
      simp only [fact, layAt, depOn, dstOf, List.foldl_cons, List.foldl_nil, List.getD_cons_zero, List.getD_cons_succ, List.getElem?_cons_zero, List.getElem?_cons_succ, Option.bind_some] at d6
      have d7 := hD 7 (by decide)
      simp only [fact, layAt, depOn, dstOf, List.foldl_cons, List.foldl_nil, List.getD_cons_zero, List.getD_cons_succ, List.getElem?_cons_zero, List.getElem?_cons_succ, Option.bind_some] at d7
      clear hD
      intro hN
      simp only [fact, layAt, depOn, dstOf, List.foldl_cons, List.foldl_nil, List.getD_cons_zero, List.getD_cons_succ, List.getElem?_cons_zero, List.getElem?_cons_succ, Option.bind_some, d6, d7] at hN ⊢
      go_simp
      have hh := hN _ _ rfl (.inl (Below.refl _ _))
      revert hh
      go_simp
    refine owed_cons (fun vs u hS hD N => ?_) ?_
    · have d8 := hD 8 (by decide)
      simp only [fact, layAt, depOn, dstOf, List.foldl_cons, List.foldl_nil, List.getD_cons_zero, List.getD_cons_succ, List.getElem?_cons_zero, List.getElem?_cons_succ, Option.bind_some] at d8
      clear hD
      intro hN
      simp only [fact, layAt, depOn, dstOf, List.foldl_cons, List.foldl_nil, List.getD_cons_zero, List.getD_cons_succ, List.getElem?_cons_zero, List.getElem?_cons_succ, Option.bind_some, d8] at hN ⊢
      go_simp
      have hh := hN _ _ rfl (.inl (Below.refl _ _))
      revert hh
      go_simp
    exact owed_nil
  ·
    intro vs u hS hF
    have d9 := hF 9 (by decide) (by decide)
    simp only [fact, layAt, depOn, dstOf, List.foldl_cons, List.foldl_nil, List.getD_cons_zero, List.getD_cons_succ, List.getElem?_cons_zero, List.getElem?_cons_succ, Option.bind_some] at d9
    clear hF
    simp only [List.length_cons, List.length_nil, Nat.reduceAdd, List.range, List.range.loop, fact, layAt, depOn, dstOf, List.foldl_cons, List.foldl_nil, List.getD_cons_zero, List.getD_cons_succ, List.getElem?_cons_zero, List.getElem?_cons_succ, Option.bind_some, d9]
    go_simp
    go_wp2_with fail
    go_ret
    exact ⟨rfl, f6.trans (hS.mono f6.size)⟩
end Go.Proofs.Ythjaomkjjlgjeaa
