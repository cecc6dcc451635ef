/- The law ShaWrites, walked. No condition. -/
import Derived.Test.YthjaomkjjlgjeaaShaAwake
import Derived.Test.YthjaomkjjlgjeaaShaWritesLaw
import Derived.Test.YthjaomkjjlgjeaaRefFirst
import Derived.Test.YthjaomkjjlgjeaaFacts3
import Derived.Test.YthjaomkjjlgjeaaOpenS
namespace Go.Proofs.Ythjaomkjjlgjeaa.F3
open Go.RowKit
set_option linter.unusedSimpArgs false
set_option linter.unusedVariables false
attribute [local irreducible] blkN comp outN sumB
set_option maxRecDepth 100000 in
set_option maxHeartbeats 4000000 in
theorem shaWrites_walk (w : World) (h : List UInt32) (A : Option Addr) (n c : Nat) (l : List UInt8) (NN : Nat) (hh : h.length = 8) (rl : RdB w w.heap.size A n l) (hnc : n ≤ c) (_ : c ≤ maxLen) (hNb : NN < 18446744073709551616)
    (A2 : Option Addr) (m c2 : Nat) (b : List UInt8) (rb : RdB w w.heap.size A2 m b) (hmc : m ≤ c2) (_ : c2 ≤ maxLen) :
    Calls Try.prog 10 #[.agg (shaC h A n c NN).toArray, .slice A2 m c2] w fun e w' => e = .returned (.bool true) ∧ Below w.heap.size w w' := by
  have hi10 : (Try.prog.info? 43).map (·.size) = some 10 := by kernel_rfl
  have hi8 : (Try.prog.info? 41).map (·.size) = some 8 := by kernel_rfl
  have hsS : (Try.prog.info? 43).map (·.size) = some (shaC h A n c NN).length := by rw [shaC_length hh]; exact hi10
  have HsS := Lib.hid hsS; clear hsS
  have hsh : (Try.prog.info? 41).map (·.size) = some (uvs h).length := by rw [uvs_length, hh]; exact hi8
  have Hsh := Lib.hid hsh; clear hsh
  by_cases hm : 2000 < m
  · have d1 : decide ((2000 : Int) < (m : Int)) = true := by simp; omega
    go_enter Try.func10, Try.ntmps10
    go_wp2_with fail
    refine (awake1_any _).mono ?_
    rintro e w1 ⟨rfl, f1⟩
    go_wp2_with fail
    go_ret
    exact ⟨rfl, ((Below.refl _ w).alloc (Nat.le_refl _) _).trans (f1.mono (by simp))⟩
  have d1 : decide ((2000 : Int) < (m : Int)) = false := by simp; omega
  have hml := rb.1
  have hnl := rl.1
  have Hml := Lib.hid hml; clear hml
  have Hnl := Lib.hid hnl; clear hnl
  go_enter Try.func10, Try.ntmps10
  go_upto_region 1 with fail
  refine abs (fun w1 => Blk w1 w.heap.size 43 (shaC h A n c NN) ∧ Below w.heap.size w w1) ⟨Blk.of_new w _ _, (Below.refl _ w).alloc (Nat.le_refl _) _⟩ ?_
  rintro w1 ⟨k1, f1⟩
  have c8 : w1.cell? ⟨w.heap.size, 8, none⟩ = some (.slice A n c) := by rw [k1.cell, shaC_8 hh]
  by_cases hn : 2000 < n
  · have d2 : decide ((2000 : Int) < (n : Int)) = true := by simp; omega
    go_wp2_with fail
    refine (awake1_any _).mono ?_
    rintro e w2 ⟨rfl, f2⟩
    go_wp2_with fail
    go_ret
    exact ⟨rfl, f1.trans (f2.mono f1.size)⟩
  have d2 : decide ((2000 : Int) < (n : Int)) = false := by simp; omega
  have hstr := run_str T23 (rl.below f1) c 9 Try.underlying9
  go_wp2_with (first | (refine load_blk k1 rfl 43 (.tmp 2) rfl rfl Try.underlying43 HsS.out ?_))
  clear hstr
  refine (write_any h A n c NN l A2 m c2 b w1 hh ((rl.below f1).more f1.size) ((rb.below f1).more f1.size) (by omega) (by omega)).mono ?_
  rintro e w2 ⟨A', c', rfl, fr, f2⟩
  have lk := k1.lt
  have fz := f1.size
  replace k1 := k1.below f2 lk
  replace f1 := f1.trans (f2.mono fz)
  have g12 := f2.size
  clear c8 f2
  have hV := blkN_length h (l ++ b) ((n + m) / 64) hh
  have hLl : (l ++ b).length = n + m := by rw [List.length_append, Hnl.out, Hml.out]
  generalize hVe : blkN h (l ++ b) ((n + m) / 64) = V at *
  have HVe := Lib.hid hVe; clear hVe
  generalize hNe : (NN + m) % 18446744073709551616 = N' at *
  have HNe := Lib.hid hNe; clear hNe
  have hq : n + m - 64 * ((n + m) / 64) = (n + m) % 64 := by omega
  have hrest := fr.1
  generalize hRe : (l ++ b).drop (64 * ((n + m) / 64)) = R at *
  have HRe := Lib.hid hRe; clear hRe
  generalize hqe : (n + m) % 64 = q at *
  have hq64 : q < 64 := by omega
  have Hqe := Lib.hid hqe; clear hqe
  have Hq := Lib.hid hq; clear hq
  have hsX : (Try.prog.info? 43).map (·.size) = some (shaC V A' q c' N').length := by rw [shaC_length hV]; exact hi10
  have HsX := Lib.hid hsX; clear hsX
  have hzX : (shaC (List.replicate 8 0) none 0 0 0).length = (shaC V A' q c' N').length := by rw [shaC_length hV]; rfl
  have HzX := Lib.hid hzX; clear hzX
  go_upto_region 5 with (first | (refine store_blk (cs := shaC (List.replicate 8 0) none 0 0 0) (Blk.newAt rfl 43 _) rfl 43 (.tmp 6) (.tmp 26) rfl rfl (us := shaC V A' q c' N') rfl HsX.out HzX.out (shaC_all _ _ _ _ _) ?_; intro w4 kx hg; have f4 : Below w2.heap.size w2 w4 := ((Below.refl _ w2).alloc (Nat.le_refl _) _).grown hg (by simp) (by simp)))
  have lk2 := k1.lt
  replace k1 := k1.below f4 lk2
  replace fr := fr.below (Nat.le_refl _) f4
  replace f1 := f1.trans (f4.mono f1.size)
  clear hg f4
  generalize w2.heap.size = g6 at *
  have rl4 := rl.below f1
  have rb4 := rb.below f1
  have hw4 := f1.size
  have hsV : (Try.prog.info? 41).map (·.size) = some (uvs V).length := by rw [uvs_length, hV]; exact hi8
  have HsV := Lib.hid hsV; clear hsV
  have hzV : (uvs (List.replicate 8 0)).length = (uvs V).length := by rw [uvs_length, uvs_length, hV]; rfl
  have HzV := Lib.hid hzV; clear hzV
  refine wp_region_facts (fun u => Below w4.heap.size w4 u) [
    fun _ v _ => v = .pointer (some ⟨w.heap.size, 0, none⟩),
    fun _ v _ => v = .agg (uvs h).toArray,
    fun _ v u => ∃ g, v = .slice (some ⟨g, 0, none⟩) 0 0 ∧ w4.heap.size ≤ g ∧ Blk u g 5 (bvs []),
    fun _ v _ => v = .pointer (some ⟨w.heap.size, 8, none⟩),
    fun _ v _ => v = .slice A n c,
    fun _ v u => ∃ A9 c9, v = .slice A9 n c9 ∧ OwnB u w4.heap.size 5 (.slice A9 n c9) l,
    fun _ v _ => v = .slice A2 m c2,
    fun _ v u => ∃ A9 c9, v = .slice A9 (n + m) c9 ∧ OwnB u w4.heap.size 5 (.slice A9 (n + m) c9) (l ++ b),
    fun _ v u => ∃ A9 c9, v = .tuple #[.agg (uvs V).toArray, .slice A9 q c9] ∧ RdB u u.heap.size A9 q R,
    fun _ v u => ∃ A9 c9, v = .tuple #[.agg (uvs V).toArray, .slice A9 q c9] ∧ RdB u u.heap.size A9 q R,
    fun _ v _ => v = .agg (uvs V).toArray,
    fun _ v u => ∃ A9 c9, v = .slice A9 q c9 ∧ RdB u u.heap.size A9 q R,
    fun _ v u => ∃ g, v = .pointer (some ⟨g, 0, none⟩) ∧ w4.heap.size ≤ g ∧ Blk u g 41 (uvs (List.replicate 8 0)),
    fun xs _ u => ∃ g, xs[1]? = some (.pointer (some ⟨g, 0, none⟩)) ∧ w4.heap.size ≤ g ∧ Blk u g 41 (uvs V),
    fun _ v u => ∃ A9 c9, v = .slice A9 q c9 ∧ RdB u u.heap.size A9 q R] (fun u u' => Below u.heap.size u u')
    [[], [0], [], [], [3], [2, 4], [], [5, 6], [1, 7], [8], [9], [9], [], [10, 12], [11]]
    [[], [], [], [], [], [2], [], [2, 5], [], [], [], [], [], [2, 5, 7, 12], []]
    [[], [], [], [], [], [7, 8, 9, 10, 11, 13, 14], [], [8, 9, 10, 11, 13, 14], [], [], [], [], [], [], []]
    (by kernel_rfl) (by kernel_rfl) ?_ (fun _ _ _ _ _ h => h) ((Below.refl _ _).drew) ?_ ?_
  · refine hE_of (fun u u' h f => f.trans (h.mono f.size)) ?_
    repeat' (first | exact mono_nil | refine mono_cons (fun xs v u u' h => ?_) ?_)
    all_goals first | exact _root_.id | (rintro ⟨g, e, h1, k⟩; exact ⟨g, e, h1, k.below h k.lt⟩) | (rintro ⟨A9, c9, e, o⟩; exact ⟨A9, c9, e, o.below (Nat.le_refl _) h⟩) | (rintro ⟨A9, c9, e, r⟩; exact ⟨A9, c9, e, (r.below h).more h.size⟩)
  ·
    refine owed_cons (fun vs u hS hD N => ?_) ?_
    · clear hD
      intro hN
      simp only [fact, layAt, depOn, dstOf, List.map_cons, List.map_nil, List.foldl_cons, List.foldl_nil, List.getD_cons_zero, List.getD_cons_succ, List.getElem?_cons_zero, List.getElem?_cons_succ, Option.bind_some] at hN ⊢
      go_simp
      have hh := hN _ _ rfl (.inl (Below.refl _ _))
      revert hh
      go_simp
    refine owed_cons (fun vs u hS hD N => ?_) ?_
    · have d0 := hD 0 (by decide)
      simp only [fact, layAt, depOn, dstOf, List.map_cons, List.map_nil, List.foldl_cons, List.foldl_nil, List.getD_cons_zero, List.getD_cons_succ, List.getElem?_cons_zero, List.getElem?_cons_succ, Option.bind_some] at d0
      clear hD
      intro hN
      simp only [fact, layAt, depOn, dstOf, List.map_cons, List.map_nil, List.foldl_cons, List.foldl_nil, List.getD_cons_zero, List.getD_cons_succ, List.getElem?_cons_zero, List.getElem?_cons_succ, Option.bind_some, d0] at hN ⊢
      rw [if_pos (by rfl)]
      have kr := (k1.below hS k1.lt).range 0 8
      rw [shaC_H hh] at kr
      refine wp_load_part (cs := uvs h) (b := w.heap.size) (off := 0) kr 41 (.tmp 28) rfl rfl Try.underlying41 Hsh.out ?_
      exact hN _ _ rfl (.inl (Below.refl _ _))
    refine owed_cons (fun vs u hS hD N => ?_) ?_
    · clear hD
      intro hN
      simp only [fact, layAt, depOn, dstOf, List.map_cons, List.map_nil, List.foldl_cons, List.foldl_nil, List.getD_cons_zero, List.getD_cons_succ, List.getElem?_cons_zero, List.getElem?_cons_succ, Option.bind_some] at hN ⊢
      go_simp
      have kk : Blk (u.alloc (.cells #[] 5)) u.heap.size 5 (bvs []) := Blk.newAt rfl _ _
      have hh := hN _ _ ⟨_, rfl, hS.size, kk⟩ (.inl ((Below.refl _ u).alloc (Nat.le_refl _) _))
      revert hh
      go_simp
    refine owed_cons (fun vs u hS hD N => ?_) ?_
    · clear hD
      intro hN
      simp only [fact, layAt, depOn, dstOf, List.map_cons, List.map_nil, List.foldl_cons, List.foldl_nil, List.getD_cons_zero, List.getD_cons_succ, List.getElem?_cons_zero, List.getElem?_cons_succ, Option.bind_some] at hN ⊢
      go_simp
      have hh := hN _ _ rfl (.inl (Below.refl _ _))
      revert hh
      go_simp
    refine owed_cons (fun vs u hS hD N => ?_) ?_
    · have d3 := hD 3 (by decide)
      simp only [fact, layAt, depOn, dstOf, List.map_cons, List.map_nil, List.foldl_cons, List.foldl_nil, List.getD_cons_zero, List.getD_cons_succ, List.getElem?_cons_zero, List.getElem?_cons_succ, Option.bind_some] at d3
      clear hD
      intro hN
      simp only [fact, layAt, depOn, dstOf, List.map_cons, List.map_nil, List.foldl_cons, List.foldl_nil, List.getD_cons_zero, List.getD_cons_succ, List.getElem?_cons_zero, List.getElem?_cons_succ, Option.bind_some, d3] at hN ⊢
      go_simp
      have c8 : u.cell? ⟨w.heap.size, 8, none⟩ = some (.slice A n c) := by rw [(k1.below hS k1.lt).cell, shaC_8 hh]
      have hh := hN _ _ rfl (.inl (Below.refl _ _))
      revert hh
      go_simp
    refine owed_cons (fun vs u hS hD N => ?_) ?_
    · have d2 := hD 2 (by decide)
      simp only [fact, layAt, depOn, dstOf, List.map_cons, List.map_nil, List.foldl_cons, List.foldl_nil, List.getD_cons_zero, List.getD_cons_succ, List.getElem?_cons_zero, List.getElem?_cons_succ, Option.bind_some] at d2
      obtain ⟨g, e2, hg, k0⟩ := d2
      have d4 := hD 4 (by decide)
      simp only [fact, layAt, depOn, dstOf, List.map_cons, List.map_nil, List.foldl_cons, List.foldl_nil, List.getD_cons_zero, List.getD_cons_succ, List.getElem?_cons_zero, List.getElem?_cons_succ, Option.bind_some] at d4
      clear hD
      intro hN
      simp only [fact, layAt, depOn, dstOf, List.map_cons, List.map_nil, List.foldl_cons, List.foldl_nil, List.getD_cons_zero, List.getD_cons_succ, List.getElem?_cons_zero, List.getElem?_cons_succ, Option.bind_some, e2, d4] at hN ⊢
      rw [if_pos (by rfl)]
      refine wp_appendR T23 rfl (A := some ⟨g, 0, none⟩) (n := 0) (c := 0) rfl (OwnB.of_blk k0 hg rfl (by decide)) (A2 := A) (m := n) (c2 := c) rfl (rl4.below (hS.mono hw4)) (by omega) hS (Nat.le_refl _) ?_
      intro A9 c9 w' o' b' g'
      rw [Nat.zero_add] at o' ⊢
      refine hN _ _ ⟨A9, c9, rfl, o'⟩ (.inr ⟨b', fun j xs v h1 h2 h3 => ?_⟩)
      match j with
      | 2 => exact absurd (by decide) h2
      | 5 => exact absurd rfl h1
      | 7 | 8 | 9 | 10 | 11 | 13 | 14 => exact absurd (by decide) h3
      | 12 => exact fun ⟨g3, e3, h4, k3⟩ => ⟨g3, e3, h4, k3.grown g' (fun e => (k0.ne k3 (.inl (by decide))) (by simpa [Value.ownBlock] using e.symm))⟩
      | 0 | 1 | 3 | 4 | 6 | _ + 15 => exact _root_.id
    refine owed_cons (fun vs u hS hD N => ?_) ?_
    · clear hD
      intro hN
      simp only [fact, layAt, depOn, dstOf, List.map_cons, List.map_nil, List.foldl_cons, List.foldl_nil, List.getD_cons_zero, List.getD_cons_succ, List.getElem?_cons_zero, List.getElem?_cons_succ, Option.bind_some] at hN ⊢
      go_simp
      have hh := hN _ _ rfl (.inl (Below.refl _ _))
      revert hh
      go_simp
    refine owed_cons (fun vs u hS hD N => ?_) ?_
    · have d5 := hD 5 (by decide)
      simp only [fact, layAt, depOn, dstOf, List.map_cons, List.map_nil, List.foldl_cons, List.foldl_nil, List.getD_cons_zero, List.getD_cons_succ, List.getElem?_cons_zero, List.getElem?_cons_succ, Option.bind_some] at d5
      obtain ⟨A9, c9, e5, o⟩ := d5
      have d6 := hD 6 (by decide)
      simp only [fact, layAt, depOn, dstOf, List.map_cons, List.map_nil, List.foldl_cons, List.foldl_nil, List.getD_cons_zero, List.getD_cons_succ, List.getElem?_cons_zero, List.getElem?_cons_succ, Option.bind_some] at d6
      clear hD
      intro hN
      simp only [fact, layAt, depOn, dstOf, List.map_cons, List.map_nil, List.foldl_cons, List.foldl_nil, List.getD_cons_zero, List.getD_cons_succ, List.getElem?_cons_zero, List.getElem?_cons_succ, Option.bind_some, e5, d6] at hN ⊢
      rw [if_pos (by rfl)]
      refine wp_appendR T23 rfl (A := A9) (n := n) (c := c9) rfl o (A2 := A2) (m := m) (c2 := c2) rfl (rb4.below (hS.mono hw4)) (by omega) hS (Nat.le_refl _) ?_
      intro A8 c8 w' o' b' g'
      refine hN _ _ ⟨A8, c8, rfl, o'⟩ (.inr ⟨b', fun j xs v h1 h2 h3 => ?_⟩)
      match j with
      | 2 | 5 => exact absurd (by decide) h2
      | 7 => exact absurd rfl h1
      | 8 | 9 | 10 | 11 | 13 | 14 => exact absurd (by decide) h3
      | 12 => exact fun ⟨g3, e3, h4, k3⟩ => ⟨g3, e3, h4, k3.grown g' (o.not_row k3 (by decide))⟩
      | 0 | 1 | 3 | 4 | 6 | _ + 15 => exact _root_.id
    refine owed_cons (fun vs u hS hD N => ?_) ?_
    · have d1 := hD 1 (by decide)
      simp only [fact, layAt, depOn, dstOf, List.map_cons, List.map_nil, List.foldl_cons, List.foldl_nil, List.getD_cons_zero, List.getD_cons_succ, List.getElem?_cons_zero, List.getElem?_cons_succ, Option.bind_some] at d1
      have d7 := hD 7 (by decide)
      simp only [fact, layAt, depOn, dstOf, List.map_cons, List.map_nil, List.foldl_cons, List.foldl_nil, List.getD_cons_zero, List.getD_cons_succ, List.getElem?_cons_zero, List.getElem?_cons_succ, Option.bind_some] at d7
      obtain ⟨A9, c9, e7, o⟩ := d7
      clear hD
      intro hN
      simp only [fact, layAt, depOn, dstOf, List.map_cons, List.map_nil, List.foldl_cons, List.foldl_nil, List.getD_cons_zero, List.getD_cons_succ, List.getElem?_cons_zero, List.getElem?_cons_succ, Option.bind_some, d1, e7] at hN ⊢
      go_simp
      refine (refBlocks_any h A9 (n + m) c9 (l ++ b) u hh o.rd o.cap (by omega)).mono ?_
      rintro e u' ⟨A8, c8, rfl, r, f⟩
      rw [Hq.out, HRe.out] at r
      rw [HVe.out, Hq.out]
      have hh := hN _ _ ⟨A8, c8, rfl, r.more f.size⟩ (.inl f)
      revert hh
      go_simp
    refine owed_cons (fun vs u hS hD N => ?_) ?_
    · have d8 := hD 8 (by decide)
      simp only [fact, layAt, depOn, dstOf, List.map_cons, List.map_nil, List.foldl_cons, List.foldl_nil, List.getD_cons_zero, List.getD_cons_succ, List.getElem?_cons_zero, List.getElem?_cons_succ, Option.bind_some] at d8
      obtain ⟨A9, c9, e8, r⟩ := d8
      clear hD
      intro hN
      simp only [fact, layAt, depOn, dstOf, List.map_cons, List.map_nil, List.foldl_cons, List.foldl_nil, List.getD_cons_zero, List.getD_cons_succ, List.getElem?_cons_zero, List.getElem?_cons_succ, Option.bind_some, e8] at hN ⊢
      go_simp
      have hh := hN _ _ ⟨A9, c9, rfl, r⟩ (.inl (Below.refl _ _))
      revert hh
      go_simp
    refine owed_cons (fun vs u hS hD N => ?_) ?_
    · have d9 := hD 9 (by decide)
      simp only [fact, layAt, depOn, dstOf, List.map_cons, List.map_nil, List.foldl_cons, List.foldl_nil, List.getD_cons_zero, List.getD_cons_succ, List.getElem?_cons_zero, List.getElem?_cons_succ, Option.bind_some] at d9
      obtain ⟨A9, c9, e9, r⟩ := d9
      clear hD
      intro hN
      simp only [fact, layAt, depOn, dstOf, List.map_cons, List.map_nil, List.foldl_cons, List.foldl_nil, List.getD_cons_zero, List.getD_cons_succ, List.getElem?_cons_zero, List.getElem?_cons_succ, Option.bind_some, e9] at hN ⊢
      go_simp
      have hh := hN _ _ rfl (.inl (Below.refl _ _))
      revert hh
      go_simp
    refine owed_cons (fun vs u hS hD N => ?_) ?_
    · have d9 := hD 9 (by decide)
      simp only [fact, layAt, depOn, dstOf, List.map_cons, List.map_nil, List.foldl_cons, List.foldl_nil, List.getD_cons_zero, List.getD_cons_succ, List.getElem?_cons_zero, List.getElem?_cons_succ, Option.bind_some] at d9
      obtain ⟨A9, c9, e9, r⟩ := d9
      clear hD
      intro hN
      simp only [fact, layAt, depOn, dstOf, List.map_cons, List.map_nil, List.foldl_cons, List.foldl_nil, List.getD_cons_zero, List.getD_cons_succ, List.getElem?_cons_zero, List.getElem?_cons_succ, Option.bind_some, e9] at hN ⊢
      go_simp
      have hh := hN _ _ ⟨A9, c9, rfl, r⟩ (.inl (Below.refl _ _))
      revert hh
      go_simp
    refine owed_cons (fun vs u hS hD N => ?_) ?_
    · clear hD
      intro hN
      simp only [fact, layAt, depOn, dstOf, List.map_cons, List.map_nil, List.foldl_cons, List.foldl_nil, List.getD_cons_zero, List.getD_cons_succ, List.getElem?_cons_zero, List.getElem?_cons_succ, Option.bind_some] at hN ⊢
      go_simp
      have kk : Blk (u.alloc (.cells #[.int .u32 0, .int .u32 0, .int .u32 0, .int .u32 0, .int .u32 0, .int .u32 0, .int .u32 0, .int .u32 0] 41)) u.heap.size 41 (uvs (List.replicate 8 0)) := Blk.newAt rfl _ _
      have hh := hN _ _ ⟨_, rfl, hS.size, kk⟩ (.inl ((Below.refl _ u).alloc (Nat.le_refl _) _))
      revert hh
      go_simp
    refine owed_cons (fun vs u hS hD N => ?_) ?_
    · have d10 := hD 10 (by decide)
      simp only [fact, layAt, depOn, dstOf, List.map_cons, List.map_nil, List.foldl_cons, List.foldl_nil, List.getD_cons_zero, List.getD_cons_succ, List.getElem?_cons_zero, List.getElem?_cons_succ, Option.bind_some] at d10
      have d12 := hD 12 (by decide)
      simp only [fact, layAt, depOn, dstOf, List.map_cons, List.map_nil, List.foldl_cons, List.foldl_nil, List.getD_cons_zero, List.getD_cons_succ, List.getElem?_cons_zero, List.getElem?_cons_succ, Option.bind_some] at d12
      obtain ⟨g9, e12, hg9, kg⟩ := d12
      clear hD
      intro hN
      simp only [fact, layAt, depOn, dstOf, List.map_cons, List.map_nil, List.foldl_cons, List.foldl_nil, List.getD_cons_zero, List.getD_cons_succ, List.getElem?_cons_zero, List.getElem?_cons_succ, Option.bind_some, d10, e12] at hN ⊢
      rw [if_pos (by rfl)]
      refine wp_store_blk kg 41 (.tmp 7) (.tmp 37) rfl rfl (us := uvs V) rfl HsV.out HzV.out (uvs_all _) ?_
      intro u' k' hg2
      refine hN _ _ ⟨g9, rfl, hg9, k'⟩ (.inr ⟨hS.grown hg2 hS.size (by intro q hq2; injection hq2 with hq2; omega), fun j xs v h1 h2 h3 => ?_⟩)
      match j with
      | 2 | 5 | 7 | 12 => exact absurd (by decide) h2
      | 13 => exact absurd rfl h1
      | 8 | 9 | 11 | 14 => exact fun ⟨A3, c3, e3, r3⟩ => ⟨A3, c3, e3, (r3.words kg (Nat.le_refl _) hg2).more hg2.size⟩
      | 0 | 1 | 3 | 4 | 6 | 10 | _ + 15 => exact _root_.id
    refine owed_cons (fun vs u hS hD N => ?_) ?_
    · have d11 := hD 11 (by decide)
      simp only [fact, layAt, depOn, dstOf, List.map_cons, List.map_nil, List.foldl_cons, List.foldl_nil, List.getD_cons_zero, List.getD_cons_succ, List.getElem?_cons_zero, List.getElem?_cons_succ, Option.bind_some] at d11
      obtain ⟨A9, c9, e11, r⟩ := d11
      clear hD
      intro hN
      simp only [fact, layAt, depOn, dstOf, List.map_cons, List.map_nil, List.foldl_cons, List.foldl_nil, List.getD_cons_zero, List.getD_cons_succ, List.getElem?_cons_zero, List.getElem?_cons_succ, Option.bind_some, e11] at hN ⊢
      go_simp
      have hh := hN _ _ ⟨A9, c9, rfl, r⟩ (.inl (Below.refl _ _))
      revert hh
      go_simp
    exact owed_nil
  · intro vs u hS hF
    have d13 := hF 13 (by decide) (by decide)
    have d14 := hF 14 (by decide) (by decide)
    simp only [fact, layAt, depOn, dstOf, List.map_cons, List.map_nil, List.foldl_cons, List.foldl_nil, List.getD_cons_zero, List.getD_cons_succ, List.getElem?_cons_zero, List.getElem?_cons_succ, Option.bind_some] at d13 d14
    obtain ⟨g7, e12, hg7, kg⟩ := d13
    obtain ⟨A9, c9, e14, r9⟩ := d14
    replace e12 := Option.some.inj e12
    clear hF
    simp only [List.length_cons, List.length_nil, Nat.reduceAdd, List.range, List.range.loop, fact, layAt, depOn, dstOf, List.map_cons, List.map_nil, List.foldl_cons, List.foldl_nil, List.getD_cons_zero, List.getD_cons_succ, List.getElem?_cons_zero, List.getElem?_cons_succ, Option.bind_some, e12, e14]
    go_simp
    have fr5 := fr.below (Nat.le_refl _) hS
    replace k1 := k1.below hS k1.lt
    replace kx := kx.below hS kx.lt
    replace f1 := f1.trans (hS.mono hw4)
    have ru := (rl.below f1).more f1.size
    have hlx := kx.lt
    have hls := k1.lt
    have hlg := kg.lt
    have cx8 : u.cell? ⟨g6, 8, none⟩ = some (.slice A' q c') := by rw [kx.cell, shaC_8 hV]
    have cx9 : u.cell? ⟨g6, 9, none⟩ = some (.int .u64 (N' : Int)) := by rw [kx.cell, shaC_9 hV]
    have cs8 : u.cell? ⟨w.heap.size, 8, none⟩ = some (.slice A n c) := by rw [k1.cell, shaC_8 hh]
    have cs9 : u.cell? ⟨w.heap.size, 9, none⟩ = some (.int .u64 (NN : Int)) := by rw [k1.cell, shaC_9 hh]
    have hst1 := run_str T23 fr5.rd c' 9 Try.underlying9
    have hst2 := run_str T23 r9 c9 9 Try.underlying9
    have hst3 := run_str T23 ru c 9 Try.underlying9
    have krx := kx.range 0 8
    rw [shaC_H hV] at krx
    have ke := fun w : World => run_equalIn_words (P := Try.prog) Try.underlying41 Try.underlying40 (by kernel_rfl) V V hV hV w
    rw [show decide (V = V) = true from by simp] at ke
    have hwm := IntWalk.u64_in (m : Int) (by omega)
    have hws : IntKind.u64.wrap ((NN : Int) + (m : Int)) = (N' : Int) := by rw [sha_wrap, HNe.out]
    go_upto_region 8 with (first | (refine load_part (cs := uvs V) (b := g6) (off := 0) krx rfl 41 (.tmp 39) rfl rfl Try.underlying41 HsV.out ?_) | (refine load_blk kg rfl 41 (.tmp 7) rfl rfl Try.underlying41 HsV.out ?_))
    clear cx8 cx9 cs8 cs9 hst1 hst2 hst3 krx ke hwm hws
    clear kg r9 hlg e12 e14 ru
    go_wp2_with fail
    go_loopw [9] (fun s9 wr => ∃ (k : Nat) (R' : List UInt8), k ≤ q ∧ s9 = .int .i64 k ∧ FrB wr w1.heap.size 5 A' q R' ∧ Blk wr g6 43 (shaC V A' q c' N') ∧ Blk wr w.heap.size 43 (shaC h A n c NN) ∧ Below w.heap.size w wr) (fun s9 _ => q - (intOf s9).toNat)
    case atStart => exact ⟨0, R, by omega, rfl, fr5, kx, k1, f1⟩
    case round =>
      clear k1 kx f1 fr5
      obtain ⟨k, R', hk, rfl, fr, kx, k1, f1⟩ := hrel
      have cx8 : wr.cell? ⟨g6, 8, none⟩ = some (.slice A' q c') := by rw [kx.cell, shaC_8 hV]
      by_cases hlt : k < q
      · have d3 : decide ((k : Int) < (q : Int)) = true := by simp; omega
        have b1 : (0 : Int) ≤ (k : Int) := by omega
        have b2 : (k : Int) < (q : Int) := by omega
        obtain ⟨g, off, cur, hA, hgb, kc, cc, zc, hset⟩ := fr.cellAt hlt
        subst hA
        have hne : g ≠ g6 := kc.ne kx (.inl (by decide))
        have e1 := bv_mod ((at8 R' k).toNat + 1) (((at8 R' k).toNat : Int) + 1) (by omega)
        have E1 := Lib.hid e1; clear e1
        go_wp2_with fail
        go_roundw
        case rel => exact ⟨k + 1, R'.set k (UInt8.ofNat ((at8 R' k).toNat + 1)), by omega, by go_num, by rw [E1.out]; exact hset _, kx.far (by simp; omega) _, k1.far (by simp; omega) _, f1.setCell (by simp; omega) _⟩
        case measure => simp [intOf]; omega
      · obtain rfl : k = q := by omega
        have d3 : decide ((k : Int) < (k : Int)) = false := by simp
        have cs8 : wr.cell? ⟨w.heap.size, 8, none⟩ = some (.slice A n c) := by rw [k1.cell, shaC_8 hh]
        have hst3 := run_str T23 ((rl.below f1).more f1.size) c 9 Try.underlying9
        go_wp2_with fail
        clear hst3 cs8 cx8
        refine (new_any wr).mono ?_
        rintro e w5 ⟨rfl, f5⟩
        have lk3 := k1.lt
        replace k1 := k1.below f5 lk3
        replace f1 := f1.trans (f5.mono f1.size)
        clear f5 kx fr
        have hs0 : (Try.prog.info? 43).map (·.size) = some (shaC H0 none 0 0 0).length := hi10
        have Hs0 := Lib.hid hs0; clear hs0
        go_upto_region 15 with (first | (refine store_blk (cs := shaC (List.replicate 8 0) none 0 0 0) (Blk.newAt rfl 43 _) rfl 43 (.tmp 10) (.tmp 88) rfl rfl (us := shaC H0 none 0 0 0) rfl Hs0.out rfl (shaC_all _ _ _ _ _) ?_; intro w6 ky hg; have f6 : Below w5.heap.size w5 w6 := ((Below.refl _ w5).alloc (Nat.le_refl _) _).grown hg (by simp) (by simp)))
        have lk4 := k1.lt
        replace k1 := k1.below f6 lk4
        replace f1 := f1.trans (f6.mono f1.size)
        clear hg f6
        generalize w5.heap.size = gy at *
        have r6 := (rl.below f1).more f1.size
        have hH0 : (Try.prog.info? 41).map (·.size) = some (uvs H0).length := hi8
        have HH0 := Lib.hid hH0; clear hH0
        refine wp_region_facts (fun u => Below w6.heap.size w6 u) [
          fun _ v _ => v = .agg (shaC h A n c NN).toArray,
          fun _ v _ => v = .agg (bvs (sumB h l NN)).toArray,
          fun _ v _ => v = .pointer (some ⟨w.heap.size, 0, none⟩),
          fun _ v _ => v = .agg (uvs h).toArray,
          fun _ v _ => v = .pointer (some ⟨w.heap.size, 8, none⟩),
          fun _ v _ => v = .slice A n c,
          fun _ v _ => v = .pointer (some ⟨w.heap.size, 9, none⟩),
          fun _ v _ => v = .int .u64 (NN : Int),
          fun _ v _ => v = .agg (bvs (sumB h l NN)).toArray,
          fun _ v _ => v = .bool true,
          fun _ v _ => v = .bool true,
          fun _ v _ => v = .pointer (some ⟨gy, 0, none⟩),
          fun _ v _ => v = .agg (uvs H0).toArray,
          fun _ v _ => v = .agg (uvs H0).toArray,
          fun _ v _ => v = .bool true,
          fun _ v _ => v = .bool true,
          fun _ v _ => v = .bool true,
          fun _ v _ => v = .pointer (some ⟨gy, 8, none⟩),
          fun _ v _ => v = .slice none 0 0,
          fun _ v _ => v = .int .i64 0,
          fun _ v _ => v = .bool true,
          fun _ v _ => v = .bool true,
          fun _ v _ => v = .bool true,
          fun _ v _ => v = .pointer (some ⟨gy, 9, none⟩),
          fun _ v _ => v = .int .u64 0,
          fun _ v _ => v = .bool true,
          fun _ v _ => v = .bool true,
          fun _ v _ => v = .bool true,
          fun _ v _ => v = .bool true,
          fun _ v _ => v = .bool true,
          fun _ v _ => v = .bool true] (fun u u' => Below u.heap.size u u')
          [[], [0], [], [2], [], [4], [], [6], [3, 5, 7], [1, 8], [9], [10], [10, 11], [10], [10, 12, 13], [10, 14], [15], [16], [16, 17], [16, 18], [16, 19], [16, 20], [21], [22], [22, 23], [22, 24], [22, 25], [26], [27], [27, 28], [29]] [] []
          (by kernel_rfl) (by kernel_rfl) ?_ (fun _ _ _ _ _ h => h) ((Below.refl _ _).drew) ?_ ?_
        · refine hE_of (fun u u' h f => f.trans (h.mono f.size)) ?_
          repeat' (first | exact mono_nil | refine mono_cons (fun xs v u u' h => ?_) ?_)
          all_goals exact _root_.id
        ·
          refine owed_cons (fun vs u hS hD N => ?_) ?_
          · clear hD
            intro hN
            simp only [fact, layAt, depOn, dstOf, List.map_cons, List.map_nil, List.foldl_cons, List.foldl_nil, List.getD_cons_zero, List.getD_cons_succ, List.getElem?_cons_zero, List.getElem?_cons_succ, Option.bind_some] at hN ⊢
            rw [if_pos (by rfl)]
            refine wp_load_blk (k1.below hS k1.lt) 43 (.tmp 2) rfl rfl Try.underlying43 HsS.out ?_
            exact hN _ _ rfl (.inl (Below.refl _ _))
          refine owed_cons (fun vs u hS hD N => ?_) ?_
          · have d0 := hD 0 (by decide)
            simp only [fact, layAt, depOn, dstOf, List.map_cons, List.map_nil, List.foldl_cons, List.foldl_nil, List.getD_cons_zero, List.getD_cons_succ, List.getElem?_cons_zero, List.getElem?_cons_succ, Option.bind_some] at d0
            clear hD
            intro hN
            simp only [fact, layAt, depOn, dstOf, List.map_cons, List.map_nil, List.foldl_cons, List.foldl_nil, List.getD_cons_zero, List.getD_cons_succ, List.getElem?_cons_zero, List.getElem?_cons_succ, Option.bind_some, d0] at hN ⊢
            go_simp
            refine (sum_any h A n c NN l u hh ((r6.below hS).more hS.size) (by omega)).mono ?_
            rintro e u' ⟨rfl, f⟩
            have hh := hN _ _ rfl (.inl f)
            revert hh
            go_simp
          refine owed_cons (fun vs u hS hD N => ?_) ?_
          · clear hD
            intro hN
            simp only [fact, layAt, depOn, dstOf, List.map_cons, List.map_nil, List.foldl_cons, List.foldl_nil, List.getD_cons_zero, List.getD_cons_succ, List.getElem?_cons_zero, List.getElem?_cons_succ, Option.bind_some] at hN ⊢
            go_simp
            have hh := hN _ _ rfl (.inl (Below.refl _ _))
            revert hh
            go_simp
          refine owed_cons (fun vs u hS hD N => ?_) ?_
          · have d2 := hD 2 (by decide)
            simp only [fact, layAt, depOn, dstOf, List.map_cons, List.map_nil, List.foldl_cons, List.foldl_nil, List.getD_cons_zero, List.getD_cons_succ, List.getElem?_cons_zero, List.getElem?_cons_succ, Option.bind_some] at d2
            clear hD
            intro hN
            simp only [fact, layAt, depOn, dstOf, List.map_cons, List.map_nil, List.foldl_cons, List.foldl_nil, List.getD_cons_zero, List.getD_cons_succ, List.getElem?_cons_zero, List.getElem?_cons_succ, Option.bind_some, d2] at hN ⊢
            rw [if_pos (by rfl)]
            have kr := (k1.below hS k1.lt).range 0 8
            rw [shaC_H hh] at kr
            refine wp_load_part (cs := uvs h) (b := w.heap.size) (off := 0) kr 41 (.tmp 91) rfl rfl Try.underlying41 Hsh.out ?_
            exact hN _ _ rfl (.inl (Below.refl _ _))
          refine owed_cons (fun vs u hS hD N => ?_) ?_
          · clear hD
            intro hN
            simp only [fact, layAt, depOn, dstOf, List.map_cons, List.map_nil, List.foldl_cons, List.foldl_nil, List.getD_cons_zero, List.getD_cons_succ, List.getElem?_cons_zero, List.getElem?_cons_succ, Option.bind_some] at hN ⊢
            go_simp
            have hh := hN _ _ rfl (.inl (Below.refl _ _))
            revert hh
            go_simp
          refine owed_cons (fun vs u hS hD N => ?_) ?_
          · have d4 := hD 4 (by decide)
            simp only [fact, layAt, depOn, dstOf, List.map_cons, List.map_nil, List.foldl_cons, List.foldl_nil, List.getD_cons_zero, List.getD_cons_succ, List.getElem?_cons_zero, List.getElem?_cons_succ, Option.bind_some] at d4
            clear hD
            intro hN
            simp only [fact, layAt, depOn, dstOf, List.map_cons, List.map_nil, List.foldl_cons, List.foldl_nil, List.getD_cons_zero, List.getD_cons_succ, List.getElem?_cons_zero, List.getElem?_cons_succ, Option.bind_some, d4] at hN ⊢
            go_simp
            have c8 : u.cell? ⟨w.heap.size, 8, none⟩ = some (.slice A n c) := by rw [(k1.below hS k1.lt).cell, shaC_8 hh]
            have hh := hN _ _ rfl (.inl (Below.refl _ _))
            revert hh
            go_simp
          refine owed_cons (fun vs u hS hD N => ?_) ?_
          · clear hD
            intro hN
            simp only [fact, layAt, depOn, dstOf, List.map_cons, List.map_nil, List.foldl_cons, List.foldl_nil, List.getD_cons_zero, List.getD_cons_succ, List.getElem?_cons_zero, List.getElem?_cons_succ, Option.bind_some] at hN ⊢
            go_simp
            have hh := hN _ _ rfl (.inl (Below.refl _ _))
            revert hh
            go_simp
          refine owed_cons (fun vs u hS hD N => ?_) ?_
          · have d6 := hD 6 (by decide)
            simp only [fact, layAt, depOn, dstOf, List.map_cons, List.map_nil, List.foldl_cons, List.foldl_nil, List.getD_cons_zero, List.getD_cons_succ, List.getElem?_cons_zero, List.getElem?_cons_succ, Option.bind_some] at d6
            clear hD
            intro hN
            simp only [fact, layAt, depOn, dstOf, List.map_cons, List.map_nil, List.foldl_cons, List.foldl_nil, List.getD_cons_zero, List.getD_cons_succ, List.getElem?_cons_zero, List.getElem?_cons_succ, Option.bind_some, d6] at hN ⊢
            go_simp
            have c8 : u.cell? ⟨w.heap.size, 9, none⟩ = some (.int .u64 (NN : Int)) := by rw [(k1.below hS k1.lt).cell, shaC_9 hh]
            have hh := hN _ _ rfl (.inl (Below.refl _ _))
            revert hh
            go_simp
          refine owed_cons (fun vs u hS hD N => ?_) ?_
          · have d3 := hD 3 (by decide)
            simp only [fact, layAt, depOn, dstOf, List.map_cons, List.map_nil, List.foldl_cons, List.foldl_nil, List.getD_cons_zero, List.getD_cons_succ, List.getElem?_cons_zero, List.getElem?_cons_succ, Option.bind_some] at d3
            have d5 := hD 5 (by decide)
            simp only [fact, layAt, depOn, dstOf, List.map_cons, List.map_nil, List.foldl_cons, List.foldl_nil, List.getD_cons_zero, List.getD_cons_succ, List.getElem?_cons_zero, List.getElem?_cons_succ, Option.bind_some] at d5
            have d7 := hD 7 (by decide)
            simp only [fact, layAt, depOn, dstOf, List.map_cons, List.map_nil, List.foldl_cons, List.foldl_nil, List.getD_cons_zero, List.getD_cons_succ, List.getElem?_cons_zero, List.getElem?_cons_succ, Option.bind_some] at d7
            clear hD
            intro hN
            simp only [fact, layAt, depOn, dstOf, List.map_cons, List.map_nil, List.foldl_cons, List.foldl_nil, List.getD_cons_zero, List.getD_cons_succ, List.getElem?_cons_zero, List.getElem?_cons_succ, Option.bind_some, d3, d5, d7] at hN ⊢
            go_simp
            refine (O2.refSum_any h A n c l NN u hh ((r6.below hS).more hS.size) (by omega) hNb).mono ?_
            rintro e u' ⟨rfl, f⟩
            have hh := hN _ _ rfl (.inl f)
            revert hh
            go_simp
          refine owed_cons (fun vs u hS hD N => ?_) ?_
          · have d1 := hD 1 (by decide)
            simp only [fact, layAt, depOn, dstOf, List.map_cons, List.map_nil, List.foldl_cons, List.foldl_nil, List.getD_cons_zero, List.getD_cons_succ, List.getElem?_cons_zero, List.getElem?_cons_succ, Option.bind_some] at d1
            have d8 := hD 8 (by decide)
            simp only [fact, layAt, depOn, dstOf, List.map_cons, List.map_nil, List.foldl_cons, List.foldl_nil, List.getD_cons_zero, List.getD_cons_succ, List.getElem?_cons_zero, List.getElem?_cons_succ, Option.bind_some] at d8
            clear hD
            intro hN
            simp only [fact, layAt, depOn, dstOf, List.map_cons, List.map_nil, List.foldl_cons, List.foldl_nil, List.getD_cons_zero, List.getD_cons_succ, List.getElem?_cons_zero, List.getElem?_cons_succ, Option.bind_some, d1, d8] at hN ⊢
            go_simp
            rw [run_equalIn_bytes (P := Try.prog) Try.underlying26 Try.underlying5 (by kernel_rfl) _ _ (sumB_length _ _ _) (sumB_length _ _ _) u]
            go_simp
            have hh := hN _ _ rfl (.inl (Below.refl _ _))
            revert hh
            go_simp
          refine owed_cons (fun vs u hS hD N => ?_) ?_
          · have d9 := hD 9 (by decide)
            simp only [fact, layAt, depOn, dstOf, List.map_cons, List.map_nil, List.foldl_cons, List.foldl_nil, List.getD_cons_zero, List.getD_cons_succ, List.getElem?_cons_zero, List.getElem?_cons_succ, Option.bind_some] at d9
            clear hD
            intro hN
            simp only [fact, layAt, depOn, dstOf, List.map_cons, List.map_nil, List.foldl_cons, List.foldl_nil, List.getD_cons_zero, List.getD_cons_succ, List.getElem?_cons_zero, List.getElem?_cons_succ, Option.bind_some, d9] at hN ⊢
            go_simp
            have hh := hN _ _ rfl (.inl (Below.refl _ _))
            revert hh
            go_simp
          refine owed_cons (fun vs u hS hD N => ?_) ?_
          · have d10 := hD 10 (by decide)
            simp only [fact, layAt, depOn, dstOf, List.map_cons, List.map_nil, List.foldl_cons, List.foldl_nil, List.getD_cons_zero, List.getD_cons_succ, List.getElem?_cons_zero, List.getElem?_cons_succ, Option.bind_some] at d10
            clear hD
            intro hN
            simp only [fact, layAt, depOn, dstOf, List.map_cons, List.map_nil, List.foldl_cons, List.foldl_nil, List.getD_cons_zero, List.getD_cons_succ, List.getElem?_cons_zero, List.getElem?_cons_succ, Option.bind_some, d10] at hN ⊢
            go_simp
            have hh := hN _ _ rfl (.inl (Below.refl _ _))
            revert hh
            go_simp
          refine owed_cons (fun vs u hS hD N => ?_) ?_
          · have d10 := hD 10 (by decide)
            simp only [fact, layAt, depOn, dstOf, List.map_cons, List.map_nil, List.foldl_cons, List.foldl_nil, List.getD_cons_zero, List.getD_cons_succ, List.getElem?_cons_zero, List.getElem?_cons_succ, Option.bind_some] at d10
            have d11 := hD 11 (by decide)
            simp only [fact, layAt, depOn, dstOf, List.map_cons, List.map_nil, List.foldl_cons, List.foldl_nil, List.getD_cons_zero, List.getD_cons_succ, List.getElem?_cons_zero, List.getElem?_cons_succ, Option.bind_some] at d11
            clear hD
            intro hN
            simp only [fact, layAt, depOn, dstOf, List.map_cons, List.map_nil, List.foldl_cons, List.foldl_nil, List.getD_cons_zero, List.getD_cons_succ, List.getElem?_cons_zero, List.getElem?_cons_succ, Option.bind_some, d10, d11] at hN ⊢
            rw [if_pos (by rfl)]
            have kr := (ky.below hS ky.lt).range 0 8
            rw [shaC_H (show H0.length = 8 from rfl)] at kr
            refine wp_load_part (cs := uvs H0) (b := gy) (off := 0) kr 41 (.tmp 100) rfl rfl Try.underlying41 HH0.out ?_
            exact hN _ _ rfl (.inl (Below.refl _ _))
          refine owed_cons (fun vs u hS hD N => ?_) ?_
          · have d10 := hD 10 (by decide)
            simp only [fact, layAt, depOn, dstOf, List.map_cons, List.map_nil, List.foldl_cons, List.foldl_nil, List.getD_cons_zero, List.getD_cons_succ, List.getElem?_cons_zero, List.getElem?_cons_succ, Option.bind_some] at d10
            clear hD
            intro hN
            simp only [fact, layAt, depOn, dstOf, List.map_cons, List.map_nil, List.foldl_cons, List.foldl_nil, List.getD_cons_zero, List.getD_cons_succ, List.getElem?_cons_zero, List.getElem?_cons_succ, Option.bind_some, d10] at hN ⊢
            go_simp
            refine (refFirst_any u).mono ?_
            rintro e u' ⟨rfl, f⟩
            have hh := hN _ _ rfl (.inl f)
            revert hh
            go_simp
          refine owed_cons (fun vs u hS hD N => ?_) ?_
          · have d10 := hD 10 (by decide)
            simp only [fact, layAt, depOn, dstOf, List.map_cons, List.map_nil, List.foldl_cons, List.foldl_nil, List.getD_cons_zero, List.getD_cons_succ, List.getElem?_cons_zero, List.getElem?_cons_succ, Option.bind_some] at d10
            have d12 := hD 12 (by decide)
            simp only [fact, layAt, depOn, dstOf, List.map_cons, List.map_nil, List.foldl_cons, List.foldl_nil, List.getD_cons_zero, List.getD_cons_succ, List.getElem?_cons_zero, List.getElem?_cons_succ, Option.bind_some] at d12
            have d13 := hD 13 (by decide)
            simp only [fact, layAt, depOn, dstOf, List.map_cons, List.map_nil, List.foldl_cons, List.foldl_nil, List.getD_cons_zero, List.getD_cons_succ, List.getElem?_cons_zero, List.getElem?_cons_succ, Option.bind_some] at d13
            clear hD
            intro hN
            simp only [fact, layAt, depOn, dstOf, List.map_cons, List.map_nil, List.foldl_cons, List.foldl_nil, List.getD_cons_zero, List.getD_cons_succ, List.getElem?_cons_zero, List.getElem?_cons_succ, Option.bind_some, d10, d12, d13] at hN ⊢
            go_simp
            rw [run_equalIn_words (P := Try.prog) Try.underlying41 Try.underlying40 (by kernel_rfl) _ _ rfl rfl u]
            go_simp
            have hh := hN _ _ rfl (.inl (Below.refl _ _))
            revert hh
            go_simp
          refine owed_cons (fun vs u hS hD N => ?_) ?_
          · have d10 := hD 10 (by decide)
            simp only [fact, layAt, depOn, dstOf, List.map_cons, List.map_nil, List.foldl_cons, List.foldl_nil, List.getD_cons_zero, List.getD_cons_succ, List.getElem?_cons_zero, List.getElem?_cons_succ, Option.bind_some] at d10
            have d14 := hD 14 (by decide)
            simp only [fact, layAt, depOn, dstOf, List.map_cons, List.map_nil, List.foldl_cons, List.foldl_nil, List.getD_cons_zero, List.getD_cons_succ, List.getElem?_cons_zero, List.getElem?_cons_succ, Option.bind_some] at d14
            clear hD
            intro hN
            simp only [fact, layAt, depOn, dstOf, List.map_cons, List.map_nil, List.foldl_cons, List.foldl_nil, List.getD_cons_zero, List.getD_cons_succ, List.getElem?_cons_zero, List.getElem?_cons_succ, Option.bind_some, d10, d14] at hN ⊢
            go_simp
            have hh := hN _ _ rfl (.inl (Below.refl _ _))
            revert hh
            go_simp
          refine owed_cons (fun vs u hS hD N => ?_) ?_
          · have d15 := hD 15 (by decide)
            simp only [fact, layAt, depOn, dstOf, List.map_cons, List.map_nil, List.foldl_cons, List.foldl_nil, List.getD_cons_zero, List.getD_cons_succ, List.getElem?_cons_zero, List.getElem?_cons_succ, Option.bind_some] at d15
            clear hD
            intro hN
            simp only [fact, layAt, depOn, dstOf, List.map_cons, List.map_nil, List.foldl_cons, List.foldl_nil, List.getD_cons_zero, List.getD_cons_succ, List.getElem?_cons_zero, List.getElem?_cons_succ, Option.bind_some, d15] at hN ⊢
            go_simp
            have hh := hN _ _ rfl (.inl (Below.refl _ _))
            revert hh
            go_simp
          refine owed_cons (fun vs u hS hD N => ?_) ?_
          · have d16 := hD 16 (by decide)
            simp only [fact, layAt, depOn, dstOf, List.map_cons, List.map_nil, List.foldl_cons, List.foldl_nil, List.getD_cons_zero, List.getD_cons_succ, List.getElem?_cons_zero, List.getElem?_cons_succ, Option.bind_some] at d16
            clear hD
            intro hN
            simp only [fact, layAt, depOn, dstOf, List.map_cons, List.map_nil, List.foldl_cons, List.foldl_nil, List.getD_cons_zero, List.getD_cons_succ, List.getElem?_cons_zero, List.getElem?_cons_succ, Option.bind_some, d16] at hN ⊢
            go_simp
            have hh := hN _ _ rfl (.inl (Below.refl _ _))
            revert hh
            go_simp
          refine owed_cons (fun vs u hS hD N => ?_) ?_
          · have d16 := hD 16 (by decide)
            simp only [fact, layAt, depOn, dstOf, List.map_cons, List.map_nil, List.foldl_cons, List.foldl_nil, List.getD_cons_zero, List.getD_cons_succ, List.getElem?_cons_zero, List.getElem?_cons_succ, Option.bind_some] at d16
            have d17 := hD 17 (by decide)
            simp only [fact, layAt, depOn, dstOf, List.map_cons, List.map_nil, List.foldl_cons, List.foldl_nil, List.getD_cons_zero, List.getD_cons_succ, List.getElem?_cons_zero, List.getElem?_cons_succ, Option.bind_some] at d17
            clear hD
            intro hN
            simp only [fact, layAt, depOn, dstOf, List.map_cons, List.map_nil, List.foldl_cons, List.foldl_nil, List.getD_cons_zero, List.getD_cons_succ, List.getElem?_cons_zero, List.getElem?_cons_succ, Option.bind_some, d16, d17] at hN ⊢
            go_simp
            have c8 : u.cell? ⟨gy, 8, none⟩ = some (.slice none 0 0) := by rw [(ky.below hS ky.lt).cell, shaC_8 (show H0.length = 8 from rfl)]
            have hh := hN _ _ rfl (.inl (Below.refl _ _))
            revert hh
            go_simp
          refine owed_cons (fun vs u hS hD N => ?_) ?_
          · have d16 := hD 16 (by decide)
            simp only [fact, layAt, depOn, dstOf, List.map_cons, List.map_nil, List.foldl_cons, List.foldl_nil, List.getD_cons_zero, List.getD_cons_succ, List.getElem?_cons_zero, List.getElem?_cons_succ, Option.bind_some] at d16
            have d18 := hD 18 (by decide)
            simp only [fact, layAt, depOn, dstOf, List.map_cons, List.map_nil, List.foldl_cons, List.foldl_nil, List.getD_cons_zero, List.getD_cons_succ, List.getElem?_cons_zero, List.getElem?_cons_succ, Option.bind_some] at d18
            clear hD
            intro hN
            simp only [fact, layAt, depOn, dstOf, List.map_cons, List.map_nil, List.foldl_cons, List.foldl_nil, List.getD_cons_zero, List.getD_cons_succ, List.getElem?_cons_zero, List.getElem?_cons_succ, Option.bind_some, d16, d18] at hN ⊢
            go_simp
            have hh := hN _ _ rfl (.inl (Below.refl _ _))
            revert hh
            go_simp
          refine owed_cons (fun vs u hS hD N => ?_) ?_
          · have d16 := hD 16 (by decide)
            simp only [fact, layAt, depOn, dstOf, List.map_cons, List.map_nil, List.foldl_cons, List.foldl_nil, List.getD_cons_zero, List.getD_cons_succ, List.getElem?_cons_zero, List.getElem?_cons_succ, Option.bind_some] at d16
            have d19 := hD 19 (by decide)
            simp only [fact, layAt, depOn, dstOf, List.map_cons, List.map_nil, List.foldl_cons, List.foldl_nil, List.getD_cons_zero, List.getD_cons_succ, List.getElem?_cons_zero, List.getElem?_cons_succ, Option.bind_some] at d19
            clear hD
            intro hN
            simp only [fact, layAt, depOn, dstOf, List.map_cons, List.map_nil, List.foldl_cons, List.foldl_nil, List.getD_cons_zero, List.getD_cons_succ, List.getElem?_cons_zero, List.getElem?_cons_succ, Option.bind_some, d16, d19] at hN ⊢
            go_simp
            have hh := hN _ _ rfl (.inl (Below.refl _ _))
            revert hh
            go_simp
          refine owed_cons (fun vs u hS hD N => ?_) ?_
          · have d16 := hD 16 (by decide)
            simp only [fact, layAt, depOn, dstOf, List.map_cons, List.map_nil, List.foldl_cons, List.foldl_nil, List.getD_cons_zero, List.getD_cons_succ, List.getElem?_cons_zero, List.getElem?_cons_succ, Option.bind_some] at d16
            have d20 := hD 20 (by decide)
            simp only [fact, layAt, depOn, dstOf, List.map_cons, List.map_nil, List.foldl_cons, List.foldl_nil, List.getD_cons_zero, List.getD_cons_succ, List.getElem?_cons_zero, List.getElem?_cons_succ, Option.bind_some] at d20
            clear hD
            intro hN
            simp only [fact, layAt, depOn, dstOf, List.map_cons, List.map_nil, List.foldl_cons, List.foldl_nil, List.getD_cons_zero, List.getD_cons_succ, List.getElem?_cons_zero, List.getElem?_cons_succ, Option.bind_some, d16, d20] at hN ⊢
            go_simp
            have hh := hN _ _ rfl (.inl (Below.refl _ _))
            revert hh
            go_simp
          refine owed_cons (fun vs u hS hD N => ?_) ?_
          · have d21 := hD 21 (by decide)
            simp only [fact, layAt, depOn, dstOf, List.map_cons, List.map_nil, List.foldl_cons, List.foldl_nil, List.getD_cons_zero, List.getD_cons_succ, List.getElem?_cons_zero, List.getElem?_cons_succ, Option.bind_some] at d21
            clear hD
            intro hN
            simp only [fact, layAt, depOn, dstOf, List.map_cons, List.map_nil, List.foldl_cons, List.foldl_nil, List.getD_cons_zero, List.getD_cons_succ, List.getElem?_cons_zero, List.getElem?_cons_succ, Option.bind_some, d21] at hN ⊢
            go_simp
            have hh := hN _ _ rfl (.inl (Below.refl _ _))
            revert hh
            go_simp
          refine owed_cons (fun vs u hS hD N => ?_) ?_
          · have d22 := hD 22 (by decide)
            simp only [fact, layAt, depOn, dstOf, List.map_cons, List.map_nil, List.foldl_cons, List.foldl_nil, List.getD_cons_zero, List.getD_cons_succ, List.getElem?_cons_zero, List.getElem?_cons_succ, Option.bind_some] at d22
            clear hD
            intro hN
            simp only [fact, layAt, depOn, dstOf, List.map_cons, List.map_nil, List.foldl_cons, List.foldl_nil, List.getD_cons_zero, List.getD_cons_succ, List.getElem?_cons_zero, List.getElem?_cons_succ, Option.bind_some, d22] at hN ⊢
            go_simp
            have hh := hN _ _ rfl (.inl (Below.refl _ _))
            revert hh
            go_simp
          refine owed_cons (fun vs u hS hD N => ?_) ?_
          · have d22 := hD 22 (by decide)
            simp only [fact, layAt, depOn, dstOf, List.map_cons, List.map_nil, List.foldl_cons, List.foldl_nil, List.getD_cons_zero, List.getD_cons_succ, List.getElem?_cons_zero, List.getElem?_cons_succ, Option.bind_some] at d22
            have d23 := hD 23 (by decide)
            simp only [fact, layAt, depOn, dstOf, List.map_cons, List.map_nil, List.foldl_cons, List.foldl_nil, List.getD_cons_zero, List.getD_cons_succ, List.getElem?_cons_zero, List.getElem?_cons_succ, Option.bind_some] at d23
            clear hD
            intro hN
            simp only [fact, layAt, depOn, dstOf, List.map_cons, List.map_nil, List.foldl_cons, List.foldl_nil, List.getD_cons_zero, List.getD_cons_succ, List.getElem?_cons_zero, List.getElem?_cons_succ, Option.bind_some, d22, d23] at hN ⊢
            go_simp
            have c8 : u.cell? ⟨gy, 9, none⟩ = some (.int .u64 0) := by rw [(ky.below hS ky.lt).cell, shaC_9 (show H0.length = 8 from rfl)]; rfl
            have hh := hN _ _ rfl (.inl (Below.refl _ _))
            revert hh
            go_simp
          refine owed_cons (fun vs u hS hD N => ?_) ?_
          · have d22 := hD 22 (by decide)
            simp only [fact, layAt, depOn, dstOf, List.map_cons, List.map_nil, List.foldl_cons, List.foldl_nil, List.getD_cons_zero, List.getD_cons_succ, List.getElem?_cons_zero, List.getElem?_cons_succ, Option.bind_some] at d22
            have d24 := hD 24 (by decide)
            simp only [fact, layAt, depOn, dstOf, List.map_cons, List.map_nil, List.foldl_cons, List.foldl_nil, List.getD_cons_zero, List.getD_cons_succ, List.getElem?_cons_zero, List.getElem?_cons_succ, Option.bind_some] at d24
            clear hD
            intro hN
            simp only [fact, layAt, depOn, dstOf, List.map_cons, List.map_nil, List.foldl_cons, List.foldl_nil, List.getD_cons_zero, List.getD_cons_succ, List.getElem?_cons_zero, List.getElem?_cons_succ, Option.bind_some, d22, d24] at hN ⊢
            go_simp
            have hh := hN _ _ rfl (.inl (Below.refl _ _))
            revert hh
            go_simp
          refine owed_cons (fun vs u hS hD N => ?_) ?_
          · have d22 := hD 22 (by decide)
            simp only [fact, layAt, depOn, dstOf, List.map_cons, List.map_nil, List.foldl_cons, List.foldl_nil, List.getD_cons_zero, List.getD_cons_succ, List.getElem?_cons_zero, List.getElem?_cons_succ, Option.bind_some] at d22
            have d25 := hD 25 (by decide)
            simp only [fact, layAt, depOn, dstOf, List.map_cons, List.map_nil, List.foldl_cons, List.foldl_nil, List.getD_cons_zero, List.getD_cons_succ, List.getElem?_cons_zero, List.getElem?_cons_succ, Option.bind_some] at d25
            clear hD
            intro hN
            simp only [fact, layAt, depOn, dstOf, List.map_cons, List.map_nil, List.foldl_cons, List.foldl_nil, List.getD_cons_zero, List.getD_cons_succ, List.getElem?_cons_zero, List.getElem?_cons_succ, Option.bind_some, d22, d25] at hN ⊢
            go_simp
            have hh := hN _ _ rfl (.inl (Below.refl _ _))
            revert hh
            go_simp
          refine owed_cons (fun vs u hS hD N => ?_) ?_
          · have d26 := hD 26 (by decide)
            simp only [fact, layAt, depOn, dstOf, List.map_cons, List.map_nil, List.foldl_cons, List.foldl_nil, List.getD_cons_zero, List.getD_cons_succ, List.getElem?_cons_zero, List.getElem?_cons_succ, Option.bind_some] at d26
            clear hD
            intro hN
            simp only [fact, layAt, depOn, dstOf, List.map_cons, List.map_nil, List.foldl_cons, List.foldl_nil, List.getD_cons_zero, List.getD_cons_succ, List.getElem?_cons_zero, List.getElem?_cons_succ, Option.bind_some, d26] at hN ⊢
            go_simp
            have hh := hN _ _ rfl (.inl (Below.refl _ _))
            revert hh
            go_simp
          refine owed_cons (fun vs u hS hD N => ?_) ?_
          · have d27 := hD 27 (by decide)
            simp only [fact, layAt, depOn, dstOf, List.map_cons, List.map_nil, List.foldl_cons, List.foldl_nil, List.getD_cons_zero, List.getD_cons_succ, List.getElem?_cons_zero, List.getElem?_cons_succ, Option.bind_some] at d27
            clear hD
            intro hN
            simp only [fact, layAt, depOn, dstOf, List.map_cons, List.map_nil, List.foldl_cons, List.foldl_nil, List.getD_cons_zero, List.getD_cons_succ, List.getElem?_cons_zero, List.getElem?_cons_succ, Option.bind_some, d27] at hN ⊢
            go_simp
            refine (awake1_any _).mono ?_
            rintro e u' ⟨rfl, f⟩
            have hh := hN _ _ rfl (.inl f)
            revert hh
            go_simp
          refine owed_cons (fun vs u hS hD N => ?_) ?_
          · have d27 := hD 27 (by decide)
            simp only [fact, layAt, depOn, dstOf, List.map_cons, List.map_nil, List.foldl_cons, List.foldl_nil, List.getD_cons_zero, List.getD_cons_succ, List.getElem?_cons_zero, List.getElem?_cons_succ, Option.bind_some] at d27
            have d28 := hD 28 (by decide)
            simp only [fact, layAt, depOn, dstOf, List.map_cons, List.map_nil, List.foldl_cons, List.foldl_nil, List.getD_cons_zero, List.getD_cons_succ, List.getElem?_cons_zero, List.getElem?_cons_succ, Option.bind_some] at d28
            clear hD
            intro hN
            simp only [fact, layAt, depOn, dstOf, List.map_cons, List.map_nil, List.foldl_cons, List.foldl_nil, List.getD_cons_zero, List.getD_cons_succ, List.getElem?_cons_zero, List.getElem?_cons_succ, Option.bind_some, d27, d28] at hN ⊢
            go_simp
            have hh := hN _ _ rfl (.inl (Below.refl _ _))
            revert hh
            go_simp
          refine owed_cons (fun vs u hS hD N => ?_) ?_
          · have d29 := hD 29 (by decide)
            simp only [fact, layAt, depOn, dstOf, List.map_cons, List.map_nil, List.foldl_cons, List.foldl_nil, List.getD_cons_zero, List.getD_cons_succ, List.getElem?_cons_zero, List.getElem?_cons_succ, Option.bind_some] at d29
            clear hD
            intro hN
            simp only [fact, layAt, depOn, dstOf, List.map_cons, List.map_nil, List.foldl_cons, List.foldl_nil, List.getD_cons_zero, List.getD_cons_succ, List.getElem?_cons_zero, List.getElem?_cons_succ, Option.bind_some, d29] at hN ⊢
            go_simp
            have hh := hN _ _ rfl (.inl (Below.refl _ _))
            revert hh
            go_simp
          exact owed_nil
        ·
          intro vs u hS hF
          have d30 := hF 30 (by decide) (by decide)
          simp only [fact, layAt, depOn, dstOf, List.map_cons, List.map_nil, List.foldl_cons, List.foldl_nil, List.getD_cons_zero, List.getD_cons_succ, List.getElem?_cons_zero, List.getElem?_cons_succ, Option.bind_some] at d30
          clear hF
          simp only [List.length_cons, List.length_nil, Nat.reduceAdd, List.range, List.range.loop, fact, layAt, depOn, dstOf, List.map_cons, List.map_nil, List.foldl_cons, List.foldl_nil, List.getD_cons_zero, List.getD_cons_succ, List.getElem?_cons_zero, List.getElem?_cons_succ, Option.bind_some, d30]
          go_simp
          go_wp2_with fail
          go_ret
          exact ⟨rfl, f1.trans (hS.mono f1.size)⟩
end Go.Proofs.Ythjaomkjjlgjeaa.F3
