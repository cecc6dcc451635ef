/- The law ShaBlock, walked. No condition. -/
import Derived.Test.YthjaomkjjlgjeaaShaBlocksWalk
import Derived.Test.YthjaomkjjlgjeaaRefFirst
import Derived.Test.YthjaomkjjlgjeaaOpenS
namespace Go.Proofs.Ythjaomkjjlgjeaa
open Go.RowKit F2
set_option linter.unusedSimpArgs false
set_option linter.unusedVariables false
attribute [local irreducible] comp
set_option maxRecDepth 100000 in
set_option maxHeartbeats 4000000 in
theorem shaBlock_walk (w : World) (h : List UInt32) (hh : h.length = 8) (A : Option Addr) (n c : Nat) (l : List UInt8) (rl : RdB w w.heap.size A n l) (hnc : n ≤ c) (_ : c ≤ maxLen) (q : Nat) (hq : q < 18446744073709551616) :
    Calls Try.prog 13 #[.agg (uvs h).toArray, .slice A n c, .int .u64 q] w fun e w' => e = .returned (.bool true) ∧ Below w.heap.size w w' := by
  have hi8 : (Try.prog.info? 41).map (·.size) = some 8 := by kernel_rfl
  have hsh : (Try.prog.info? 41).map (·.size) = some (uvs h).length := by rw [uvs_length, hh]; exact hi8
  have Hsh := Lib.hid hsh; clear hsh
  by_cases hn : 1000 < n
  · have d1 : decide ((1000 : Int) < (n : Int)) = true := by simp; omega
    go_enter Try.func13, Try.ntmps13
    go_wp2_with fail
    refine (awake1_any _).mono ?_
    rintro e w1 ⟨rfl, f1⟩
    go_wp2_with fail
    go_ret
    exact ⟨rfl, ((Below.refl _ w).alloc (Nat.le_refl _) _).trans (f1.mono (by simp))⟩
  have d1 : decide ((1000 : Int) < (n : Int)) = false := by simp; omega
  have hl := rl.1
  -- what Block answers
  obtain ⟨V, ev, hV, hbl⟩ : ∃ (V : List UInt32) (ev : Nat), V.length = 8 ∧ (∀ w : World, RdB w w.heap.size A n l → Calls Try.prog 34 #[.agg (uvs h).toArray, .slice A n c] w fun e w' => e = .returned (.tuple #[.agg (uvs V).toArray, .int .i64 ev]) ∧ Below w.heap.size w w') ∧ (n = 64 → V = comp KEYS h l ∧ ev = 0) ∧ (n ≠ 64 → V = List.replicate 8 0 ∧ ev = 1) := by
    by_cases h64 : n = 64
    · subst h64
      exact ⟨comp KEYS h l, 0, by rw [comp_length, hh], fun w r => block_any h A c l w hh r hnc, fun _ => ⟨rfl, rfl⟩, fun h => absurd rfl h⟩
    · exact ⟨List.replicate 8 0, 1, rfl, fun w _ => block_not h A n c w h64, fun h => absurd h h64, fun _ => ⟨rfl, rfl⟩⟩
  obtain ⟨hbl, h64y, h64n⟩ := hbl
  have hsV : (Try.prog.info? 41).map (·.size) = some (uvs V).length := by rw [uvs_length, hV]; exact hi8
  have HsV := Lib.hid hsV; clear hsV
  have hzV : (uvs (List.replicate 8 0)).length = (uvs V).length := by rw [uvs_length, uvs_length, hV]; rfl
  have HzV := Lib.hid hzV; clear hzV hi8
  have H64y := Lib.hid h64y; clear h64y
  have H64n := Lib.hid h64n; clear h64n
  have hzl := zeros_lt q
  go_enter Try.func13, Try.ntmps13
  go_upto_region 1 with fail
  refine abs (fun w1 => Blk w1 w.heap.size 41 (uvs h) ∧ Below w.heap.size w w1) ⟨Blk.of_new w _ _, (Below.refl _ w).alloc (Nat.le_refl _) _⟩ ?_
  rintro w1 ⟨k1, f1⟩
  go_wp2_with (first | (refine load_blk k1 rfl 41 (.tmp 3) rfl rfl Try.underlying41 Hsh.out ?_))
  refine (hbl w1 ((rl.below f1).more f1.size)).mono ?_
  rintro e w2 ⟨rfl, f2⟩
  replace k1 := k1.below f2 k1.lt
  replace f1 := f1.trans (f2.mono f1.size)
  clear f2 w1
  go_upto_region 4 with (first | (refine store_blk (Blk.newAt rfl 41 _) rfl 41 (.tmp 7) (.tmp 17) rfl rfl (us := uvs V) rfl HsV.out HzV.out (uvs_all _) ?_; intro w3 k3 hg; have f3 : Below w2.heap.size w2 w3 := ((Below.refl _ w2).alloc (Nat.le_refl _) _).grown hg (by simp) (by simp)))
  have lk := k1.lt
  replace k1 := k1.below f3 lk
  replace f1 := f1.trans (f3.mono f1.size)
  have hg2 : w.heap.size < w2.heap.size := lk
  generalize w2.heap.size = g at *
  clear hg f3 lk w2
  refine wp_region_facts (fun u => Below w3.heap.size w3 u) [
    fun _ v _ => v = .int .u64 (q : Int),
    fun _ v u => ∃ A' c', v = .slice A' (zeros q + 9) c' ∧ RdB u u.heap.size A' (zeros q + 9) (endB q),
    fun _ v _ => v = .string (strB (endB q)),
    fun _ v _ => v = .int .u64 (q : Int),
    fun _ v u => ∃ A' c', v = .slice A' (zeros q + 9) c' ∧ RdB u u.heap.size A' (zeros q + 9) (endB q),
    fun _ v _ => v = .string (strB (endB q)),
    fun _ v _ => v = .bool false] (fun u u' => Below u.heap.size u u')
    [[], [0], [1], [], [3], [4], [2, 5]] []
    (by kernel_rfl) (by kernel_rfl) ?_ (fun _ _ _ _ _ h => h) ((Below.refl _ _).drew) ?_ ?_
  · refine hE_of (fun u u' h f => f.trans (h.mono f.size)) ?_
    repeat' (first | exact mono_nil | refine mono_cons (fun xs v u u' h => ?_) ?_)
    all_goals first | exact _root_.id | (rintro ⟨A', c', e, r⟩; exact ⟨A', c', e, (r.below h).more h.size⟩)
  ·
    refine owed_cons (fun vs u hS hD N => ?_) ?_
    · clear hD
      intro hN
      simp only [fact, layAt, depOn, dstOf, List.map_cons, List.map_nil, List.foldl_cons, List.foldl_nil, List.getD_cons_zero, List.getD_cons_succ, List.getElem?_cons_zero, List.getElem?_cons_succ, Option.bind_some] at hN ⊢
      go_simp
      have hh := hN _ _ rfl (.inl (Below.refl _ _))
      revert hh
      go_simp
    refine owed_cons (fun vs u hS hD N => ?_) ?_
    · have d0 := hD 0 (by decide)
      simp only [fact, layAt, depOn, dstOf, List.map_cons, List.map_nil, List.foldl_cons, List.foldl_nil, List.getD_cons_zero, List.getD_cons_succ, List.getElem?_cons_zero, List.getElem?_cons_succ, Option.bind_some] at d0
      clear hD
      intro hN
      simp only [fact, layAt, depOn, dstOf, List.map_cons, List.map_nil, List.foldl_cons, List.foldl_nil, List.getD_cons_zero, List.getD_cons_succ, List.getElem?_cons_zero, List.getElem?_cons_succ, Option.bind_some, d0] at hN ⊢
      go_simp
      refine (end_any' q u).mono ?_
      rintro e u' ⟨g', c', rfl, o, f⟩
      have hh := hN _ _ ⟨some ⟨g', 0, none⟩, c', rfl, o.rd⟩ (.inl f)
      revert hh
      go_simp
    refine owed_cons (fun vs u hS hD N => ?_) ?_
    · have d1 := hD 1 (by decide)
      simp only [fact, layAt, depOn, dstOf, List.map_cons, List.map_nil, List.foldl_cons, List.foldl_nil, List.getD_cons_zero, List.getD_cons_succ, List.getElem?_cons_zero, List.getElem?_cons_succ, Option.bind_some] at d1
      obtain ⟨A', c', e1, r⟩ := d1
      clear hD
      intro hN
      simp only [fact, layAt, depOn, dstOf, List.map_cons, List.map_nil, List.foldl_cons, List.foldl_nil, List.getD_cons_zero, List.getD_cons_succ, List.getElem?_cons_zero, List.getElem?_cons_succ, Option.bind_some, e1] at hN ⊢
      go_simp
      rw [run_str T23 r c' 9 Try.underlying9]
      go_simp
      have hh := hN _ _ rfl (.inl (Below.refl _ _))
      revert hh
      go_simp
    refine owed_cons (fun vs u hS hD N => ?_) ?_
    · clear hD
      intro hN
      simp only [fact, layAt, depOn, dstOf, List.map_cons, List.map_nil, List.foldl_cons, List.foldl_nil, List.getD_cons_zero, List.getD_cons_succ, List.getElem?_cons_zero, List.getElem?_cons_succ, Option.bind_some] at hN ⊢
      go_simp
      have hh := hN _ _ rfl (.inl (Below.refl _ _))
      revert hh
      go_simp
    refine owed_cons (fun vs u hS hD N => ?_) ?_
    · have d3 := hD 3 (by decide)
      simp only [fact, layAt, depOn, dstOf, List.map_cons, List.map_nil, List.foldl_cons, List.foldl_nil, List.getD_cons_zero, List.getD_cons_succ, List.getElem?_cons_zero, List.getElem?_cons_succ, Option.bind_some] at d3
      clear hD
      intro hN
      simp only [fact, layAt, depOn, dstOf, List.map_cons, List.map_nil, List.foldl_cons, List.foldl_nil, List.getD_cons_zero, List.getD_cons_succ, List.getElem?_cons_zero, List.getElem?_cons_succ, Option.bind_some, d3] at hN ⊢
      go_simp
      refine (refEnd_any q hq u).mono ?_
      rintro e u' ⟨g', rfl, o, f⟩
      have hh := hN _ _ ⟨some ⟨g', 0, none⟩, zeros q + 9, rfl, o.rd⟩ (.inl f)
      revert hh
      go_simp
    refine owed_cons (fun vs u hS hD N => ?_) ?_
    · have d4 := hD 4 (by decide)
      simp only [fact, layAt, depOn, dstOf, List.map_cons, List.map_nil, List.foldl_cons, List.foldl_nil, List.getD_cons_zero, List.getD_cons_succ, List.getElem?_cons_zero, List.getElem?_cons_succ, Option.bind_some] at d4
      obtain ⟨A', c', e4, r⟩ := d4
      clear hD
      intro hN
      simp only [fact, layAt, depOn, dstOf, List.map_cons, List.map_nil, List.foldl_cons, List.foldl_nil, List.getD_cons_zero, List.getD_cons_succ, List.getElem?_cons_zero, List.getElem?_cons_succ, Option.bind_some, e4] at hN ⊢
      go_simp
      rw [run_str T23 r c' 9 Try.underlying9]
      go_simp
      have hh := hN _ _ rfl (.inl (Below.refl _ _))
      revert hh
      go_simp
    refine owed_cons (fun vs u hS hD N => ?_) ?_
    · have d2 := hD 2 (by decide)
      simp only [fact, layAt, depOn, dstOf, List.map_cons, List.map_nil, List.foldl_cons, List.foldl_nil, List.getD_cons_zero, List.getD_cons_succ, List.getElem?_cons_zero, List.getElem?_cons_succ, Option.bind_some] at d2
      have d5 := hD 5 (by decide)
      simp only [fact, layAt, depOn, dstOf, List.map_cons, List.map_nil, List.foldl_cons, List.foldl_nil, List.getD_cons_zero, List.getD_cons_succ, List.getElem?_cons_zero, List.getElem?_cons_succ, Option.bind_some] at d5
      clear hD
      intro hN
      simp only [fact, layAt, depOn, dstOf, List.map_cons, List.map_nil, List.foldl_cons, List.foldl_nil, List.getD_cons_zero, List.getD_cons_succ, List.getElem?_cons_zero, List.getElem?_cons_succ, Option.bind_some, d2, d5] at hN ⊢
      go_simp
      have hh := hN _ _ rfl (.inl (Below.refl _ _))
      revert hh
      go_simp
    exact owed_nil
  ·
    intro vs u hS hF
    have d6 := hF 6 (by decide) (by decide)
    simp only [fact, layAt, depOn, dstOf, List.map_cons, List.map_nil, List.foldl_cons, List.foldl_nil, List.getD_cons_zero, List.getD_cons_succ, List.getElem?_cons_zero, List.getElem?_cons_succ, Option.bind_some] at d6
    clear hF
    simp only [List.length_cons, List.length_nil, Nat.reduceAdd, List.range, List.range.loop, fact, layAt, depOn, dstOf, List.map_cons, List.map_nil, List.foldl_cons, List.foldl_nil, List.getD_cons_zero, List.getD_cons_succ, List.getElem?_cons_zero, List.getElem?_cons_succ, Option.bind_some, d6]
    go_simp
    clear hzl
    by_cases h64 : n = 64
    · obtain ⟨hV1, rfl⟩ := H64y.out h64
      clear H64y H64n hbl
      have HV1 := Lib.hid hV1; clear hV1
      have d5 : ((n : Int) != 64) = false := by simp; omega
      replace k3 := k3.below hS k3.lt
      replace k1 := k1.below hS k1.lt
      replace f1 := f1.trans (hS.mono f1.size)
      clear hS
      go_upto_region 8 with fail
      have r4 := (rl.below f1).more f1.size
      have h64c : 64 ≤ c := by omega
      subst h64
      refine wp_region_facts (fun u' => Below u.heap.size u u') [
        fun _ v _ => v = .int .i64 0,
        fun _ v _ => v = .bool true,
        fun _ v _ => v = .bool true,
        fun _ v _ => v = .agg (uvs V).toArray,
        fun _ v _ => v = .agg (uvs h).toArray,
        fun _ v _ => v = .slice A 64 c,
        fun _ v _ => v = .agg (uvs KEYS).toArray,
        fun _ v _ => v = .agg (uvs V).toArray,
        fun _ v _ => v = .bool true,
        fun _ v _ => v = .bool true,
        fun _ v _ => v = .bool true,
        fun _ v _ => v = .bool true,
        fun _ v _ => v = .bool true,
        fun _ v _ => v = .bool true] (fun u u' => Below u.heap.size u u')
        [[], [0], [1], [2], [2], [2], [2], [2, 4, 5, 6], [2, 3, 7], [2, 8], [9], [10], [10, 11], [12]] []
        (by kernel_rfl) (by kernel_rfl) ?_ (fun _ _ _ _ _ h => h) ((Below.refl _ _).drew) ?_ ?_
      · refine hE_of (fun u u' h f => f.trans (h.mono f.size)) ?_
        repeat' (first | exact mono_nil | refine mono_cons (fun xs v u u' h => ?_) ?_)
        all_goals exact _root_.id
      ·
        refine owed_cons (fun vs u hS hD N => ?_) ?_
        · clear hD
          intro hN
          simp only [fact, layAt, depOn, dstOf, List.map_cons, List.map_nil, List.foldl_cons, List.foldl_nil, List.getD_cons_zero, List.getD_cons_succ, List.getElem?_cons_zero, List.getElem?_cons_succ, Option.bind_some] at hN ⊢
          go_simp
          have hh := hN _ _ rfl (.inl (Below.refl _ _))
          revert hh
          go_simp
        refine owed_cons (fun vs u hS hD N => ?_) ?_
        · have d0 := hD 0 (by decide)
          simp only [fact, layAt, depOn, dstOf, List.map_cons, List.map_nil, List.foldl_cons, List.foldl_nil, List.getD_cons_zero, List.getD_cons_succ, List.getElem?_cons_zero, List.getElem?_cons_succ, Option.bind_some] at d0
          clear hD
          intro hN
          simp only [fact, layAt, depOn, dstOf, List.map_cons, List.map_nil, List.foldl_cons, List.foldl_nil, List.getD_cons_zero, List.getD_cons_succ, List.getElem?_cons_zero, List.getElem?_cons_succ, Option.bind_some, d0] at hN ⊢
          go_simp
          have hh := hN _ _ rfl (.inl (Below.refl _ _))
          revert hh
          go_simp
        refine owed_cons (fun vs u hS hD N => ?_) ?_
        · have d1 := hD 1 (by decide)
          simp only [fact, layAt, depOn, dstOf, List.map_cons, List.map_nil, List.foldl_cons, List.foldl_nil, List.getD_cons_zero, List.getD_cons_succ, List.getElem?_cons_zero, List.getElem?_cons_succ, Option.bind_some] at d1
          clear hD
          intro hN
          simp only [fact, layAt, depOn, dstOf, List.map_cons, List.map_nil, List.foldl_cons, List.foldl_nil, List.getD_cons_zero, List.getD_cons_succ, List.getElem?_cons_zero, List.getElem?_cons_succ, Option.bind_some, d1] at hN ⊢
          go_simp
          have hh := hN _ _ rfl (.inl (Below.refl _ _))
          revert hh
          go_simp
        refine owed_cons (fun vs u hS hD N => ?_) ?_
        · have d2 := hD 2 (by decide)
          simp only [fact, layAt, depOn, dstOf, List.map_cons, List.map_nil, List.foldl_cons, List.foldl_nil, List.getD_cons_zero, List.getD_cons_succ, List.getElem?_cons_zero, List.getElem?_cons_succ, Option.bind_some] at d2
          clear hD
          intro hN
          simp only [fact, layAt, depOn, dstOf, List.map_cons, List.map_nil, List.foldl_cons, List.foldl_nil, List.getD_cons_zero, List.getD_cons_succ, List.getElem?_cons_zero, List.getElem?_cons_succ, Option.bind_some, d2] at hN ⊢
          rw [if_pos (by rfl)]
          refine wp_load_blk (k3.below hS k3.lt) 41 (.tmp 7) rfl rfl Try.underlying41 HsV.out ?_
          exact hN _ _ rfl (.inl (Below.refl _ _))
        refine owed_cons (fun vs u hS hD N => ?_) ?_
        · have d2 := hD 2 (by decide)
          simp only [fact, layAt, depOn, dstOf, List.map_cons, List.map_nil, List.foldl_cons, List.foldl_nil, List.getD_cons_zero, List.getD_cons_succ, List.getElem?_cons_zero, List.getElem?_cons_succ, Option.bind_some] at d2
          clear hD
          intro hN
          simp only [fact, layAt, depOn, dstOf, List.map_cons, List.map_nil, List.foldl_cons, List.foldl_nil, List.getD_cons_zero, List.getD_cons_succ, List.getElem?_cons_zero, List.getElem?_cons_succ, Option.bind_some, d2] at hN ⊢
          rw [if_pos (by rfl)]
          refine wp_load_blk (k1.below hS k1.lt) 41 (.tmp 3) rfl rfl Try.underlying41 Hsh.out ?_
          exact hN _ _ rfl (.inl (Below.refl _ _))
        refine owed_cons (fun vs u hS hD N => ?_) ?_
        · have d2 := hD 2 (by decide)
          simp only [fact, layAt, depOn, dstOf, List.map_cons, List.map_nil, List.foldl_cons, List.foldl_nil, List.getD_cons_zero, List.getD_cons_succ, List.getElem?_cons_zero, List.getElem?_cons_succ, Option.bind_some] at d2
          clear hD
          intro hN
          simp only [fact, layAt, depOn, dstOf, List.map_cons, List.map_nil, List.foldl_cons, List.foldl_nil, List.getD_cons_zero, List.getD_cons_succ, List.getElem?_cons_zero, List.getElem?_cons_succ, Option.bind_some, d2] at hN ⊢
          go_simp
          have hh := hN _ _ rfl (.inl (Below.refl _ _))
          revert hh
          go_simp
        refine owed_cons (fun vs u hS hD N => ?_) ?_
        · have d2 := hD 2 (by decide)
          simp only [fact, layAt, depOn, dstOf, List.map_cons, List.map_nil, List.foldl_cons, List.foldl_nil, List.getD_cons_zero, List.getD_cons_succ, List.getElem?_cons_zero, List.getElem?_cons_succ, Option.bind_some] at d2
          clear hD
          intro hN
          simp only [fact, layAt, depOn, dstOf, List.map_cons, List.map_nil, List.foldl_cons, List.foldl_nil, List.getD_cons_zero, List.getD_cons_succ, List.getElem?_cons_zero, List.getElem?_cons_succ, Option.bind_some, d2] at hN ⊢
          go_simp
          refine (refKeys_any u).mono ?_
          rintro e u' ⟨rfl, f⟩
          have hh := hN _ _ rfl (.inl f)
          revert hh
          go_simp
        refine owed_cons (fun vs u hS hD N => ?_) ?_
        · have d2 := hD 2 (by decide)
          simp only [fact, layAt, depOn, dstOf, List.map_cons, List.map_nil, List.foldl_cons, List.foldl_nil, List.getD_cons_zero, List.getD_cons_succ, List.getElem?_cons_zero, List.getElem?_cons_succ, Option.bind_some] at d2
          have d4 := hD 4 (by decide)
          simp only [fact, layAt, depOn, dstOf, List.map_cons, List.map_nil, List.foldl_cons, List.foldl_nil, List.getD_cons_zero, List.getD_cons_succ, List.getElem?_cons_zero, List.getElem?_cons_succ, Option.bind_some] at d4
          have d5 := hD 5 (by decide)
          simp only [fact, layAt, depOn, dstOf, List.map_cons, List.map_nil, List.foldl_cons, List.foldl_nil, List.getD_cons_zero, List.getD_cons_succ, List.getElem?_cons_zero, List.getElem?_cons_succ, Option.bind_some] at d5
          have d6 := hD 6 (by decide)
          simp only [fact, layAt, depOn, dstOf, List.map_cons, List.map_nil, List.foldl_cons, List.foldl_nil, List.getD_cons_zero, List.getD_cons_succ, List.getElem?_cons_zero, List.getElem?_cons_succ, Option.bind_some] at d6
          clear hD
          intro hN
          simp only [fact, layAt, depOn, dstOf, List.map_cons, List.map_nil, List.foldl_cons, List.foldl_nil, List.getD_cons_zero, List.getD_cons_succ, List.getElem?_cons_zero, List.getElem?_cons_succ, Option.bind_some, d2, d4, d5, d6] at hN ⊢
          go_simp
          refine (refBlock_any h A c l KEYS u hh rfl ((r4.below hS).more hS.size) h64c).mono ?_
          rintro e u' ⟨rfl, f⟩
          rw [← HV1.out]
          have hh := hN _ _ rfl (.inl f)
          revert hh
          go_simp
        refine owed_cons (fun vs u hS hD N => ?_) ?_
        · have d2 := hD 2 (by decide)
          simp only [fact, layAt, depOn, dstOf, List.map_cons, List.map_nil, List.foldl_cons, List.foldl_nil, List.getD_cons_zero, List.getD_cons_succ, List.getElem?_cons_zero, List.getElem?_cons_succ, Option.bind_some] at d2
          have d3 := hD 3 (by decide)
          simp only [fact, layAt, depOn, dstOf, List.map_cons, List.map_nil, List.foldl_cons, List.foldl_nil, List.getD_cons_zero, List.getD_cons_succ, List.getElem?_cons_zero, List.getElem?_cons_succ, Option.bind_some] at d3
          have d7 := hD 7 (by decide)
          simp only [fact, layAt, depOn, dstOf, List.map_cons, List.map_nil, List.foldl_cons, List.foldl_nil, List.getD_cons_zero, List.getD_cons_succ, List.getElem?_cons_zero, List.getElem?_cons_succ, Option.bind_some] at d7
          clear hD
          intro hN
          simp only [fact, layAt, depOn, dstOf, List.map_cons, List.map_nil, List.foldl_cons, List.foldl_nil, List.getD_cons_zero, List.getD_cons_succ, List.getElem?_cons_zero, List.getElem?_cons_succ, Option.bind_some, d2, d3, d7] at hN ⊢
          go_simp
          rw [run_equalIn_words (P := Try.prog) Try.underlying41 Try.underlying40 (by kernel_rfl) _ _ hV hV u]
          go_simp
          have hh := hN _ _ rfl (.inl (Below.refl _ _))
          revert hh
          go_simp
        refine owed_cons (fun vs u hS hD N => ?_) ?_
        · have d2 := hD 2 (by decide)
          simp only [fact, layAt, depOn, dstOf, List.map_cons, List.map_nil, List.foldl_cons, List.foldl_nil, List.getD_cons_zero, List.getD_cons_succ, List.getElem?_cons_zero, List.getElem?_cons_succ, Option.bind_some] at d2
          have d8 := hD 8 (by decide)
          simp only [fact, layAt, depOn, dstOf, List.map_cons, List.map_nil, List.foldl_cons, List.foldl_nil, List.getD_cons_zero, List.getD_cons_succ, List.getElem?_cons_zero, List.getElem?_cons_succ, Option.bind_some] at d8
          clear hD
          intro hN
          simp only [fact, layAt, depOn, dstOf, List.map_cons, List.map_nil, List.foldl_cons, List.foldl_nil, List.getD_cons_zero, List.getD_cons_succ, List.getElem?_cons_zero, List.getElem?_cons_succ, Option.bind_some, d2, d8] at hN ⊢
          go_simp
          have hh := hN _ _ rfl (.inl (Below.refl _ _))
          revert hh
          go_simp
        refine owed_cons (fun vs u hS hD N => ?_) ?_
        · have d9 := hD 9 (by decide)
          simp only [fact, layAt, depOn, dstOf, List.map_cons, List.map_nil, List.foldl_cons, List.foldl_nil, List.getD_cons_zero, List.getD_cons_succ, List.getElem?_cons_zero, List.getElem?_cons_succ, Option.bind_some] at d9
          clear hD
          intro hN
          simp only [fact, layAt, depOn, dstOf, List.map_cons, List.map_nil, List.foldl_cons, List.foldl_nil, List.getD_cons_zero, List.getD_cons_succ, List.getElem?_cons_zero, List.getElem?_cons_succ, Option.bind_some, d9] at hN ⊢
          go_simp
          have hh := hN _ _ rfl (.inl (Below.refl _ _))
          revert hh
          go_simp
        refine owed_cons (fun vs u hS hD N => ?_) ?_
        · have d10 := hD 10 (by decide)
          simp only [fact, layAt, depOn, dstOf, List.map_cons, List.map_nil, List.foldl_cons, List.foldl_nil, List.getD_cons_zero, List.getD_cons_succ, List.getElem?_cons_zero, List.getElem?_cons_succ, Option.bind_some] at d10
          clear hD
          intro hN
          simp only [fact, layAt, depOn, dstOf, List.map_cons, List.map_nil, List.foldl_cons, List.foldl_nil, List.getD_cons_zero, List.getD_cons_succ, List.getElem?_cons_zero, List.getElem?_cons_succ, Option.bind_some, d10] at hN ⊢
          go_simp
          refine (awake1_any _).mono ?_
          rintro e u' ⟨rfl, f⟩
          have hh := hN _ _ rfl (.inl f)
          revert hh
          go_simp
        refine owed_cons (fun vs u hS hD N => ?_) ?_
        · have d10 := hD 10 (by decide)
          simp only [fact, layAt, depOn, dstOf, List.map_cons, List.map_nil, List.foldl_cons, List.foldl_nil, List.getD_cons_zero, List.getD_cons_succ, List.getElem?_cons_zero, List.getElem?_cons_succ, Option.bind_some] at d10
          have d11 := hD 11 (by decide)
          simp only [fact, layAt, depOn, dstOf, List.map_cons, List.map_nil, List.foldl_cons, List.foldl_nil, List.getD_cons_zero, List.getD_cons_succ, List.getElem?_cons_zero, List.getElem?_cons_succ, Option.bind_some] at d11
          clear hD
          intro hN
          simp only [fact, layAt, depOn, dstOf, List.map_cons, List.map_nil, List.foldl_cons, List.foldl_nil, List.getD_cons_zero, List.getD_cons_succ, List.getElem?_cons_zero, List.getElem?_cons_succ, Option.bind_some, d10, d11] at hN ⊢
          go_simp
          have hh := hN _ _ rfl (.inl (Below.refl _ _))
          revert hh
          go_simp
        refine owed_cons (fun vs u hS hD N => ?_) ?_
        · have d12 := hD 12 (by decide)
          simp only [fact, layAt, depOn, dstOf, List.map_cons, List.map_nil, List.foldl_cons, List.foldl_nil, List.getD_cons_zero, List.getD_cons_succ, List.getElem?_cons_zero, List.getElem?_cons_succ, Option.bind_some] at d12
          clear hD
          intro hN
          simp only [fact, layAt, depOn, dstOf, List.map_cons, List.map_nil, List.foldl_cons, List.foldl_nil, List.getD_cons_zero, List.getD_cons_succ, List.getElem?_cons_zero, List.getElem?_cons_succ, Option.bind_some, d12] at hN ⊢
          go_simp
          have hh := hN _ _ rfl (.inl (Below.refl _ _))
          revert hh
          go_simp
        exact owed_nil
      ·
        intro vs u hS hF
        have d13 := hF 13 (by decide) (by decide)
        simp only [fact, layAt, depOn, dstOf, List.map_cons, List.map_nil, List.foldl_cons, List.foldl_nil, List.getD_cons_zero, List.getD_cons_succ, List.getElem?_cons_zero, List.getElem?_cons_succ, Option.bind_some] at d13
        clear hF
        simp only [List.length_cons, List.length_nil, Nat.reduceAdd, List.range, List.range.loop, fact, layAt, depOn, dstOf, List.map_cons, List.map_nil, List.foldl_cons, List.foldl_nil, List.getD_cons_zero, List.getD_cons_succ, List.getElem?_cons_zero, List.getElem?_cons_succ, Option.bind_some, d13]
        go_simp
        go_wp2_with fail
        go_ret
        exact ⟨rfl, f1.trans (hS.mono f1.size)⟩
    · obtain ⟨hV1, rfl⟩ := H64n.out h64
      clear H64y H64n hbl
      have d5 : ((n : Int) != 64) = true := by simp; omega
      replace k3 := k3.below hS k3.lt
      replace f1 := f1.trans (hS.mono f1.size)
      clear hS k1
      have ke : ∀ w : World, (Op.equalIn 10000 41 (.agg (uvs V).toArray) (.agg #[.int .u32 0, .int .u32 0, .int .u32 0, .int .u32 0, .int .u32 0, .int .u32 0, .int .u32 0, .int .u32 0])).run Try.prog w = .ok true w := fun w => by
        rw [hV1]
        exact (run_equalIn_words (P := Try.prog) Try.underlying41 Try.underlying40 (by kernel_rfl) (List.replicate 8 0) (List.replicate 8 0) rfl rfl w).trans (by rw [decide_eq_true rfl])
      clear hV1
      go_wp2_with (first | (refine load_blk_if k3 rfl 41 (.tmp 7) rfl rfl Try.underlying41 HsV.out ?_))
      refine (awake1_any _).mono ?_
      rintro e w6 ⟨rfl, f6⟩
      go_wp2_with fail
      go_ret
      exact ⟨rfl, f1.trans (f6.mono f1.size)⟩
end Go.Proofs.Ythjaomkjjlgjeaa
