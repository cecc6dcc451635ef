/- The law ShaBlocks, walked. No condition. -/
import Derived.Test.YthjaomkjjlgjeaaShaAwake
import Derived.Test.YthjaomkjjlgjeaaShaParts2
import Derived.Test.YthjaomkjjlgjeaaShaBlock
import Derived.Test.YthjaomkjjlgjeaaFacts2
import Derived.Test.YthjaomkjjlgjeaaSlices
namespace Go.Proofs.Ythjaomkjjlgjeaa
open Go.RowKit F2
set_option linter.unusedSimpArgs false
set_option linter.unusedVariables false
attribute [local irreducible] blkN comp
theorem uvs_int (l : List UInt32) : uvs l = (l.map fun b => (b.toNat : Int)).map (Value.int .u32) := by simp [uvs, uv]
theorem run_equalIn_words {P : Program} {t e n : Nat} (ht : P.underlying t = some (.array n e)) (he : P.underlying e = some (.int .u32)) (hsz : (P.info? e).map (·.size) = some 1) (xs ys : List UInt32) (hx : xs.length = n) (hy : ys.length = n) (w : World) :
    (Op.equalIn 10000 t (.agg (uvs xs).toArray) (.agg (uvs ys).toArray)).run P w = .ok (decide (xs = ys)) w := by
  rw [uvs_int, uvs_int, run_equalIn_array ht he hsz 9998 _ _ (by simpa using hx) (by simpa using hy)]
  congr 1
  rw [decide_eq_decide]
  refine ⟨fun h => ?_, fun h => by rw [h]⟩
  exact (List.map_inj_right fun a b hab => UInt32.toNat_inj.1 (by omega)).1 h
set_option maxRecDepth 100000 in
set_option maxHeartbeats 4000000 in
theorem shaBlocks_walk (w : World) (A : Option Addr) (n c : Nat) (l : List UInt8) (rl : RdB w w.heap.size A n l) (hnc : n ≤ c) (_ : c ≤ maxLen) :
    Calls Try.prog 14 #[.slice A n c] w fun e w' => e = .returned (.bool true) ∧ Below w.heap.size w w' := by
  have hi : (Try.prog.info? 43).map (·.size) = some 10 := by kernel_rfl
  have Hi := Lib.hid hi; clear hi
  have hi8 : (Try.prog.info? 41).map (·.size) = some 8 := by kernel_rfl
  have Hi8 := Lib.hid hi8; clear hi8
  by_cases hn : 2000 < n
  · have d1 : decide ((2000 : Int) < (n : Int)) = true := by simp; omega
    go_enter Try.func14, Try.ntmps14
    go_wp2_with fail
    refine (awake1_any _).mono ?_
    rintro e w1 ⟨rfl, f1⟩
    go_wp2_with fail
    go_ret
    exact ⟨rfl, f1⟩
  have d1 : decide ((2000 : Int) < (n : Int)) = false := by simp; omega
  have hl := rl.1
  go_enter Try.func14, Try.ntmps14
  go_wp2_with fail
  refine (first_any w).mono ?_
  rintro e w1 ⟨rfl, f1⟩
  have hi0 : (Try.prog.info? 41).map (·.size) = some (uvs H0).length := Hi8.out
  have Hi0 := Lib.hid hi0; clear hi0
  go_wp2_with (first | (refine store_blk (Blk.newAt rfl 41 _) rfl 41 (.tmp 3) (.tmp 18) rfl rfl (us := uvs H0) rfl Hi0.out rfl (uvs_all _) ?_; intro w2 k2 hg; have f2 : Below w.heap.size w w2 := (f1.alloc f1.size _).grown hg (by have := f1.size; simp; omega) (by have := f1.size; simp; omega)))
  have hw1 := f1.size
  generalize w1.heap.size = g at *
  clear hg f1 w1
  have hq : n / 64 * 64 ≤ n := by omega
  have hK : n / 64 * 64 = 64 * (n / 64) := by omega
  generalize n / 64 * 64 = Ln at *
  generalize n / 64 = K at *
  have HK := Lib.hid hK; clear hK
  try go_frame
  go_loopw [4] (fun s4 wr => ∃ k : Nat, k ≤ K ∧ s4 = .int .i64 ((64 * k : Nat) : Int) ∧ Blk wr g 41 (uvs (blkN H0 l k)) ∧ Below w.heap.size w wr) (fun s4 _ => Ln - (intOf s4).toNat)
  case atStart => exact ⟨0, by omega, rfl, by rw [blkN_zero]; exact k2, f2⟩
  case round =>
    clear k2 f2
    obtain ⟨k, hk, rfl, k2, f2⟩ := hrel
    generalize hM : 64 * k = M at *
    have hMN : M ≤ Ln := by have := HK.out; omega
    have hbl := blkN_length H0 l k rfl
    have hsz : (Try.prog.info? 41).map (·.size) = some (uvs (blkN H0 l k)).length := by rw [uvs_length, hbl]; exact Hi8.out
    have Hsz := Lib.hid hsz; clear hsz
    by_cases hlt : k < K
    · have d2 : decide ((M : Int) < (Ln : Int)) = true := by have := HK.out; simp; omega
      have hMN2 : M + 64 ≤ Ln := by have := HK.out; omega
      have e64 : M + 64 - M = 64 := by omega
      go_upto_region 8 with fail
      have hbn := comp_length KEYS (blkN H0 l k) ((l.drop M).take 64)
      rw [hbl] at hbn
      have hsz2 : (Try.prog.info? 41).map (·.size) = some (uvs (blkN H0 l (k + 1))).length := by rw [blkN_succ, hM, uvs_length, hbn]; exact Hi8.out
      have Hsz2 := Lib.hid hsz2; clear hsz2
      have hsz3 : (uvs (List.replicate 8 0)).length = (uvs (blkN H0 l (k + 1))).length := by rw [blkN_succ, hM, uvs_length, uvs_length, hbn]; rfl
      have Hsz3 := Lib.hid hsz3; clear hsz3
      have hsz4 : (uvs (blkN H0 l k)).length = (uvs (blkN H0 l (k + 1))).length := by rw [blkN_succ, hM, uvs_length, uvs_length, hbn, hbl]
      have Hsz4 := Lib.hid hsz4; clear hsz4
      have hbs := blkN_succ H0 l k
      rw [hM] at hbs
      have HBS := Lib.hid hbs; clear hbs
      have lg := k2.lt
      have rw1 := rl.below f2
      have hfs := f2.size
      refine wp_region_facts (fun u => Below wr.heap.size wr u) [
        fun _ v _ => v = .agg (uvs (blkN H0 l k)).toArray,
        fun _ v _ => v = .slice A Ln c,
        fun _ v _ => v = .int .i64 (M : Int),
        fun _ v _ => v = .int .i64 (M : Int),
        fun _ v _ => v = .int .i64 ((M + 64 : Nat) : Int),
        fun _ v _ => ∃ A', v = .slice A' 64 (c - M) ∧ RdB wr w.heap.size A' 64 ((l.drop M).take 64),
        fun _ v _ => v = .tuple #[.agg (uvs (blkN H0 l (k + 1))).toArray, .int .i64 0],
        fun _ v _ => v = .tuple #[.agg (uvs (blkN H0 l (k + 1))).toArray, .int .i64 0],
        fun _ v _ => v = .agg (uvs (blkN H0 l (k + 1))).toArray,
        fun _ v _ => v = .int .i64 0,
        fun _ v u => ∃ g', v = .pointer (some ⟨g', 0, none⟩) ∧ wr.heap.size ≤ g' ∧ Blk u g' 41 (uvs (List.replicate 8 0)),
        fun xs _ u => ∃ g', xs[1]? = some (.pointer (some ⟨g', 0, none⟩)) ∧ wr.heap.size ≤ g' ∧ Blk u g' 41 (uvs (blkN H0 l (k + 1))),
        fun _ v _ => v = .int .i64 0] (fun u u' => Below u.heap.size u u')
        [[], [], [], [], [3], [1, 2, 4], [0, 5], [6], [7], [7], [], [8, 10], [9]] [[], [], [], [], [], [], [], [], [], [], [], [10], []]
        (by kernel_rfl) (by kernel_rfl) ?_ (fun _ _ _ _ _ h => h) ((Below.refl _ _).drew) ?_ ?_
      · refine hE_of (fun u u' h f => f.trans (h.mono f.size)) ?_
        repeat' (first | exact mono_nil | refine mono_cons (fun xs v u u' h => ?_) ?_)
        all_goals first | exact _root_.id | (rintro ⟨g', e, h1, k⟩; exact ⟨g', e, h1, k.below h k.lt⟩)
      ·
        refine owed_cons (fun vs u hS hD N => ?_) ?_
        · clear hD
          intro hN
          simp only [fact, layAt, depOn, dstOf, List.map_cons, List.map_nil, List.foldl_cons, List.foldl_nil, List.getD_cons_zero, List.getD_cons_succ, List.getElem?_cons_zero, List.getElem?_cons_succ, Option.bind_some] at hN ⊢
          rw [if_pos (by rfl)]
          refine wp_load_blk (k2.below hS k2.lt) 41 (.tmp 3) rfl rfl Try.underlying41 Hsz.out ?_
          exact hN _ _ rfl (.inl (Below.refl _ _))
        refine owed_cons (fun vs u hS hD N => ?_) ?_
        · clear hD
          intro hN
          simp only [fact, layAt, depOn, dstOf, List.map_cons, List.map_nil, List.foldl_cons, List.foldl_nil, List.getD_cons_zero, List.getD_cons_succ, List.getElem?_cons_zero, List.getElem?_cons_succ, Option.bind_some] at hN ⊢
          go_simp
          have hh := hN _ _ rfl (.inl (Below.refl _ _))
          revert hh
          go_simp
        refine owed_cons (fun vs u hS hD N => ?_) ?_
        · clear hD
          intro hN
          simp only [fact, layAt, depOn, dstOf, List.map_cons, List.map_nil, List.foldl_cons, List.foldl_nil, List.getD_cons_zero, List.getD_cons_succ, List.getElem?_cons_zero, List.getElem?_cons_succ, Option.bind_some] at hN ⊢
          go_simp
          have hh := hN _ _ rfl (.inl (Below.refl _ _))
          revert hh
          go_simp
        refine owed_cons (fun vs u hS hD N => ?_) ?_
        · clear hD
          intro hN
          simp only [fact, layAt, depOn, dstOf, List.map_cons, List.map_nil, List.foldl_cons, List.foldl_nil, List.getD_cons_zero, List.getD_cons_succ, List.getElem?_cons_zero, List.getElem?_cons_succ, Option.bind_some] at hN ⊢
          go_simp
          have hh := hN _ _ rfl (.inl (Below.refl _ _))
          revert hh
          go_simp
        refine owed_cons (fun vs u hS hD N => ?_) ?_
        · have d3 := hD 3 (by decide)
          simp only [fact, layAt, depOn, dstOf, List.map_cons, List.map_nil, List.foldl_cons, List.foldl_nil, List.getD_cons_zero, List.getD_cons_succ, List.getElem?_cons_zero, List.getElem?_cons_succ, Option.bind_some] at d3
          clear hD
          intro hN
          simp only [fact, layAt, depOn, dstOf, List.map_cons, List.map_nil, List.foldl_cons, List.foldl_nil, List.getD_cons_zero, List.getD_cons_succ, List.getElem?_cons_zero, List.getElem?_cons_succ, Option.bind_some, d3] at hN ⊢
          go_simp
          have hw := IntWalk.i64_in ((M : Int) + 64) (by omega)
          have hh := hN (.int .i64 ((M : Int) + 64)) _ (congrArg (Value.int .i64) (by omega)) (.inl (Below.refl _ _))
          revert hh
          go_simp
        refine owed_cons (fun vs u hS hD N => ?_) ?_
        · have d1 := hD 1 (by decide)
          simp only [fact, layAt, depOn, dstOf, List.map_cons, List.map_nil, List.foldl_cons, List.foldl_nil, List.getD_cons_zero, List.getD_cons_succ, List.getElem?_cons_zero, List.getElem?_cons_succ, Option.bind_some] at d1
          have d2 := hD 2 (by decide)
          simp only [fact, layAt, depOn, dstOf, List.map_cons, List.map_nil, List.foldl_cons, List.foldl_nil, List.getD_cons_zero, List.getD_cons_succ, List.getElem?_cons_zero, List.getElem?_cons_succ, Option.bind_some] at d2
          have d4 := hD 4 (by decide)
          simp only [fact, layAt, depOn, dstOf, List.map_cons, List.map_nil, List.foldl_cons, List.foldl_nil, List.getD_cons_zero, List.getD_cons_succ, List.getElem?_cons_zero, List.getElem?_cons_succ, Option.bind_some] at d4
          clear hD
          intro hN
          simp only [fact, layAt, depOn, dstOf, List.map_cons, List.map_nil, List.foldl_cons, List.foldl_nil, List.getD_cons_zero, List.getD_cons_succ, List.getElem?_cons_zero, List.getElem?_cons_succ, Option.bind_some, d1, d2, d4] at hN ⊢
          rw [if_pos (by rfl)]
          refine wp_slice_lh T23 rfl (A := A) (n := Ln) (c := c) rfl (i := M) (k := M + 64) rfl rfl (w0 := wr) (B := w.heap.size) (l := l.take Ln) ?_ (by omega) (by omega) (by omega) ?_
          · obtain ⟨b, off, hA, hb, hc⟩ := rw1.2 (by omega)
            exact ⟨by rw [List.length_take]; omega, fun _ => ⟨b, off, hA, hb, fun j hj => by rw [List.getElem_take]; exact hc j (by rw [List.length_take] at hj; omega)⟩⟩
          · intro A' r
            rw [e64, List.take_take, Nat.min_eq_left hMN2, ← List.take_drop] at r
            rw [e64]
            exact hN _ _ ⟨A', rfl, r⟩ (.inl (Below.refl _ _))
        refine owed_cons (fun vs u hS hD N => ?_) ?_
        · have d0 := hD 0 (by decide)
          simp only [fact, layAt, depOn, dstOf, List.map_cons, List.map_nil, List.foldl_cons, List.foldl_nil, List.getD_cons_zero, List.getD_cons_succ, List.getElem?_cons_zero, List.getElem?_cons_succ, Option.bind_some] at d0
          have d5 := hD 5 (by decide)
          simp only [fact, layAt, depOn, dstOf, List.map_cons, List.map_nil, List.foldl_cons, List.foldl_nil, List.getD_cons_zero, List.getD_cons_succ, List.getElem?_cons_zero, List.getElem?_cons_succ, Option.bind_some] at d5
          obtain ⟨B1, e5, r1⟩ := d5
          clear hD
          intro hN
          simp only [fact, layAt, depOn, dstOf, List.map_cons, List.map_nil, List.foldl_cons, List.foldl_nil, List.getD_cons_zero, List.getD_cons_succ, List.getElem?_cons_zero, List.getElem?_cons_succ, Option.bind_some, d0, e5] at hN ⊢
          go_simp
          refine (block_any (blkN H0 l k) B1 (c - M) _ u hbl ((r1.below (hS.mono hfs)).more (Nat.le_trans hfs hS.size)) (by omega)).mono ?_
          rintro e u' ⟨rfl, f⟩
          rw [← HBS.out]
          have hh := hN _ _ rfl (.inl f)
          revert hh
          go_simp
        refine owed_cons (fun vs u hS hD N => ?_) ?_
        · have d6 := hD 6 (by decide)
          simp only [fact, layAt, depOn, dstOf, List.map_cons, List.map_nil, List.foldl_cons, List.foldl_nil, List.getD_cons_zero, List.getD_cons_succ, List.getElem?_cons_zero, List.getElem?_cons_succ, Option.bind_some] at d6
          clear hD
          intro hN
          simp only [fact, layAt, depOn, dstOf, List.map_cons, List.map_nil, List.foldl_cons, List.foldl_nil, List.getD_cons_zero, List.getD_cons_succ, List.getElem?_cons_zero, List.getElem?_cons_succ, Option.bind_some, d6] at hN ⊢
          go_simp
          have hh := hN _ _ rfl (.inl (Below.refl _ _))
          revert hh
          go_simp
        refine owed_cons (fun vs u hS hD N => ?_) ?_
        · have d7 := hD 7 (by decide)
          simp only [fact, layAt, depOn, dstOf, List.map_cons, List.map_nil, List.foldl_cons, List.foldl_nil, List.getD_cons_zero, List.getD_cons_succ, List.getElem?_cons_zero, List.getElem?_cons_succ, Option.bind_some] at d7
          clear hD
          intro hN
          simp only [fact, layAt, depOn, dstOf, List.map_cons, List.map_nil, List.foldl_cons, List.foldl_nil, List.getD_cons_zero, List.getD_cons_succ, List.getElem?_cons_zero, List.getElem?_cons_succ, Option.bind_some, d7] at hN ⊢
          go_simp
          have hh := hN _ _ rfl (.inl (Below.refl _ _))
          revert hh
          go_simp
        refine owed_cons (fun vs u hS hD N => ?_) ?_
        · have d7 := hD 7 (by decide)
          simp only [fact, layAt, depOn, dstOf, List.map_cons, List.map_nil, List.foldl_cons, List.foldl_nil, List.getD_cons_zero, List.getD_cons_succ, List.getElem?_cons_zero, List.getElem?_cons_succ, Option.bind_some] at d7
          clear hD
          intro hN
          simp only [fact, layAt, depOn, dstOf, List.map_cons, List.map_nil, List.foldl_cons, List.foldl_nil, List.getD_cons_zero, List.getD_cons_succ, List.getElem?_cons_zero, List.getElem?_cons_succ, Option.bind_some, d7] at hN ⊢
          go_simp
          have hh := hN _ _ rfl (.inl (Below.refl _ _))
          revert hh
          go_simp
        refine owed_cons (fun vs u hS hD N => ?_) ?_
        · clear hD
          intro hN
          simp only [fact, layAt, depOn, dstOf, List.map_cons, List.map_nil, List.foldl_cons, List.foldl_nil, List.getD_cons_zero, List.getD_cons_succ, List.getElem?_cons_zero, List.getElem?_cons_succ, Option.bind_some] at hN ⊢
          go_simp
          have kk : Blk (u.alloc (.cells #[.int .u32 0, .int .u32 0, .int .u32 0, .int .u32 0, .int .u32 0, .int .u32 0, .int .u32 0, .int .u32 0] 41)) u.heap.size 41 (uvs (List.replicate 8 0)) := Blk.newAt rfl _ _
          have hh := hN _ _ ⟨_, rfl, hS.size, kk⟩ (.inl ((Below.refl _ u).alloc (Nat.le_refl _) _))
          revert hh
          go_simp
        refine owed_cons (fun vs u hS hD N => ?_) ?_
        · have d8 := hD 8 (by decide)
          simp only [fact, layAt, depOn, dstOf, List.map_cons, List.map_nil, List.foldl_cons, List.foldl_nil, List.getD_cons_zero, List.getD_cons_succ, List.getElem?_cons_zero, List.getElem?_cons_succ, Option.bind_some] at d8
          have d10 := hD 10 (by decide)
          simp only [fact, layAt, depOn, dstOf, List.map_cons, List.map_nil, List.foldl_cons, List.foldl_nil, List.getD_cons_zero, List.getD_cons_succ, List.getElem?_cons_zero, List.getElem?_cons_succ, Option.bind_some] at d10
          obtain ⟨g', e10, hg', kg⟩ := d10
          clear hD
          intro hN
          simp only [fact, layAt, depOn, dstOf, List.map_cons, List.map_nil, List.foldl_cons, List.foldl_nil, List.getD_cons_zero, List.getD_cons_succ, List.getElem?_cons_zero, List.getElem?_cons_succ, Option.bind_some, d8, e10] at hN ⊢
          rw [if_pos (by rfl)]
          refine wp_store_blk kg 41 (.tmp 5) (.tmp 33) rfl rfl (us := uvs (blkN H0 l (k + 1))) rfl Hsz2.out Hsz3.out (uvs_all _) ?_
          intro u' k' hg2
          refine hN _ _ ⟨g', rfl, hg', k'⟩ (.inr ⟨hS.grown hg2 hS.size (by intro q hq2; injection hq2 with hq2; omega), fun j xs v h1 h2 h3 => ?_⟩)
          match j with
          | 10 => exact absurd (by decide) h2
          | 11 => exact absurd rfl h1
          | 0 | 1 | 2 | 3 | 4 | 5 | 6 | 7 | 8 | 9 | 12 | _ + 13 => exact _root_.id
        refine owed_cons (fun vs u hS hD N => ?_) ?_
        · have d9 := hD 9 (by decide)
          simp only [fact, layAt, depOn, dstOf, List.map_cons, List.map_nil, List.foldl_cons, List.foldl_nil, List.getD_cons_zero, List.getD_cons_succ, List.getElem?_cons_zero, List.getElem?_cons_succ, Option.bind_some] at d9
          clear hD
          intro hN
          simp only [fact, layAt, depOn, dstOf, List.map_cons, List.map_nil, List.foldl_cons, List.foldl_nil, List.getD_cons_zero, List.getD_cons_succ, List.getElem?_cons_zero, List.getElem?_cons_succ, Option.bind_some, d9] at hN ⊢
          go_simp
          have hh := hN _ _ rfl (.inl (Below.refl _ _))
          revert hh
          go_simp
        exact owed_nil
      · intro vs u hS hF
        have d11 := hF 11 (by decide) (by decide)
        have d12 := hF 12 (by decide) (by decide)
        simp only [fact, layAt, depOn, dstOf, List.map_cons, List.map_nil, List.foldl_cons, List.foldl_nil, List.getD_cons_zero, List.getD_cons_succ, List.getElem?_cons_zero, List.getElem?_cons_succ, Option.bind_some] at d11 d12
        obtain ⟨g', e10, hg', kg⟩ := d11
        replace e10 := Option.some.inj e10
        clear hF
        simp only [List.length_cons, List.length_nil, Nat.reduceAdd, List.range, List.range.loop, fact, layAt, depOn, dstOf, List.map_cons, List.map_nil, List.foldl_cons, List.foldl_nil, List.getD_cons_zero, List.getD_cons_succ, List.getElem?_cons_zero, List.getElem?_cons_succ, Option.bind_some, e10, d12]
        go_simp
        have k3 := k2.below hS k2.lt
        replace f2 := f2.trans (hS.mono f2.size)
        go_wp2_with (first | (refine load_blk kg rfl 41 (.tmp 5) rfl rfl Try.underlying41 Hsz2.out ?_) | (refine store_blk k3 rfl 41 (.tmp 3) (.tmp 37) rfl rfl (us := uvs (blkN H0 l (k + 1))) rfl Hsz2.out Hsz4.out (uvs_all _) ?_; intro w6 k6 hg6))
        go_roundw
        case rel => exact ⟨k + 1, by omega, congrArg (Value.int .i64) (by omega), k6, f2.grown hg6 f2.size (by simp; omega)⟩
        case measure => simp [intOf]; omega
    · obtain rfl : k = K := by omega
      obtain rfl : M = Ln := by have := HK.out; omega
      have d2 : decide ((M : Int) < (M : Int)) = false := by simp
      go_wp2_with fail
      refine (new_of wr).mono ?_
      rintro e w3 ⟨rfl, f3⟩
      have rw3 := ((rl.below f2).below (f3.mono f2.size)).more (Nat.le_trans f2.size f3.size)
      have lg := k2.lt
      replace k2 := k2.below f3 lg
      replace f2 := f2.trans (f3.mono f2.size)
      clear f3
      have rt : RdB w3 w3.heap.size A M (l.take M) := by
        refine ⟨by rw [List.length_take]; omega, fun hp => ?_⟩
        obtain ⟨b, off, hA, hb, hc⟩ := rw3.2 (by omega)
        exact ⟨b, off, hA, hb, fun j hj => by rw [List.getElem_take]; exact hc j (by rw [List.length_take] at hj; omega)⟩
      go_wp2_with fail
      refine (write_of [] none 0 A M c (l.take M) w3 RdT.nil rt (by simp; omega)).mono ?_
      rintro e w4 ⟨A4, c4, rfl, r4, f4⟩
      rw [List.nil_append]
      have lg3 := k2.lt
      replace k2 := k2.below f4 lg3
      replace f2 := f2.trans (f4.mono f2.size)
      clear r4 rt rw3 f4
      have hsL : (Try.prog.info? 43).map (·.size) = some (shaL (l.take M) A4 c4).length := by rw [shaL_length]; exact Hi.out
      have HsL := Lib.hid hsL; clear hsL
      go_upto_region 13 with (first | (refine store_blk (Blk.newAt rfl 43 _) rfl 43 (.tmp 7) (.tmp 40) rfl rfl (us := shaL (l.take M) A4 c4) rfl HsL.out (by rw [shaL_length]; rfl) (shaL_all _ _ _) ?_; intro w5 k5 hg; have f5 : Below w4.heap.size w4 w5 := ((Below.refl _ w4).alloc (Nat.le_refl _) _).grown hg (by simp) (by simp)))
      have lg4 := k2.lt
      replace k2 := k2.below f5 lg4
      replace f2 := f2.trans (f5.mono f2.size)
      clear hg f5
      have hlen : (l.take M).length = M := by rw [List.length_take]; omega
      have hM64 : M / 64 = k := by omega
      have hM0 : M % 64 = 0 := by omega
      have c8 : w5.cell? ⟨w4.heap.size, 8, none⟩ = some (.slice A4 0 c4) := by rw [k5.cell, shaL_8, hlen, hM0]
      have c9 : w5.cell? ⟨w4.heap.size, 9, none⟩ = some (.int .u64 (M : Int)) := by rw [k5.cell, shaL_9, hlen]
      have hH : ((shaL (l.take M) A4 c4).drop 0).take 8 = uvs (blkN H0 l k) := by
        rw [shaL_H, hlen, hM64, ← hM, blkN_take l k (by omega)]
      have kr := k5.range 0 8
      rw [hH] at kr
      have ke := fun w : World => run_equalIn_words (P := Try.prog) Try.underlying41 Try.underlying40 (by kernel_rfl) (blkN H0 l k) (blkN H0 l k) hbl hbl w
      have hd : decide (blkN H0 l k = blkN H0 l k) = true := by simp
      have hw := IntWalk.u64_in (M : Int) (by omega)
      clear hlen hM64 hM0 hH k5 hM HK
      generalize w4.heap.size = g4 at *
      go_wp2_with (first | (refine load_part (cs := uvs (blkN H0 l k)) (b := g4) (off := 0) kr rfl 41 (.tmp 41) rfl rfl Try.underlying41 Hsz.out ?_) | (refine load_blk k2 rfl 41 (.tmp 3) rfl rfl Try.underlying41 Hsz.out ?_))
      refine (awake1_any _).mono ?_
      rintro e w6 ⟨rfl, f6⟩
      go_wp2_with fail
      go_ret
      exact ⟨rfl, f2.trans (f6.mono f2.size)⟩
end Go.Proofs.Ythjaomkjjlgjeaa
