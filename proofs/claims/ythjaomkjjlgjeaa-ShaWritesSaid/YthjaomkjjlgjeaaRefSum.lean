/- The document's Sum, of any state. Condition: the bytes are at most 2^46. -/
import Derived.Test.YthjaomkjjlgjeaaRefOf2
import Derived.Test.YthjaomkjjlgjeaaOrder2
namespace Go.Proofs.Ythjaomkjjlgjeaa.O2
open Go.RowKit
set_option linter.unusedVariables false
set_option linter.unusedSimpArgs false
attribute [local irreducible] blkN comp outN
theorem sumB_eq (h : List UInt32) (l : List UInt8) (N : Nat) : outN (blkN h (l ++ endB N) ((l.length + (zeros N + 9)) / 64)) 32 = sumB h l N := rfl
set_option maxRecDepth 100000 in
set_option maxHeartbeats 2000000 in
theorem refSum_any (h : List UInt32) (A : Option Addr) (n c : Nat) (l : List UInt8) (N : Nat) (w : World) (hh : h.length = 8) (hl : RdB w w.heap.size A n l) (hn : n ≤ 70368744177664) (hN : N < 18446744073709551616) :
    Calls Try.prog 31 #[.agg (uvs h).toArray, .slice A n c, .int .u64 N] w fun e w' => e = .returned (.agg (bvs (sumB h l N)).toArray) ∧ Below w.heap.size w w' := by
  have hln := hl.1
  have hi32 : (Try.prog.info? 26).map (·.size) = some (bvs (sumB h l N)).length := by rw [bvs_length, sumB_length]; kernel_rfl
  have Hi32 := Lib.hid hi32; clear hi32
  have hz32 : (bvs (List.replicate 32 0)).length = (bvs (sumB h l N)).length := by rw [bvs_length, bvs_length, sumB_length]; rfl
  have Hz32 := Lib.hid hz32; clear hz32
  have hi8 : (Try.prog.info? 41).map (·.size) = some 8 := by kernel_rfl
  have hs8 : (Try.prog.info? 41).map (·.size) = some (uvs h).length := by rw [uvs_length, hh]; exact hi8
  have Hs8 := Lib.hid hs8; clear hs8
  have hzl := zeros_lt N
  have hres := sumB_eq h l N
  rw [hln] at hres
  have hbl := blkN_length h (l ++ endB N) ((n + (zeros N + 9)) / 64) hh
  have hsV : (Try.prog.info? 41).map (·.size) = some (uvs (blkN h (l ++ endB N) ((n + (zeros N + 9)) / 64))).length := by rw [uvs_length, hbl]; exact hi8
  have HsV := Lib.hid hsV; clear hsV
  have hs4 : (uvs h).length = (uvs (blkN h (l ++ endB N) ((n + (zeros N + 9)) / 64))).length := by rw [uvs_length, uvs_length, hbl, hh]
  have Hs4 := Lib.hid hs4; clear hs4 hi8
  have HR := Lib.hid hres; clear hres
  go_enter Try.func31, Try.ntmps31
  go_upto_region 1 with fail
  refine abs (fun w1 => Blk w1 w.heap.size 41 (uvs h) ∧ Blk w1 (w.heap.size + 1) 26 (bvs (List.replicate 32 0)) ∧ Below w.heap.size w w1) ⟨(Blk.of_new w _ _).alloc _, Blk.newAt (by simp) _ _, ((Below.refl _ w).alloc (Nat.le_refl _) _).alloc (by simp) _⟩ ?_
  rintro w1 ⟨k1, kz, f1⟩
  refine wp_region_order (fun u => Blk u w.heap.size 41 (uvs h)) 11 [(0,0), (2,0), (4,0), (1,1), (3,1), (5,1), (6,1), (7,1), (8,0), (9,0), (10,3), (11,2)] (by kernel_rfl) (by kernel_rfl) (show Blk w1.drew w.heap.size 41 (uvs h) from k1) ?_
  simp only [pick, List.filterMap_cons, List.filterMap_nil, List.getElem?_cons_zero, List.getElem?_cons_succ, Option.map_some]
  have hS : Blk w1.drew w.heap.size 41 (uvs h) := k1.drew
  refine wpF_load hS rfl 41 (.tmp 3) rfl rfl (fun _ h => h.whole) Try.underlying41 Hs8.out (fun _ _ _ h => h) ?_
  go_simp
  refine wpF_take (v := ?_) hS rfl ?_ (fun _ _ _ h => h) ?_
  rotate_left
  · intro w' hS'
    obtain _ := hS'
    go_simp <;> rfl
  go_simp
  refine wpF_take (v := ?_) hS rfl ?_ (fun _ _ _ h => h) ?_
  rotate_left
  · intro w' hS'
    obtain _ := hS'
    go_simp <;> rfl
  go_simp
  have l1 := k1.lt
  have lz := kz.lt
  have z1 := f1.size
  refine wpF_only rfl (fun K hK => ?_)
  go_wp2_with fail
  have f2 : Below w1.heap.size w1 ((w1.alloc (.cells #[] 5)).drew) := ((Below.refl _ w1).alloc (Nat.le_refl _) _).drew
  replace hS : Blk ((w1.alloc (.cells #[] 5)).drew) w.heap.size 41 (uvs h) := (k1.alloc _).drew
  first | refine ⟨fun _ => hS, ?_⟩ | refine ⟨hS, ?_⟩
  go_simp
  refine wpF_only rfl (fun K hK => ?_)
  have hl2 := (hl.below f1).below (f2.mono z1)
  refine wp_appendR T23 rfl (w0 := (w1.alloc (.cells #[] 5)).drew) rfl (OwnB.of_blk (l := []) (show Blk ((w1.alloc (.cells #[] 5)).drew) w1.heap.size 5 (bvs []) from Blk.newAt (w := w1) rfl 5 #[]) (Nat.le_refl _) rfl (by decide)) rfl hl2 (by omega) (Below.refl _ _) (by show w1.heap.size ≤ (w1.alloc (.cells #[] 5)).heap.size; simp) ?_
  intro A3 c3 w3 o3 f3 _
  rw [Nat.zero_add, List.nil_append] at o3
  have f23 := f2.trans f3
  have hS3 : Blk w3 w.heap.size 41 (uvs h) := hS.below f3 l1
  refine hK _ _ ⟨fun _ => hS3, ?_⟩
  rw [Nat.zero_add]
  go_simp
  clear hK
  refine wpF_only rfl (fun K hK => ?_)
  go_wp2_with fail
  refine (refEnd_any N hN w3).mono ?_
  rintro e w4 ⟨g4, rfl, o4, f4⟩
  have o34 := o3.below (Nat.le_refl _) f4
  have f24 := f23.trans (f4.mono f23.size)
  have hS4 : Blk w4 w.heap.size 41 (uvs h) := hS3.below f4 hS3.lt
  go_wp2_with fail
  first | refine ⟨fun _ => hS4, ?_⟩ | refine ⟨hS4, ?_⟩
  go_simp
  refine wpF_only rfl (fun K hK => ?_)
  refine wp_appendR T23 rfl (w0 := w4) rfl o34 rfl o4.rd (by omega) (Below.refl _ _) f24.size ?_
  intro A5 c5 w5 o5 f5 _
  have f25 := f24.trans f5
  have hS5 : Blk w5 w.heap.size 41 (uvs h) := hS4.below f5 l1
  refine hK _ _ ⟨fun _ => hS5, ?_⟩
  go_simp
  clear hK
  refine wpF_only rfl (fun K hK => ?_)
  go_wp2_with fail
  refine (refBlocks_any h A5 (n + (zeros N + 9)) c5 (l ++ endB N) w5 hh o5.rd o5.cap (by omega)).mono ?_
  rintro e w6 ⟨A6, c6, rfl, r6, f6⟩
  have f26 := f25.trans (f6.mono f25.size)
  have hS6 : Blk w6 w.heap.size 41 (uvs h) := hS5.below f6 hS5.lt
  have kz6 : Blk w6 (w.heap.size + 1) 26 (bvs (List.replicate 32 0)) := kz.below f26 lz
  have f16 := f1.trans (f26.mono z1)
  clear r6 o5 o34 o4 o3 f23 f24 f25 f2 f3 f4 f5 f6 hS hS3 hS4 hS5
  generalize blkN h (l ++ endB N) ((n + (zeros N + 9)) / 64) = V at *
  generalize n + (zeros N + 9) - 64 * ((n + (zeros N + 9)) / 64) = nn at *
  go_wp2_with fail
  first | refine ⟨fun _ => hS6, ?_⟩ | refine ⟨hS6, ?_⟩
  go_simp
  refine wpF_take (v := ?_) hS6 rfl ?_ (fun _ _ _ h => h) ?_
  rotate_left
  · intro w' hS'
    obtain _ := hS'
    go_simp <;> rfl
  go_simp
  refine wpF_take (v := ?_) hS6 rfl ?_ (fun _ _ _ h => h) ?_
  rotate_left
  · intro w' hS'
    obtain _ := hS'
    go_simp <;> rfl
  go_simp
  refine wpF_loose (v := .slice A6 nn c6) rfl (fun u => by go_simp <;> rfl) (fun _ _ _ h => h) ?_
  go_simp
  refine wpF_only rfl (fun K hK => ?_)
  refine wp_store_blk hS6 41 (.tmp 3) (.tmp 16) rfl rfl (us := uvs V) rfl HsV.out Hs4.out (uvs_all _) ?_
  intro w7 k7 hg7
  refine hK _ _ ⟨fun h => absurd h (by omega), wpF_nil ?_⟩
  replace kz6 := kz6.grown hg7 (by simp)
  have f17 := f16.grown hg7 f16.size (by simp)
  go_wp2_with (first | (refine load_blk k7 rfl 41 (.tmp 3) rfl rfl Try.underlying41 HsV.out ?_))
  refine (refOut_any V hbl w7).mono ?_
  rintro e w8 ⟨rfl, f8⟩
  rw [HR.out]
  replace kz6 := kz6.below f8 kz6.lt
  replace f17 := f17.trans (f8.mono f17.size)
  go_wp2_with (first | (refine store_blk kz6 rfl 26 (.tmp 6) (.tmp 19) rfl rfl (us := bvs (sumB h l N)) rfl Hi32.out Hz32.out (bvs_all _) ?_; intro w9 k9 hg9))
  exact bodyPost_ret (k9.sized rfl _ rfl Try.underlying26 Hi32.out) rfl ⟨rfl, f17.grown hg9 f17.size (by simp)⟩
end Go.Proofs.Ythjaomkjjlgjeaa.O2
