/- The document's sha: Of. Condition: the bytes are at most 2^46. -/
import Derived.Test.YtgefbgjgcjiceaaRefOf
namespace Go.Proofs.Ytgefbgjgcjiceaa
open Go.RowKit
set_option linter.unusedVariables false
attribute [local irreducible] blkN comp outN
theorem refSha_eq (l : List UInt8) : outN (blkN H0 (l ++ endB l.length) ((l.length + (zeros l.length + 9)) / 64)) 32 = shaB l := by unfold shaB sumB; rfl
set_option maxRecDepth 100000 in
set_option maxHeartbeats 2000000 in
theorem refOf_any (A : Option Addr) (n c : Nat) (l : List UInt8) (w : World) (hl : RdB w w.heap.size A n l) (hn : n ≤ 70368744177664) :
    Calls Try.prog 79 #[.slice A n c] w fun e w' => e = .returned (.agg (bvs (shaB l)).toArray) ∧ Below w.heap.size w w' := by
  have hln := hl.1
  have hi32 : (Try.prog.info? 29).map (·.size) = some 32 := by kernel_rfl
  have hi8 : (Try.prog.info? 127).map (·.size) = some 8 := by kernel_rfl
  have Hi32 := Lib.hid hi32
  have Hi8 := Lib.hid hi8
  have Hln := Lib.hid hln
  clear hi32 hi8 hln
  have hzl := zeros_lt n
  go_enter Try.func79, Try.ntmps79
  go_wp2_with fail
  refine absC (fun w1 => Blk w1 w.heap.size 29 (bvs (List.replicate 32 0)) ∧ Below w.heap.size w w1) ⟨Blk.newAt rfl _ _, (Below.refl _ w).alloc (Nat.le_refl _) _⟩ ?_
  rintro w1 ⟨kz, f1⟩
  refine (refBegin_any w1).mono ?_
  rintro e w2 ⟨rfl, g2⟩
  have lz := kz.lt
  replace kz := kz.below g2 lz
  replace f1 := f1.trans (g2.mono f1.size)
  clear g2
  have hl2 := ((hl.below f1).below ((Below.refl _ w2).alloc f1.size (.cells #[] 5)))
  have hs2 := f1.size
  have lz2 := kz.lt
  have kz2 := kz
  have f12 := f1
  go_wp2_with (at_builtin; go_must (refine appendR T23 rfl rfl rfl (OwnB.of_blk (l := []) (Blk.of_new w2 _ _) (Nat.le_refl _) rfl (by simp [maxLen])) rfl hl2 (by omega) ((Below.refl _ w2).alloc (Nat.le_refl _) _) (Nat.le_refl _) ?_); intro A3 c3 w3 o3 f3 _)
  rw [Nat.zero_add, List.nil_append] at o3
  replace kz := kz.below f3 lz2
  have f13 := f1.trans (f3.mono hs2)
  have hs3 := f3.size
  have lz3 := kz.lt
  clear f1 hl2
  refine (refEnd_any n (by omega) w3).mono ?_
  rintro e w4 ⟨g4, rfl, o4, f4⟩
  have o3' := o3.below (Nat.le_refl _) f4
  replace kz := kz.below f4 lz3
  have f14 := f13.trans (f4.mono f13.size)
  have hs4 := f4.size
  have lz4 := kz.lt
  have F4 : Below w2.heap.size w2 w4 := f3.trans (f4.mono hs3)
  clear f13 f4 f3 o3
  go_wp2_with (at_builtin; go_must (refine appendR T23 rfl rfl rfl o3' rfl o4.rd (by omega) F4 (Nat.le_refl _) ?_); intro A5 c5 w5 o5 f5 _)
  have kz5 := kz2.below f5 lz2
  have f15 := f12.trans (f5.mono hs2)
  have hs5 := f15.size
  have lz5 := kz5.lt
  clear kz kz2 f12 f14 o3' o4 f5 F4
  refine (refBlocks_any H0 A5 (n + (zeros n + 9)) c5 (l ++ endB n) w5 rfl o5.rd o5.cap (by omega)).mono ?_
  rintro e w6 ⟨A6, c6, rfl, r6, f6⟩
  replace kz5 := kz5.below f6 lz5
  have f16 := f15.trans (f6.mono hs5)
  have lz6 := kz5.lt
  have hbl := blkN_length H0 (l ++ endB n) ((n + (zeros n + 9)) / 64) rfl
  have hres : outN (blkN H0 (l ++ endB n) ((n + (zeros n + 9)) / 64)) 32 = shaB l := by
    have := refSha_eq l
    rw [Hln.out] at this
    exact this
  have HR := Lib.hid hres
  clear hres r6 f6 f15 o5
  generalize blkN H0 (l ++ endB n) ((n + (zeros n + 9)) / 64) = V at *
  have HV := Lib.hid hbl
  clear hbl
  have hsz : (Try.prog.info? 127).map (·.size) = some (uvs V).length := by rw [uvs_length, HV.out]; exact Hi8.out
  have Hsz := Lib.hid hsz
  have hsz2 : (uvs (List.replicate 8 0)).length = (uvs V).length := by rw [uvs_length, uvs_length, HV.out]; rfl
  have Hsz2 := Lib.hid hsz2
  clear hsz hsz2
  generalize n - 64 * ((n + (zeros n + 9)) / 64) = nn at *
  go_wp2_with (first | (refine store_blk (us := uvs V) (Blk.of_new w6 127 (uvs (List.replicate 8 0))) rfl 127 (.tmp 3) (.tmp 16) rfl rfl rfl Hsz.out Hsz2.out (uvs_all _) ?_; intro w7 k7 hg7) | (refine load_blk k7 rfl 127 (.tmp 3) rfl rfl Try.underlying127 Hsz.out ?_))
  have f7 : Below w6.heap.size w6 w7 := ((Below.refl _ w6).alloc (Nat.le_refl _) _).grown hg7 (by simp) (by simp)
  replace kz5 := kz5.below f7 lz6
  have f17 := f16.trans (f7.mono f16.size)
  have lz7 := kz5.lt
  clear f7 hg7 f16 k7
  refine (refOut_any V HV.out w7).mono ?_
  rintro e w8 ⟨rfl, f8⟩
  rw [HR.out]
  replace kz5 := kz5.below f8 lz7
  have f18 := f17.trans (f8.mono f17.size)
  have hS := shaB_length l
  have HS := Lib.hid hS
  clear hS f17 f8
  generalize hSe : shaB l = S at *
  have HSe := Lib.hid hSe
  clear hSe
  have hz : (Try.prog.info? 29).map (·.size) = some (bvs S).length := by rw [bvs_length, HS.out]; exact Hi32.out
  have Hz := Lib.hid hz
  have hz2 : (bvs (List.replicate 32 0)).length = (bvs S).length := by rw [bvs_length, bvs_length, HS.out]; rfl
  have Hz2 := Lib.hid hz2
  clear hz hz2
  go_wp2_with (first | (refine store_blk kz5 rfl 29 (.tmp 2) (.tmp 19) rfl rfl (us := bvs S) rfl Hz.out Hz2.out (bvs_all _) ?_; intro w9 k9 hg9))
  exact bodyPost_ret (k9.sized rfl _ rfl Try.underlying29 Hz.out) rfl ⟨by rw [HSe.out], f18.grown hg9 f18.size (by simp)⟩
end Go.Proofs.Ytgefbgjgcjiceaa
