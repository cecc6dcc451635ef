/- sha.Block. No condition. -/
import Derived.Test.YthjaomkjjlgjeaaRefOf
namespace Go.Proofs.Ythjaomkjjlgjeaa
open Go.RowKit
set_option linter.unusedVariables false
set_option linter.unusedSimpArgs false
attribute [local irreducible] comp
set_option maxRecDepth 100000 in
set_option maxHeartbeats 2000000 in
theorem block_any (h : List UInt32) (A : Option Addr) (c : Nat) (l : List UInt8) (w : World) (hh : h.length = 8) (hl : RdB w w.heap.size A 64 l) (hc : 64 ≤ c) :
    Calls Try.prog 34 #[.agg (uvs h).toArray, .slice A 64 c] w fun e w' => e = .returned (.tuple #[.agg (uvs (comp KEYS h l)).toArray, .int .i64 0]) ∧ Below w.heap.size w w' := by
  have hi8 : (Try.prog.info? 41).map (·.size) = some 8 := by kernel_rfl
  have hi64 : (Try.prog.info? 58).map (·.size) = some (uvs KEYS).length := by kernel_rfl
  have hcl := comp_length KEYS h l
  rw [hh] at hcl
  have hs1 : (Try.prog.info? 41).map (·.size) = some (uvs h).length := by rw [uvs_length, hh]; exact hi8
  have hs2 : (Try.prog.info? 41).map (·.size) = some (uvs (comp KEYS h l)).length := by rw [uvs_length, hcl]; exact hi8
  have hs3 : (uvs (List.replicate 8 0)).length = (uvs (comp KEYS h l)).length := by rw [uvs_length, uvs_length, hcl]; rfl
  have Hi64 := Lib.hid hi64
  have Hs1 := Lib.hid hs1
  have Hs2 := Lib.hid hs2
  have Hs3 := Lib.hid hs3
  have Hh := Lib.hid hh
  clear hi8 hi64 hs1 hs2 hs3 hcl hh
  go_enter Try.func34, Try.ntmps34
  go_wp2_with fail
  refine absC (fun w1 => Blk w1 w.heap.size 41 (uvs h) ∧ Blk w1 (w.heap.size + 1) 41 (uvs (List.replicate 8 0)) ∧ Below w.heap.size w w1) ⟨(Blk.of_new w _ _).alloc _, Blk.newAt (by simp) _ _, ((Below.refl _ w).alloc (Nat.le_refl _) _).alloc (by simp) _⟩ ?_
  rintro w1 ⟨k1, k2, f1⟩
  refine (table_any w1).mono ?_
  rintro e w2 ⟨rfl, f2⟩
  have l1 := k1.lt
  have l2 := k2.lt
  replace k1 := k1.below f2 l1
  replace k2 := k2.below f2 l2
  replace f1 := f1.trans (f2.mono f1.size)
  have hs2 := f2.size
  clear f2
  go_wp2_with (first | (refine store_blk (us := uvs KEYS) (Blk.newAt rfl 58 _) rfl 58 (.tmp 6) (.tmp 11) rfl rfl rfl Hi64.out rfl (uvs_all _) ?_; intro w3 k3 hg; have f3 : Below w2.heap.size w2 w3 := ((Below.refl _ w2).alloc (Nat.le_refl _) _).grown hg (by simp) (by simp); replace k1 := k1.below f3 (by omega); replace k2 := k2.below f3 (by omega)) | (refine load_blk k1 rfl 41 (.tmp 2) rfl rfl Try.underlying41 Hs1.out ?_))
  replace f1 := f1.trans (f3.mono f1.size)
  refine (take_any KEYS h w2.heap.size A c l w3 Hh.out rfl k3 ((hl.below f1).more f1.size) hc).mono ?_
  rintro e w4 ⟨rfl, f4⟩
  replace k2 := k2.below f4 k2.lt
  replace f1 := f1.trans (f4.mono f1.size)
  clear k1 k3 hg f3 f4 hs2 l1 l2
  go_wp2_with (first | (refine store_blk k2 rfl 41 (.tmp 4) (.tmp 14) rfl rfl (us := uvs (comp KEYS h l)) rfl Hs2.out Hs3.out (uvs_all _) ?_; intro w9 k9 hg9))
  exact bodyPost_ret (k9.sized2 rfl _ rfl Try.underlying41 Hs2.out) rfl ⟨rfl, f1.grown hg9 f1.size (by simp)⟩
set_option maxRecDepth 100000 in
set_option maxHeartbeats 2000000 in
theorem block_not (h : List UInt32) (A : Option Addr) (n c : Nat) (w : World) (hn : n ≠ 64) :
    Calls Try.prog 34 #[.agg (uvs h).toArray, .slice A n c] w fun e w' => e = .returned (.tuple #[.agg (uvs (List.replicate 8 0)).toArray, .int .i64 1]) ∧ Below w.heap.size w w' := by
  have hs2 : (Try.prog.info? 41).map (·.size) = some (uvs (List.replicate 8 0)).length := by kernel_rfl
  have Hs2 := Lib.hid hs2
  clear hs2
  have d1 : ((n : Int) != 64) = true := by simp; omega
  go_enter Try.func34, Try.ntmps34
  go_wp2_with (first | (refine store_blk (us := uvs (List.replicate 8 0)) (Blk.newAt (g := w.heap.size + 1) (by simp) 41 _) rfl 41 (.tmp 4) (.tmp 10) rfl rfl (by rfl) Hs2.out rfl (uvs_all _) ?_; intro w9 k9 hg9))
  exact bodyPost_ret (k9.sized2 rfl _ rfl Try.underlying41 Hs2.out) rfl ⟨rfl, (((Below.refl _ w).alloc (Nat.le_refl _) _).alloc (by simp) _).grown hg9 (by simp; omega) (by simp)⟩
end Go.Proofs.Ythjaomkjjlgjeaa
