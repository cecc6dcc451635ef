/- The awake of the laws of layer 6: true. No condition. -/
import Derived.Test.YtgefbgjgcjiceaaTokAwake
namespace Go.Proofs.Ytgefbgjgcjiceaa
open Go.RowKit
set_option linter.unusedVariables false
set_option linter.unusedSimpArgs false
theorem tB_v : (tA.sign (sigB [107] tA)).v = .agg tB.cells.toArray := rfl
theorem tB_6 : tB.cells[6]? = some (.int .u64 205) := rfl
theorem tB_7 : tB.cells[7]? = some (.int .u64 1) := rfl
theorem tB_2 : tB.cells[2]? = some (.int .u64 7) := rfl
theorem tU_set : tB.cells.set 2 (.int .u64 8) = tU.cells := rfl
theorem fresh_104 : freshB tB 104 = true := by decide +kernel
theorem fresh_105 : freshB tB 105 = false := by decide +kernel
theorem tB_ns : tB.ns.length ≤ 1000 ∧ tB.sa.length ≤ 1000 := by decide
theorem tU_ns : tU.ns.length ≤ 1000 ∧ tU.sa.length ≤ 1000 := by decide
attribute [local irreducible] tA tB tU sA verN issV freshB sigB
set_option maxRecDepth 100000 in
set_option maxHeartbeats 4000000 in
theorem awake6_any (w : World) : Calls Try.prog 12 #[] w fun e w' => e = .returned (.bool true) ∧ Below w.heap.size w w' := by
  have kc := fun (w : World) (g : Nat) (hg : w.heap.size = g) (C : Array Value) (n c : Nat) => run_conv_const T23 w g hg C n c
  have hir : (Try.prog.info? 25).map (·.size) = some ([.slice (some ⟨w.heap.size, 0, none⟩) 1 1, .int .u64 1, .int .u64 1] : List Value).length := by kernel_rfl
  have Hir := Lib.hid hir; clear hir
  have hitB : (Try.prog.info? 31).map (·.size) = some tB.cells.length := by rw [tB.len tB_ok.mac]; kernel_rfl
  have HitB := Lib.hid hitB; clear hitB
  have hitU : (Try.prog.info? 31).map (·.size) = some tU.cells.length := by rw [tU.len tU_ok.mac]; kernel_rfl
  have HitU := Lib.hid hitU; clear hitU
  have hlz : tkZero.cells.length = tB.cells.length := by rw [tB.len tB_ok.mac]; rfl
  have Hlz := Lib.hid hlz; clear hlz
  go_enter Try.func12, Try.ntmps12
  go_upto_region 2 with fail
  refine abs (fun w1 => Blk w1 (w.heap.size + 1) 25 [.slice (some ⟨w.heap.size, 0, none⟩) 1 1, .int .u64 1, .int .u64 1] ∧ RdB w1 w1.heap.size (some ⟨w.heap.size, 0, none⟩) 1 [107] ∧ Below w.heap.size w w1) ⟨?_, ?_, ?_⟩ ?_
  · exact Blk.newAt (by simp) _ _
  · exact ((RdB.mark w 5 [107] (1, 2) _ rfl (w.heap.size + 1) (by omega)).alloc (by simp) _).more (by simp)
  · exact ((Below.refl _ w).alloc (Nat.le_refl _) _).alloc (by simp) _
  clear kc
  rintro w1 ⟨kr, rk, f1⟩
  go_wp2_with (first | (refine load_blk kr rfl 25 (.tmp 1) rfl rfl Try.underlying25 Hir.out ?_))
  refine (issue_any (some ⟨w.heap.size, 0, none⟩) 1 1 1 1 [107] [115, 104, 111, 112] [119, 101, 98] 7 2 167772167 5 tA (by with_unfolding_all rfl) tA_ok (by with_unfolding_all decide) (by with_unfolding_all decide) w1 rk (by omega)).mono ?_
  rintro e w2 ⟨rfl, f2⟩
  rw [issV_yes rg_A tk_A]
  rw [tB_v]
  have lr := kr.lt
  replace kr := kr.below f2 lr
  replace rk := (rk.below f2).more f2.size
  replace f1 := f1.trans (f2.mono f1.size)
  clear f2
  go_upto_region 3 with (first | (refine store_blk (cs := tkZero.cells) (Blk.newAt rfl 31 _) rfl 31 (.tmp 2) (.tmp 12) rfl rfl (us := tB.cells) rfl HitB.out Hlz.out tB.all ?_; intro w3 kt hg; have f3 : Below w2.heap.size w2 w3 := ((Below.refl _ w2).alloc (Nat.le_refl _) _).grown hg (by simp) (by simp)))
  have lr := kr.lt
  replace kr := kr.below f3 lr
  replace rk := (rk.below f3).more f3.size
  replace f1 := f1.trans (f3.mono f1.size)
  clear hg f3
  have hg2 : w.heap.size + 1 < w2.heap.size := lr
  generalize w2.heap.size = g2 at *
  go_upto_region 4 with (first | (refine load_blk kt rfl 31 (.tmp 2) rfl rfl Try.underlying31 HitB.out ?_) | (refine store_blk (cs := tkZero.cells) (Blk.newAt rfl 31 _) rfl 31 (.tmp 4) (.tmp 14) rfl rfl (us := tB.cells) rfl HitB.out Hlz.out tB.all ?_; intro w4 ku hg; have f3 : Below w3.heap.size w3 w4 := ((Below.refl _ w3).alloc (Nat.le_refl _) _).grown hg (by simp) (by simp)))
  have lt := kt.lt
  have lr := kr.lt
  replace kr := kr.below f3 lr
  replace kt := kt.below f3 lt
  replace rk := (rk.below f3).more f3.size
  replace f1 := f1.trans (f3.mono f1.size)
  clear hg f3
  have hg4 : g2 < w3.heap.size := lt
  generalize w3.heap.size = g4 at *
  have q2 : w4.cell? ⟨g4, 2, none⟩ = some (.int .u64 7) := by rw [ku.cell, tB_2]
  have z2 := ku.frozen 2
  go_upto_region 5 with fail
  refine abs (fun w5 => Blk w5 (w.heap.size + 1) 25 [.slice (some ⟨w.heap.size, 0, none⟩) 1 1, .int .u64 1, .int .u64 1] ∧ RdB w5 w5.heap.size (some ⟨w.heap.size, 0, none⟩) 1 [107] ∧ Blk w5 g2 31 tB.cells ∧ Blk w5 g4 31 tU.cells ∧ Below w.heap.size w w5) ⟨kr.far (by simp; omega) _, ?_, kt.far (by simp; omega) _, ?_, f1.setCell (by simp; omega) _⟩ ?_
  · have hb : Below (w.heap.size + 1) w4 (w4.setCell ⟨g4, 2, none⟩ (.int .u64 8)) := (Below.refl _ w4).setCell (by simp; omega) _
    obtain ⟨h1, h2⟩ := rk
    refine ⟨h1, fun h => ?_⟩
    obtain ⟨b, off, e, hb2, hc⟩ := h2 h
    injection e with e
    injection e with e1 e2 _
    subst e1 e2
    exact ⟨_, _, rfl, by simp; omega, fun j hj => (hb.cell (p := ⟨w.heap.size, 0 + j, none⟩) (by simp)).trans (hc j hj)⟩
  · rw [← tU_set]
    exact ku.set 2 _
  clear kr kt ku rk f1 q2 z2
  rintro w5 ⟨kr, rk, kt, ku, f1⟩
  have q6 : w5.cell? ⟨g2, 6, none⟩ = some (.int .u64 205) := by rw [kt.cell, tB_6]
  have q7 : w5.cell? ⟨g2, 7, none⟩ = some (.int .u64 1) := by rw [kt.cell, tB_7]
  go_wp2_with (first | (refine load_blk_if kr rfl 25 (.tmp 1) rfl rfl Try.underlying25 Hir.out ?_) | (refine load_blk_if kt rfl 31 (.tmp 2) rfl rfl Try.underlying31 HitB.out ?_))
  clear q6 q7
  refine (verify_any (some ⟨w.heap.size, 0, none⟩) 1 1 1 1 [107] tB 204 tB_ok tB_ns.1 tB_ns.2 w5 rk (by omega)).mono ?_
  rintro e w6 ⟨rfl, f2⟩
  rw [ver_204]
  replace kr := kr.below f2 kr.lt
  replace kt := kt.below f2 kt.lt
  replace ku := ku.below f2 ku.lt
  replace rk := (rk.below f2).more f2.size
  replace f1 := f1.trans (f2.mono f1.size)
  clear f2
  go_wp2_with (first | (refine load_blk_if kr rfl 25 (.tmp 1) rfl rfl Try.underlying25 Hir.out ?_) | (refine load_blk_if kt rfl 31 (.tmp 2) rfl rfl Try.underlying31 HitB.out ?_) | (refine load_blk_if ku rfl 31 (.tmp 4) rfl rfl Try.underlying31 HitU.out ?_))
  refine (verify_any (some ⟨w.heap.size, 0, none⟩) 1 1 1 1 [107] tB 205 tB_ok tB_ns.1 tB_ns.2 w6 rk (by omega)).mono ?_
  rintro e w7 ⟨rfl, f2⟩
  rw [ver_205]
  replace kr := kr.below f2 kr.lt
  replace kt := kt.below f2 kt.lt
  replace ku := ku.below f2 ku.lt
  replace rk := (rk.below f2).more f2.size
  replace f1 := f1.trans (f2.mono f1.size)
  clear f2
  go_wp2_with (first | (refine load_blk_if kr rfl 25 (.tmp 1) rfl rfl Try.underlying25 Hir.out ?_) | (refine load_blk_if kt rfl 31 (.tmp 2) rfl rfl Try.underlying31 HitB.out ?_) | (refine load_blk_if ku rfl 31 (.tmp 4) rfl rfl Try.underlying31 HitU.out ?_))
  refine (verify_any (some ⟨w.heap.size, 0, none⟩) 1 1 1 1 [107] tU 5 tU_ok tU_ns.1 tU_ns.2 w7 rk (by omega)).mono ?_
  rintro e w8 ⟨rfl, f2⟩
  rw [ver_U]
  replace kr := kr.below f2 kr.lt
  replace kt := kt.below f2 kt.lt
  replace ku := ku.below f2 ku.lt
  replace rk := (rk.below f2).more f2.size
  replace f1 := f1.trans (f2.mono f1.size)
  clear f2
  go_wp2_with (first | (refine load_blk_if kr rfl 25 (.tmp 1) rfl rfl Try.underlying25 Hir.out ?_) | (refine load_blk_if kt rfl 31 (.tmp 2) rfl rfl Try.underlying31 HitB.out ?_) | (refine load_blk_if ku rfl 31 (.tmp 4) rfl rfl Try.underlying31 HitU.out ?_))
  refine (fresh_any tB tB_ok 104 (by omega) w8).mono ?_
  rintro e w9 ⟨rfl, f2⟩
  rw [fresh_104]
  replace kt := kt.below f2 kt.lt
  replace f1 := f1.trans (f2.mono f1.size)
  clear f2
  go_wp2_with (first | (refine load_blk_if kt rfl 31 (.tmp 2) rfl rfl Try.underlying31 HitB.out ?_))
  refine (fresh_any tB tB_ok 105 (by omega) w9).mono ?_
  rintro e w10 ⟨rfl, f2⟩
  rw [fresh_105]
  replace f1 := f1.trans (f2.mono f1.size)
  go_wp2_with fail
  go_ret
  exact ⟨rfl, f1⟩
end Go.Proofs.Ytgefbgjgcjiceaa
