/- token.Fresh; how long things are; the awake of the laws of layer 6: true. Condition: those of token.Issue. The awake of the laws of layer 6: true. No condition. -/
import Derived.Test.YtgefbgjgcjiceaaTokVerify
namespace Go.Proofs.Ytgefbgjgcjiceaa
open Go.RowKit
set_option linter.unusedVariables false
set_option linter.unusedSimpArgs false
def freshB (t : Tk) (now : Nat) : Bool := decide (t.born ≤ now) && decide (now - t.born < 100)
set_option maxRecDepth 100000 in
set_option maxHeartbeats 1000000 in
theorem fresh_any (t : Tk) (ht : t.ok) (now : Nat) (hn : now < 18446744073709551616) (w : World) : Calls Try.prog 19 #[t.v, .int .u64 now] w fun e w' => e = .returned (.bool (freshB t now)) ∧ Below w.heap.size w w' := by
  have hb := ht.born
  have hf : freshB t now = (decide (t.born ≤ now) && decide (now - t.born < 100)) := rfl
  have HF := Lib.hid hf; clear hf
  unfold Tk.v
  go_enter Try.func19, Try.ntmps19
  go_upto_region 1 with fail
  refine abs (fun w1 => Blk w1 w.heap.size 31 t.cells ∧ Below w.heap.size w w1) ⟨Blk.of_new w _ _, (Below.refl _ w).alloc (Nat.le_refl _) _⟩ ?_
  rintro w1 ⟨k1, f1⟩
  have q5 : w1.cell? ⟨w.heap.size, 5, none⟩ = some (.int .u64 (t.born : Int)) := k1.cell 5
  by_cases h1 : t.born ≤ now
  · have d1 : decide ((t.born : Int) ≤ (now : Int)) = true := by simp; omega
    have e1 : decide (t.born ≤ now) = true := by simp; omega
    have hw := IntWalk.u64_in ((now : Int) - (t.born : Int)) (by omega)
    by_cases h2 : now - t.born < 100
    · have d2 : decide ((now : Int) - (t.born : Int) < 100) = true := by simp; omega
      have e2 : decide (now - t.born < 100) = true := by simp; omega
      go_wp2_with fail
      go_ret
      exact ⟨by rw [HF.out, e1, e2]; rfl, f1⟩
    · have d2 : decide ((now : Int) - (t.born : Int) < 100) = false := by simp; omega
      have e2 : decide (now - t.born < 100) = false := by simp; omega
      go_wp2_with fail
      go_ret
      exact ⟨by rw [HF.out, e1, e2]; rfl, f1⟩
  · have d1 : decide ((t.born : Int) ≤ (now : Int)) = false := by simp; omega
    have e1 : decide (t.born ≤ now) = false := by simp; omega
    go_wp2_with fail
    go_ret
    exact ⟨by rw [HF.out, e1]; rfl, f1⟩
/-- Is something longer than 300? -/
def longB (n : Nat) (t : Tk) : Bool := decide (300 < n) || decide (300 < t.ns.length) || decide (300 < t.sa.length)
set_option maxRecDepth 100000 in
set_option maxHeartbeats 1000000 in
theorem long_any (A : Option Addr) (n c o m : Nat) (t : Tk) (w : World) : Calls Try.prog 11 #[rgV A n c o m, t.v] w fun e w' => e = .returned (.bool (longB n t)) ∧ Below w.heap.size w w' := by
  have hf : longB n t = (decide (300 < n) || decide (300 < t.ns.length) || decide (300 < t.sa.length)) := rfl
  have HF := Lib.hid hf; clear hf
  have sz1 : (strB t.ns).size = t.ns.length := strB_size _
  have sz2 : (strB t.sa).size = t.sa.length := strB_size _
  have htv : t.v = .agg t.cells.toArray := rfl
  rw [htv]
  unfold rgV
  go_enter Try.func11, Try.ntmps11
  go_upto_region 1 with fail
  refine abs (fun w1 => Blk w1 w.heap.size 25 [.slice A n c, .int .u64 (o : Int), .int .u64 (m : Int)] ∧ Blk w1 (w.heap.size + 1) 31 t.cells ∧ Below w.heap.size w w1) ⟨(Blk.of_new w _ _).alloc _, Blk.newAt (by simp) _ _, ((Below.refl _ w).alloc (Nat.le_refl _) _).alloc (by simp) _⟩ ?_
  rintro w1 ⟨kr, kt, f1⟩
  have q0 : w1.cell? ⟨w.heap.size, 0, none⟩ = some (.slice A n c) := kr.cell 0
  have p0 : w1.cell? ⟨w.heap.size + 1, 0, none⟩ = some (.string (strB t.ns)) := kt.cell 0
  have p1 : w1.cell? ⟨w.heap.size + 1, 1, none⟩ = some (.string (strB t.sa)) := kt.cell 1
  by_cases h1 : 300 < n
  · have d1 : decide ((300 : Int) < (n : Int)) = true := by simp; omega
    have e1 : decide (300 < n) = true := by simp; omega
    go_wp2_with fail
    go_ret
    exact ⟨by rw [HF.out, e1]; rfl, f1⟩
  have d1 : decide ((300 : Int) < (n : Int)) = false := by simp; omega
  have e1 : decide (300 < n) = false := by simp; omega
  by_cases h2 : 300 < t.ns.length
  · have d2 : decide ((300 : Int) < (t.ns.length : Int)) = true := by simp; omega
    have e2 : decide (300 < t.ns.length) = true := by simp; omega
    go_wp2_with fail
    go_ret
    exact ⟨by rw [HF.out, e1, e2]; rfl, f1⟩
  have d2 : decide ((300 : Int) < (t.ns.length : Int)) = false := by simp; omega
  have e2 : decide (300 < t.ns.length) = false := by simp; omega
  by_cases h3 : 300 < t.sa.length
  · have d3 : decide ((300 : Int) < (t.sa.length : Int)) = true := by simp; omega
    have e3 : decide (300 < t.sa.length) = true := by simp; omega
    go_wp2_with fail
    go_ret
    exact ⟨by rw [HF.out, e1, e2, e3]; rfl, f1⟩
  have d3 : decide ((300 : Int) < (t.sa.length : Int)) = false := by simp; omega
  have e3 : decide (300 < t.sa.length) = false := by simp; omega
  go_wp2_with fail
  go_ret
  exact ⟨by rw [HF.out, e1, e2, e3]; rfl, f1⟩
/-! ### awake -/
def tA : Tk := tkNew [115, 104, 111, 112] [119, 101, 98] 7 2 167772167 5 1
def sA : List UInt8 := sigB [107] tA
def tB : Tk := tA.sign sA
def tU : Tk := { tB with uid := 8 }
theorem tA_ok : tA.ok := ⟨by decide, by decide, by decide, by decide, by decide, by decide, by decide, by decide, rfl⟩
theorem sA_length : sA.length = 32 := sigB_length _ _
theorem tB_ok : tB.ok := ⟨by decide, by decide, by decide, by decide, by decide, by decide, by decide, by decide, sA_length⟩
theorem tU_ok : tU.ok := ⟨by decide, by decide, by decide, by decide, by decide, by decide, by decide, by decide, sA_length⟩
theorem rg_A : rgOk 1 1 1 = true := by decide +kernel
theorem tk_A : tkOk tA = true := by decide +kernel
theorem ver_204 : verN [107] 1 1 1 tB 204 = 0 := by decide +kernel
theorem ver_205 : verN [107] 1 1 1 tB 205 = 9 := by decide +kernel
theorem ver_U : verN [107] 1 1 1 tU 5 = 7 := by decide +kernel
end Go.Proofs.Ytgefbgjgcjiceaa
namespace Go.Proofs.Ytgefbgjgcjiceaa
open Go.RowKit
set_option linter.unusedVariables false
set_option linter.unusedSimpArgs false
theorem tB_v : (tA.sign (sigB [107] tA)).v = .agg tB.cells.toArray := rfl
theorem tB_6 : tB.cells[6]? = some (.int .u64 205) := rfl
theorem tB_7 : tB.cells[7]? = some (.int .u64 1) := rfl
theorem tB_2 : tB.cells[2]? = some (.int .u64 7) := rfl
theorem tU_set : tB.cells.set 2 (.int .u64 8) = tU.cells := rfl
theorem fresh_104 : freshB tB 104 = true := by decide +kernel
theorem fresh_105 : freshB tB 105 = false := by decide +kernel
theorem tB_ns : tB.ns.length ≤ 1000 ∧ tB.sa.length ≤ 1000 := by decide
theorem tU_ns : tU.ns.length ≤ 1000 ∧ tU.sa.length ≤ 1000 := by decide
attribute [local irreducible] tA tB tU sA verN issV freshB sigB
set_option maxRecDepth 100000 in
set_option maxHeartbeats 4000000 in
theorem awake6_any (w : World) : Calls Try.prog 12 #[] w fun e w' => e = .returned (.bool true) ∧ Below w.heap.size w w' := by
  have kc := fun (w : World) (g : Nat) (hg : w.heap.size = g) (C : Array Value) (n c : Nat) => run_conv_const T23 w g hg C n c
  have hir : (Try.prog.info? 25).map (·.size) = some ([.slice (some ⟨w.heap.size, 0, none⟩) 1 1, .int .u64 1, .int .u64 1] : List Value).length := by kernel_rfl
  have Hir := Lib.hid hir; clear hir
  have hitB : (Try.prog.info? 31).map (·.size) = some tB.cells.length := by rw [tB.len tB_ok.mac]; kernel_rfl
  have HitB := Lib.hid hitB; clear hitB
  have hitU : (Try.prog.info? 31).map (·.size) = some tU.cells.length := by rw [tU.len tU_ok.mac]; kernel_rfl
  have HitU := Lib.hid hitU; clear hitU
  have hlz : tkZero.cells.length = tB.cells.length := by rw [tB.len tB_ok.mac]; rfl
  have Hlz := Lib.hid hlz; clear hlz
  go_enter Try.func12, Try.ntmps12
  go_upto_region 2 with fail
  refine abs (fun w1 => Blk w1 (w.heap.size + 1) 25 [.slice (some ⟨w.heap.size, 0, none⟩) 1 1, .int .u64 1, .int .u64 1] ∧ RdB w1 w1.heap.size (some ⟨w.heap.size, 0, none⟩) 1 [107] ∧ Below w.heap.size w w1) ⟨?_, ?_, ?_⟩ ?_
  · exact Blk.newAt (by simp) _ _
  · exact ((RdB.mark w 5 [107] (1, 2) _ rfl (w.heap.size + 1) (by omega)).alloc (by simp) _).more (by simp)
  · exact ((Below.refl _ w).alloc (Nat.le_refl _) _).alloc (by simp) _
  clear kc
  rintro w1 ⟨kr, rk, f1⟩
  go_wp2_with (first | (refine load_blk kr rfl 25 (.tmp 1) rfl rfl Try.underlying25 Hir.out ?_))
  refine (issue_any (some ⟨w.heap.size, 0, none⟩) 1 1 1 1 [107] [115, 104, 111, 112] [119, 101, 98] 7 2 167772167 5 tA (by with_unfolding_all rfl) tA_ok (by with_unfolding_all decide) (by with_unfolding_all decide) w1 rk (by omega)).mono ?_
  rintro e w2 ⟨rfl, f2⟩
  rw [issV_yes rg_A tk_A]
  rw [tB_v]
  have lr := kr.lt
  replace kr := kr.below f2 lr
  replace rk := (rk.below f2).more f2.size
  replace f1 := f1.trans (f2.mono f1.size)
  clear f2
  go_upto_region 3 with (first | (refine store_blk (cs := tkZero.cells) (Blk.newAt rfl 31 _) rfl 31 (.tmp 2) (.tmp 12) rfl rfl (us := tB.cells) rfl HitB.out Hlz.out tB.all ?_; intro w3 kt hg; have f3 : Below w2.heap.size w2 w3 := ((Below.refl _ w2).alloc (Nat.le_refl _) _).grown hg (by simp) (by simp)))
  have lr := kr.lt
  replace kr := kr.below f3 lr
  replace rk := (rk.below f3).more f3.size
  replace f1 := f1.trans (f3.mono f1.size)
  clear hg f3
  have hg2 : w.heap.size + 1 < w2.heap.size := lr
  generalize w2.heap.size = g2 at *
  go_upto_region 4 with (first | (refine load_blk kt rfl 31 (.tmp 2) rfl rfl Try.underlying31 HitB.out ?_) | (refine store_blk (cs := tkZero.cells) (Blk.newAt rfl 31 _) rfl 31 (.tmp 4) (.tmp 14) rfl rfl (us := tB.cells) rfl HitB.out Hlz.out tB.all ?_; intro w4 ku hg; have f3 : Below w3.heap.size w3 w4 := ((Below.refl _ w3).alloc (Nat.le_refl _) _).grown hg (by simp) (by simp)))
  have lt := kt.lt
  have lr := kr.lt
  replace kr := kr.below f3 lr
  replace kt := kt.below f3 lt
  replace rk := (rk.below f3).more f3.size
  replace f1 := f1.trans (f3.mono f1.size)
  clear hg f3
  have hg4 : g2 < w3.heap.size := lt
  generalize w3.heap.size = g4 at *
  have q2 : w4.cell? ⟨g4, 2, none⟩ = some (.int .u64 7) := by rw [ku.cell, tB_2]
  have z2 := ku.frozen 2
  go_upto_region 5 with fail
  refine abs (fun w5 => Blk w5 (w.heap.size + 1) 25 [.slice (some ⟨w.heap.size, 0, none⟩) 1 1, .int .u64 1, .int .u64 1] ∧ RdB w5 w5.heap.size (some ⟨w.heap.size, 0, none⟩) 1 [107] ∧ Blk w5 g2 31 tB.cells ∧ Blk w5 g4 31 tU.cells ∧ Below w.heap.size w w5) ⟨kr.far (by simp; omega) _, ?_, kt.far (by simp; omega) _, ?_, f1.setCell (by simp; omega) _⟩ ?_
  · have hb : Below (w.heap.size + 1) w4 (w4.setCell ⟨g4, 2, none⟩ (.int .u64 8)) := (Below.refl _ w4).setCell (by simp; omega) _
    obtain ⟨h1, h2⟩ := rk
    refine ⟨h1, fun h => ?_⟩
    obtain ⟨b, off, e, hb2, hc⟩ := h2 h
    injection e with e
    injection e with e1 e2 _
    subst e1 e2
    exact ⟨_, _, rfl, by simp; omega, fun j hj => (hb.cell (p := ⟨w.heap.size, 0 + j, none⟩) (by simp)).trans (hc j hj)⟩
  · rw [← tU_set]
    exact ku.set 2 _
  clear kr kt ku rk f1 q2 z2
  rintro w5 ⟨kr, rk, kt, ku, f1⟩
  have q6 : w5.cell? ⟨g2, 6, none⟩ = some (.int .u64 205) := by rw [kt.cell, tB_6]
  have q7 : w5.cell? ⟨g2, 7, none⟩ = some (.int .u64 1) := by rw [kt.cell, tB_7]
  go_wp2_with (first | (refine load_blk_if kr rfl 25 (.tmp 1) rfl rfl Try.underlying25 Hir.out ?_) | (refine load_blk_if kt rfl 31 (.tmp 2) rfl rfl Try.underlying31 HitB.out ?_))
  clear q6 q7
  refine (verify_any (some ⟨w.heap.size, 0, none⟩) 1 1 1 1 [107] tB 204 tB_ok tB_ns.1 tB_ns.2 w5 rk (by omega)).mono ?_
  rintro e w6 ⟨rfl, f2⟩
  rw [ver_204]
  replace kr := kr.below f2 kr.lt
  replace kt := kt.below f2 kt.lt
  replace ku := ku.below f2 ku.lt
  replace rk := (rk.below f2).more f2.size
  replace f1 := f1.trans (f2.mono f1.size)
  clear f2
  go_wp2_with (first | (refine load_blk_if kr rfl 25 (.tmp 1) rfl rfl Try.underlying25 Hir.out ?_) | (refine load_blk_if kt rfl 31 (.tmp 2) rfl rfl Try.underlying31 HitB.out ?_) | (refine load_blk_if ku rfl 31 (.tmp 4) rfl rfl Try.underlying31 HitU.out ?_))
  refine (verify_any (some ⟨w.heap.size, 0, none⟩) 1 1 1 1 [107] tB 205 tB_ok tB_ns.1 tB_ns.2 w6 rk (by omega)).mono ?_
  rintro e w7 ⟨rfl, f2⟩
  rw [ver_205]
  replace kr := kr.below f2 kr.lt
  replace kt := kt.below f2 kt.lt
  replace ku := ku.below f2 ku.lt
  replace rk := (rk.below f2).more f2.size
  replace f1 := f1.trans (f2.mono f1.size)
  clear f2
  go_wp2_with (first | (refine load_blk_if kr rfl 25 (.tmp 1) rfl rfl Try.underlying25 Hir.out ?_) | (refine load_blk_if kt rfl 31 (.tmp 2) rfl rfl Try.underlying31 HitB.out ?_) | (refine load_blk_if ku rfl 31 (.tmp 4) rfl rfl Try.underlying31 HitU.out ?_))
  refine (verify_any (some ⟨w.heap.size, 0, none⟩) 1 1 1 1 [107] tU 5 tU_ok tU_ns.1 tU_ns.2 w7 rk (by omega)).mono ?_
  rintro e w8 ⟨rfl, f2⟩
  rw [ver_U]
  replace kr := kr.below f2 kr.lt
  replace kt := kt.below f2 kt.lt
  replace ku := ku.below f2 ku.lt
  replace rk := (rk.below f2).more f2.size
  replace f1 := f1.trans (f2.mono f1.size)
  clear f2
  go_wp2_with (first | (refine load_blk_if kr rfl 25 (.tmp 1) rfl rfl Try.underlying25 Hir.out ?_) | (refine load_blk_if kt rfl 31 (.tmp 2) rfl rfl Try.underlying31 HitB.out ?_) | (refine load_blk_if ku rfl 31 (.tmp 4) rfl rfl Try.underlying31 HitU.out ?_))
  refine (fresh_any tB tB_ok 104 (by omega) w8).mono ?_
  rintro e w9 ⟨rfl, f2⟩
  rw [fresh_104]
  replace kt := kt.below f2 kt.lt
  replace f1 := f1.trans (f2.mono f1.size)
  clear f2
  go_wp2_with (first | (refine load_blk_if kt rfl 31 (.tmp 2) rfl rfl Try.underlying31 HitB.out ?_))
  refine (fresh_any tB tB_ok 105 (by omega) w9).mono ?_
  rintro e w10 ⟨rfl, f2⟩
  rw [fresh_105]
  replace f1 := f1.trans (f2.mono f1.size)
  go_wp2_with fail
  go_ret
  exact ⟨rfl, f1⟩
end Go.Proofs.Ytgefbgjgcjiceaa
