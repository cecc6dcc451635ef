/- token.Fresh; how long things are; the awake of the laws of layer 6: true. Condition: those of token.Issue. -/
import Derived.Test.YtgefbgjgcjiceaaTokVerify
namespace Go.Proofs.Ytgefbgjgcjiceaa
open Go.RowKit
set_option linter.unusedVariables false
set_option linter.unusedSimpArgs false
def freshB (t : Tk) (now : Nat) : Bool := decide (t.born ≤ now) && decide (now - t.born < 100)
set_option maxRecDepth 100000 in
set_option maxHeartbeats 1000000 in
theorem fresh_any (t : Tk) (ht : t.ok) (now : Nat) (hn : now < 18446744073709551616) (w : World) : Calls Try.prog 19 #[t.v, .int .u64 now] w fun e w' => e = .returned (.bool (freshB t now)) ∧ Below w.heap.size w w' := by
  have hb := ht.born
  have hf : freshB t now = (decide (t.born ≤ now) && decide (now - t.born < 100)) := rfl
  have HF := Lib.hid hf; clear hf
  unfold Tk.v
  go_enter Try.func19, Try.ntmps19
  go_upto_region 1 with fail
  refine abs (fun w1 => Blk w1 w.heap.size 31 t.cells ∧ Below w.heap.size w w1) ⟨Blk.of_new w _ _, (Below.refl _ w).alloc (Nat.le_refl _) _⟩ ?_
  rintro w1 ⟨k1, f1⟩
  have q5 : w1.cell? ⟨w.heap.size, 5, none⟩ = some (.int .u64 (t.born : Int)) := k1.cell 5
  by_cases h1 : t.born ≤ now
  · have d1 : decide ((t.born : Int) ≤ (now : Int)) = true := by simp; omega
    have e1 : decide (t.born ≤ now) = true := by simp; omega
    have hw := IntWalk.u64_in ((now : Int) - (t.born : Int)) (by omega)
    by_cases h2 : now - t.born < 100
    · have d2 : decide ((now : Int) - (t.born : Int) < 100) = true := by simp; omega
      have e2 : decide (now - t.born < 100) = true := by simp; omega
      go_wp2_with fail
      go_ret
      exact ⟨by rw [HF.out, e1, e2]; rfl, f1⟩
    · have d2 : decide ((now : Int) - (t.born : Int) < 100) = false := by simp; omega
      have e2 : decide (now - t.born < 100) = false := by simp; omega
      go_wp2_with fail
      go_ret
      exact ⟨by rw [HF.out, e1, e2]; rfl, f1⟩
  · have d1 : decide ((t.born : Int) ≤ (now : Int)) = false := by simp; omega
    have e1 : decide (t.born ≤ now) = false := by simp; omega
    go_wp2_with fail
    go_ret
    exact ⟨by rw [HF.out, e1]; rfl, f1⟩
/-- Is something longer than 300? -/
def longB (n : Nat) (t : Tk) : Bool := decide (300 < n) || decide (300 < t.ns.length) || decide (300 < t.sa.length)
set_option maxRecDepth 100000 in
set_option maxHeartbeats 1000000 in
theorem long_any (A : Option Addr) (n c o m : Nat) (t : Tk) (w : World) : Calls Try.prog 11 #[rgV A n c o m, t.v] w fun e w' => e = .returned (.bool (longB n t)) ∧ Below w.heap.size w w' := by
  have hf : longB n t = (decide (300 < n) || decide (300 < t.ns.length) || decide (300 < t.sa.length)) := rfl
  have HF := Lib.hid hf; clear hf
  have sz1 : (strB t.ns).size = t.ns.length := strB_size _
  have sz2 : (strB t.sa).size = t.sa.length := strB_size _
  have htv : t.v = .agg t.cells.toArray := rfl
  rw [htv]
  unfold rgV
  go_enter Try.func11, Try.ntmps11
  go_upto_region 1 with fail
  refine abs (fun w1 => Blk w1 w.heap.size 25 [.slice A n c, .int .u64 (o : Int), .int .u64 (m : Int)] ∧ Blk w1 (w.heap.size + 1) 31 t.cells ∧ Below w.heap.size w w1) ⟨(Blk.of_new w _ _).alloc _, Blk.newAt (by simp) _ _, ((Below.refl _ w).alloc (Nat.le_refl _) _).alloc (by simp) _⟩ ?_
  rintro w1 ⟨kr, kt, f1⟩
  have q0 : w1.cell? ⟨w.heap.size, 0, none⟩ = some (.slice A n c) := kr.cell 0
  have p0 : w1.cell? ⟨w.heap.size + 1, 0, none⟩ = some (.string (strB t.ns)) := kt.cell 0
  have p1 : w1.cell? ⟨w.heap.size + 1, 1, none⟩ = some (.string (strB t.sa)) := kt.cell 1
  by_cases h1 : 300 < n
  · have d1 : decide ((300 : Int) < (n : Int)) = true := by simp; omega
    have e1 : decide (300 < n) = true := by simp; omega
    go_wp2_with fail
    go_ret
    exact ⟨by rw [HF.out, e1]; rfl, f1⟩
  have d1 : decide ((300 : Int) < (n : Int)) = false := by simp; omega
  have e1 : decide (300 < n) = false := by simp; omega
  by_cases h2 : 300 < t.ns.length
  · have d2 : decide ((300 : Int) < (t.ns.length : Int)) = true := by simp; omega
    have e2 : decide (300 < t.ns.length) = true := by simp; omega
    go_wp2_with fail
    go_ret
    exact ⟨by rw [HF.out, e1, e2]; rfl, f1⟩
  have d2 : decide ((300 : Int) < (t.ns.length : Int)) = false := by simp; omega
  have e2 : decide (300 < t.ns.length) = false := by simp; omega
  by_cases h3 : 300 < t.sa.length
  · have d3 : decide ((300 : Int) < (t.sa.length : Int)) = true := by simp; omega
    have e3 : decide (300 < t.sa.length) = true := by simp; omega
    go_wp2_with fail
    go_ret
    exact ⟨by rw [HF.out, e1, e2, e3]; rfl, f1⟩
  have d3 : decide ((300 : Int) < (t.sa.length : Int)) = false := by simp; omega
  have e3 : decide (300 < t.sa.length) = false := by simp; omega
  go_wp2_with fail
  go_ret
  exact ⟨by rw [HF.out, e1, e2, e3]; rfl, f1⟩
/-! ### awake -/
def tA : Tk := tkNew [115, 104, 111, 112] [119, 101, 98] 7 2 167772167 5 1
def sA : List UInt8 := sigB [107] tA
def tB : Tk := tA.sign sA
def tU : Tk := { tB with uid := 8 }
theorem tA_ok : tA.ok := ⟨by decide, by decide, by decide, by decide, by decide, by decide, by decide, by decide, rfl⟩
theorem sA_length : sA.length = 32 := sigB_length _ _
theorem tB_ok : tB.ok := ⟨by decide, by decide, by decide, by decide, by decide, by decide, by decide, by decide, sA_length⟩
theorem tU_ok : tU.ok := ⟨by decide, by decide, by decide, by decide, by decide, by decide, by decide, by decide, sA_length⟩
theorem rg_A : rgOk 1 1 1 = true := by decide +kernel
theorem tk_A : tkOk tA = true := by decide +kernel
theorem ver_204 : verN [107] 1 1 1 tB 204 = 0 := by decide +kernel
theorem ver_205 : verN [107] 1 1 1 tB 205 = 9 := by decide +kernel
theorem ver_U : verN [107] 1 1 1 tU 5 = 7 := by decide +kernel
end Go.Proofs.Ytgefbgjgcjiceaa
