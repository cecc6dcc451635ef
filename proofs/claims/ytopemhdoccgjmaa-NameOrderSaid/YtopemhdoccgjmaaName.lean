/- Names: May, Print, of the program and of the document. Condition of Print: the texts are at most 2^46 bytes. -/
import Derived.Test.YtopemhdoccgjmaaLabel2
namespace Go.Proofs.Ytopemhdoccgjmaa
open Go.RowKit
set_option linter.unusedVariables false
def nmV (ns sa : List UInt8) : Value := .agg #[.string (strB ns), .string (strB sa)]
def mayN (ns sa : List UInt8) : Bool := labB ns && labB sa
def PRE : List UInt8 := [115, 112, 105, 102, 102, 101, 58, 47, 47, 109, 101, 115, 104, 47, 110, 115, 47]
def BET : List UInt8 := [47, 115, 97, 47]
def prN (ns sa : List UInt8) : List UInt8 := PRE ++ ns ++ BET ++ sa
def prV (ns sa : List UInt8) : Value := .tuple #[.string (strB (if mayN ns sa then prN ns sa else [])), .int .i64 (if mayN ns sa then 0 else 1)]
theorem prV_yes {ns sa : List UInt8} (h : mayN ns sa = true) : prV ns sa = .tuple #[.string (strB (prN ns sa)), .int .i64 0] := by unfold prV; rw [h]; rfl
theorem prV_no {ns sa : List UInt8} (h : mayN ns sa = false) : prV ns sa = .tuple #[.string (strB []), .int .i64 1] := by unfold prV; rw [h]; rfl
theorem labB_le {l : List UInt8} (h : labB l = true) : 1 ≤ l.length ∧ l.length ≤ 20 := by
  unfold labB at h
  simp only [Bool.and_eq_true, decide_eq_true_eq] at h
  omega
theorem mayN_le {ns sa : List UInt8} (h : mayN ns sa = true) : (1 ≤ ns.length ∧ ns.length ≤ 20) ∧ 1 ≤ sa.length ∧ sa.length ≤ 20 := by
  unfold mayN at h
  simp only [Bool.and_eq_true] at h
  exact ⟨labB_le h.1, labB_le h.2⟩
theorem strB_append (a b : List UInt8) : strB a ++ strB b = strB (a ++ b) := by
  apply ByteArray.ext
  simp [strB]
set_option maxRecDepth 100000 in
set_option maxHeartbeats 1000000 in
theorem may_any (ns sa : List UInt8) (h1 : ns.length ≤ 9223372036854775807) (h2 : sa.length ≤ 9223372036854775807) (w : World) :
    Calls Try.prog 12 #[nmV ns sa] w fun e w' => e = .returned (.bool (mayN ns sa)) ∧ Below w.heap.size w w' := by
  unfold nmV mayN
  go_enter Try.func12, Try.ntmps12
  go_wp2_with fail
  refine (mayLabel_any ns h1 _).mono ?_
  rintro e w1 ⟨rfl, f1⟩
  have c1 := f1.cell (p := ⟨w.heap.size, 1, none⟩) (by simp)
  have cc : w1.cell? ⟨w.heap.size, 1, none⟩ = some (.string (strB sa)) := by rw [c1]; simp
  have F1 : Below w.heap.size w w1 := ((Below.refl _ w).alloc (Nat.le_refl _) _).trans (f1.mono (by simp))
  clear c1 f1
  cases hb : labB ns
  · go_wp2_with fail
    go_ret
    exact ⟨by rw [hb]; rfl, F1⟩
  · go_wp2_with fail
    refine (mayLabel_any sa h2 _).mono ?_
    rintro e w2 ⟨rfl, f2⟩
    have F2 := F1.trans (f2.mono F1.size)
    go_wp2_with fail
    go_ret
    exact ⟨by rw [hb]; rfl, F2⟩
set_option maxRecDepth 100000 in
set_option maxHeartbeats 1000000 in
theorem refMay_any (ns sa : List UInt8) (h1 : ns.length ≤ 9223372036854775807) (h2 : sa.length ≤ 9223372036854775807) (w : World) :
    Calls Try.prog 15 #[nmV ns sa] w fun e w' => e = .returned (.bool (mayN ns sa)) ∧ Below w.heap.size w w' := by
  unfold nmV mayN
  go_enter Try.func15, Try.ntmps15
  go_wp2_with fail
  refine (refLabel_any ns h1 _).mono ?_
  rintro e w1 ⟨rfl, rfl⟩
  have F1 : ∀ o, Below w.heap.size w (w.alloc o) := fun o => (Below.refl _ w).alloc (Nat.le_refl _) o
  cases hb : labB ns
  · go_wp2_with fail
    go_ret
    exact ⟨by rw [hb]; rfl, F1 _⟩
  · go_wp2_with fail
    refine (refLabel_any sa h2 _).mono ?_
    rintro e w2 ⟨rfl, rfl⟩
    go_wp2_with fail
    go_ret
    exact ⟨by rw [hb]; rfl, F1 _⟩
set_option maxRecDepth 100000 in
set_option maxHeartbeats 1000000 in
theorem print_any (ns sa : List UInt8) (h1 : ns.length ≤ 9223372036854775807) (h2 : sa.length ≤ 9223372036854775807) (w : World) :
    Calls Try.prog 11 #[nmV ns sa] w fun e w' => e = .returned (prV ns sa) ∧ Below w.heap.size w w' := by
  have hm := fun w => may_any ns sa h1 h2 w
  unfold nmV at hm ⊢
  go_enter Try.func11, Try.ntmps11
  go_wp2_with fail
  refine (hm _).mono ?_
  rintro e w1 ⟨rfl, f1⟩
  have c0 := f1.cell (p := ⟨w.heap.size, 0, none⟩) (by simp)
  have c1 := f1.cell (p := ⟨w.heap.size, 1, none⟩) (by simp)
  have d0 : w1.cell? ⟨w.heap.size, 0, none⟩ = some (.string (strB ns)) := by rw [c0]; simp
  have d1 : w1.cell? ⟨w.heap.size, 1, none⟩ = some (.string (strB sa)) := by rw [c1]; simp
  have F1 : Below w.heap.size w w1 := ((Below.refl _ w).alloc (Nat.le_refl _) _).trans (f1.mono (by simp))
  clear c0 c1 f1 hm
  cases hb : mayN ns sa
  · have hp := Lib.hid (prV_no hb)
    go_wp2_with fail
    go_ret2
    exact ⟨by rw [hp.out]; rfl, F1⟩
  · have hp := Lib.hid (prV_yes hb)
    have hle := mayN_le hb
    have z1 : (strB ns).size ≤ 20 := by rw [strB_size]; omega
    have z2 : (strB sa).size ≤ 20 := by rw [strB_size]; omega
    clear hle
    have e1 : strB [115, 112, 105, 102, 102, 101, 58, 47, 47, 109, 101, 115, 104, 47, 110, 115, 47] ++ strB ns ++ strB [47, 115, 97, 47] ++ strB sa = strB (prN ns sa) := by
      rw [strB_append, strB_append, strB_append]; rfl
    have E1 := Lib.hid e1
    clear e1
    go_wp2_with fail
    go_ret2
    refine ⟨?_, F1⟩
    rw [hp.out, ← E1.out]
    rfl
set_option maxRecDepth 100000 in
set_option maxHeartbeats 1000000 in
theorem refPrint_any (ns sa : List UInt8) (h1 : ns.length ≤ 1000000) (h2 : sa.length ≤ 1000000) (w : World) :
    Calls Try.prog 18 #[nmV ns sa] w fun e w' => e = .returned (.string (strB (prN ns sa))) ∧ Below w.heap.size w w' := by
  unfold nmV
  have z1 : (strB ns).size ≤ 1000000 := by rw [strB_size]; omega
  have z2 : (strB sa).size ≤ 1000000 := by rw [strB_size]; omega
  go_enter Try.func18, Try.ntmps18
  have e1 : strB [115, 112, 105, 102, 102, 101, 58, 47, 47, 109, 101, 115, 104, 47, 110, 115, 47] ++ strB ns ++ strB [47, 115, 97, 47] ++ strB sa = strB (prN ns sa) := by
    rw [strB_append, strB_append, strB_append]; rfl
  have E1 := Lib.hid e1
  clear e1
  go_wp2_with fail
  go_ret
  refine ⟨?_, (Below.refl _ w).alloc (Nat.le_refl _) _⟩
  rw [← E1.out]
  rfl
end Go.Proofs.Ytopemhdoccgjmaa
