/- The document's Same of rows of nets. Condition: rows of at most what the machine has. -/
import Derived.Test.YtddfgalofngoiaaGreatDoorNetDel
import Derived.Test.YtddfgalofngoiaaGreatDoorNetStep
namespace Go.Proofs.YtddfgalofngoiaaGreatDoor
open Go.RowKit Go.Sort
set_option linter.unusedVariables false
set_option linter.unusedSimpArgs false
theorem same_next {L M : List Nt} {k : Nat} (hL : k < L.length) (hM : k < M.length) (h : L.take k = M.take k) (he : ntAt L k = ntAt M k) : L.take (k + 1) = M.take (k + 1) := by
  rw [List.take_succ_eq_append_getElem hL, List.take_succ_eq_append_getElem hM, h, ← ntAt_eq hL, ← ntAt_eq hM, he]
theorem same_not {L M : List Nt} {k : Nat} (hL : k < L.length) (hM : k < M.length) (he : ntAt L k ≠ ntAt M k) : L ≠ M := fun e => he (by rw [e])
theorem same_end {L M : List Nt} (hl : L.length = M.length) (h : L.take L.length = M.take L.length) : L = M := by
  rw [List.take_of_length_le (Nat.le_refl _), List.take_of_length_le (by omega)] at h
  exact h
set_option maxRecDepth 100000 in
set_option maxHeartbeats 4000000 in
theorem same_any (A B : Option Addr) (n c m d : Nat) (L M : List Nt) (w : World) (hA : RdR ntC 2 w w.heap.size A n L) (hB : RdR ntC 2 w w.heap.size B m M) (hn : n ≤ 1000000) (hm : m ≤ 1000000) :
    Calls Tryz.prog 10 #[.slice A n c, .slice B m d] w fun e w' => e = .returned (.bool (decide (L = M))) ∧ ∃ q, w' = w.drewN q := by
  have hl := hA.1
  have hk := hB.1
  have HL := Lib.hid hl; have HK := Lib.hid hk; clear hl hk
  obtain ⟨r, hr⟩ : ∃ r, decide (L = M) = r := ⟨_, rfl⟩
  rw [hr]
  have HR := Lib.hid hr; clear hr
  by_cases hnm : n = m
  · subst hnm
    have d0 : ((n : Int) == (n : Int)) = true := by simp
    have d1 : ((n : Int) != (n : Int)) = false := by simp
    go_enter Tryz.func10, Tryz.ntmps10
    go_wp2_with fail
    go_loopw [5] (fun i wr => ∃ k q : Nat, i = .int .i64 k ∧ k ≤ n ∧ wr = w.drewN q ∧ L.take k = M.take k) (fun i _ => n - (intOf i).toNat)
    case atStart => exact ⟨0, 0, rfl, Nat.zero_le _, rfl, rfl⟩
    case round =>
      obtain ⟨k, q, rfl, hkn, rfl, heq⟩ := hrel
      have HEQ := Lib.hid heq; clear heq
      by_cases hlt : k < n
      · have d2 : decide ((k : Int) < (n : Int)) = true := by simp; omega
        have b1 : (0 : Int) ≤ (k : Int) := by omega
        have b2 : (k : Int) < (n : Int) := by omega
        obtain ⟨ba, oa, rfl, _, x0, x1⟩ := hA.net hlt
        obtain ⟨bb, ob, rfl, _, y0, y1⟩ := hB.net hlt
        obtain ⟨a1, a2, hx⟩ : ∃ a b, ntAt L k = (a, b) := ⟨_, _, rfl⟩
        obtain ⟨b1', b2', hy⟩ : ∃ a b, ntAt M k = (a, b) := ⟨_, _, rfl⟩
        rw [hx] at x0 x1
        rw [hy] at y0 y1
        simp only at x0 x1 y0 y1
        have HX := Lib.hid hx; have HY := Lib.hid hy; clear hx hy
        have qe := fun w : World => run_nt_eq a1 a2 b1' b2' w
        by_cases he : (a1, a2) = (b1', b2')
        · rw [decide_eq_true he] at qe
          have HE := Lib.hid he; clear he
          go_wp2_with fail
          go_quiet (fail)
          go_wp2_with fail
          go_roundw
          case rel => exact ⟨k + 1, q + nq, by go_num, by omega, by simp [World.drewN, Nat.add_assoc], same_next (by rw [HL.out]; omega) (by rw [HK.out]; omega) HEQ.out (by rw [HX.out, HY.out]; exact HE.out)⟩
          case measure => simp [intOf]; omega
        · rw [decide_eq_false he] at qe
          have HE := Lib.hid he; clear he
          go_wp2_with fail
          go_quiet (fail)
          go_wp2_with fail
          go_ret
          refine ⟨?_, q + nq, by simp [World.drewN, Nat.add_assoc]⟩
          have : r = false := by
            rw [← HR.out, decide_eq_false_iff_not]
            exact same_not (by rw [HL.out]; omega) (by rw [HK.out]; omega) (by rw [HX.out, HY.out]; exact HE.out)
          rw [this]; rfl
      · have d2 : decide ((k : Int) < (n : Int)) = false := by simp; omega
        obtain rfl : k = n := by omega
        go_wp2_with fail
        go_ret
        refine ⟨?_, _, rfl⟩
        have : r = true := by
          rw [← HR.out, decide_eq_true_eq]
          exact same_end (by rw [HL.out, HK.out]) (by rw [HL.out]; exact HEQ.out)
        rw [this]; rfl
  · have d0 : ((n : Int) == (m : Int)) = false := by simp; omega
    have d1 : ((n : Int) != (m : Int)) = true := by simp; omega
    have : r = false := by
      rw [← HR.out, decide_eq_false_iff_not]
      intro e
      have := HL.out; have := HK.out
      rw [e] at *
      omega
    subst this
    go_enter Tryz.func10, Tryz.ntmps10
    go_wp2_with fail
    go_ret
    exact ⟨rfl, 0, rfl⟩
end Go.Proofs.YtddfgalofngoiaaGreatDoor
