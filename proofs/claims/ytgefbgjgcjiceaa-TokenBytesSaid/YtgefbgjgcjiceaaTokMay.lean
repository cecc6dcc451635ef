/- Whether a token may be: both answers. Condition: labels of a length below 2^63. -/
import Derived.Test.YtgefbgjgcjiceaaTok
namespace Go.Proofs.Ytgefbgjgcjiceaa
open Go.RowKit
set_option linter.unusedVariables false
set_option linter.unusedSimpArgs false
set_option maxRecDepth 100000 in
set_option maxHeartbeats 2000000 in
theorem tokMay_any (t : Tk) (ht : t.ok) (w : World) : Calls Try.prog 18 #[t.v] w fun e w' => e = .returned (.bool (tkOk t)) ∧ Below w.heap.size w w' := by
  have hnm : (Try.prog.info? 27).map (·.size) = some ([.string (strB t.ns), .string (strB t.sa)] : List Value).length := by kernel_rfl
  have Hnm := Lib.hid hnm; clear hnm
  unfold Tk.v
  go_enter Try.func18, Try.ntmps18
  go_upto_region 1 with fail
  refine abs (fun w1 => Blk w1 w.heap.size 31 t.cells ∧ Below w.heap.size w w1) ⟨Blk.of_new w _ _, (Below.refl _ w).alloc (Nat.le_refl _) _⟩ ?_
  rintro w1 ⟨k1, f1⟩
  go_wp2_with (first | (refine load_part (cs := [.string (strB t.ns), .string (strB t.sa)]) (b := w.heap.size) (off := 0) (by rw [← t.name]; exact k1.range 0 2) rfl 27 (.tmp 3) rfl rfl Try.underlying27 Hnm.out ?_))
  refine (may_any t.ns t.sa ht.ns ht.sa w1).mono ?_
  rintro e w2 ⟨rfl, f2⟩
  replace k1 := k1.below f2 k1.lt
  replace f1 := f1.trans (f2.mono f1.size)
  clear f2
  have c2 : w2.cell? ⟨w.heap.size, 2, none⟩ = some (.int .u64 (t.uid : Int)) := k1.cell 2
  have c3 : w2.cell? ⟨w.heap.size, 3, none⟩ = some (.int .i64 t.host) := k1.cell 3
  have c5 : w2.cell? ⟨w.heap.size, 5, none⟩ = some (.int .u64 (t.born : Int)) := k1.cell 5
  have c6 : w2.cell? ⟨w.heap.size, 6, none⟩ = some (.int .u64 (t.till : Int)) := k1.cell 6
  have c7 : w2.cell? ⟨w.heap.size, 7, none⟩ = some (.int .u64 (t.key : Int)) := k1.cell 7
  have hok : tkOk t = (mayN t.ns t.sa && numOk t.uid && decide (1 ≤ t.host) && decide (t.host ≤ 9) && decide (t.born < t.till) && decide (t.till ≤ 4611686018427387903) && numOk t.key) := rfl
  have HOK := Lib.hid hok
  clear hok k1
  generalize mayN t.ns t.sa = N at *
  generalize t.uid = uid at *
  generalize t.host = host at *
  generalize t.born = born at *
  generalize t.till = till at *
  generalize t.key = key at *
  cases h0 : N
  · go_wp2_with fail
    go_ret
    exact ⟨by rw [HOK.out]; simp [h0], f1⟩
  · skip
    cases h1 : numOk uid
    · go_wp2_with fail
      refine (number_any _ _).mono ?_
      rintro e w3 ⟨rfl, rfl⟩
      rw [h1]
      go_wp2_with fail
      go_ret
      exact ⟨by rw [HOK.out]; simp [h0, h1], f1⟩
    · skip
      by_cases h2 : 1 ≤ host
      · have d2 : decide ((1 : Int) ≤ host) = true := by simp; omega
        have e2 : decide (1 ≤ host) = true := by simp; omega
        by_cases h3 : host ≤ 9
        · have d3 : decide (host ≤ 9) = true := by simp; omega
          have e3 : decide (host ≤ 9) = true := by simp; omega
          by_cases h4 : born < till
          · have d4 : decide ((born : Int) < (till : Int)) = true := by simp; omega
            have e4 : decide (born < till) = true := by simp; omega
            by_cases h5 : till ≤ 4611686018427387903
            · have d5 : decide ((till : Int) ≤ 4611686018427387903) = true := by simp; omega
              have e5 : decide (till ≤ 4611686018427387903) = true := by simp; omega
              cases h6 : numOk key
              · go_wp2_with fail
                refine (number_any _ _).mono ?_
                rintro e w3 ⟨rfl, rfl⟩
                rw [h1]
                go_wp2_with fail
                refine (number_any _ _).mono ?_
                rintro e w3 ⟨rfl, rfl⟩
                rw [h6]
                go_wp2_with fail
                go_ret
                exact ⟨by rw [HOK.out]; simp [h0, h1, e2, e3, e4, e5, h6], f1⟩
              · skip
                go_wp2_with fail
                refine (number_any _ _).mono ?_
                rintro e w3 ⟨rfl, rfl⟩
                rw [h1]
                go_wp2_with fail
                refine (number_any _ _).mono ?_
                rintro e w3 ⟨rfl, rfl⟩
                rw [h6]
                go_wp2_with fail
                go_ret
                exact ⟨by rw [HOK.out]; simp [h0, h1, e2, e3, e4, e5, h6], f1⟩
            · have d5 : decide ((till : Int) ≤ 4611686018427387903) = false := by simp; omega
              have e5 : decide (till ≤ 4611686018427387903) = false := by simp; omega
              go_wp2_with fail
              refine (number_any _ _).mono ?_
              rintro e w3 ⟨rfl, rfl⟩
              rw [h1]
              go_wp2_with fail
              go_ret
              exact ⟨by rw [HOK.out]; simp [h0, h1, e2, e3, e4, e5], f1⟩
          · have d4 : decide ((born : Int) < (till : Int)) = false := by simp; omega
            have e4 : decide (born < till) = false := by simp; omega
            go_wp2_with fail
            refine (number_any _ _).mono ?_
            rintro e w3 ⟨rfl, rfl⟩
            rw [h1]
            go_wp2_with fail
            go_ret
            exact ⟨by rw [HOK.out]; simp [h0, h1, e2, e3, e4], f1⟩
        · have d3 : decide (host ≤ 9) = false := by simp; omega
          have e3 : decide (host ≤ 9) = false := by simp; omega
          go_wp2_with fail
          refine (number_any _ _).mono ?_
          rintro e w3 ⟨rfl, rfl⟩
          rw [h1]
          go_wp2_with fail
          go_ret
          exact ⟨by rw [HOK.out]; simp [h0, h1, e2, e3], f1⟩
      · have d2 : decide ((1 : Int) ≤ host) = false := by simp; omega
        have e2 : decide (1 ≤ host) = false := by simp; omega
        go_wp2_with fail
        refine (number_any _ _).mono ?_
        rintro e w3 ⟨rfl, rfl⟩
        rw [h1]
        go_wp2_with fail
        go_ret
        exact ⟨by rw [HOK.out]; simp [h0, h1, e2], f1⟩
set_option maxRecDepth 100000 in
set_option maxHeartbeats 2000000 in
theorem refTokMay_any (t : Tk) (ht : t.ok) (w : World) : Calls Try.prog 21 #[t.v] w fun e w' => e = .returned (.bool (tkOk t)) ∧ Below w.heap.size w w' := by
  have hnm : (Try.prog.info? 27).map (·.size) = some ([.string (strB t.ns), .string (strB t.sa)] : List Value).length := by kernel_rfl
  have Hnm := Lib.hid hnm; clear hnm
  unfold Tk.v
  go_enter Try.func21, Try.ntmps21
  go_upto_region 1 with fail
  refine abs (fun w1 => Blk w1 w.heap.size 31 t.cells ∧ Below w.heap.size w w1) ⟨Blk.of_new w _ _, (Below.refl _ w).alloc (Nat.le_refl _) _⟩ ?_
  rintro w1 ⟨k1, f1⟩
  go_wp2_with (first | (refine load_part (cs := [.string (strB t.ns), .string (strB t.sa)]) (b := w.heap.size) (off := 0) (by rw [← t.name]; exact k1.range 0 2) rfl 27 (.tmp 3) rfl rfl Try.underlying27 Hnm.out ?_))
  refine (refMay_any t.ns t.sa ht.ns ht.sa w1).mono ?_
  rintro e w2 ⟨rfl, f2⟩
  replace k1 := k1.below f2 k1.lt
  replace f1 := f1.trans (f2.mono f1.size)
  clear f2
  have c2 : w2.cell? ⟨w.heap.size, 2, none⟩ = some (.int .u64 (t.uid : Int)) := k1.cell 2
  have c3 : w2.cell? ⟨w.heap.size, 3, none⟩ = some (.int .i64 t.host) := k1.cell 3
  have c5 : w2.cell? ⟨w.heap.size, 5, none⟩ = some (.int .u64 (t.born : Int)) := k1.cell 5
  have c6 : w2.cell? ⟨w.heap.size, 6, none⟩ = some (.int .u64 (t.till : Int)) := k1.cell 6
  have c7 : w2.cell? ⟨w.heap.size, 7, none⟩ = some (.int .u64 (t.key : Int)) := k1.cell 7
  have hok : tkOk t = (mayN t.ns t.sa && numOk t.uid && decide (1 ≤ t.host) && decide (t.host ≤ 9) && decide (t.born < t.till) && decide (t.till ≤ 4611686018427387903) && numOk t.key) := rfl
  have HOK := Lib.hid hok
  clear hok k1
  generalize mayN t.ns t.sa = N at *
  generalize t.uid = uid at *
  generalize t.host = host at *
  generalize t.born = born at *
  generalize t.till = till at *
  generalize t.key = key at *
  cases h0 : N
  · go_wp2_with fail
    go_ret
    exact ⟨by rw [HOK.out]; simp [numOk, h0], f1⟩
  · skip
    by_cases h1 : 1 ≤ uid
    · have d1 : decide ((0 : Int) < (uid : Int)) = true := by simp; omega
      have e1 : decide (1 ≤ uid) = true := by simp; omega
      by_cases h2 : uid ≤ 4611686018427387903
      · have d2 : decide ((uid : Int) ≤ 4611686018427387903) = true := by simp; omega
        have e2 : decide (uid ≤ 4611686018427387903) = true := by simp; omega
        by_cases h3 : 1 ≤ host
        · have d3 : decide ((0 : Int) < host) = true := by simp; omega
          have e3 : decide (1 ≤ host) = true := by simp; omega
          by_cases h4 : host ≤ 9
          · have d4 : decide (host ≤ 9) = true := by simp; omega
            have e4 : decide (host ≤ 9) = true := by simp; omega
            by_cases h5 : born < till
            · have d5 : decide ((born : Int) < (till : Int)) = true := by simp; omega
              have e5 : decide (born < till) = true := by simp; omega
              by_cases h6 : till ≤ 4611686018427387903
              · have d6 : decide ((till : Int) ≤ 4611686018427387903) = true := by simp; omega
                have e6 : decide (till ≤ 4611686018427387903) = true := by simp; omega
                by_cases h7 : 1 ≤ key
                · have d7 : decide ((0 : Int) < (key : Int)) = true := by simp; omega
                  have e7 : decide (1 ≤ key) = true := by simp; omega
                  by_cases h8 : key ≤ 4611686018427387903
                  · have d8 : decide ((key : Int) ≤ 4611686018427387903) = true := by simp; omega
                    have e8 : decide (key ≤ 4611686018427387903) = true := by simp; omega
                    go_wp2_with fail
                    go_ret
                    exact ⟨by rw [HOK.out]; simp [numOk, h0, e1, e2, e3, e4, e5, e6, e7, e8], f1⟩
                  · have d8 : decide ((key : Int) ≤ 4611686018427387903) = false := by simp; omega
                    have e8 : decide (key ≤ 4611686018427387903) = false := by simp; omega
                    go_wp2_with fail
                    go_ret
                    exact ⟨by rw [HOK.out]; simp [numOk, h0, e1, e2, e3, e4, e5, e6, e7, e8], f1⟩
                · have d7 : decide ((0 : Int) < (key : Int)) = false := by simp; omega
                  have e7 : decide (1 ≤ key) = false := by simp; omega
                  go_wp2_with fail
                  go_ret
                  exact ⟨by rw [HOK.out]; simp [numOk, h0, e1, e2, e3, e4, e5, e6, e7], f1⟩
              · have d6 : decide ((till : Int) ≤ 4611686018427387903) = false := by simp; omega
                have e6 : decide (till ≤ 4611686018427387903) = false := by simp; omega
                go_wp2_with fail
                go_ret
                exact ⟨by rw [HOK.out]; simp [numOk, h0, e1, e2, e3, e4, e5, e6], f1⟩
            · have d5 : decide ((born : Int) < (till : Int)) = false := by simp; omega
              have e5 : decide (born < till) = false := by simp; omega
              go_wp2_with fail
              go_ret
              exact ⟨by rw [HOK.out]; simp [numOk, h0, e1, e2, e3, e4, e5], f1⟩
          · have d4 : decide (host ≤ 9) = false := by simp; omega
            have e4 : decide (host ≤ 9) = false := by simp; omega
            go_wp2_with fail
            go_ret
            exact ⟨by rw [HOK.out]; simp [numOk, h0, e1, e2, e3, e4], f1⟩
        · have d3 : decide ((0 : Int) < host) = false := by simp; omega
          have e3 : decide (1 ≤ host) = false := by simp; omega
          go_wp2_with fail
          go_ret
          exact ⟨by rw [HOK.out]; simp [numOk, h0, e1, e2, e3], f1⟩
      · have d2 : decide ((uid : Int) ≤ 4611686018427387903) = false := by simp; omega
        have e2 : decide (uid ≤ 4611686018427387903) = false := by simp; omega
        go_wp2_with fail
        go_ret
        exact ⟨by rw [HOK.out]; simp [numOk, h0, e1, e2], f1⟩
    · have d1 : decide ((0 : Int) < (uid : Int)) = false := by simp; omega
      have e1 : decide (1 ≤ uid) = false := by simp; omega
      go_wp2_with fail
      go_ret
      exact ⟨by rw [HOK.out]; simp [numOk, h0, e1], f1⟩
end Go.Proofs.Ytgefbgjgcjiceaa
