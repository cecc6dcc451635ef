/- match.May, MayAll, policy.rows, addr.MayPort. Conditions: sizes. Printed by gen_pmay.py. -/
import Derived.Test.YtdbjihpdfiipcaaGreatPolFind
import Derived.Test.YtdbjihpdfiipcaaGreatLabel
namespace Go.Proofs.YtdbjihpdfiipcaaGreat
open Go.RowKit Go.Sort
set_option linter.unusedVariables false
set_option linter.unusedSimpArgs false
/-- Is a byte of this value one that a term may have? -/
def okC (c : Nat) : Bool := !(decide (c < 33) || (decide (126 < c) || (decide (c = 42) || decide (c = 44))))
theorem okC_of (c : UInt8) : chOk c = okC c.toNat := rfl
theorem okC_yes {c : Nat} (h1 : ¬ c < 33) (h2 : ¬ 126 < c) (h3 : ¬ c = 42) (h4 : ¬ c = 44) : okC c = true := by
  simp [okC, h1, h2, h3, h4]
theorem okC_no {c : Nat} (h : c < 33 ∨ 126 < c ∨ c = 42 ∨ c = 44) : okC c = false := by
  unfold okC
  rcases h with h | h | h | h <;> simp [h]
theorem tm_no {K : Int} {l : List UInt8} {i : Nat} (hi : i < l.length) (h : okC (at8 l i).toNat = false) : tmMay (K, l) = false := by
  have e : l.all chOk = false := by
    rw [List.all_eq_false]
    refine ⟨at8 l i, ?_, ?_⟩
    · simp [at8, List.getD, hi]
    · rw [okC_of, h]; simp
  unfold tmMay
  simp only [e, Bool.false_and]
theorem tm_yes {K : Int} {l : List UInt8} (h : ∀ i, i < l.length → okC (at8 l i).toNat = true) : tmMay (K, l) = (if K = 4 then l.isEmpty else decide (1 ≤ K) && (decide (K ≤ 3) && (decide (1 ≤ l.length) && decide (l.length ≤ 64)))) := by
  have e : l.all chOk = true := by
    rw [List.all_eq_true]
    intro x hx
    obtain ⟨i, hi, rfl⟩ := List.getElem_of_mem hx
    have := h i hi
    rw [okC_of]
    simpa [at8, List.getD, hi] using this
  unfold tmMay
  simp only [e, Bool.true_and]
theorem ret_bool {a b : Bool} (h : b = a) : Ending.returned (.bool a) = .returned (.bool b) := by rw [h]
set_option maxRecDepth 100000 in
set_option maxHeartbeats 2000000 in
theorem tMay_any (K : Int) (l : List UInt8) (w : World) (hl : l.length ≤ 9223372036854775807) :
    Calls Tryz.prog 166 #[.agg #[.int .i64 K, .string (strB l)]] w fun e w' => e = .returned (.bool (tmMay (K, l))) ∧ Below w.heap.size w w' := by
  obtain ⟨r, hr⟩ : ∃ r, tmMay (K, l) = r := ⟨_, rfl⟩
  rw [hr]
  have HR := Lib.hid hr; clear hr
  have hsz := strB_size l
  obtain ⟨w1, hw1⟩ : ∃ w1, w.alloc (.cells #[.int .i64 K, .string (strB l)] 78) = w1 := ⟨_, rfl⟩
  have f0 : Below w.heap.size w w1 := by rw [← hw1]; exact (Below.refl _ _).alloc (Nat.le_refl _) _
  have e0 : w1.cell? ⟨w.heap.size, 0, none⟩ = some (.int .i64 K) := by rw [← hw1]; exact (Blk.newAt rfl _ #[.int .i64 K, .string (strB l)]).cell 0
  have e1 : w1.cell? ⟨w.heap.size, 1, none⟩ = some (.string (strB l)) := by rw [← hw1]; exact (Blk.newAt rfl _ #[.int .i64 K, .string (strB l)]).cell 1
  generalize hs : strB l = s at *
  have hat : ∀ k (h : k < s.size), (s[k]'h).toNat = (at8 l k).toNat := by subst hs; exact strB_at l
  have Hs := Lib.hid hs
  have Hat := Lib.hid hat
  clear hs hat
  obtain ⟨em, hem⟩ : ∃ em, l.isEmpty = em := ⟨_, rfl⟩
  have Hem := Lib.hid hem; clear hem
  generalize hn : l.length = n at *
  have Hn := Lib.hid hn
  clear hn
  go_enter Tryz.func166, Tryz.ntmps166
  go_wp2_with fail
  clear hw1
  go_loopw [3, 4] (fun i _ wr => ∃ k : Nat, k ≤ n ∧ i = .int .i64 k ∧ wr = w1 ∧ (∀ j, j < k → okC (at8 l j).toNat = true)) (fun i _ _ => n - (intOf i).toNat)
  case atStart => exact ⟨0, by omega, rfl, rfl, fun j hj => absurd hj (by omega)⟩
  case round =>
    obtain ⟨k, hk, rfl, rfl, hok⟩ := hrel
    have Hok := Lib.hid hok
    clear hok
    by_cases hlt : k < n
    · have d5 : decide ((k : Int) < (n : Int)) = true := by simp; omega
      have b1 : (0 : Int) ≤ (k : Int) := by omega
      have b2 : (k : Int) < (n : Int) := by omega
      have qk : (s[k]'(by omega)).toNat = (at8 l k).toNat := Hat.out k (by omega)
      generalize hC : (at8 l k).toNat = C at *
      have HC := Lib.hid hC
      clear hC
      by_cases h1 : C < 33
      · have d6 : decide ((C : Int) < 33) = true := by simp; omega
        have hno := Lib.hid (tm_no (K := K) (l := l) (i := k) (by rw [Hn.out]; omega) (by rw [HC.out]; exact okC_no (by omega)))
        rw [HR.out] at hno
        go_wp2_with fail
        go_ret
        exact ⟨by rw [hno.out]; rfl, f0⟩
      have d6 : decide ((C : Int) < 33) = false := by simp; omega
      by_cases h2 : 126 < C
      · have d7 : decide ((126 : Int) < (C : Int)) = true := by simp; omega
        have hno := Lib.hid (tm_no (K := K) (l := l) (i := k) (by rw [Hn.out]; omega) (by rw [HC.out]; exact okC_no (by omega)))
        rw [HR.out] at hno
        go_wp2_with fail
        go_ret
        exact ⟨by rw [hno.out]; rfl, f0⟩
      have d7 : decide ((126 : Int) < (C : Int)) = false := by simp; omega
      by_cases h3 : C = 42
      · have d8 : ((C : Int) == 42) = true := by simp; omega
        have H3 := Lib.hid h3; clear h3
        have hno := Lib.hid (tm_no (K := K) (l := l) (i := k) (by rw [Hn.out]; omega) (by rw [HC.out]; exact okC_no (.inr (.inr (.inl H3.out)))))
        rw [HR.out] at hno
        go_wp2_with fail
        go_ret
        exact ⟨by rw [hno.out]; rfl, f0⟩
      have d8 : ((C : Int) == 42) = false := by simp; omega
      by_cases h4 : C = 44
      · have d9 : ((C : Int) == 44) = true := by simp; omega
        have H4 := Lib.hid h4; clear h4
        have hno := Lib.hid (tm_no (K := K) (l := l) (i := k) (by rw [Hn.out]; omega) (by rw [HC.out]; exact okC_no (.inr (.inr (.inr H4.out)))))
        rw [HR.out] at hno
        go_wp2_with fail
        go_ret
        exact ⟨by rw [hno.out]; rfl, f0⟩
      have d9 : ((C : Int) == 44) = false := by simp; omega
      go_wp2_with fail
      go_roundw
      case rel =>
        refine ⟨k + 1, by omega, by go_num, by trivial, fun j hj => ?_⟩
        by_cases hjk : j = k
        · subst hjk; rw [HC.out]; exact okC_yes h1 h2 h3 h4
        · exact Hok.out j (by omega)
      case measure => simp [intOf]; omega
    · have d5 : decide ((k : Int) < (n : Int)) = false := by simp; omega
      obtain rfl : k = n := by omega
      have hy := tm_yes (K := K) (l := l) (fun i hi => Hok.out i (by rw [Hn.out] at hi; exact hi))
      rw [HR.out, Hn.out] at hy
      have HY := Lib.hid hy; clear hy
      by_cases h1 : K = 4
      · have g1 : (K == 4) = true := by simp [h1]
        have H1 := Lib.hid h1; clear h1
        go_wp2_with fail
        go_ret
        exact ⟨ret_bool (by rw [HY.out, if_pos H1.out, ← Hs.out, strB_toList]), f0⟩
      have g1 : (K == 4) = false := by simp [h1]
      have H1 := Lib.hid h1; clear h1
      have HZ := Lib.hid (HY.out.trans (if_neg H1.out)); clear HY
      by_cases k1 : 1 ≤ K
      · have g2 : decide (1 ≤ K) = true := decide_eq_true k1
        by_cases k2 : K ≤ 3
        · have g3 : decide (K ≤ 3) = true := decide_eq_true k2
          by_cases k3 : 1 ≤ k
          · have g4 : decide ((1 : Int) ≤ (k : Int)) = true := by simp; omega
            by_cases k4 : k ≤ 64
            · have g5 : decide ((k : Int) ≤ 64) = true := by simp; omega
              go_wp2_with fail
              go_ret
              exact ⟨ret_bool (by rw [HZ.out]; simp [k1, k2, k3, k4]), f0⟩
            · have g5 : decide ((k : Int) ≤ 64) = false := by simp; omega
              go_wp2_with fail
              go_ret
              exact ⟨ret_bool (by rw [HZ.out]; simp [k4]), f0⟩
          · have g4 : decide ((1 : Int) ≤ (k : Int)) = false := by simp; omega
            go_wp2_with fail
            go_ret
            exact ⟨ret_bool (by rw [HZ.out, decide_eq_false (show ¬ 1 ≤ k by omega)]; simp), f0⟩
        · have g3 : decide (K ≤ 3) = false := decide_eq_false k2
          go_wp2_with fail
          go_ret
          exact ⟨ret_bool (by rw [HZ.out, decide_eq_false (show ¬ K ≤ 3 by omega)]; simp), f0⟩
      · have g2 : decide (1 ≤ K) = false := decide_eq_false k1
        go_wp2_with fail
        go_ret
        exact ⟨ret_bool (by rw [HZ.out, decide_eq_false (show ¬ 1 ≤ K by omega)]; simp), f0⟩
end Go.Proofs.YtdbjihpdfiipcaaGreat
