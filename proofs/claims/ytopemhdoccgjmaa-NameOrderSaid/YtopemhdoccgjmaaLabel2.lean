/- The document's labels; May, Print of both. No condition. -/
import Derived.Test.YtopemhdoccgjmaaLabel
namespace Go.Proofs.Ytopemhdoccgjmaa
open Go.RowKit
set_option linter.unusedVariables false
theorem labB_short {l : List UInt8} (h : l.length < 1) : labB l = false := by
  unfold labB
  have e : decide (1 ≤ l.length) = false := decide_eq_false (by omega)
  rw [e, Bool.and_false, Bool.false_and]
theorem labB_long {l : List UInt8} (h : 20 < l.length) : labB l = false := by
  unfold labB
  have e : decide (l.length ≤ 20) = false := decide_eq_false (by omega)
  rw [e, Bool.and_false]
set_option maxRecDepth 100000 in
set_option maxHeartbeats 2000000 in
theorem refLabel_any (l : List UInt8) (hl : l.length ≤ 9223372036854775807) (w : World) :
    Calls Try.prog 14 #[.string (strB l)] w fun e w' => e = .returned (.bool (labB l)) ∧ w' = w := by
  have hsz := strB_size l
  generalize hs : strB l = s at *
  have hat : ∀ k (h : k < s.size), (s[k]'h).toNat = (at8 l k).toNat := by subst hs; exact strB_at l
  have Hs := Lib.hid hs
  have Hat := Lib.hid hat
  clear hs hat
  generalize hn : l.length = n at *
  have Hn := Lib.hid hn
  clear hn
  go_enter Try.func14, Try.ntmps14
  by_cases h1 : n < 1
  · have d1 : decide ((n : Int) < 1) = true := by simp; omega
    have hno := Lib.hid (labB_short (l := l) (by rw [Hn.out]; exact h1))
    go_wp2_with fail
    go_ret
    exact ⟨by rw [hno.out]; first | rfl | skip, rfl⟩
  have d1 : decide ((n : Int) < 1) = false := by simp; omega
  by_cases h2 : 20 < n
  · have d2 : decide ((20 : Int) < (n : Int)) = true := by simp; omega
    have hno := Lib.hid (labB_long (l := l) (by rw [Hn.out]; exact h2))
    go_wp2_with fail
    go_ret
    exact ⟨by rw [hno.out]; first | rfl | skip, rfl⟩
  have d2 : decide ((20 : Int) < (n : Int)) = false := by simp; omega
  have p1 : (0 : Int) < (n : Int) := by omega
  have p2 : (0 : Int) ≤ (n : Int) - 1 := by omega
  have q0 : (s[0]'(by omega)).toNat = (at8 l 0).toNat := Hat.out 0 (by omega)
  have qn : (s[n - 1]'(by omega)).toNat = (at8 l (n - 1)).toNat := Hat.out (n - 1) (by omega)
  generalize hC0 : (at8 l 0).toNat = C0 at *
  generalize hCn : (at8 l (n - 1)).toNat = Cn at *
  have HC0 := Lib.hid hC0
  have HCn := Lib.hid hCn
  clear hC0 hCn
  by_cases h3 : C0 = 45
  · have d3 : ((C0 : Int) == 45) = true := by simp; omega
    have hno := Lib.hid (labB_no (l := l) (i := 0) (by rw [Hn.out]; omega) (by rw [HC0.out, Hn.out]; exact okB_false (by omega)))
    have H3 := Lib.hid h3
    clear h3
    go_wp2_with fail
    go_ret
    exact ⟨by rw [hno.out]; first | rfl | skip, rfl⟩
  have d3 : ((C0 : Int) == 45) = false := by simp; omega
  by_cases h4 : Cn = 45
  · have d4 : ((Cn : Int) == 45) = true := by simp; omega
    have hno := Lib.hid (labB_no (l := l) (i := n - 1) (by rw [Hn.out]; omega) (by rw [HCn.out, Hn.out]; exact okB_false (by omega)))
    have H4 := Lib.hid h4
    clear h4
    go_wp2_with fail
    go_ret
    exact ⟨by rw [hno.out]; first | rfl | skip, rfl⟩
  have d4 : ((Cn : Int) == 45) = false := by simp; omega
  go_wp2_with fail
  clear q0 qn d3 d4
  go_loopw [3, 4] (fun i _ wr => ∃ k : Nat, k ≤ n ∧ i = .int .i64 k ∧ wr = w ∧ (∀ j, j < k → (97 ≤ (at8 l j).toNat ∧ (at8 l j).toNat ≤ 122) ∨ (48 ≤ (at8 l j).toNat ∧ (at8 l j).toNat ≤ 57) ∨ (at8 l j).toNat = 45)) (fun i _ _ => n - (intOf i).toNat)
  case atStart => exact ⟨0, by omega, rfl, rfl, fun j hj => absurd hj (by omega)⟩
  case round =>
    obtain ⟨k, hk, rfl, rfl, hok⟩ := hrel
    have Hok := Lib.hid hok
    clear hok
    by_cases hlt : k < n
    · have d5 : decide ((k : Int) < (n : Int)) = true := by simp; omega
      have b1 : (0 : Int) ≤ (k : Int) := by omega
      have b2 : (k : Int) < (n : Int) := by omega
      have qk : (s[k]'(by omega)).toNat = (at8 l k).toNat := Hat.out k (by omega)
      generalize hC : (at8 l k).toNat = C at *
      have HC := Lib.hid hC
      clear hC
      by_cases h5 : C = 45
      · have d6 : ((C : Int) != 45) = false := by simp; omega
        have H5 := Lib.hid h5
        clear h5
        go_wp2_with fail
        go_roundw
        case rel =>
          refine ⟨k + 1, by omega, by go_num, by trivial, fun j hj => ?_⟩
          by_cases hjk : j = k
          · subst hjk; rw [HC.out]; have := H5.out; omega
          · exact Hok.out j (by omega)
        case measure => simp [intOf]; omega
      have d6 : ((C : Int) != 45) = true := by simp; omega
      by_cases h6 : C < 48
      · have d7 : decide ((C : Int) < 48) = true := by simp; omega
        have d8 : decide ((C : Int) < 97) = true := by simp; omega
        have hno := Lib.hid (labB_no (l := l) (i := k) (by rw [Hn.out]; omega) (by rw [HC.out, Hn.out]; exact okB_false (by omega)))
        go_wp2_with fail
        go_ret
        exact ⟨by rw [hno.out]; first | rfl | skip, rfl⟩
      have d7 : decide ((C : Int) < 48) = false := by simp; omega
      by_cases h7 : C ≤ 57
      · have d8 : decide ((57 : Int) < (C : Int)) = false := by simp; omega
        go_wp2_with fail
        go_roundw
        case rel =>
          refine ⟨k + 1, by omega, by go_num, by trivial, fun j hj => ?_⟩
          by_cases hjk : j = k
          · subst hjk; rw [HC.out]; omega
          · exact Hok.out j (by omega)
        case measure => simp [intOf]; omega
      have d8 : decide ((57 : Int) < (C : Int)) = true := by simp; omega
      by_cases h8 : C < 97
      · have d9 : decide ((C : Int) < 97) = true := by simp; omega
        have hno := Lib.hid (labB_no (l := l) (i := k) (by rw [Hn.out]; omega) (by rw [HC.out, Hn.out]; exact okB_false (by omega)))
        go_wp2_with fail
        go_ret
        exact ⟨by rw [hno.out]; first | rfl | skip, rfl⟩
      have d9 : decide ((C : Int) < 97) = false := by simp; omega
      by_cases h9 : C ≤ 122
      · have d10 : decide ((122 : Int) < (C : Int)) = false := by simp; omega
        go_wp2_with fail
        go_roundw
        case rel =>
          refine ⟨k + 1, by omega, by go_num, by trivial, fun j hj => ?_⟩
          by_cases hjk : j = k
          · subst hjk; rw [HC.out]; omega
          · exact Hok.out j (by omega)
        case measure => simp [intOf]; omega
      have d10 : decide ((122 : Int) < (C : Int)) = true := by simp; omega
      have hno := Lib.hid (labB_no (l := l) (i := k) (by rw [Hn.out]; omega) (by rw [HC.out, Hn.out]; exact okB_false (by omega)))
      go_wp2_with fail
      go_ret
      exact ⟨by rw [hno.out]; first | rfl | skip, rfl⟩
    · have d5 : decide ((k : Int) < (n : Int)) = false := by simp; omega
      have hyes : labB l = true := by
        rw [labB_of (l := l) (fun i hi => ?_), Hn.out]
        · simp; omega
        · have h := Hok.out i (by rw [Hn.out] at hi; omega)
          rw [Hn.out] at hi ⊢
          refine okB_true ?_
          rcases h with h | h | h
          · exact .inl h
          · exact .inr (.inl h)
          · refine .inr (.inr ⟨h, ?_, ?_⟩)
            · rintro rfl
              exact h3 (by rw [← HC0.out]; exact h)
            · intro he
              refine h4 ?_
              rw [← HCn.out, show n - 1 = i from by omega]
              exact h
      have Hyes := Lib.hid hyes
      clear hyes
      go_wp2_with fail
      go_ret
      exact ⟨by rw [Hyes.out]; first | rfl | skip, rfl⟩
end Go.Proofs.Ytopemhdoccgjmaa
