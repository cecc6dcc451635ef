/- What an issued token is. No condition. -/
import Derived.Test.YtgefbgjgcjiceaaTokIssueWalk
namespace Go.Proofs.Ytgefbgjgcjiceaa
open Go.RowKit
/-- An issued token: fresh to its ring, signed. -/
theorem issued_ok {root : List UInt8} {t : Tk} (ht : t.ok) : (t.sign (sigB root t)).ok := ⟨ht.ns, ht.sa, ht.uid, ht.host, ht.addr, ht.born, ht.till, ht.key, sigB_length _ _⟩
theorem sig_sign (root : List UInt8) (t : Tk) (s : List UInt8) : sigB root (t.sign s) = sigB root t := rfl
theorem tkOk_sign (t : Tk) (s : List UInt8) : tkOk (t.sign s) = tkOk t := rfl
theorem tkOk_times {t : Tk} (h : tkOk t = true) : t.born < t.till ∧ t.till ≤ 4611686018427387903 := by
  simp only [tkOk, Bool.and_eq_true, decide_eq_true_eq] at h
  exact ⟨h.1.1.2, h.1.2⟩
theorem rgOk_parts {n o m : Nat} (h : rgOk n o m = true) : 1 ≤ n ∧ n ≤ 64 ∧ 1 ≤ o ∧ o ≤ m ∧ m ≤ 4611686018427387903 := by
  simp only [rgOk, Bool.and_eq_true, decide_eq_true_eq] at h
  omega
/-- How a token that was issued verifies. -/
theorem ver_issued (root : List UInt8) (n o m : Nat) (t : Tk) (now : Nat) (h1 : rgOk n o m = true) (h2 : tkOk t = true) : verN root n o m (t.sign (sigB root t)) now = (if t.key < o ∨ m < t.key then 7 else if now < t.born ∨ t.till ≤ now then 9 else 0) := by
  unfold verN
  rw [h1, tkOk_sign, h2, sig_sign]
  show verN2 true true (decide (t.key < o)) (decide (m < t.key)) (decide (sigB root t = sigB root t)) (decide (now < t.born)) (decide (t.till ≤ now)) = _
  rw [decide_eq_true rfl]
  unfold verN2
  by_cases ha : t.key < o <;> by_cases hb : m < t.key <;> by_cases hc : now < t.born <;> by_cases hd : t.till ≤ now <;> simp [ha, hb, hc, hd]
/-- How a token with another mac verifies. -/
theorem ver_turned (root : List UInt8) (n o m : Nat) (t : Tk) (s : List UInt8) (now : Nat) (h1 : rgOk n o m = true) (h2 : tkOk t = true) (hs : s ≠ sigB root t) : verN root n o m (t.sign s) now = 7 := by
  unfold verN
  rw [h1, tkOk_sign, h2, sig_sign]
  show verN2 true true (decide (t.key < o)) (decide (m < t.key)) (decide (s = sigB root t)) (decide (now < t.born)) (decide (t.till ≤ now)) = _
  rw [decide_eq_false hs]
  unfold verN2
  cases decide (t.key < o) <;> cases decide (m < t.key) <;> simp
end Go.Proofs.Ytgefbgjgcjiceaa
