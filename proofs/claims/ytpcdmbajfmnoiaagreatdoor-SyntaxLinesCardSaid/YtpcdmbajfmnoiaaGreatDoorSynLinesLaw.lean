/- A text cut at a line's beginning. Plain: no program. -/
import Derived.Test.YtpcdmbajfmnoiaaGreatDoorSynParseAll
namespace Go.Proofs.YtpcdmbajfmnoiaaGreatDoor
open Go.RowKit
set_option linter.unusedVariables false
theorem textL_cons (x : List UInt8) (r : List (List UInt8)) : textL (x :: r) = x ++ 10 :: textL r := by simp [textL]
theorem cut_at : ∀ (Ls : List (List UInt8)), (∀ x ∈ Ls, (10 : UInt8) ∉ x) → ∀ (k : Nat), k ≤ (textL Ls).length → (k = 0 ∨ (textL Ls)[k - 1]? = some 10) →
  ∃ A B, Ls = A ++ B ∧ (textL Ls).take k = textL A ∧ (textL Ls).drop k = textL B ∧ ((textL Ls).take k).count 10 = A.length
 | [], _, k, hk, _ => by
  have : k = 0 := by simpa [textL] using hk
  subst this
  exact ⟨[], [], rfl, rfl, rfl, rfl⟩
 | x :: r, h, k, hk, h0 => by
  by_cases hz : k = 0
  ·subst hz
   exact ⟨[], x :: r, rfl, rfl, rfl, rfl⟩
  ·have h1 := h0.resolve_left hz
   have hx : (10 : UInt8) ∉ x := h x (List.mem_cons_self)
   rw [textL_cons] at h1 hk ⊢
   rw [List.length_append, List.length_cons] at hk
   have hkx : x.length < k := by
    refine Nat.lt_of_not_le fun hle => ?_
    rw [List.getElem?_append_left (by omega)] at h1
    exact hx (List.mem_of_getElem? h1)
   obtain ⟨j, rfl⟩ : ∃ j, k = x.length + 1 + j := ⟨k - (x.length + 1), by omega⟩
   obtain ⟨A, B, e1, e2, e3, e4⟩ := cut_at r (fun y hy => h y (List.mem_cons_of_mem _ hy)) j (by omega) (by
    by_cases hj : j = 0
    ·exact .inl hj
    ·refine .inr ?_
     rw [List.getElem?_append_right (by omega), show x.length + 1 + j - 1 - x.length = (j - 1) + 1 from by omega, List.getElem?_cons_succ] at h1
     exact h1)
   have ht : (x ++ 10 :: textL r).take (x.length + 1 + j) = x ++ 10 :: (textL r).take j := by
    rw [List.take_append, List.take_of_length_le (by omega), show x.length + 1 + j - x.length = j + 1 from by omega, List.take_succ_cons]
   have hd : (x ++ 10 :: textL r).drop (x.length + 1 + j) = (textL r).drop j := by
    rw [List.drop_append, List.drop_of_length_le (by omega), show x.length + 1 + j - x.length = j + 1 from by omega, List.drop_succ_cons, List.nil_append]
   refine ⟨x :: A, B, by rw [e1]; rfl, ?_, ?_, ?_⟩
   ·rw [ht, e2, textL_cons]
   ·rw [hd, e3]
   ·rw [ht, List.count_append, List.count_cons_self, e4, List.count_eq_zero_of_not_mem hx, List.length_cons, Nat.zero_add]
theorem count_step {T : List UInt8} {i : Nat} {b : UInt8} (h : T[i]? = some b) : (T.take (i + 1)).count 10 = (T.take i).count 10 + if b = 10 then 1 else 0 := by
 rw [List.take_add_one, h, Option.toList_some, List.count_append]
 by_cases hb : b = 10
 ·subst hb; simp
 ·have h0 : ([b] : List UInt8).count 10 = 0 := List.count_eq_zero_of_not_mem (by simpa using fun e => hb e.symm)
  rw [if_neg hb, h0]
end Go.Proofs.YtpcdmbajfmnoiaaGreatDoor
