/- The chapter's examples of law 04, reckoned. No condition. -/
import Derived.Test.YtddfgalofngoiaaGreatDoorAddrN
import Derived.Test.YtddfgalofngoiaaGreatDoorNetMerge
namespace Go.Proofs.YtddfgalofngoiaaGreatDoor
set_option linter.unusedVariables false
theorem dd1 (n : Nat) (h : n < 10) : Lib.decDigits n = [UInt8.ofNat (48 + n)] := by rw [Lib.decDigits, dif_pos h]
theorem dd2 (n : Nat) (h : ¬ n < 10) : Lib.decDigits n = Lib.decDigits (n / 10) ++ [UInt8.ofNat (48 + n % 10)] := by rw [Lib.decDigits, dif_neg h]
theorem it0 : Lib.itoa 0 = [48] := by unfold Lib.itoa; rw [if_neg (by decide), dd1 _ (by decide)]; rfl
theorem it1 : Lib.itoa 1 = [49] := by unfold Lib.itoa; rw [if_neg (by decide), dd1 _ (by decide)]; rfl
theorem it2 : Lib.itoa 2 = [50] := by unfold Lib.itoa; rw [if_neg (by decide), dd1 _ (by decide)]; rfl
theorem it8 : Lib.itoa 8 = [56] := by unfold Lib.itoa; rw [if_neg (by decide), dd1 _ (by decide)]; rfl
theorem it10 : Lib.itoa 10 = [49, 48] := by unfold Lib.itoa; rw [if_neg (by decide), dd2 _ (by decide), dd1 _ (by decide)]; rfl
theorem sm {l : List UInt8} {v most : Int} (h : Lib.atoiAll l = .ok v) (h0 : 0 ≤ v) (h1 : v ≤ most) (h2 : Lib.itoa v = l) : smallS l most = v := smallS_ok h h0 h1 h2
def T1 : List UInt8 := [49, 48, 46, 48, 46, 49, 46, 50]
def T2 : List UInt8 := [49, 48, 46, 48, 46, 48, 49, 46, 50]
def T3 : List UInt8 := [49, 48, 46, 48, 46, 48, 46, 48, 47, 56]
def T4 : List UInt8 := [49, 48, 46, 48, 46, 48, 46, 49, 47, 56]
theorem a10 : Lib.atoiAll [49, 48] = .ok 10 := by decide +kernel
theorem a0 : Lib.atoiAll [48] = .ok 0 := by decide +kernel
theorem a1 : Lib.atoiAll [49] = .ok 1 := by decide +kernel
theorem a2 : Lib.atoiAll [50] = .ok 2 := by decide +kernel
theorem a8 : Lib.atoiAll [56] = .ok 8 := by decide +kernel
theorem a01 : Lib.atoiAll [48, 49] = .ok 1 := by decide +kernel
theorem s10 : smallS [49, 48] 255 = 10 := sm a10 (by decide) (by decide) it10
theorem s0 : smallS [48] 255 = 0 := sm a0 (by decide) (by decide) it0
theorem s1 : smallS [49] 255 = 1 := sm a1 (by decide) (by decide) it1
theorem s2 : smallS [50] 255 = 2 := sm a2 (by decide) (by decide) it2
theorem s8 : smallS [56] 32 = 8 := sm a8 (by decide) (by decide) it8
theorem s01 : smallS [48, 49] 255 = -1 := smallS_not a01 (by rw [it1]; simp)
theorem p1 : parseA T1 = some 167772418 := by
  have e : Lib.split T1 [46] = [[49, 48], [48], [49], [50]] := by decide +kernel
  unfold parseA
  rw [e, if_pos (by decide)]
  simp only [parseGo, s10, s0, s1, s2]
  decide
theorem p2 : parseA T2 = none := by
  have e : Lib.split T2 [46] = [[49, 48], [48], [48, 49], [50]] := by decide +kernel
  unfold parseA
  rw [e, if_pos (by decide)]
  simp only [parseGo, s10, s0, s01, s2]
  decide
theorem pn (t : List UInt8) (a : List UInt8) (v : Nat) (r : Option Nt) (hc : Lib.cut t [47] = (a, [56], true)) (hp : parseA a = some v) (hr : r = if nMay (v, 8) = true then some (v, 8) else none) : parseNetA t = r := by
  unfold parseNetA
  rw [hc]
  simp only [hp, s8, if_true]
  exact hr.symm
theorem p3 : parseNetA T3 = some (167772160, 8) := by
  refine pn T3 [49, 48, 46, 48, 46, 48, 46, 48] 167772160 _ (by decide +kernel) ?_ (by decide +kernel)
  have e : Lib.split [49, 48, 46, 48, 46, 48, 46, 48] [46] = [[49, 48], [48], [48], [48]] := by decide +kernel
  unfold parseA
  rw [e, if_pos (by decide)]
  simp only [parseGo, s10, s0]
  decide
theorem p4 : parseNetA T4 = none := by
  refine pn T4 [49, 48, 46, 48, 46, 48, 46, 49] 167772161 _ (by decide +kernel) ?_ (by decide +kernel)
  have e : Lib.split [49, 48, 46, 48, 46, 48, 46, 49] [46] = [[49, 48], [48], [48], [49]] := by decide +kernel
  unfold parseA
  rw [e, if_pos (by decide)]
  simp only [parseGo, s10, s0, s1]
  decide
theorem pr1 : printA 167772418 = T1 := by
  unfold printA octs
  rw [show oct 167772418 0 = 10 by decide, show oct 167772418 1 = 0 by decide, show oct 167772418 2 = 1 by decide, show oct 167772418 3 = 2 by decide]
  show Lib.join [Lib.itoa 10, Lib.itoa 0, Lib.itoa 1, Lib.itoa 2] [46] = T1
  rw [it10, it0, it1, it2]
  decide +kernel
def M3 : List Nt := [(167772160, 9), (176160768, 9), (167837696, 16)]
theorem hi9 : nhi (167772160, 9) = 176160768 ∧ nhi (176160768, 9) = 184549376 ∧ nhi (167837696, 16) = 167903232 ∧ nhi (167772160, 8) = 184549376 := by decide +kernel
theorem may3 : nMay (167772160, 9) = true ∧ nMay (176160768, 9) = true ∧ nMay (167837696, 16) = true ∧ nMay (167772160, 8) = true := by decide +kernel
theorem merged {Y : List Nt} (hY : Nice Y) (h : ∀ x, nHas Y x ↔ nHas M3 x) : Y = [(167772160, 8)] := by
  obtain ⟨h1, h2, h3, h4⟩ := hi9
  obtain ⟨m1, m2, m3, m4⟩ := may3
  refine nice_one hY ⟨fun c hc => ?_, by simp, fun c hc d hd hlt => ?_⟩ fun x => (h x).trans ?_
  · simp only [List.mem_singleton] at hc; subst hc; exact m4
  · simp only [List.mem_singleton] at hc hd; subst hc hd; omega
  · unfold nHas M3
    simp only [List.mem_cons, List.mem_nil_iff, or_false, exists_eq_or_imp, exists_eq_left, h1, h2, h3, h4, m1, m2, m3, m4, true_and]
    omega
end Go.Proofs.YtddfgalofngoiaaGreatDoor
