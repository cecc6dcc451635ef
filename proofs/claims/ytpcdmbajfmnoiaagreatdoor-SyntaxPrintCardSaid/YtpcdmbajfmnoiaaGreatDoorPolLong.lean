/- law12's terms: are rows of terms longer than what the law goes through? Condition: the machine's sizes. -/
import Derived.Test.YtpcdmbajfmnoiaaGreatDoorPolTRS
namespace Go.Proofs.YtpcdmbajfmnoiaaGreatDoor
open Go.RowKit Go.Sort
set_option linter.unusedVariables false
set_option linter.unusedSimpArgs false
def tmLong (t : Tm) : Bool := decide (300 < t.2.length)
def tsLong (L : List Tm) : Bool := decide (20 < L.length) || L.any tmLong
def mxS (l : List UInt8) : Prop := l.length ≤ 9223372036854775807
def mxTs (L : List Tm) : Prop := L.length ≤ 9223372036854775807 ∧ ∀ t ∈ L, mxS t.2
theorem any_long {α : Type} {f : α → Bool} {L : List α} {k : Nat} (h : k < L.length) (hf : f L[k] = true) : L.any f = true := by
 rw [List.any_eq_true]
 exact ⟨_, List.getElem_mem h, hf⟩
theorem any_short {α : Type} {f : α → Bool} {L : List α} (h : ∀ j (hj : j < L.length), f L[j] = false) : L.any f = false := by
 rw [← Bool.not_eq_true, List.any_eq_true]
 rintro ⟨x, hx, hf⟩
 obtain ⟨j, hj, rfl⟩ := List.getElem_of_mem hx
 rw [h j hj] at hf
 cases hf
theorem RdR.tmE' {w : World} {B n k : Nat} {A : Option Addr} {L : List Tm} (h : RdR tmC 2 w B A n L) (hk : k < L.length) : ∃ b off, A = some ⟨b, off, none⟩ ∧ w.cell? ⟨b, off + k * 2, none⟩ = some (.int .i64 L[k].1) ∧ w.cell? ⟨b, off + k * 2 + 1, none⟩ = some (.string (strB L[k].2)) := by
 obtain ⟨hl, h⟩ := h
 obtain ⟨b, off, h1, h2, h3⟩ := h (by omega)
 exact ⟨b, off, h1, h3 k hk 0 _ rfl, h3 k hk 1 _ rfl⟩
set_option maxRecDepth 100000 in
set_option maxHeartbeats 4000000 in
theorem terms12_any (A : Option Addr) (n c : Nat) (R : List (List Tm)) (w : World) (h : RdG 1 RowP w w.heap.size A n R) (hn : n ≤ 9223372036854775807) (hok : ∀ L ∈ R, mxTs L) :
  Calls Tryz.prog 62 #[.slice A n c] w fun e w' => e = .returned (.bool (R.any tsLong)) ∧ w' = w := by
 have hl := h.1
 obtain ⟨r, hr⟩ : ∃ r, R.any tsLong = r := ⟨_, rfl⟩
 rw [hr]
 have HR := Lib.hid hr; have HL := Lib.hid hl; have HOK := Lib.hid hok; clear hr hl hok
 go_enter Tryz.func62, Tryz.ntmps62
 go_wp2_with fail
 go_loopw [3, 4] (fun v3 _ wr => ∃ k : Nat, v3 = .int .i64 k ∧ k ≤ n ∧ w = wr ∧ ∀ j (hj : j < R.length), j < k → tsLong R[j] = false) (fun v3 _ _ => n - (intOf v3).toNat)
 case atStart => exact ⟨0, rfl, Nat.zero_le _, rfl, fun j _ hj => absurd hj (by omega)⟩
 case round =>
  obtain ⟨k, rfl, hk, rfl, hall⟩ := hrel
  have HALL := Lib.hid hall; clear hall
  by_cases hlt : k < n
  ·have d1 : decide ((k : Int) < (n : Int)) = true := by simp; omega
   have b1 : (0 : Int) ≤ (k : Int) := by omega
   have b2 : (k : Int) < (n : Int) := by omega
   obtain ⟨b, off, cs, rfl, p2, p3, ⟨v, rfl, B, m, d, rfl, p4, p5, p6⟩, p7⟩ := h.at_ hlt
   have q0 := p7 0 _ rfl
   rw [Nat.mul_one, Nat.add_zero] at q0
   have hkR : k < R.length := by rw [HL.out]; exact hlt
   have hm := p6.1
   have hmx := HOK.out _ (List.getElem_mem hkR)
   obtain ⟨L, hL⟩ : ∃ L, R[k] = L := ⟨_, rfl⟩
   rw [hL] at p6 hm hmx
   have HLk := Lib.hid hL; have HM := Lib.hid hm; have HMX := Lib.hid hmx
   have hm2 : m ≤ 9223372036854775807 := by rw [← hm]; exact hmx.1
   clear hL hm hmx p7 p3
   by_cases h20 : 20 < m
   ·have d2 : decide ((20 : Int) < (m : Int)) = true := by simp; omega
    have hr : r = true := by
     rw [← HR.out]
     refine any_long hkR ?_
     rw [HLk.out]
     unfold tsLong
     rw [HM.out, decide_eq_true h20, Bool.true_or]
    subst hr
    go_wp2_with fail
    go_ret
    exact ⟨rfl, rfl⟩
   ·have d2 : decide ((20 : Int) < (m : Int)) = false := by simp; omega
    go_wp2_with fail
    go_loopw [4] (fun v4 wr => ∃ j : Nat, v4 = .int .i64 j ∧ j ≤ m ∧ w = wr ∧ ∀ i (hi : i < L.length), i < j → tmLong L[i] = false) (fun v4 _ => m - (intOf v4).toNat)
    case atStart => exact ⟨0, rfl, Nat.zero_le _, rfl, fun i _ hi => absurd hi (by omega)⟩
    case round =>
     obtain ⟨j, rfl, hj, rfl, hin⟩ := hrel
     have HIN := Lib.hid hin; clear hin
     by_cases hjm : j < m
     ·have d3 : decide ((j : Int) < (m : Int)) = true := by simp; omega
      have b3 : (0 : Int) ≤ (j : Int) := by omega
      have b4 : (j : Int) < (m : Int) := by omega
      have hjL : j < L.length := by rw [HM.out]; exact hjm
      obtain ⟨b', off', rfl, _, q2⟩ := p6.tmE' hjL
      have hsz := strB_size L[j].2
      have hmx2 : (L[j].2).length ≤ 9223372036854775807 := HMX.out.2 _ (List.getElem_mem hjL)
      obtain ⟨s, hs⟩ : ∃ s, strB L[j].2 = s := ⟨_, rfl⟩
      obtain ⟨y, hy⟩ : ∃ y, (L[j].2).length = y := ⟨_, rfl⟩
      rw [hs] at q2 hsz
      rw [hy] at hsz hmx2
      have HY := Lib.hid hy; clear hy hs
      by_cases h300 : 300 < y
      ·have d4 : decide ((300 : Int) < (y : Int)) = true := by simp; omega
       have hr : r = true := by
        rw [← HR.out]
        refine any_long hkR ?_
        rw [HLk.out]
        unfold tsLong
        rw [any_long hjL (f := tmLong) (by unfold tmLong; rw [HY.out]; exact decide_eq_true h300), Bool.or_true]
       subst hr
       go_wp2_with fail
       go_ret
       exact ⟨rfl, rfl⟩
      ·have d4 : decide ((300 : Int) < (y : Int)) = false := by simp; omega
       go_wp2_with fail
       go_roundw
       case rel =>
        refine ⟨j + 1, by go_num, by omega, by trivial, fun i hi hij => ?_⟩
        by_cases e : i = j
        ·subst e
         unfold tmLong
         rw [HY.out]
         exact decide_eq_false h300
        ·exact HIN.out i hi (by omega)
       case measure => simp [intOf]; omega
     ·have d3 : decide ((j : Int) < (m : Int)) = false := by simp; omega
      obtain rfl : j = m := by omega
      go_wp2_with fail
      go_roundw
      case rel =>
       refine ⟨k + 1, by go_num, by omega, by trivial, fun i hi hik => ?_⟩
       by_cases e : i = k
       ·subst e
        rw [HLk.out]
        unfold tsLong
        rw [HM.out, decide_eq_false h20, Bool.false_or]
        exact any_short fun i hi => HIN.out i hi (by rw [HM.out] at hi; exact hi)
       ·exact HALL.out i hi (by omega)
      case measure => simp [intOf]; omega
  ·have d1 : decide ((k : Int) < (n : Int)) = false := by simp; omega
   obtain rfl : k = n := by omega
   have hr : r = false := by
    rw [← HR.out]
    exact any_short fun j hj => HALL.out j hj (by rw [HL.out] at hj; exact hj)
   subst hr
   go_wp2_with fail
   go_ret
   exact ⟨rfl, rfl⟩
end Go.Proofs.YtpcdmbajfmnoiaaGreatDoor
