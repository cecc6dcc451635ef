/- The law NameSort, walked. No condition beyond the world's shape. -/
import Derived.Test.YtopemhdoccgjmaaNameAwake
import Derived.Test.YtopemhdoccgjmaaNameRefSortW
import Derived.Test.YtopemhdoccgjmaaNamesOpen
namespace Go.Proofs.Ytopemhdoccgjmaa
open Go.RowKit
set_option linter.unusedSimpArgs false
set_option linter.unusedVariables false
set_option maxRecDepth 100000 in
set_option maxHeartbeats 8000000 in
theorem nameSort_walk (w : World) (hL : LibW w) (A : Option Addr) (n c : Nat) (L : List Nm) (rL : RdN w w.heap.size A n L) (hnc : n ≤ c) (hcm : c ≤ maxLen) (hok : ∀ f ∈ L, f.1.length ≤ maxLen ∧ f.2.length ≤ maxLen) :
    Calls Try.prog 6 #[.slice A n c] w fun e w' => e = .returned (.bool true) ∧ Below w.heap.size w w' := by
  have hl := rL.1
  have h0 := hL.lt
  have f1 : Below w.heap.size w w := Below.refl _ _
  go_enter Try.func6, Try.ntmps6
  by_cases hn : 60 < n
  · have d1 : decide ((60 : Int) < (n : Int)) = true := by simp; omega
    go_wp2_with fail
    refine (awake5_any w (hL.below h0 f1)).mono ?_
    rintro e w9 ⟨rfl, f9⟩
    go_wp2_with fail
    go_ret
    exact ⟨rfl, f1.trans (f9.mono f1.size)⟩
  have d1 : decide ((60 : Int) < (n : Int)) = false := by simp; omega
  go_wp2_with fail
  go_loopw [3] (fun i wr => ∃ k : Nat, i = .int .i64 k ∧ k ≤ n ∧ (∀ x ∈ L.take k, x.1.length ≤ 1000000 ∧ x.2.length ≤ 1000000) ∧ w = wr) (fun i _ => n - (intOf i).toNat)
  case atStart => exact ⟨0, rfl, Nat.zero_le _, by simp, rfl⟩
  case round =>
    obtain ⟨k, rfl, hk, hlen, rfl⟩ := hrel
    have HLEN := Lib.hid hlen; clear hlen
    by_cases hlt : k < n
    · have d2 : decide ((k : Int) < (n : Int)) = true := by simp; omega
      have b1 : (0 : Int) ≤ (k : Int) := by omega
      have b2 : (k : Int) < (n : Int) := by omega
      obtain ⟨bl, off, rfl, hbl, q0, q1⟩ := rL.at_ hlt
      have z0 := strB_size (nmAt L k).1
      have z1 := strB_size (nmAt L k).2
      have ho := hok (nmAt L k) (by rw [nmAt_eq (by omega)]; exact List.getElem_mem _)
      simp only [maxLen] at ho
      obtain ⟨x1, x2, hx⟩ : ∃ a b, nmAt L k = (a, b) := ⟨_, _, rfl⟩
      rw [hx] at q0 q1 z0 z1 ho
      simp only at q0 q1 z0 z1 ho
      have HX := Lib.hid hx; clear hx
      by_cases h3 : 300 < x1.length
      · have d3 : decide ((300 : Int) < (x1.length : Int)) = true := by simp; omega
        go_wp2_with fail
        refine (awake5_any w (hL.below h0 f1)).mono ?_
        rintro e w9 ⟨rfl, f9⟩
        go_wp2_with fail
        go_ret
        exact ⟨rfl, f1.trans (f9.mono f1.size)⟩
      have d3 : decide ((300 : Int) < (x1.length : Int)) = false := by simp; omega
      by_cases h4 : 300 < x2.length
      · have d4 : decide ((300 : Int) < (x2.length : Int)) = true := by simp; omega
        go_wp2_with fail
        refine (awake5_any w (hL.below h0 f1)).mono ?_
        rintro e w9 ⟨rfl, f9⟩
        go_wp2_with fail
        go_ret
        exact ⟨rfl, f1.trans (f9.mono f1.size)⟩
      have d4 : decide ((300 : Int) < (x2.length : Int)) = false := by simp; omega
      go_wp2_with fail
      go_roundw
      case rel =>
        refine ⟨k + 1, by go_num, by omega, fun z hz => ?_, by trivial⟩
        rcases (take_mem (by omega) z).1 hz with rfl | hz
        · rw [HX.out]; exact ⟨by show x1.length ≤ _; omega, by show x2.length ≤ _; omega⟩
        · exact HLEN.out z hz
      case measure => simp [intOf]; omega
    · have d2 : decide ((k : Int) < (n : Int)) = false := by simp; omega
      have hall := HLEN.out
      rw [List.take_of_length_le (by omega)] at hall
      have HALL := Lib.hid hall; clear hall HLEN
      clear d1
      go_wp2_with (first | (at_builtin; go_must (refine appendRow TN nmC_len nmC_one rfl rfl rfl (OwnR.empty (Nat.le_refl _)) rfl ((RdN_eq ▸ rL : RdR nmC 2 w w.heap.size A n L).below ((Below.refl _ w).alloc (Nat.le_refl _) _)) (by omega) (by simp only [maxLen]; omega) ((Below.refl _ w).alloc (Nat.le_refl _) _) (Nat.le_refl _) ?_); intro A' c' w1 o1 f2 _; rw [Nat.zero_add, List.nil_append] at o1; try rw [Nat.zero_add]))
      have r1 : RdN w1 w1.heap.size A' n L := o1.rd nmC_len
      refine (nameSort_any A n c L w1 ((rL.below f2).more f2.size) (by omega)).mono ?_
      rintro e w2 ⟨AX, m, cx, X, rfl, rX, hri, hmem, hmn, f3⟩
      have HRI := Lib.hid hri; clear hri
      have HMEM := Lib.hid hmem; clear hmem
      replace r1 := (r1.below f3).more f3.size
      replace f1 : Below w.heap.size w w2 := f2.trans (f3.mono f2.size)
      clear f2 f3 o1 d2
      go_wp2_with fail
      refine (refSort_any A' n c' L w2 r1 (by omega) HALL.out).mono ?_
      rintro e w3 ⟨AY, my, cy, Y, rfl, rY, hriy, hmemy, _, f3⟩
      have hXY : Y = X := rising_one hriy HRI.out (fun z => by rw [hmemy, HMEM.out])
      subst hXY
      have hmy : my = m := by rw [← rY.1, rX.1]
      subst hmy
      have hXl := rY.1
      replace rX := (rX.below f3).more f3.size
      replace r1 := (r1.below f3).more f3.size
      replace f1 : Below w.heap.size w w3 := f1.trans (f3.mono f1.size)
      clear hriy hmemy HRI HMEM f3
      go_wp2_with fail
      go_loopw [7] (fun i wr => ∃ k : Nat, i = .int .i64 k ∧ k ≤ my ∧ RdN wr wr.heap.size AX my Y ∧ RdN wr wr.heap.size AY my Y ∧ RdN wr wr.heap.size A' n L ∧ Below w.heap.size w wr) (fun i _ => my - (intOf i).toNat)
      case atStart => exact ⟨0, rfl, Nat.zero_le _, rX, rY, r1, f1⟩
      case round =>
        clear rX rY r1 f1
        obtain ⟨k, rfl, hk, rX, rY, r1, f1⟩ := hrel
        by_cases hlt : k < my
        · have d2 : decide ((k : Int) < (my : Int)) = true := by simp; omega
          have b1 : (0 : Int) ≤ (k : Int) := by omega
          have b2 : (k : Int) < (my : Int) := by omega
          obtain ⟨bx, ox, hAX, hbx, p0, p1⟩ := rX.at_ hlt
          obtain ⟨by_, oy, hAY, hby, q0, q1⟩ := rY.at_ hlt
          obtain ⟨x1, x2, hx⟩ : ∃ a b, nmAt Y k = (a, b) := ⟨_, _, rfl⟩
          rw [hx] at p0 p1 q0 q1
          simp only at p0 p1 q0 q1
          clear hx
          subst hAY
          subst hAX
          have qe := fun w : World => run_nm_eq x1 x2 x1 x2 w
          rw [decide_eq_true rfl] at qe
          go_wp2_with fail
          go_quiet (fail)
          obtain ⟨wp, ewp⟩ : ∃ wp : World, wp = wr.drewN nq := ⟨_, rfl⟩
          have fq : Below wr.heap.size wr wp := by rw [ewp]; exact belowN (Below.refl _ _) nq
          rw [← ewp]
          clear ewp p0 p1 q0 q1
          go_wp2_with fail
          go_roundw
          case rel => exact ⟨k + 1, by go_num, by omega, (rX.below fq).more fq.size, (rY.below fq).more fq.size, (r1.below fq).more fq.size, f1.trans (fq.mono f1.size)⟩
          case measure => simp [intOf]; omega
        · have d2 : decide ((k : Int) < (my : Int)) = false := by simp; omega
          clear rX rY
          go_wp2_with fail
          clear hk hlt
          go_loopw [8] (fun i wr => ∃ k : Nat, i = .int .i64 k ∧ k ≤ n ∧ RdN wr wr.heap.size A' n L ∧ Below w.heap.size w wr) (fun i _ => n - (intOf i).toNat)
          case atStart => exact ⟨0, rfl, Nat.zero_le _, r1, f1⟩
          case round =>
            clear r1 f1 d2
            obtain ⟨k, rfl, hk, r1, f1⟩ := hrel
            by_cases hlt : k < n
            · have rl := (rL.below f1).more f1.size
              have d2 : decide ((k : Int) < (n : Int)) = true := by simp; omega
              have b1 : (0 : Int) ≤ (k : Int) := by omega
              have b2 : (k : Int) < (n : Int) := by omega
              obtain ⟨bx, ox, hAX, hbx, p0, p1⟩ := rl.at_ hlt
              obtain ⟨by_, oy, hAY, hby, q0, q1⟩ := r1.at_ hlt
              obtain ⟨x1, x2, hx⟩ : ∃ a b, nmAt L k = (a, b) := ⟨_, _, rfl⟩
              rw [hx] at p0 p1 q0 q1
              simp only at p0 p1 q0 q1
              clear hx
              subst hAY
              subst hAX
              have qe := fun w : World => run_nm_eq x1 x2 x1 x2 w
              rw [decide_eq_true rfl] at qe
              go_wp2_with fail
              go_quiet (fail)
              obtain ⟨wp, ewp⟩ : ∃ wp : World, wp = wr.drewN nq := ⟨_, rfl⟩
              have fq : Below wr.heap.size wr wp := by rw [ewp]; exact belowN (Below.refl _ _) nq
              rw [← ewp]
              clear ewp p0 p1 q0 q1
              go_wp2_with fail
              go_roundw
              case rel => exact ⟨k + 1, by go_num, by omega, (r1.below fq).more fq.size, f1.trans (fq.mono f1.size)⟩
              case measure => simp [intOf]; omega
            · have d2 : decide ((k : Int) < (n : Int)) = false := by simp; omega
              go_wp2_with fail
              refine (awake5_any wr (hL.below h0 f1)).mono ?_
              rintro e w9 ⟨rfl, f9⟩
              go_wp2_with fail
              go_ret
              exact ⟨rfl, f1.trans (f9.mono f1.size)⟩
end Go.Proofs.Ytopemhdoccgjmaa
