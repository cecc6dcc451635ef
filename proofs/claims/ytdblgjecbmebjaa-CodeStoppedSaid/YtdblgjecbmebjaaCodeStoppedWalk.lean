/- The law CodeStopped, walked. No condition. -/
import Derived.Test.YtdblgjecbmebjaaCodeAwake
import Derived.Test.YtdblgjecbmebjaaOpenF
namespace Go.Proofs.Ytdblgjecbmebjaa
open Go.RowKit
set_option linter.unusedVariables false
theorem takeS_st {α : Type} (f : List UInt8 → Option (α × Nat)) (z : α) (l : List UInt8) : takeS f z ⟨l, true⟩ = (z, ⟨l, true⟩) := rfl
theorem bits_and3 (n : Int) : bits .and .i64 n 3 = n % 4 := by
  have h127 : (BitVec.ofInt 64 3).toNat = 2 ^ 2 - 1 := by decide
  have key : (BitVec.ofInt 64 n &&& BitVec.ofInt 64 3).toNat = (n % ((2 ^ 64 : Nat) : Int)).toNat % 2 ^ 2 := by
    rw [BitVec.toNat_and, BitVec.toNat_ofInt, h127, Nat.and_two_pow_sub_one_eq_mod]
  show IntKind.i64.wrap ((BitVec.ofInt 64 n &&& BitVec.ofInt 64 3).toNat : Nat) = n % 4
  rw [key, IntKind.wrap_i64]
  omega
theorem list_big {fs : List Fd} (h : longN fs ≤ 1000) : fs.length ≤ 1000 := by
  have : fs.length ≤ longN fs := by
    clear h
    induction fs with
    | nil => simp
    | cons f fs ih =>
      simp only [longN, List.map_cons, List.sum_cons, List.length_cons] at *
      have : lsz f = 1 + f.s.length / 50 := rfl
      omega
  omega
set_option maxRecDepth 100000 in
set_option maxHeartbeats 4000000 in
theorem codeStopped_walk (w : World) (A : Option Addr) (n c : Nat) (l : List UInt8) (r : RdB w w.heap.size A n l) (hnc : n ≤ c) (hc : c ≤ maxLen) (A2 : Option Addr) (n2 c2 : Nat) (fs : List Fd) (rf : RdF w w.heap.size A2 n2 fs) (hnc2 : n2 ≤ c2) (hc2 : c2 ≤ maxLen) (hok : ∀ f ∈ fs, FdOk f) (by_ : Int) (hb1 : -9223372036854775808 ≤ by_) (hb2 : by_ ≤ 9223372036854775807) :
    Calls Try.prog 10 #[.slice A n c, .slice A2 n2 c2, .int .i64 by_] w fun e w' => e = .returned (.bool true) ∧ Below w.heap.size w w' := by
  have hn2 : n2 ≤ 9223372036854775807 := by simp only [maxLen] at hc2; omega
  have hand := bits_and3 by_
  have hl := r.1
  go_enter Try.func10, Try.ntmps10
  go_wp2_with fail
  refine (long_any A2 n2 c2 fs _ w rf (fun f hf => (hok f hf).2.2.2.2.2.2.2) hn2).mono ?_
  rintro e w' ⟨rfl, rfl⟩
  by_cases hlong : 1000 < longN fs
  · have d0 : decide (1000 < longN fs) = true := by simp [hlong]
    rw [d0]
    go_wp2_with fail
    refine (awake3_any w').mono ?_
    rintro e w1 ⟨rfl, f1⟩
    go_wp2_with fail
    go_ret
    exact ⟨rfl, f1⟩
  · have d0 : decide (1000 < longN fs) = false := by simp [hlong]
    rw [d0]
    have hfl := list_big (fs := fs) (by omega)
    have hrl := rf.1
    by_cases hbig : 20000 < n
    · have d1 : decide ((20000 : Int) < (n : Int)) = true := by simp; omega
      go_wp2_with fail
      refine (awake3_any w').mono ?_
      rintro e w1 ⟨rfl, f1⟩
      go_wp2_with fail
      go_ret
      exact ⟨rfl, f1⟩
    · have d1 : decide ((20000 : Int) < (n : Int)) = false := by simp; omega
      go_wp2_with fail
      refine (newReader_any A n c l w' r (by omega)).mono ?_
      rintro e w1 ⟨p, b, hp, hb, rfl, R, f1⟩
      have hm : by_ % 4 = 0 ∨ by_ % 4 = 1 ∨ by_ % 4 = 2 ∨ by_ % 4 = 3 := by omega
      rcases hm with hm | hm | hm | hm
      · rw [hm] at hand
        go_wp2_with fail
        refine (fail_any p b _ w1 R).mono ?_
        rintro e w2 ⟨rfl, R2, g2⟩
        replace R2 : Rr w2 p b ⟨l, true⟩ := R2
        have F2 := f1.trans (Below.one g2 f1.size hp)
        clear g2 R f1
        go_wp2_with fail
        go_loopw [8] (fun i wr => ∃ k : Nat, i = .int .i64 k ∧ k ≤ n2 ∧ Rr wr p b ⟨l, true⟩ ∧ Below w'.heap.size w' wr) (fun i _ => n2 - (intOf i).toNat)
        case atStart => exact ⟨0, rfl, Nat.zero_le _, R2, F2⟩
        case round =>
          clear R2 F2
          obtain ⟨k, rfl, hk, R2, F2⟩ := hrel
          by_cases hlt : k < n2
          · have e1 : decide ((k : Int) < (n2 : Int)) = true := by simp; omega
            have b1 : (0 : Int) ≤ (k : Int) := by omega
            have b2 : (k : Int) < (n2 : Int) := by omega
            obtain ⟨bf, off, f, rfl, hbf, hf, q0, q1, q2, q3, q4⟩ := (rf.below F2).at_ hlt
            have hff := hok f (List.mem_of_getElem? hf)
            have m1 := hff.2.2.1
            have m2 := hff.2.2.2.1
            clear hff
            go_wp2_with fail
            refine (rU8_any p b _ wr R2).mono ?_
            rintro e wa ⟨rfl, Ra, ga⟩
            rw [takeS_st] at *
            have Fa := F2.trans (Below.one ga F2.size hp)
            clear ga
            go_wp2_with fail
            refine (rU32_any p b _ wa Ra).mono ?_
            rintro e wb ⟨rfl, Rb, gb⟩
            rw [takeS_st] at *
            have Fb := Fa.trans (Below.one gb Fa.size hp)
            clear gb
            go_wp2_with fail
            refine (rUint_any p b _ wb Rb).mono ?_
            rintro e wc ⟨rfl, Rc, gc⟩
            rw [takeS_st] at *
            have Fc := Fb.trans (Below.one gc Fb.size hp)
            clear gc
            obtain ⟨bf2, off2, f2, hA2, _, hf2, q0, q1, q2, q3, q4⟩ := (rf.below Fc).at_ hlt
            injection hA2 with hA2; injection hA2 with hA2 hA3 _; subst hA2 hA3
            have hff2 : f2 = f := Option.some.inj (hf2.symm.trans hf)
            rw [hff2] at q0 q1 q2 q3 q4
            go_wp2_with fail
            refine (rText_any p b _ f.most wc Rc (by simp only; omega) m1 m2).mono ?_
            rintro e wd ⟨rfl, Rd, gd⟩
            rw [takeS_st] at *
            have Fd := Fc.trans (Below.one gd Fc.size hp)
            clear gd
            clear q0 q1 q2 q3 q4
            obtain ⟨bf2, off2, f3, hA2, _, hf3, q0, q1, q2, q3, q4⟩ := (rf.below Fd).at_ hlt
            injection hA2 with hA2; injection hA2 with hA2 hA3 _; subst hA2 hA3
            have hff3 : f3 = f := Option.some.inj (hf3.symm.trans hf)
            rw [hff3] at q0 q1 q2 q3 q4
            go_wp2_with fail
            refine (rRaw_any p b _ f.most wd Rd (by simp only; omega)).mono ?_
            rintro e we ⟨A4, n4, c4, rfl, o4, Re, ge⟩
            rw [takeS_st] at *
            have Fe := Fd.trans (Below.one ge Fd.size hp)
            clear ge
            obtain rfl : n4 = 0 := o4.len.symm
            go_wp2_with fail
            refine (left_any p b _ we Re).mono ?_
            rintro e wg ⟨rfl, rfl⟩
            have hl2 : (l.length : Int) = (n : Int) := by omega
            go_wp2_with fail
            refine (err_any p b _ wg Re).mono ?_
            rintro e wh ⟨rfl, rfl⟩
            go_wp2_with fail
            go_roundw
            case rel => exact ⟨k + 1, by go_num, by omega, Re, Fe⟩
            case measure => simp [intOf]; omega
          · obtain rfl : k = n2 := by omega
            have e1 : decide ((k : Int) < (k : Int)) = false := by simp
            go_wp2_with fail
            refine (left_any p b _ wr R2).mono ?_
            rintro e wg ⟨rfl, rfl⟩
            have hl2 : (l.length : Int) = (n : Int) := by omega
            go_wp2_with fail
            refine (end_any p b _ wg R2).mono ?_
            rintro e wh ⟨rfl, R3, g3⟩
            have F3 := F2.trans (Below.one g3 F2.size hp)
            go_wp2_with fail
            refine (awake3_any wh).mono ?_
            rintro e wi ⟨rfl, g4⟩
            go_wp2_with fail
            go_ret
            exact ⟨rfl, F3.trans (g4.mono F3.size)⟩
      · rw [hm] at hand
        go_wp2_with fail
        refine (rRaw_any p b _ ((n : Int) + 1) w1 R (by simp only; omega)).mono ?_
        rintro e w2 ⟨A3, n3, c3, rfl, _, R2, g2⟩
        rw [takeS, show findRaw ((n : Int) + 1) l = none from by rw [findRaw, if_pos (by omega)]] at R2
        replace R2 : Rr w2 p b ⟨l, true⟩ := R2
        have F2 := f1.trans (Below.one g2 f1.size hp)
        clear g2 R f1
        go_wp2_with fail
        go_loopw [8] (fun i wr => ∃ k : Nat, i = .int .i64 k ∧ k ≤ n2 ∧ Rr wr p b ⟨l, true⟩ ∧ Below w'.heap.size w' wr) (fun i _ => n2 - (intOf i).toNat)
        case atStart => exact ⟨0, rfl, Nat.zero_le _, R2, F2⟩
        case round =>
          clear R2 F2
          obtain ⟨k, rfl, hk, R2, F2⟩ := hrel
          by_cases hlt : k < n2
          · have e1 : decide ((k : Int) < (n2 : Int)) = true := by simp; omega
            have b1 : (0 : Int) ≤ (k : Int) := by omega
            have b2 : (k : Int) < (n2 : Int) := by omega
            obtain ⟨bf, off, f, rfl, hbf, hf, q0, q1, q2, q3, q4⟩ := (rf.below F2).at_ hlt
            have hff := hok f (List.mem_of_getElem? hf)
            have m1 := hff.2.2.1
            have m2 := hff.2.2.2.1
            clear hff
            go_wp2_with fail
            refine (rU8_any p b _ wr R2).mono ?_
            rintro e wa ⟨rfl, Ra, ga⟩
            rw [takeS_st] at *
            have Fa := F2.trans (Below.one ga F2.size hp)
            clear ga
            go_wp2_with fail
            refine (rU32_any p b _ wa Ra).mono ?_
            rintro e wb ⟨rfl, Rb, gb⟩
            rw [takeS_st] at *
            have Fb := Fa.trans (Below.one gb Fa.size hp)
            clear gb
            go_wp2_with fail
            refine (rUint_any p b _ wb Rb).mono ?_
            rintro e wc ⟨rfl, Rc, gc⟩
            rw [takeS_st] at *
            have Fc := Fb.trans (Below.one gc Fb.size hp)
            clear gc
            obtain ⟨bf2, off2, f2, hA2, _, hf2, q0, q1, q2, q3, q4⟩ := (rf.below Fc).at_ hlt
            injection hA2 with hA2; injection hA2 with hA2 hA3 _; subst hA2 hA3
            have hff2 : f2 = f := Option.some.inj (hf2.symm.trans hf)
            rw [hff2] at q0 q1 q2 q3 q4
            go_wp2_with fail
            refine (rText_any p b _ f.most wc Rc (by simp only; omega) m1 m2).mono ?_
            rintro e wd ⟨rfl, Rd, gd⟩
            rw [takeS_st] at *
            have Fd := Fc.trans (Below.one gd Fc.size hp)
            clear gd
            clear q0 q1 q2 q3 q4
            obtain ⟨bf2, off2, f3, hA2, _, hf3, q0, q1, q2, q3, q4⟩ := (rf.below Fd).at_ hlt
            injection hA2 with hA2; injection hA2 with hA2 hA3 _; subst hA2 hA3
            have hff3 : f3 = f := Option.some.inj (hf3.symm.trans hf)
            rw [hff3] at q0 q1 q2 q3 q4
            go_wp2_with fail
            refine (rRaw_any p b _ f.most wd Rd (by simp only; omega)).mono ?_
            rintro e we ⟨A4, n4, c4, rfl, o4, Re, ge⟩
            rw [takeS_st] at *
            have Fe := Fd.trans (Below.one ge Fd.size hp)
            clear ge
            obtain rfl : n4 = 0 := o4.len.symm
            go_wp2_with fail
            refine (left_any p b _ we Re).mono ?_
            rintro e wg ⟨rfl, rfl⟩
            have hl2 : (l.length : Int) = (n : Int) := by omega
            go_wp2_with fail
            refine (err_any p b _ wg Re).mono ?_
            rintro e wh ⟨rfl, rfl⟩
            go_wp2_with fail
            go_roundw
            case rel => exact ⟨k + 1, by go_num, by omega, Re, Fe⟩
            case measure => simp [intOf]; omega
          · obtain rfl : k = n2 := by omega
            have e1 : decide ((k : Int) < (k : Int)) = false := by simp
            go_wp2_with fail
            refine (left_any p b _ wr R2).mono ?_
            rintro e wg ⟨rfl, rfl⟩
            have hl2 : (l.length : Int) = (n : Int) := by omega
            go_wp2_with fail
            refine (end_any p b _ wg R2).mono ?_
            rintro e wh ⟨rfl, R3, g3⟩
            have F3 := F2.trans (Below.one g3 F2.size hp)
            go_wp2_with fail
            refine (awake3_any wh).mono ?_
            rintro e wi ⟨rfl, g4⟩
            go_wp2_with fail
            go_ret
            exact ⟨rfl, F3.trans (g4.mono F3.size)⟩
      · rw [hm] at hand
        go_wp2_with fail
        refine (rRaw_any p b _ (-1) w1 R (by simp only; omega)).mono ?_
        rintro e w2 ⟨A3, n3, c3, rfl, _, R2, g2⟩
        rw [takeS, show findRaw (-1) l = none from by rw [findRaw, if_pos (by omega)]] at R2
        replace R2 : Rr w2 p b ⟨l, true⟩ := R2
        have F2 := f1.trans (Below.one g2 f1.size hp)
        clear g2 R f1
        go_wp2_with fail
        go_loopw [8] (fun i wr => ∃ k : Nat, i = .int .i64 k ∧ k ≤ n2 ∧ Rr wr p b ⟨l, true⟩ ∧ Below w'.heap.size w' wr) (fun i _ => n2 - (intOf i).toNat)
        case atStart => exact ⟨0, rfl, Nat.zero_le _, R2, F2⟩
        case round =>
          clear R2 F2
          obtain ⟨k, rfl, hk, R2, F2⟩ := hrel
          by_cases hlt : k < n2
          · have e1 : decide ((k : Int) < (n2 : Int)) = true := by simp; omega
            have b1 : (0 : Int) ≤ (k : Int) := by omega
            have b2 : (k : Int) < (n2 : Int) := by omega
            obtain ⟨bf, off, f, rfl, hbf, hf, q0, q1, q2, q3, q4⟩ := (rf.below F2).at_ hlt
            have hff := hok f (List.mem_of_getElem? hf)
            have m1 := hff.2.2.1
            have m2 := hff.2.2.2.1
            clear hff
            go_wp2_with fail
            refine (rU8_any p b _ wr R2).mono ?_
            rintro e wa ⟨rfl, Ra, ga⟩
            rw [takeS_st] at *
            have Fa := F2.trans (Below.one ga F2.size hp)
            clear ga
            go_wp2_with fail
            refine (rU32_any p b _ wa Ra).mono ?_
            rintro e wb ⟨rfl, Rb, gb⟩
            rw [takeS_st] at *
            have Fb := Fa.trans (Below.one gb Fa.size hp)
            clear gb
            go_wp2_with fail
            refine (rUint_any p b _ wb Rb).mono ?_
            rintro e wc ⟨rfl, Rc, gc⟩
            rw [takeS_st] at *
            have Fc := Fb.trans (Below.one gc Fb.size hp)
            clear gc
            obtain ⟨bf2, off2, f2, hA2, _, hf2, q0, q1, q2, q3, q4⟩ := (rf.below Fc).at_ hlt
            injection hA2 with hA2; injection hA2 with hA2 hA3 _; subst hA2 hA3
            have hff2 : f2 = f := Option.some.inj (hf2.symm.trans hf)
            rw [hff2] at q0 q1 q2 q3 q4
            go_wp2_with fail
            refine (rText_any p b _ f.most wc Rc (by simp only; omega) m1 m2).mono ?_
            rintro e wd ⟨rfl, Rd, gd⟩
            rw [takeS_st] at *
            have Fd := Fc.trans (Below.one gd Fc.size hp)
            clear gd
            clear q0 q1 q2 q3 q4
            obtain ⟨bf2, off2, f3, hA2, _, hf3, q0, q1, q2, q3, q4⟩ := (rf.below Fd).at_ hlt
            injection hA2 with hA2; injection hA2 with hA2 hA3 _; subst hA2 hA3
            have hff3 : f3 = f := Option.some.inj (hf3.symm.trans hf)
            rw [hff3] at q0 q1 q2 q3 q4
            go_wp2_with fail
            refine (rRaw_any p b _ f.most wd Rd (by simp only; omega)).mono ?_
            rintro e we ⟨A4, n4, c4, rfl, o4, Re, ge⟩
            rw [takeS_st] at *
            have Fe := Fd.trans (Below.one ge Fd.size hp)
            clear ge
            obtain rfl : n4 = 0 := o4.len.symm
            go_wp2_with fail
            refine (left_any p b _ we Re).mono ?_
            rintro e wg ⟨rfl, rfl⟩
            have hl2 : (l.length : Int) = (n : Int) := by omega
            go_wp2_with fail
            refine (err_any p b _ wg Re).mono ?_
            rintro e wh ⟨rfl, rfl⟩
            go_wp2_with fail
            go_roundw
            case rel => exact ⟨k + 1, by go_num, by omega, Re, Fe⟩
            case measure => simp [intOf]; omega
          · obtain rfl : k = n2 := by omega
            have e1 : decide ((k : Int) < (k : Int)) = false := by simp
            go_wp2_with fail
            refine (left_any p b _ wr R2).mono ?_
            rintro e wg ⟨rfl, rfl⟩
            have hl2 : (l.length : Int) = (n : Int) := by omega
            go_wp2_with fail
            refine (end_any p b _ wg R2).mono ?_
            rintro e wh ⟨rfl, R3, g3⟩
            have F3 := F2.trans (Below.one g3 F2.size hp)
            go_wp2_with fail
            refine (awake3_any wh).mono ?_
            rintro e wi ⟨rfl, g4⟩
            go_wp2_with fail
            go_ret
            exact ⟨rfl, F3.trans (g4.mono F3.size)⟩
      · rw [hm] at hand
        go_wp2_with fail
        refine (rText_any p b _ (-1) w1 R (by simp only; omega) (by omega) (by omega)).mono ?_
        rintro e w2 ⟨rfl, R2, g2⟩
        rw [takeS, show findText (-1) l = none from by unfold findText; split <;> simp] at R2
        replace R2 : Rr w2 p b ⟨l, true⟩ := R2
        have F2 := f1.trans (Below.one g2 f1.size hp)
        clear g2 R f1
        go_wp2_with fail
        go_loopw [8] (fun i wr => ∃ k : Nat, i = .int .i64 k ∧ k ≤ n2 ∧ Rr wr p b ⟨l, true⟩ ∧ Below w'.heap.size w' wr) (fun i _ => n2 - (intOf i).toNat)
        case atStart => exact ⟨0, rfl, Nat.zero_le _, R2, F2⟩
        case round =>
          clear R2 F2
          obtain ⟨k, rfl, hk, R2, F2⟩ := hrel
          by_cases hlt : k < n2
          · have e1 : decide ((k : Int) < (n2 : Int)) = true := by simp; omega
            have b1 : (0 : Int) ≤ (k : Int) := by omega
            have b2 : (k : Int) < (n2 : Int) := by omega
            obtain ⟨bf, off, f, rfl, hbf, hf, q0, q1, q2, q3, q4⟩ := (rf.below F2).at_ hlt
            have hff := hok f (List.mem_of_getElem? hf)
            have m1 := hff.2.2.1
            have m2 := hff.2.2.2.1
            clear hff
            go_wp2_with fail
            refine (rU8_any p b _ wr R2).mono ?_
            rintro e wa ⟨rfl, Ra, ga⟩
            rw [takeS_st] at *
            have Fa := F2.trans (Below.one ga F2.size hp)
            clear ga
            go_wp2_with fail
            refine (rU32_any p b _ wa Ra).mono ?_
            rintro e wb ⟨rfl, Rb, gb⟩
            rw [takeS_st] at *
            have Fb := Fa.trans (Below.one gb Fa.size hp)
            clear gb
            go_wp2_with fail
            refine (rUint_any p b _ wb Rb).mono ?_
            rintro e wc ⟨rfl, Rc, gc⟩
            rw [takeS_st] at *
            have Fc := Fb.trans (Below.one gc Fb.size hp)
            clear gc
            obtain ⟨bf2, off2, f2, hA2, _, hf2, q0, q1, q2, q3, q4⟩ := (rf.below Fc).at_ hlt
            injection hA2 with hA2; injection hA2 with hA2 hA3 _; subst hA2 hA3
            have hff2 : f2 = f := Option.some.inj (hf2.symm.trans hf)
            rw [hff2] at q0 q1 q2 q3 q4
            go_wp2_with fail
            refine (rText_any p b _ f.most wc Rc (by simp only; omega) m1 m2).mono ?_
            rintro e wd ⟨rfl, Rd, gd⟩
            rw [takeS_st] at *
            have Fd := Fc.trans (Below.one gd Fc.size hp)
            clear gd
            clear q0 q1 q2 q3 q4
            obtain ⟨bf2, off2, f3, hA2, _, hf3, q0, q1, q2, q3, q4⟩ := (rf.below Fd).at_ hlt
            injection hA2 with hA2; injection hA2 with hA2 hA3 _; subst hA2 hA3
            have hff3 : f3 = f := Option.some.inj (hf3.symm.trans hf)
            rw [hff3] at q0 q1 q2 q3 q4
            go_wp2_with fail
            refine (rRaw_any p b _ f.most wd Rd (by simp only; omega)).mono ?_
            rintro e we ⟨A4, n4, c4, rfl, o4, Re, ge⟩
            rw [takeS_st] at *
            have Fe := Fd.trans (Below.one ge Fd.size hp)
            clear ge
            obtain rfl : n4 = 0 := o4.len.symm
            go_wp2_with fail
            refine (left_any p b _ we Re).mono ?_
            rintro e wg ⟨rfl, rfl⟩
            have hl2 : (l.length : Int) = (n : Int) := by omega
            go_wp2_with fail
            refine (err_any p b _ wg Re).mono ?_
            rintro e wh ⟨rfl, rfl⟩
            go_wp2_with fail
            go_roundw
            case rel => exact ⟨k + 1, by go_num, by omega, Re, Fe⟩
            case measure => simp [intOf]; omega
          · obtain rfl : k = n2 := by omega
            have e1 : decide ((k : Int) < (k : Int)) = false := by simp
            go_wp2_with fail
            refine (left_any p b _ wr R2).mono ?_
            rintro e wg ⟨rfl, rfl⟩
            have hl2 : (l.length : Int) = (n : Int) := by omega
            go_wp2_with fail
            refine (end_any p b _ wg R2).mono ?_
            rintro e wh ⟨rfl, R3, g3⟩
            have F3 := F2.trans (Below.one g3 F2.size hp)
            go_wp2_with fail
            refine (awake3_any wh).mono ?_
            rintro e wi ⟨rfl, g4⟩
            go_wp2_with fail
            go_ret
            exact ⟨rfl, F3.trans (g4.mono F3.size)⟩
end Go.Proofs.Ytdblgjecbmebjaa
