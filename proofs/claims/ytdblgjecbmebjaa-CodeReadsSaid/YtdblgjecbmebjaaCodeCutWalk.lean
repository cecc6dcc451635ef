/- The law CodeCut, walked. No condition. -/
import Derived.Test.YtdblgjecbmebjaaCutLaw
import Derived.Test.YtdblgjecbmebjaaOpenF
namespace Go.Proofs.Ytdblgjecbmebjaa
open Go.RowKit
set_option linter.unusedVariables false
theorem list_long {fs : List Fd} (h : longN fs ≤ 1000) : fs.length ≤ 1000 := by
  have : fs.length ≤ longN fs := by
    clear h
    induction fs with
    | nil => simp
    | cons f fs ih =>
      simp only [longN, List.map_cons, List.sum_cons, List.length_cons] at *
      have : lsz f = 1 + f.s.length / 50 := rfl
      omega
  omega
theorem size_of {fs : List Fd} (h : longN fs ≤ 1000) {f : Fd} (hf : f ∈ fs) : f.s.length ≤ 60000 := by
  have h1 := totN_le fs
  have h2 : fsz f ≤ totN fs := by
    clear h h1
    induction fs with
    | nil => cases hf
    | cons g fs ih =>
      simp only [totN, List.map_cons, List.sum_cons] at *
      rcases List.mem_cons.1 hf with rfl | hf
      · omega
      · have := ih hf; omega
  unfold fsz at h2
  omega
set_option maxRecDepth 100000 in
set_option maxHeartbeats 4000000 in
theorem codeCut_walk (w : World) (A2 : Option Addr) (n2 c2 : Nat) (fs : List Fd) (rf : RdF w w.heap.size A2 n2 fs) (hnc2 : n2 ≤ c2) (hc2 : c2 ≤ maxLen) (hok : ∀ f ∈ fs, FdOk f) (cut : Int) (hb1 : -9223372036854775808 ≤ cut) (hb2 : cut ≤ 9223372036854775807) :
    Calls Try.prog 8 #[.slice A2 n2 c2, .int .i64 cut] w fun e w' => e = .returned (.bool true) ∧ Below w.heap.size w w' := by
  have hn2 : n2 ≤ 9223372036854775807 := by simp only [maxLen] at hc2; omega
  go_enter Try.func8, Try.ntmps8
  go_wp2_with fail
  refine (long_any A2 n2 c2 fs _ w rf (fun f hf => (hok f hf).2.2.2.2.2.2.2) hn2).mono ?_
  rintro e w' ⟨rfl, rfl⟩
  by_cases hlong : 1000 < longN fs
  · have d0 : decide (1000 < longN fs) = true := by simp [hlong]
    rw [d0]
    go_wp2_with fail
    refine (awake3_any w').mono ?_
    rintro e w1 ⟨rfl, f1⟩
    go_wp2_with fail
    go_ret
    exact ⟨rfl, f1⟩
  · have d0 : decide (1000 < longN fs) = false := by simp [hlong]
    rw [d0]
    have hll : longN fs ≤ 1000 := by omega
    have hfl := list_long hll
    have hto := totN_le fs
    have hrl := rf.1
    have hso := fun f (hf : f ∈ fs) => size_of hll hf
    have hoks : ∀ f ∈ fs, Fok f := fun f hf => (hok f hf).ok
    have hbl := bytesOf_le fs hoks
    clear hlong
    go_wp2_with fail
    refine (written_any A2 n2 c2 fs w' rf hoks (by omega) hn2).mono ?_
    rintro e w1 ⟨A1, c1, rfl, o1, f1⟩
    obtain ⟨N, hN⟩ : ∃ N, (bytesOf fs).length = N := ⟨_, rfl⟩
    rw [hN] at o1 ⊢
    have hcN := o1.cap
    have HN := Lib.hid hN
    have hNb : N ≤ 60000 := by omega
    clear hN hbl
    go_upto_region 4 with fail
    go_cut [6] from 15 (fun s6 wx => wx = w1 ∧ ∃ k : Nat, k ≤ N ∧ s6 = .int .i64 (k : Int))
    case first =>
      go_wp2_with fail
      all_goals go_meet
      all_goals refine ⟨rfl, ?_⟩
      all_goals refine ⟨(min (max cut 0) (N : Int)).toNat, by omega, ?_⟩
      all_goals congr 1
      all_goals (repeat' split)
      all_goals omega
    case rest =>
      obtain ⟨rfl, k, hk, rfl⟩ := hcut
      have b1 : (k : Int) ≤ (c1 : Int) := by omega
      have b2 : k ≤ c1 := by omega
      go_wp2_with fail
      refine (newReader_any A1 k c1 ((bytesOf fs).take k) _ (o1.rd.take hk) (by omega)).mono ?_
      rintro e w2 ⟨p, b, hp, hb, rfl, R, f2⟩
      have hpw : w'.heap.size ≤ p := Nat.le_trans f1.size hp
      replace f2 := f1.trans (f2.mono f1.size)
      clear f1 o1
      go_wp2_with fail
      go_loopw [8, 9] (fun v i wr => ∃ j : Nat, i = .int .i64 j ∧ v = .int .i64 ((bytesOf (fs.take j)).length : Nat) ∧ j ≤ n2 ∧ (bytesOf (fs.take j)).length ≤ k ∧ Rr wr p b ⟨((bytesOf fs).take k).drop (bytesOf (fs.take j)).length, false⟩ ∧ Below w'.heap.size w' wr) (fun _ i _ => n2 - (intOf i).toNat)
      case atStart => exact ⟨0, rfl, rfl, Nat.zero_le _, Nat.zero_le _, R, f2⟩
      case round =>
        clear R f2
        obtain ⟨j, rfl, rfl, hj, hjk, R, F⟩ := hrel
        by_cases hlt : j < n2
        · have d1 : decide ((j : Int) < (n2 : Int)) = true := by simp; omega
          have b3 : (0 : Int) ≤ (j : Int) := by omega
          have b4 : (j : Int) < (n2 : Int) := by omega
          obtain ⟨bf, off, f, hA, hbf, hf, q0, q1, q2, q3, q4⟩ := (rf.below F).at_ hlt
          subst hA
          have hfm := List.mem_of_getElem? hf
          have hff := hoks f hfm
          have hfs := hso f hfm
          have hsz : (fbytes f).length ≤ fsz f := fbytes_le f hff.1 hff.2
          have hln := bytesOf_len hf
          have hwh := cut_whole hf (k := k)
          have hpa := cut_part hf (k := k)
          unfold fsz at hsz
          have HL := Lib.hid hln
          have HW := Lib.hid hwh
          have HP := Lib.hid hpa
          clear hln hwh hpa
          have HS := Lib.hid hsz
          clear hsz
          go_wp2_with fail
          refine (size_any f _ hff (by unfold fsz; omega)).mono ?_
          rintro e w3 ⟨rfl, f3⟩
          replace R := R.below f3
          replace F := F.trans (f3.mono F.size)
          clear f3 q0 q1 q2 q3 q4
          obtain ⟨bf2, off2, f2, hA, _, hf2, q0, q1, q2, q3, q4⟩ := (rf.below F).at_ hlt
          have e2 : f2 = f := Option.some.inj (hf2.symm.trans hf)
          rw [e2] at q0 q1 q2 q3 q4
          injection hA with hA
          injection hA with hA hA2 _
          rw [← hA, ← hA2] at q0 q1 q2 q3 q4
          clear hA hA2 e2 hf2
          generalize ha : (bytesOf (fs.take j)).length = a at *
          generalize hz : (fbytes f).length = z at *
          have hz1 : z ≤ 60010 := by have := HS.out; omega
          by_cases hak : k < a + z
          · have d2 : decide ((k : Int) < (a : Int) + (z : Int)) = true := by simp; omega
            have hpt := HP.out (by rw [HL.out]; exact hak) hjk
            go_wp2_with fail
            refine (answers_any p b _ f _ R (by simp only [hpt.1, List.length_take]; omega) hff (by omega)).mono ?_
            rintro e w4 ⟨rfl, R4, g4⟩
            rw [hpt.1] at R4 ⊢
            rw [ans_cut f hff _ (by rw [hz]; exact hpt.2)] at R4
            have F4 := F.trans (Below.one g4 F.size hpw)
            generalize (ansS f ⟨(fbytes f).take (k - a), false⟩).1 = v at *
            clear hpt
            cases v
            · go_wp2_with fail
              refine (err_any p b _ w4 R4).mono ?_
              rintro e w5 ⟨rfl, rfl⟩
              go_wp2_with fail
              refine (end_any p b _ w5 R4).mono ?_
              rintro e w6 ⟨rfl, R6, g6⟩
              have F6 := F4.trans (Below.one g6 F4.size hpw)
              go_wp2_with fail
              refine (awake3_any w6).mono ?_
              rintro e w7 ⟨rfl, g7⟩
              go_wp2_with fail
              go_ret
              exact ⟨rfl, F6.trans (g7.mono F6.size)⟩
            · go_wp2_with fail
              refine (err_any p b _ w4 R4).mono ?_
              rintro e w5 ⟨rfl, rfl⟩
              go_wp2_with fail
              refine (err_any p b _ w5 R4).mono ?_
              rintro e w5 ⟨rfl, rfl⟩
              go_wp2_with fail
              refine (end_any p b _ w5 R4).mono ?_
              rintro e w6 ⟨rfl, R6, g6⟩
              have F6 := F4.trans (Below.one g6 F4.size hpw)
              go_wp2_with fail
              refine (awake3_any w6).mono ?_
              rintro e w7 ⟨rfl, g7⟩
              go_wp2_with fail
              go_ret
              exact ⟨rfl, F6.trans (g7.mono F6.size)⟩
          · have d2 : decide ((k : Int) < (a : Int) + (z : Int)) = false := by simp; omega
            have hpt := HW.out (by rw [HL.out]; omega)
            go_wp2_with fail
            rw [hpt] at R
            refine (answers_any p b _ f _ R (by simp only [← hpt, List.length_drop, List.length_take]; omega) hff (by omega)).mono ?_
            rintro e w4 ⟨rfl, R4, g4⟩
            rw [ans_whole f hff] at R4 ⊢
            have F4 := F.trans (Below.one g4 F.size hpw)
            have hlen : (((bytesOf fs).take k).drop (bytesOf (fs.take (j + 1))).length).length = k - (a + z) := by
              rw [List.length_drop, List.length_take, HL.out, HN.out]
              omega
            have HA := HL.out
            generalize hC : ((bytesOf fs).take k).drop (bytesOf (fs.take (j + 1))).length = C at *
            have HC := Lib.hid hC
            clear hC
            have HLc := Lib.hid hlen
            have HA2 := Lib.hid HA
            clear hlen HA hpt
            go_wp2_with fail
            refine (err_any p b _ w4 R4).mono ?_
            rintro e w5 ⟨rfl, rfl⟩
            go_wp2_with fail
            refine (left_any p b _ w5 R4).mono ?_
            rintro e w6 ⟨rfl, rfl⟩
            simp only
            rw [HLc.out]
            have hcast : ((k - (a + z) : Nat) : Int) = (k : Int) - ((a : Int) + (z : Int)) := by omega
            rw [hcast]
            clear hcast
            go_wp2_with fail
            go_roundw
            case rel => exact ⟨j + 1, by go_num, by rw [HL.out]; exact congrArg (Value.int .i64) (by omega), by omega, by rw [HL.out]; omega, by rw [HC.out]; exact R4, F4⟩
            case measure => simp [intOf]; omega
        · obtain rfl : j = n2 := by omega
          have d1 : decide ((j : Int) < (j : Int)) = false := by simp
          have e1 : fs.take j = fs := List.take_of_length_le (by omega)
          rw [e1, HN.out] at R hjk ⊢
          obtain rfl : k = N := by omega
          have e2 : ((bytesOf fs).take k).drop k = [] := List.drop_eq_nil_of_le (by rw [List.length_take]; omega)
          rw [e2] at R
          go_wp2_with fail
          refine (end_any p b _ wr R).mono ?_
          rintro e w6 ⟨rfl, R6, g6⟩
          have F6 := F.trans (Below.one g6 F.size hpw)
          go_wp2_with fail
          refine (awake3_any w6).mono ?_
          rintro e w7 ⟨rfl, g7⟩
          go_wp2_with fail
          go_ret
          exact ⟨rfl, F6.trans (g7.mono F6.size)⟩
end Go.Proofs.Ytdblgjecbmebjaa
