/- The document's reader: Uint, Text. Condition: the bytes are at most 2^47. -/
import Derived.Test.YtdblgjecbmebjaaRefFront
namespace Go.Proofs.Ytdblgjecbmebjaa
open Go.RowKit
set_option linter.unusedVariables false
set_option maxRecDepth 100000 in
set_option maxHeartbeats 2000000 in
theorem refUint_any (p : Nat) (A : Option Addr) (n c : Nat) (s : RS) (w : World) (h : Rm w p A n c s) (hn : n ≤ 140737488355328) :
    Calls Try.prog 30 #[.pointer (some ⟨p, 0, none⟩)] w fun e w' => e = .returned (.int .u64 ((takeS findShort 0 s).1 : Nat)) ∧ RmP w p A (takeS findShort 0 s).2 w' := by
  have hl := h.2.len
  obtain ⟨l, st⟩ := s
  simp only at hl
  go_enter Try.func30, Try.ntmps30
  go_wp2_with fail
  refine (front_any p A n c ⟨l, st⟩ w h hn).mono ?_
  rintro e w1 ⟨rfl, f1⟩
  have h1 := h.below f1
  have c1 := h1.1.cell 1
  have z1 := h1.1.frozen 1
  have hs := (h1.setB true).to (Wrote.of_below f1 p A)
  simp only
  cases st
  · cases hf : findShort l with
    | none =>
      rw [frontV]
      go_wp2_with fail
      go_ret
      rw [takeS_none hf]
      exact ⟨rfl, hs⟩
    | some yk =>
      obtain ⟨y, k⟩ := yk
      have hk := front_len hf
      rw [frontV]
      have b1 : ((k : Int) == 0) = false := by simp; omega
      go_wp2_with fail
      refine (drop_any p A n c l false k w1 h1 (by omega) hn).mono ?_
      rintro e w2 ⟨rfl, hp⟩
      go_wp2_with fail
      go_ret
      rw [takeS_some hf]
      exact ⟨rfl, hp.to (Wrote.of_below f1 p A)⟩
  · cases hf : findShort l with
    | none =>
      rw [frontV]
      go_wp2_with fail
      go_ret
      exact ⟨rfl, hs⟩
    | some yk =>
      obtain ⟨y, k⟩ := yk
      rw [frontV]
      go_wp2_with fail
      go_ret
      exact ⟨rfl, hs⟩
set_option maxRecDepth 100000 in
set_option maxHeartbeats 4000000 in
theorem refRText_any (p : Nat) (A : Option Addr) (n c : Nat) (s : RS) (m : Int) (w : World) (h : Rm w p A n c s) (hn : n ≤ 140737488355328) (hm1 : -9223372036854775808 ≤ m) (hm2 : m ≤ 9223372036854775807) :
    Calls Try.prog 31 #[.pointer (some ⟨p, 0, none⟩), .int .i64 m] w fun e w' => e = .returned (.string (strB (takeS (findText m) [] s).1)) ∧ RmP w p A (takeS (findText m) [] s).2 w' := by
  have hl := h.2.len
  obtain ⟨l, st⟩ := s
  simp only at hl
  go_enter Try.func31, Try.ntmps31
  go_wp2_with fail
  refine (front_any p A n c ⟨l, st⟩ w h hn).mono ?_
  rintro e w1 ⟨rfl, f1⟩
  have h1 := h.below f1
  have c0 := h1.1.cell 0
  have c1 := h1.1.cell 1
  have z1 := h1.1.frozen 1
  have hs := (h1.setB true).to (Wrote.of_below f1 p A)
  have hnc := h1.2.cap
  simp only
  cases st
  · cases hf : findShort l with
    | none =>
      have hft : findText m l = none := by rw [findText, hf]
      rw [frontV]
      go_wp2_with fail
      go_ret
      rw [takeS_none hft]
      exact ⟨rfl, hs⟩
    | some yk =>
      obtain ⟨y, k⟩ := yk
      have hk := front_len hf
      obtain ⟨_, _, hy⟩ := findShort_le hf
      rw [frontV]
      have b1 : ((k : Int) == 0) = false := by simp; omega
      by_cases hm0 : m < 0
      · have hft : findText m l = none := by rw [findText, hf]; simp [hm0]
        have d1 : decide (m < 0) = true := by simp [hm0]
        go_wp2_with fail
        go_ret
        rw [takeS_none hft]
        exact ⟨rfl, hs⟩
      · have d1 : decide (m < 0) = false := by simp; omega
        obtain ⟨M, rfl⟩ : ∃ M : Nat, m = (M : Int) := ⟨m.toNat, by omega⟩
        have hw := wrap_small (v := (M : Int)) (by omega) (by omega)
        by_cases hm1' : M < y
        · have hft : findText (M : Int) l = none := by rw [findText, hf]; simp [hm1']
          have d2 : decide ((M : Int) < (y : Int)) = true := by simp [hm1']
          go_wp2_with fail
          go_ret
          rw [takeS_none hft]
          exact ⟨rfl, hs⟩
        · have d2 : decide ((M : Int) < (y : Int)) = false := by simp; omega
          have hw2 := wrap_small (v := (n : Int) - (k : Int)) (by omega) (by omega)
          by_cases hm2' : n < k + y
          · have hft : findText (M : Int) l = none := by rw [findText, hf]; simp [hl, hm2']
            have d3 : decide ((n : Int) - (k : Int) < (y : Int)) = true := by simp; omega
            go_wp2_with fail
            go_ret
            rw [takeS_none hft]
            exact ⟨rfl, hs⟩
          · have hft : findText (M : Int) l = some ((l.drop k).take y, k + y) := by rw [findText, hf]; simp [hl, hm0, hm1', hm2']
            have d3 : decide ((n : Int) - (k : Int) < (y : Int)) = false := by simp; omega
            have hky : k + y ≤ n := by omega
            have hk1 : k ≤ n := by omega
            have hy2 : y ≤ 140737488355328 := by omega
            have hrs := h1.2.rd.sliced (i := k) (k := k + y) (c := c) (by omega) hky hnc
            obtain ⟨A', e', r'⟩ := hrs
            rw [Nat.add_sub_cancel_left] at e' r'
            have e2 : (l.take (k + y)).drop k = (l.drop k).take y := by rw [List.drop_take, Nat.add_sub_cancel_left]
            rw [e2] at r'
            simp only [sliced, Nat.mul_one] at e'
            injection e' with e1 _ _
            rw [← e1] at r'
            clear hm2' e2
            obtain ⟨z, hz⟩ : ∃ z, strB ((l.drop k).take y) = z := ⟨_, rfl⟩
            by_cases hci : c = k
            · rw [if_pos hci] at r'
              have kq := run_str T23 r' (c - k) _ Try.underlying9
              rw [hz] at kq
              have hy0 : y = 0 := by omega
              rw [show c - k = 0 from by omega] at kq
              have hnk : n = k := by omega
              have hp1 := fun w2 (q : RmP w1 p A ⟨l.drop (k + y), false⟩ w2) => q.to (Wrote.of_below f1 p A)
              have hts := takeS_some (z := []) hft
              have HTS := Lib.hid hts
              have HZ := Lib.hid hz
              have HP := Lib.hid hp1
              clear hts hft hz hp1 r' e1 hs
              subst hy0
              subst hnk
              subst hci
              go_wp2_with fail
              refine (drop_any p A _ _ l false _ w1 h1 (Nat.le_refl _) hn).mono ?_
              rintro e w2 ⟨rfl, hp⟩
              go_wp2_with fail
              go_ret
              rw [HTS.out]
              exact ⟨by rw [← HZ.out]; rfl, HP.out w2 (by simpa using hp)⟩
            · rw [if_neg hci] at r'
              have kq := run_str T23 r' (c - k) _ Try.underlying9
              rw [hz] at kq
              go_wp2_with fail
              refine (drop_any p A n c l false (k + y) w1 h1 hky hn).mono ?_
              rintro e w2 ⟨rfl, hp⟩
              go_wp2_with fail
              go_ret
              rw [takeS_some hft]
              exact ⟨by rw [← hz]; rfl, hp.to (Wrote.of_below f1 p A)⟩
  · cases hf : findShort l with
    | none =>
      rw [frontV]
      go_wp2_with fail
      go_ret
      exact ⟨rfl, hs⟩
    | some yk =>
      obtain ⟨y, k⟩ := yk
      rw [frontV]
      go_wp2_with fail
      go_ret
      exact ⟨rfl, hs⟩
end Go.Proofs.Ytdblgjecbmebjaa
