/- The document's short number at the front of bytes. No condition. -/
import Derived.Test.YtgefbgjgcjiceaaShort
namespace Go.Proofs.Ytgefbgjgcjiceaa
open Go.RowKit
set_option linter.unusedVariables false
set_option linter.unusedSimpArgs false
theorem grp_top : ∀ (i x : Nat), x < 2 ^ 64 → x < 2 ^ (7 * (i + 1)) → grp x ≤ i + 1
  | 0, x, _, h => by rw [grp_small (by simpa using h)]; omega
  | i + 1, x, h64, h => by
    by_cases h1 : x < 128
    · rw [grp_small h1]; omega
    · have h2 : x / 128 < 2 ^ (7 * (i + 1)) := by
        rw [Nat.div_lt_iff_lt_mul (by omega)]
        rw [show 7 * (i + 1 + 1) = 7 * (i + 1) + 7 from by omega, Nat.pow_add] at h
        exact h
      rw [grp_step (by omega) h64]
      have := grp_top i (x / 128) (by omega) h2
      omega
theorem grp_bottom : ∀ (i x : Nat), x < 2 ^ 64 → 2 ^ (7 * i) ≤ x → i + 1 ≤ grp x
  | 0, x, h, _ => grp_pos x h
  | i + 1, x, h64, h => by
    have h0 : 2 ^ (7 * (i + 1)) = 2 ^ (7 * i) * 128 := by rw [show 7 * (i + 1) = 7 * i + 7 from by omega, Nat.pow_add]
    have hp : 0 < 2 ^ (7 * i) := Nat.two_pow_pos _
    have h2 : 2 ^ (7 * i) ≤ x / 128 := by
      rw [Nat.le_div_iff_mul_le (by omega)]
      omega
    rw [grp_step (by omega) h64]
    have := grp_bottom i (x / 128) (by omega) h2
    omega
theorem grp_last (x C i : Nat) (hx : x < 2 ^ (7 * i)) (hC : C < 128) (h64 : x + C % 128 * 2 ^ (7 * i) < 18446744073709551616) : (grp (x + C % 128 * 2 ^ (7 * i)) = i + 1) ↔ (i = 0 ∨ C ≠ 0) := by
  rw [Nat.mod_eq_of_lt hC] at *
  have hp : 0 < 2 ^ (7 * i) := Nat.two_pow_pos _
  have htop : x + C * 2 ^ (7 * i) < 2 ^ (7 * (i + 1)) := by
    have h5 : (C + 1) * 2 ^ (7 * i) ≤ 128 * 2 ^ (7 * i) := Nat.mul_le_mul_right _ (by omega)
    rw [Nat.succ_mul] at h5
    rw [Nat.mul_succ, Nat.pow_add]
    omega
  by_cases h0 : C = 0
  · subst h0
    rw [Nat.zero_mul, Nat.add_zero] at *
    cases i with
    | zero =>
      have : x = 0 := by simpa using hx
      subst this
      exact ⟨fun _ => .inl rfl, fun _ => grp_small (by omega)⟩
    | succ i =>
      have := grp_top i x h64 hx
      constructor
      · intro h; omega
      · rintro (h | h)
        · omega
        · exact absurd rfl h
  · have h1 : 1 * 2 ^ (7 * i) ≤ C * 2 ^ (7 * i) := Nat.mul_le_mul_right _ (by omega)
    have h2 := grp_top i _ h64 htop
    have h3 := grp_bottom i (x + C * 2 ^ (7 * i)) h64 (by omega)
    exact ⟨fun _ => .inr h0, fun _ => by omega⟩
def numV : Option (Nat × Nat) → Value
  | none => .tuple #[.int .u64 0, .int .i64 0]
  | some (x, k) => .tuple #[.int .u64 x, .int .i64 k]
set_option maxRecDepth 100000 in
set_option maxHeartbeats 1000000 in
theorem number6_any (A : Option Addr) (n c : Nat) (l : List UInt8) (B : Nat) (w : World) (h : RdB w B A n l) :
    Calls Try.prog 50 #[.slice A n c] w fun e w' => e = .returned (numV (findShort l)) ∧ w' = w := by
  have hl := h.1
  go_enter Try.func50, Try.ntmps50
  go_wp2_with fail
  go_loopw [4, 5] (fun v i wr => ∃ k x : Nat, i = .int .i64 k ∧ v = .int .u64 x ∧ k ≤ n ∧ k ≤ 9 ∧ x < 2 ^ (7 * k) ∧ findShort l = shortGo k x (l.drop k) ∧ wr = w) (fun _ i _ => n - (intOf i).toNat)
  case atStart => exact ⟨0, 0, rfl, rfl, Nat.zero_le _, by omega, by simp, rfl, rfl⟩
  case round =>
    obtain ⟨k, x, rfl, rfl, hk, hk9, hx, hf, rfl⟩ := hrel
    by_cases hlt : k < n
    · have d1 : decide ((k : Int) < (n : Int)) = true := by simp; omega
      have d1b : decide ((k : Int) < 10) = true := by simp; omega
      have b1 : (0 : Int) ≤ (k : Int) := by omega
      have b2 : (k : Int) < (n : Int) := by omega
      obtain ⟨b, off, rfl, hb, hc⟩ := h.cellAt hlt
      have hc8 := (at8 l k).toNat_lt
      generalize hC : (at8 l k).toNat = C at *
      by_cases k9 : k = 9
      · subst k9
        by_cases c1 : 1 < C
        · have d2 : decide ((1 : Int) < (C : Int)) = true := by simp; omega
          go_wp2_with fail
          go_ret2
          refine ⟨?_, rfl⟩
          rw [hf, drop8 (by omega), shortGo, if_pos ⟨rfl, by rw [hC]; exact c1⟩]
          rfl
        · have d2 : decide ((1 : Int) < (C : Int)) = false := by simp; omega
          have d3 : decide ((C : Int) < 128) = true := by simp; omega
          obtain ⟨hor, hY⟩ := short_or x C 9 hx (by omega) (by omega) (fun _ => by omega)
          have hg := grp_last x C 9 hx (by omega) hY
          obtain ⟨Y, hYe⟩ : ∃ Y, Y = x + C % 128 * 2 ^ (7 * 9) := ⟨_, rfl⟩
          rw [← hYe] at hor hY hg
          have HY := Lib.hid hYe
          clear hYe
          have HG := Lib.hid hg
          clear hg
          have hor' : bits BinOp.or IntKind.u64 (x : Int) (IntKind.u64.wrap (IntKind.u64.wrap (bits BinOp.and IntKind.u8 (C : Int) 127) * 9223372036854775808)) = (Y : Int) := hor
          have hres : findShort l = if grp Y = 10 then some (Y, 10) else none := by
            rw [hf, drop8 (by omega), shortGo, if_neg (by rw [hC]; omega), if_pos (by rw [hC]; omega), hC, ← HY.out]
          have HRes := Lib.hid hres
          clear hres hf
          by_cases hc0 : C = 0
          · subst hc0
            go_wp2_with fail
            go_ret2
            refine ⟨?_, rfl⟩
            rw [HRes.out, if_neg (fun e => by have := HG.out.1 e; omega)]
            rfl
          · have d4 : ((C : Int) == 0) = false := by simp; omega
            go_wp2_with fail
            go_ret2
            refine ⟨?_, rfl⟩
            rw [HRes.out, if_pos (HG.out.2 (.inr hc0))]
            rfl
      · have k9' : k < 9 := by omega
        have d0 : ((k : Int) == 9) = false := by simp; omega
        obtain ⟨hor, hY⟩ := short_or x C k hx (by omega) (by omega) (fun _ => by omega)
        have hgl := fun h => grp_last x C k hx h hY
        obtain ⟨Y, hYe⟩ : ∃ Y, Y = x + C % 128 * 2 ^ (7 * k) := ⟨_, rfl⟩
        have hYl : Y < 2 ^ (7 * (k + 1)) := by
          have h4 : C % 128 + 1 ≤ 128 := by omega
          have h5 : (C % 128 + 1) * 2 ^ (7 * k) ≤ 128 * 2 ^ (7 * k) := Nat.mul_le_mul_right _ h4
          rw [Nat.succ_mul] at h5
          rw [Nat.mul_succ, Nat.pow_add]
          omega
        rw [← hYe] at hor hY hgl
        have HG := Lib.hid hgl
        clear hgl
        have hstep : findShort l = if C < 128 then (if grp Y = k + 1 then some (Y, k + 1) else none) else shortGo (k + 1) Y (l.drop (k + 1)) := by
          rw [hf, drop8 (by omega), shortGo, if_neg (by omega), hC, ← hYe]
        by_cases c1 : C < 128
        · have d3 : decide ((C : Int) < 128) = true := by simp; omega
          rw [if_pos c1] at hstep
          have HS := Lib.hid hstep
          clear hx hYe hYl hf hstep
          by_cases hk0 : k = 0
          · have d5 : decide (0 < k) = false := by simp; omega
            have HK0 := Lib.hid hk0; clear hk0
            go_wp2_with fail
            go_ret2
            refine ⟨?_, rfl⟩
            rw [HS.out, if_pos ((HG.out c1).2 (.inl HK0.out))]
            simp [numV]
          · have d5 : decide (0 < k) = true := by simp; omega
            by_cases hc0 : C = 0
            · subst hc0
              go_wp2_with fail
              go_ret2
              refine ⟨?_, rfl⟩
              rw [HS.out, if_neg (fun e => by have := (HG.out c1).1 e; omega)]
              rfl
            · have d4 : ((C : Int) == 0) = false := by simp; omega
              go_wp2_with fail
              go_ret2
              refine ⟨?_, rfl⟩
              rw [HS.out, if_pos ((HG.out c1).2 (.inr hc0))]
              simp [numV]
        · have d3 : decide ((C : Int) < 128) = false := by simp; omega
          rw [if_neg c1] at hstep
          clear hx hf hYe
          go_wp2_with fail
          go_roundw
          case rel => exact ⟨k + 1, Y, by go_num, rfl, by omega, by omega, hYl, hstep, by trivial⟩
          case measure => simp [intOf]; omega
    · have d1 : decide ((k : Int) < (n : Int)) = false := by simp; omega
      go_wp2_with fail
      go_ret2
      refine ⟨?_, rfl⟩
      rw [hf, List.drop_eq_nil_of_le (by omega)]
      rfl
end Go.Proofs.Ytgefbgjgcjiceaa
