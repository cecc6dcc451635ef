/- code.short: the number at the front of bytes. No condition. -/
import Derived.Test.YtgefbgjgcjiceaaWriter2
namespace Go.Proofs.Ytgefbgjgcjiceaa
open Go.RowKit
def shortGo : Nat → Nat → List UInt8 → Option (Nat × Nat)
  | _, _, [] => none
  | i, x, c :: r => if i = 9 ∧ 1 < c.toNat then none else
      if c.toNat < 128 then (if grp (x + c.toNat % 128 * 2 ^ (7 * i)) = i + 1 then some (x + c.toNat % 128 * 2 ^ (7 * i), i + 1) else none) else shortGo (i + 1) (x + c.toNat % 128 * 2 ^ (7 * i)) r
def findShort (l : List UInt8) : Option (Nat × Nat) := shortGo 0 0 l
def shortV : Option (Nat × Nat) → Value
  | none => .tuple #[.int .u64 0, .int .i64 (-1)]
  | some (x, k) => .tuple #[.int .u64 x, .int .i64 k]
theorem RdB.cellAt {w : World} {B : Nat} {A : Option Addr} {n : Nat} {l : List UInt8} (h : RdB w B A n l) {j : Nat} (hj : j < n) : ∃ b off, A = some ⟨b, off, none⟩ ∧ b < B ∧ w.cell? ⟨b, off + j, none⟩ = some (.int .u8 ((at8 l j).toNat : Int)) := by
  obtain ⟨b, off, rfl, hb, hc⟩ := h.2 (by omega)
  refine ⟨b, off, rfl, hb, ?_⟩
  have hl := h.1
  rw [hc j (by omega)]
  simp [bv, at8, List.getD, show j < l.length by omega]
theorem drop8 {l : List UInt8} {k : Nat} (h : k < l.length) : l.drop k = at8 l k :: l.drop (k + 1) := by
  rw [List.drop_eq_getElem_cons h]
  simp [at8, List.getD, h]
theorem bits_127 (X : Nat) (h : X < 256) : bits BinOp.and IntKind.u8 (X : Int) 127 = ((X % 128 : Nat) : Int) := by
  have : ∀ X : Fin 256, bits BinOp.and IntKind.u8 (X.val : Int) 127 = ((X.val % 128 : Nat) : Int) := by decide +kernel
  exact this ⟨X, h⟩
theorem wrap_small {v : Int} (h0 : 0 ≤ v) (h : v < 18446744073709551616) : IntKind.u64.wrap v = v := by
  simp [IntKind.wrap, IntKind.bits, IntKind.signed]; omega
theorem short_or (x C k : Nat) (hx : x < 2 ^ (7 * k)) (hC : C < 256) (hk : k ≤ 9) (h9 : k = 9 → C ≤ 1) :
    bits BinOp.or IntKind.u64 (x : Int) (IntKind.u64.wrap (IntKind.u64.wrap (bits BinOp.and IntKind.u8 (C : Int) 127) * 2 ^ (7 * k))) = ((x + C % 128 * 2 ^ (7 * k) : Nat) : Int) ∧ x + C % 128 * 2 ^ (7 * k) < 18446744073709551616 := by
  have h2 : C % 128 * 2 ^ (7 * k) + 2 ^ (7 * k) ≤ 18446744073709551616 := by
    have h3 : C % 128 + 1 ≤ 128 ∧ (k = 9 → C % 128 + 1 ≤ 2) := by omega
    rw [← Nat.succ_mul]
    by_cases hk9 : k = 9
    · subst hk9
      exact Nat.le_trans (Nat.mul_le_mul_right _ (h3.2 rfl)) (by decide)
    · exact Nat.le_trans (Nat.mul_le_mul h3.1 (Nat.pow_le_pow_right (by decide) (show 7 * k ≤ 56 by omega))) (by decide)
  have h4 : 0 < 2 ^ (7 * k) := Nat.two_pow_pos _
  rw [bits_127 C hC, wrap_small (v := ((C % 128 : Nat) : Int)) (by omega) (by omega)]
  have h5 : (((C % 128 : Nat) : Int) * 2 ^ (7 * k)) = ((C % 128 * 2 ^ (7 * k) : Nat) : Int) := by push_cast; rfl
  rw [h5, wrap_small (by omega) (by omega), u64_or_nat _ _ (by omega) (by omega)]
  refine ⟨?_, by omega⟩
  congr 1
  rw [Nat.or_comm, Nat.mul_comm (C % 128), Nat.add_comm x]
  exact (Nat.two_pow_add_eq_or_of_lt hx _).symm
set_option maxRecDepth 100000 in
set_option maxHeartbeats 1000000 in
theorem short_any (A : Option Addr) (n c : Nat) (l : List UInt8) (B : Nat) (w : World) (h : RdB w B A n l) :
    Calls Try.prog 68 #[.slice A n c] w fun e w' => e = .returned (shortV (findShort l)) ∧ w' = w := by
  have hl := h.1
  go_enter Try.func68, Try.ntmps68
  go_wp2_with fail
  go_loopw [4, 9] (fun v i wr => ∃ k x : Nat, i = .int .i64 k ∧ v = .int .u64 x ∧ k ≤ n ∧ (k ≤ 9 ∨ k = n) ∧ x < 2 ^ (7 * k) ∧ findShort l = shortGo k x (l.drop k) ∧ wr = w) (fun _ i _ => n - (intOf i).toNat)
  case atStart => exact ⟨0, 0, rfl, rfl, Nat.zero_le _, .inl (by omega), by simp, rfl, rfl⟩
  case round =>
    obtain ⟨k, x, rfl, rfl, hk, hk9, hx, hf, rfl⟩ := hrel
    by_cases hlt : k < n
    · have d1 : decide ((k : Int) < (n : Int)) = true := by simp; omega
      have b1 : (0 : Int) ≤ (k : Int) := by omega
      have b2 : (k : Int) < (n : Int) := by omega
      obtain ⟨b, off, rfl, hb, hc⟩ := h.cellAt hlt
      have hc8 := (at8 l k).toNat_lt
      generalize hC : (at8 l k).toNat = C at *
      by_cases k9 : k = 9
      · subst k9
        by_cases c1 : 1 < C
        · have d2 : decide ((1 : Int) < (C : Int)) = true := by simp; omega
          go_wp2_with fail
          go_ret2
          refine ⟨?_, rfl⟩
          rw [hf, drop8 (by omega), shortGo, if_pos ⟨rfl, by rw [hC]; exact c1⟩]
          rfl
        · have d2 : decide ((1 : Int) < (C : Int)) = false := by simp; omega
          have d3 : decide ((C : Int) < 128) = true := by simp; omega
          obtain ⟨hor, hY⟩ := short_or x C 9 hx (by omega) (by omega) (fun _ => by omega)
          obtain ⟨Y, hYe⟩ : ∃ Y, Y = x + C % 128 * 2 ^ (7 * 9) := ⟨_, rfl⟩
          rw [← hYe] at hor hY
          have HY := Lib.hid hYe
          clear hYe
          have hor' : bits BinOp.or IntKind.u64 (x : Int) (IntKind.u64.wrap (IntKind.u64.wrap (bits BinOp.and IntKind.u8 (C : Int) 127) * 9223372036854775808)) = (Y : Int) := hor
          go_wp2_with fail
          refine (groups_any Y hY wr).mono ?_
          rintro e w' ⟨rfl, rfl⟩
          have hres : findShort l = if grp Y = 10 then some (Y, 10) else none := by
            rw [hf, drop8 (by omega), shortGo, if_neg (by rw [hC]; omega), if_pos (by rw [hC]; omega), hC, ← HY.out]
          by_cases hg : grp Y = 10
          · rw [if_pos hg] at hres
            rw [hg]
            go_wp2_with fail
            go_ret2
            exact ⟨by rw [hres]; rfl, rfl⟩
          · rw [if_neg hg] at hres
            have d4 : ((grp Y : Nat) : Int) ≠ 10 := by omega
            go_wp2_with fail
            go_ret2
            exact ⟨by rw [hres]; rfl, rfl⟩
      · have k9' : k < 9 := by omega
        have d0 : ((k : Int) == 9) = false := by simp; omega
        obtain ⟨hor, hY⟩ := short_or x C k hx (by omega) (by omega) (fun _ => by omega)
        obtain ⟨Y, hYe⟩ : ∃ Y, Y = x + C % 128 * 2 ^ (7 * k) := ⟨_, rfl⟩
        have hYl : Y < 2 ^ (7 * (k + 1)) := by
          have h4 : C % 128 + 1 ≤ 128 := by omega
          have h5 : (C % 128 + 1) * 2 ^ (7 * k) ≤ 128 * 2 ^ (7 * k) := Nat.mul_le_mul_right _ h4
          rw [Nat.succ_mul] at h5
          rw [Nat.mul_succ, Nat.pow_add]
          omega
        rw [← hYe] at hor hY
        have hstep : findShort l = if C < 128 then (if grp Y = k + 1 then some (Y, k + 1) else none) else shortGo (k + 1) Y (l.drop (k + 1)) := by
          rw [hf, drop8 (by omega), shortGo, if_neg (by omega), hC, ← hYe]
        by_cases c1 : C < 128
        · have d3 : decide ((C : Int) < 128) = true := by simp; omega
          rw [if_pos c1] at hstep
          clear hx hYe hYl hf
          go_wp2_with fail
          refine (groups_any Y hY wr).mono ?_
          rintro e w' ⟨rfl, rfl⟩
          by_cases hg : grp Y = k + 1
          · rw [if_pos hg] at hstep
            have d4 : (((grp Y : Nat) : Int) == (k : Int) + 1) = true := by simp; omega
            rw [hg]
            go_wp2_with fail
            go_ret2
            exact ⟨by rw [hstep]; simp [shortV], rfl⟩
          · rw [if_neg hg] at hstep
            have d4 : ¬ (((grp Y : Nat) : Int) = (k : Int) + 1) := by omega
            go_wp2_with fail
            go_ret2
            exact ⟨by rw [hstep]; rfl, rfl⟩
        · have d3 : decide ((C : Int) < 128) = false := by simp; omega
          rw [if_neg c1] at hstep
          clear hx hf hYe
          go_wp2_with fail
          go_roundw
          case rel => exact ⟨k + 1, Y, by go_num, rfl, by omega, by omega, hYl, hstep, by trivial⟩
          case measure => simp [intOf]; omega
    · have d1 : decide ((k : Int) < (n : Int)) = false := by simp; omega
      go_wp2_with fail
      go_ret2
      refine ⟨?_, rfl⟩
      rw [hf, List.drop_eq_nil_of_le (by omega)]
      rfl
end Go.Proofs.Ytgefbgjgcjiceaa
