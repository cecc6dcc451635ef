/- The document's reader: Wide (of 1 and 4 bytes), End. Condition: the bytes are at most 2^47. -/
import Derived.Test.YtdblgjecbmebjaaRefReader
namespace Go.Proofs.Ytdblgjecbmebjaa
open Go.RowKit
set_option linter.unusedVariables false
def wideV (l : List UInt8) : Nat := (List.range l.length).foldl (fun x i => x + (at8 l i).toNat * 2 ^ (8 * i)) 0
def wideN (l : List UInt8) (k : Nat) : Nat := (List.range k).foldl (fun x i => x + (at8 l i).toNat * 2 ^ (8 * i)) 0
theorem wideN_succ (l : List UInt8) (k : Nat) : wideN l (k + 1) = wideN l k + (at8 l k).toNat * 2 ^ (8 * k) := by
  unfold wideN
  rw [List.range_succ, List.foldl_append]
  rfl
theorem wideN_lt (l : List UInt8) (k : Nat) : wideN l k < 2 ^ (8 * k) := by
  induction k with
  | zero => simp [wideN]
  | succ k ih =>
    rw [wideN_succ, Nat.mul_succ, Nat.pow_add]
    have := (at8 l k).toNat_lt
    have h2 : ((at8 l k).toNat + 1) * 2 ^ (8 * k) ≤ 256 * 2 ^ (8 * k) := Nat.mul_le_mul_right _ (by omega)
    rw [Nat.succ_mul] at h2
    omega
theorem wide_or (x C k : Nat) (hx : x < 2 ^ (8 * k)) (hC : C < 256) (hk : k ≤ 7) :
    bits BinOp.or IntKind.u64 (x : Int) (IntKind.u64.wrap ((C : Int) * 2 ^ (8 * k))) = ((x + C * 2 ^ (8 * k) : Nat) : Int) ∧ x + C * 2 ^ (8 * k) < 18446744073709551616 := by
  have h2 : C * 2 ^ (8 * k) + 2 ^ (8 * k) ≤ 18446744073709551616 := by
    rw [← Nat.succ_mul]
    exact Nat.le_trans (Nat.mul_le_mul (show C + 1 ≤ 256 by omega) (Nat.pow_le_pow_right (by decide) (show 8 * k ≤ 56 by omega))) (by decide)
  have h4 : 0 < 2 ^ (8 * k) := Nat.two_pow_pos _
  have h5 : ((C : Int) * 2 ^ (8 * k)) = ((C * 2 ^ (8 * k) : Nat) : Int) := by push_cast; rfl
  rw [h5, wrap_small (by omega) (by omega), u64_or_nat _ _ (by omega) (by omega)]
  refine ⟨?_, by omega⟩
  congr 1
  rw [Nat.or_comm, Nat.mul_comm C, Nat.add_comm x]
  exact (Nat.two_pow_add_eq_or_of_lt hx _).symm
set_option maxRecDepth 100000 in
set_option maxHeartbeats 2000000 in
theorem refWide_any (p : Nat) (A : Option Addr) (n c : Nat) (s : RS) (m : Nat) (hm : m ≤ 4) (w : World) (h : Rm w p A n c s) (hn : n ≤ 140737488355328) :
    Calls Try.prog 27 #[.pointer (some ⟨p, 0, none⟩), .int .i64 m] w fun e w' => e = .returned (.int .u64 (wideN (takeS (findRaw m) [] s).1 (takeS (findRaw m) [] s).1.length : Nat)) ∧ RmP w p A (takeS (findRaw m) [] s).2 w' := by
  have hlt : (takeS (findRaw m) [] s).1.length ≤ 4 := by
    unfold takeS
    split
    · simp
    · split
      · simp
      · rename_i hf
        unfold findRaw at hf
        split at hf
        · cases hf
        · simp only [Option.some.injEq, Prod.mk.injEq] at hf
          rw [← hf.1, List.length_take]
          simp only [Int.toNat_natCast]
          omega
  go_enter Try.func27, Try.ntmps27
  go_wp2_with fail
  refine (refRaw_any p A n c s m w h hn).mono ?_
  rintro e w1 ⟨Ar, nr, cr, rfl, o1, hp⟩
  generalize hL : (takeS (findRaw m) [] s).1 = L at *
  have HL := Lib.hid hL
  clear hL
  have rl := o1.rd
  have hl := o1.len
  clear o1
  go_wp2_with fail
  go_loopw [6, 7] (fun v i wr => ∃ k : Nat, i = .int .i64 k ∧ v = .int .u64 (wideN L k : Nat) ∧ k ≤ nr ∧ wr = w1) (fun _ i _ => nr - (intOf i).toNat)
  case atStart => exact ⟨0, rfl, rfl, Nat.zero_le _, rfl⟩
  case round =>
    obtain ⟨k, rfl, rfl, hk, rfl⟩ := hrel
    by_cases hkn : k < nr
    · have d1 : decide ((k : Int) < (nr : Int)) = true := by simp; omega
      have b1 : (0 : Int) ≤ (k : Int) := by omega
      have b2 : (k : Int) < (nr : Int) := by omega
      obtain ⟨b, off, rfl, hb, hc⟩ := rl.cellAt hkn
      have hc8 := (at8 L k).toNat_lt
      have hx := wideN_lt L k
      have hs := wideN_succ L k
      generalize (at8 L k).toNat = C at *
      obtain ⟨hor, hY⟩ := wide_or (wideN L k) C k hx (by omega) (by omega)
      rw [← hs] at hor hY
      have HS := Lib.hid hs
      clear hs hx
      generalize wideN L k = X at *
      generalize hYe : wideN L (k + 1) = Y at *
      have HY := Lib.hid hYe
      clear hYe
      go_wp2_with fail
      go_roundw
      case rel => exact ⟨k + 1, by go_num, by rw [HY.out], by omega, by trivial⟩
      case measure => simp [intOf]; omega
    · obtain rfl : k = nr := by omega
      have d1 : decide ((k : Int) < (k : Int)) = false := by simp
      go_wp2_with fail
      go_ret
      rw [HL.out, hl]
      exact ⟨rfl, hp⟩
theorem Rm.setB {w : World} {p : Nat} {A : Option Addr} {n c : Nat} {s : RS} (h : Rm w p A n c s) (v : Bool) : RmP w p A ⟨s.l, v⟩ (w.setCell ⟨p, 1, none⟩ (.bool v)) := by
  have o : Off (fun k => k = p) w (w.setCell ⟨p, 1, none⟩ (.bool v)) := (Off.refl (fun k => k = p) w).setCell (p := ⟨p, 1, none⟩) (fun _ => rfl) _
  refine ⟨A, c, ⟨?_, ?_⟩, .inl rfl, o.mono fun _ _ h => .inl h⟩
  · rw [h.len]
    exact h.1.set 1 _
  · rw [h.len]
    exact h.2.off o (fun k hk e => h.notOwn (by have e' : k = p := e; rwa [e'] at hk))
set_option maxRecDepth 100000 in
set_option maxHeartbeats 1000000 in
theorem refEnd_any (p : Nat) (A : Option Addr) (n c : Nat) (s : RS) (w : World) (h : Rm w p A n c s) :
    Calls Try.prog 34 #[.pointer (some ⟨p, 0, none⟩)] w fun e w' => e = .returned (.bool (s.st || !s.l.isEmpty)) ∧ RmP w p A ⟨s.l, s.st || !s.l.isEmpty⟩ w' := by
  have c0 := h.1.cell 0
  have c1 := h.1.cell 1
  have z1 := h.1.frozen 1
  have hl := h.2.len
  obtain ⟨l, st⟩ := s
  simp only at hl
  go_enter Try.func34, Try.ntmps34
  cases st
  · cases l with
    | nil =>
      obtain rfl : n = 0 := hl.symm
      have hs := h.setB false
      go_wp2_with fail
      go_ret
      exact ⟨rfl, hs⟩
    | cons x l =>
      have b1 : decide (0 < n) = true := by rw [← hl]; simp
      have hs := h.setB true
      go_wp2_with fail
      go_ret
      exact ⟨rfl, hs⟩
  · have hs := h.setB true
    go_wp2_with fail
    go_ret
    exact ⟨rfl, hs⟩
end Go.Proofs.Ytdblgjecbmebjaa
