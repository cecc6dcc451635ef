/- The document's times: the product, in limbs. Condition: limbs below 2^16, not many. -/
import Derived.Test.YthjaomkjjlgjeaaRefLimbs
namespace Go.Proofs.Ythjaomkjjlgjeaa
open Go.RowKit
set_option linter.unusedVariables false
set_option linter.unusedSimpArgs false
/-- What has been done behind j rows. -/
structure Rows (a b : List Nat) (j : Nat) (o : List Nat) : Prop where
  len : o.length = a.length + b.length + 1
  small : Small o
  zero : ∀ q, j + b.length ≤ q → atN o q = 0
  val : valL o = valL (a.take j) * valL b
theorem Rows.start (a b : List Nat) : Rows a b 0 (List.replicate (a.length + b.length + 1) 0) :=
  ⟨by simp, fun j => by simp [atN, List.getD_eq_getElem?_getD, List.getElem?_replicate]; split <;> simp, fun q _ => by simp [atN, List.getD_eq_getElem?_getD, List.getElem?_replicate]; split <;> simp, by rw [valL_zero, List.take_zero, valL, Nat.zero_mul]⟩
theorem Rows.next {a b : List Nat} {j k : Nat} {o o' : List Nat} (h : Rows a b j o) (r : Row o a b j k o' 0) (hk : b.length ≤ k) (hk2 : k ≤ b.length + 1) : Rows a b (j + 1) o' := by
  refine ⟨r.len.trans h.len, r.small, fun q hq => r.zero q (by omega) (by omega), ?_⟩
  have := r.val
  rw [Nat.zero_mul, Nat.add_zero, List.take_of_length_le hk, h.val] at this
  rw [this, valL_take_succ, Nat.add_mul, Nat.mul_assoc, Nat.mul_assoc, Nat.mul_comm (valL b)]
set_option maxRecDepth 100000 in
set_option maxHeartbeats 2000000 in
theorem times_any (a b : List Nat) (ga gb : Nat) (w : World) (ka : Blk w ga 40 (nvs a)) (kb : Blk w gb 40 (nvs b)) (sa : Small a) (sb : Small b) (la : a.length ≤ 1000) (lb : b.length ≤ 1000) :
    Calls Try.prog 65 #[.slice (some ⟨ga, 0, none⟩) a.length a.length, .slice (some ⟨gb, 0, none⟩) b.length b.length] w fun e w' =>
      e = .returned (.slice (some ⟨w.heap.size, 0, none⟩) (a.length + b.length + 1) (a.length + b.length + 1)) ∧ ∃ o, Blk w' w.heap.size 40 (nvs o) ∧ o.length = a.length + b.length + 1 ∧ Small o ∧ valL o = valL a * valL b ∧ Below w.heap.size w w' := by
  have hmk := run_make_nums (P := Try.prog) (t := 69) (e := 40) Try.underlying69 (by kernel_rfl) (a.length + b.length + 1) (by omega)
  have hga := ka.lt
  have hgb := kb.lt
  have r0 := Rows.start a b
  generalize hla : a.length = n at *
  generalize hlb : b.length = m at *
  have Hla := Lib.hid hla; clear hla
  have Hlb := Lib.hid hlb; clear hlb
  push_cast at hmk
  go_enter Try.func65, Try.ntmps65
  go_wp2_with fail
  clear hmk
  refine abs (fun w1 => Blk w1 w.heap.size 40 (nvs (List.replicate (n + m + 1) 0)) ∧ Below w.heap.size w w1) ⟨Blk.of_new w _ _, (Below.refl _ w).alloc (Nat.le_refl _) _⟩ ?_
  rintro w1 ⟨k1, f1⟩
  try go_frame
  go_loopw [6] (fun i wr => ∃ (j : Nat) (o : List Nat), j ≤ n ∧ i = .int .i64 j ∧ Rows a b j o ∧ Blk wr w.heap.size 40 (nvs o) ∧ Below w.heap.size w wr) (fun i _ => n - (intOf i).toNat)
  case atStart => exact ⟨0, _, by omega, rfl, r0, k1, f1⟩
  case round =>
    clear k1 f1 r0
    obtain ⟨j, o, hj, rfl, r0, k1, f1⟩ := hrel
    by_cases hlt : j < n
    · have d1 : decide ((j : Int) < (n : Int)) = true := by simp; omega
      go_wp2_with fail
      go_loopw [8, 7] (fun s8 s7 wi => ∃ (k c : Nat) (o' : List Nat), k ≤ m + 1 ∧ s8 = .int .i64 k ∧ s7 = .int .u64 c ∧ (k = m + 1 → c = 0) ∧ Row o a b j k o' c ∧ Blk wi w.heap.size 40 (nvs o') ∧ Below w.heap.size w wi) (fun s8 _ _ => m + 1 - (intOf s8).toNat)
      case atStart => exact ⟨0, 0, o, by omega, rfl, rfl, fun _ => rfl, Row.start r0.small (by rw [Hlb.out]; exact fun q hq => r0.zero q (by rw [Hlb.out]; exact hq)), k1, f1⟩
      case round =>
        clear k1 f1
        obtain ⟨k, c, o', hk, rfl, rfl, hkc, rw1, k1, f1⟩ := hrel
        have ho := rw1.len.trans r0.len
        rw [Hla.out, Hlb.out] at ho
        by_cases hkm : k < m
        · have d2 : decide ((k : Int) < (m : Int)) = true := by simp; omega
          have c1 := k1.num (i := j + k) (by omega)
          have ca := (ka.below f1 hga).num (i := j) (by rw [Hla.out]; omega)
          have cb := (kb.below f1 hgb).num (i := k) (by rw [Hlb.out]; omega)
          have z1 := k1.frozen (j + k)
          have st := rw1.step (by rw [Hlb.out]; exact hkm) (sb k) (sa j) (by omega)
          have hx := rw1.small (j + k)
          have hc := rw1.carry
          have hX := sa j
          have hY := sb k
          have hp : atN a j * atN b k ≤ 65535 * 65535 := Nat.mul_le_mul (by omega) (by omega)
          have hpc : ((atN a j : Nat) : Int) * ((atN b k : Nat) : Int) = ((atN a j * atN b k : Nat) : Int) := by push_cast; rfl
          generalize atN a j * atN b k = q at *
          generalize atN a j = X at *
          generalize atN b k = Y at *
          generalize atN o' (j + k) = Z at *
          have ST := Lib.hid st; clear st
          go_wp2_with fail
          have hand := and_lowI ((Z : Int) + (c : Int) + (q : Int)) (by omega) (by omega)
          have hmod : ((Z : Int) + (c : Int) + (q : Int)) % 65536 % 4294967296 = (((Z + c + q) % 65536 : Nat) : Int) := by omega
          have Hand := Lib.hid hand; clear hand
          have Hmod := Lib.hid hmod; clear hmod
          go_quiet (fail)
          go_wp2_with fail
          go_roundw
          case rel =>
            rw [Hand.out, Hmod.out]
            exact ⟨k + 1, (Z + c + q) / 65536, _, by omega, by go_num, congrArg (Value.int .u64) (by omega), by omega, ST.out, (k1.drewN nq).setNum _ _, ((⟨f1.os, f1.tape, f1.output, f1.size, f1.block⟩ : Below w.heap.size w (wr.drewN nq))).setCell (Nat.le_refl _) _⟩
          case measure => simp [intOf]; omega
        · have d2 : decide ((k : Int) < (m : Int)) = false := by simp; omega
          by_cases hc0 : 0 < c
          · have d3 : decide ((0 : Int) < (c : Int)) = true := by simp; omega
            obtain rfl : k = m := by
              rcases Nat.lt_or_ge k (m + 1) with h | h
              · omega
              · exact absurd (hkc (by omega)) (by omega)
            have c1 := k1.num (i := j + k) (by omega)
            have z1 := k1.frozen (j + k)
            have rw2 : Row o a b j b.length o' c := by rw [Hlb.out]; exact rw1
            have st := rw2.last (by rw [Hlb.out]; omega)
            rw [Hlb.out] at st
            have hx := rw1.small (j + k)
            have hc := rw1.carry
            generalize atN o' (j + k) = Z at *
            have ST := Lib.hid st; clear st rw2
            have hand := and_lowI ((Z : Int) + (c : Int)) (by omega) (by omega)
            have hmod : ((Z : Int) + (c : Int)) % 65536 % 4294967296 = (((Z + c) % 65536 : Nat) : Int) := by omega
            have Hand := Lib.hid hand; clear hand
            have Hmod := Lib.hid hmod; clear hmod
            go_wp2_with fail
            go_roundw
            case rel =>
              rw [Hand.out, Hmod.out]
              exact ⟨k + 1, (Z + c) / 65536, _, by omega, by go_num, congrArg (Value.int .u64) (by omega), fun _ => ST.out.2, ST.out.1, k1.setNum _ _, f1.setCell (Nat.le_refl _) _⟩
            case measure => simp [intOf]
          · obtain rfl : c = 0 := by omega
            have d3 : decide ((0 : Int) < ((0 : Nat) : Int)) = false := rfl
            have nx := r0.next rw1 (by rw [Hlb.out]; omega) (by rw [Hlb.out]; exact hk)
            go_wp2_with fail
            go_roundw
            case rel => exact ⟨j + 1, o', by omega, by go_num, nx, k1, f1⟩
            case measure => simp [intOf]; omega
    · obtain rfl : j = n := by omega
      have d1 : decide ((j : Int) < (j : Int)) = false := by simp
      go_wp2_with fail
      go_ret
      have hv := r0.val
      rw [List.take_of_length_le (by rw [Hla.out]; exact Nat.le_refl _)] at hv
      have hlen := r0.len
      rw [Hla.out, Hlb.out] at hlen
      exact ⟨rfl, o, k1, hlen, r0.small, hv, f1⟩
end Go.Proofs.Ythjaomkjjlgjeaa
