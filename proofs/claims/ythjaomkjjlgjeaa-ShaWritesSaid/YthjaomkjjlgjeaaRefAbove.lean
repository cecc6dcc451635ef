/- The document's above: is a number of limbs above a prime, so many limbs up. Condition: limbs below 2^16, not many. -/
import Derived.Test.YthjaomkjjlgjeaaRefTimes
namespace Go.Proofs.Ythjaomkjjlgjeaa
open Go.RowKit
set_option linter.unusedVariables false
set_option linter.unusedSimpArgs false
theorem atN_beyond (l : List Nat) (j : Nat) (h : l.length ≤ j) : atN l j = 0 := by simp [atN, List.getD_eq_getElem?_getD, List.getElem?_eq_none h]
theorem valL_lt : ∀ (l : List Nat) (i : Nat), Small l → valL (l.take i) < 65536 ^ i
  | _, 0, _ => by simp [valL]
  | l, i + 1, h => by
    have ih := valL_lt l i h
    have hx := h i
    rw [valL_take_succ, Nat.pow_succ]
    have : (atN l i + 1) * 65536 ^ i ≤ 65536 * 65536 ^ i := Nat.mul_le_mul_right _ hx
    rw [Nat.add_mul, Nat.mul_comm 65536] at this
    omega
/-- Alike from limb i on. -/
theorem valL_same (x y : List Nat) (i : Nat) (h : ∀ j, i ≤ j → atN x j = atN y j) : ∀ m, valL (x.take (i + m)) + valL (y.take i) = valL (y.take (i + m)) + valL (x.take i)
  | 0 => by rw [Nat.add_zero, Nat.add_comm]
  | m + 1 => by
    have ih := valL_same x y i h m
    rw [show i + (m + 1) = (i + m) + 1 from by omega, valL_take_succ, valL_take_succ, h (i + m) (by omega)]
    omega
theorem valL_cut (x y : List Nat) (i : Nat) (h : ∀ j, i ≤ j → atN x j = atN y j) : valL x + valL (y.take i) = valL y + valL (x.take i) := by
  have := valL_same x y i h (x.length + y.length)
  rwa [List.take_of_length_le (l := x) (by omega), show y.take (i + (x.length + y.length)) = y from List.take_of_length_le (by omega)] at this
theorem valL_gt (x y : List Nat) (i : Nat) (hx : Small x) (hy : Small y) (h : ∀ j, i + 1 ≤ j → atN x j = atN y j) (hg : atN y i < atN x i) : valL y < valL x := by
  have e := valL_cut x y (i + 1) h
  rw [valL_take_succ, valL_take_succ] at e
  have b := valL_lt y i hy
  have : (atN y i + 1) * 65536 ^ i ≤ atN x i * 65536 ^ i := Nat.mul_le_mul_right _ hg
  rw [Nat.add_mul] at this
  omega
theorem valL_eq (x y : List Nat) (h : ∀ j, atN x j = atN y j) : valL x = valL y := by
  have := valL_cut x y 0 (fun j _ => h j)
  simpa [valL] using this
/-- The limbs to stand against, k of four laid. -/
structure Want (l : List Nat) (p up k : Nat) (o : List Nat) : Prop where
  len : o.length = l.length + up + 4
  small : Small o
  zero : ∀ q, up + k ≤ q → atN o q = 0
  val : valL o = valL ((lims p).take k) * 65536 ^ up
theorem Want.start (l : List Nat) (p up : Nat) : Want l p up 0 (List.replicate (l.length + up + 4) 0) :=
  ⟨by simp, fun j => by simp [atN, List.getD_eq_getElem?_getD, List.getElem?_replicate]; split <;> simp, fun q _ => by simp [atN, List.getD_eq_getElem?_getD, List.getElem?_replicate]; split <;> simp, by rw [valL_zero, List.take_zero, valL, Nat.zero_mul]⟩
theorem Want.step {l : List Nat} {p up k : Nat} {o : List Nat} (h : Want l p up k o) (hp : p < 18446744073709551616) (hk : k < 4) : Want l p up (k + 1) (o.set (up + k) (atN (lims p) k)) := by
  have hl := h.len
  have hi : up + k < o.length := by omega
  have hs := lims_small p hp k
  refine ⟨by rw [List.length_set]; exact h.len, h.small.set _ _ hi hs, fun q hq => ?_, ?_⟩
  · rw [atN_set _ _ _ _ hi, if_neg (by omega)]
    exact h.zero q (by omega)
  · have e := valL_set o (up + k) (atN (lims p) k) hi
    rw [h.zero (up + k) (Nat.le_refl _), Nat.zero_mul, Nat.add_zero, h.val] at e
    rw [e, valL_take_succ, Nat.add_mul, Nat.pow_add, Nat.mul_assoc (atN (lims p) k), Nat.mul_comm (65536 ^ k)]
theorem Want.done {l : List Nat} {p up : Nat} {o : List Nat} (h : Want l p up 4 o) : valL o = p * 65536 ^ up := by
  rw [h.val, List.take_of_length_le (by simp [lims]), valL_lims]
set_option maxRecDepth 100000 in
set_option maxHeartbeats 2000000 in
theorem above_any (l : List Nat) (gl p up : Nat) (w : World) (kl : Blk w gl 40 (nvs l)) (sl : Small l) (ll : l.length ≤ 1000) (hp : p < 18446744073709551616) (hup : up ≤ 1000) :
    Calls Try.prog 66 #[.slice (some ⟨gl, 0, none⟩) l.length l.length, .int .u64 p, .int .i64 up] w fun e w' => e = .returned (.bool (decide (p * 65536 ^ up < valL l))) ∧ Below w.heap.size w w' := by
  have hmk := run_make_nums (P := Try.prog) (t := 69) (e := 40) Try.underlying69 (by kernel_rfl) (l.length + up + 4) (by omega)
  have hgl := kl.lt
  have wn0 := Want.start l p up
  have hls := lims_small p hp
  generalize hll : l.length = n at *
  have Hll := Lib.hid hll; clear hll
  simp only [show ((n + up + 4 : Nat) : Int) = (n : Int) + (up : Int) + 4 from by omega] at hmk
  go_enter Try.func66, Try.ntmps66
  go_wp2_with fail
  clear hmk
  refine absC (fun w1 => Blk w1 w.heap.size 40 (nvs (List.replicate (n + up + 4) 0)) ∧ Below w.heap.size w w1) ⟨Blk.of_new w _ _, (Below.refl _ w).alloc (Nat.le_refl _) _⟩ ?_
  rintro w1 ⟨k1, f1⟩
  refine (limbs_any p hp w1).mono ?_
  rintro e w2 ⟨rfl, k2, f2⟩
  have l1 := k1.lt
  have g2 : w.heap.size < w1.heap.size := l1
  replace k1 := k1.below f2 l1
  replace f1 := f1.trans (f2.mono f1.size)
  clear f2 l1
  generalize w1.heap.size = g at *
  go_wp2_with fail
  try go_frame
  go_loopw [9] (fun s9 wr => ∃ (k : Nat) (o : List Nat), k ≤ 4 ∧ s9 = .int .i64 k ∧ Want l p up k o ∧ Blk wr w.heap.size 40 (nvs o) ∧ Blk wr g 40 (nvs (lims p)) ∧ Below w.heap.size w wr) (fun s9 _ => 4 - (intOf s9).toNat)
  case atStart => exact ⟨0, _, by omega, rfl, wn0, k1, k2, f1⟩
  case round =>
    clear k1 k2 f1 wn0
    obtain ⟨k, o, hk, rfl, wn, k1, k2, f1⟩ := hrel
    have hol := wn.len
    rw [Hll.out] at hol
    by_cases hlt : k < 4
    · have d1 : decide ((k : Int) < 4) = true := by simp; omega
      have c1 := k1.num (i := up + k) (by omega)
      have c2 := k2.num (i := k) (by simp [lims]; omega)
      have z1 := k1.frozen (up + k)
      go_wp2_with fail
      go_roundw
      case rel => exact ⟨k + 1, _, by omega, by go_num, wn.step hp hlt, k1.setNum _ _, k2.far (by simp; omega) _, f1.setCell (by simp) _⟩
      case measure => simp [intOf]; omega
    · obtain rfl : k = 4 := by omega
      have d1 : decide (((4 : Nat) : Int) < 4) = false := rfl
      have hval := wn.done
      have hos := wn.small
      clear k2 wn
      have hvl : ∀ t, (∀ q, t + 1 ≤ q → atN l q = atN o q) → atN l t ≠ atN o t → decide (atN o t < atN l t) = decide (p * 65536 ^ up < valL l) := by
        intro t ht hne
        rw [← hval, decide_eq_decide]
        rcases Nat.lt_or_ge (atN o t) (atN l t) with h | h
        · have := valL_gt l o t sl hos ht h
          exact ⟨fun _ => this, fun _ => by omega⟩
        · have := valL_gt o l t hos sl (fun q hq => (ht q hq).symm) (by omega)
          exact ⟨fun h => by omega, fun h => by omega⟩
      have hv0 : (∀ q, 0 ≤ q → atN l q = atN o q) → decide (p * 65536 ^ up < valL l) = false := by
        intro h
        rw [← hval, valL_eq l o (fun q => h q (Nat.zero_le _))]
        simp
      have HVL := Lib.hid hvl
      have HV0 := Lib.hid hv0
      clear hvl hv0
      go_wp2_with fail
      go_loopw [10] (fun s10 wi => ∃ t : Nat, t ≤ n + up + 4 ∧ s10 = .int .i64 ((t : Int) - 1) ∧ (∀ q, t ≤ q → atN l q = atN o q) ∧ wi = wr) (fun s10 _ => (intOf s10 + 1).toNat)
      case atStart => exact ⟨n + up + 4, Nat.le_refl _, by go_num, fun q hq => by rw [atN_beyond l q (by rw [Hll.out]; omega), atN_beyond o q (by omega)], rfl⟩
      case round =>
        obtain ⟨t, ht, rfl, hs, rfl⟩ := hrel
        cases t with
        | zero =>
          have d2 : decide ((0 : Int) ≤ ((0 : Nat) : Int) - 1) = false := rfl
          go_wp2_with fail
          go_ret
          exact ⟨by rw [HV0.out hs]; rfl, f1⟩
        | succ t =>
          rw [show ((t + 1 : Nat) : Int) - 1 = (t : Int) from by omega]
          have d2 : decide ((0 : Int) ≤ (t : Int)) = true := by simp
          have b2 : (t : Int) < (n : Int) + (up : Int) + 4 := by omega
          have co := k1.num (i := t) (by omega)
          have hvt := HVL.out t hs
          by_cases hne : atN l t = atN o t
          · have hs2 : ∀ q, t ≤ q → atN l q = atN o q := fun q hq => by
              rcases Nat.eq_or_lt_of_le hq with h | h
              · rw [← h]; exact hne
              · exact hs q h
            have d4 : ((atN o t : Int) != (atN o t : Int)) = false := by simp
            by_cases htn : t < n
            · have d3 : decide ((t : Int) < (n : Int)) = true := by simp; omega
              have cl := (kl.below f1 hgl).num (i := t) (by rw [Hll.out]; exact htn)
              rw [hne] at cl
              clear hvt
              go_wp2_with fail
              go_roundw
              case rel => exact ⟨t, by omega, rfl, hs2, by trivial⟩
              case measure => simp only [intOf]; omega
            · have d3 : decide ((t : Int) < (n : Int)) = false := by simp; omega
              have h0 := atN_beyond l t (by rw [Hll.out]; omega)
              rw [h0] at hne
              have d4 : ((0 : Int) != (atN o t : Int)) = false := by simp; omega
              clear hvt hne h0
              go_wp2_with fail
              go_roundw
              case rel => exact ⟨t, by omega, rfl, hs2, by trivial⟩
              case measure => simp only [intOf]; omega
          · have d4 : ((atN l t : Int) != (atN o t : Int)) = true := by simp; omega
            by_cases htn : t < n
            · have d3 : decide ((t : Int) < (n : Int)) = true := by simp; omega
              have cl := (kl.below f1 hgl).num (i := t) (by rw [Hll.out]; exact htn)
              go_wp2_with fail
              go_ret
              exact ⟨by rw [← hvt hne]; rfl, f1⟩
            · have d3 : decide ((t : Int) < (n : Int)) = false := by simp; omega
              have h0 := atN_beyond l t (by rw [Hll.out]; omega)
              have hv := hvt hne
              rw [h0] at hv d4
              clear hvt
              go_wp2_with fail
              go_ret
              exact ⟨by rw [← hv]; first | rfl | simp, f1⟩
end Go.Proofs.Ythjaomkjjlgjeaa
