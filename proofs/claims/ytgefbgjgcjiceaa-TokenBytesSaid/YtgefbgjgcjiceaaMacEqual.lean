/- mac.Equal: whether two macs are the same. No condition. -/
import Derived.Test.YtgefbgjgcjiceaaMacOf
import Derived.Test.YtgefbgjgcjiceaaArrEq
namespace Go.Proofs.Ytgefbgjgcjiceaa
open Go.RowKit
def oddN (a b : List UInt8) (k : Nat) : UInt8 := (List.range k).foldl (fun o i => or8 o (xor8 (at8 a i) (at8 b i))) 0
theorem oddN_succ (a b : List UInt8) (k : Nat) : oddN a b (k + 1) = or8 (oddN a b k) (xor8 (at8 a k) (at8 b k)) := by
  unfold oddN
  rw [List.range_succ, List.foldl_append]
  rfl
theorem oddN_zero (a b : List UInt8) (k : Nat) : oddN a b k = 0 ↔ ∀ i, i < k → at8 a i = at8 b i := by
  induction k with
  | zero => simp [oddN]
  | succ k ih =>
    rw [oddN_succ, or8, xor8, UInt8.or_eq_zero_iff, UInt8.xor_eq_zero_iff, ih]
    constructor
    · rintro ⟨h1, h2⟩ i hi
      rcases Nat.lt_or_ge i k with h | h
      · exact h1 i h
      · obtain rfl : i = k := by omega
        exact h2
    · exact fun h => ⟨fun i hi => h i (by omega), h k (by omega)⟩
theorem oddN_eq (a b : List UInt8) (n : Nat) (ha : a.length = n) (hb : b.length = n) : (((oddN a b n).toNat : Int) == 0) = decide (a = b) := by
  rw [Bool.eq_iff_iff, beq_iff_eq, decide_eq_true_eq]
  have h1 : ((oddN a b n).toNat : Int) = 0 ↔ oddN a b n = 0 := by
    rw [← UInt8.toNat_inj]
    exact ⟨fun h => by simpa using h, fun h => by simpa using h⟩
  rw [h1, oddN_zero]
  refine ⟨fun h => List.ext_getElem (by omega) fun i h2 h3 => ?_, fun h i _ => by rw [h]⟩
  have := h i (by omega)
  simpa [at8, h2, h3] using this
set_option maxRecDepth 100000 in
set_option maxHeartbeats 400000 in
theorem equal_any (a b : List UInt8) (w : World) (ha : a.length = 32) (hb : b.length = 32) :
    Calls Try.prog 30 #[.agg (bvs a).toArray, .agg (bvs b).toArray] w fun e w' => e = .returned (.bool (decide (a = b))) ∧ Below w.heap.size w w' := by
  have he := oddN_eq a b 32 ha hb
  have He := Lib.hid he; clear he
  have Ha := Lib.hid ha; clear ha
  have Hb := Lib.hid hb; clear hb
  go_enter Try.func30, Try.ntmps30
  go_wp2_with fail
  refine abs (fun w1 => Blk w1 w.heap.size 29 (bvs a) ∧ Blk w1 (w.heap.size + 1) 29 (bvs b) ∧ Below w.heap.size w w1) ⟨(Blk.of_new w _ _).alloc _, by have := Blk.newAt (w := w.alloc (.cells (bvs a).toArray 29)) (g := w.heap.size + 1) (by simp) 29 (bvs b).toArray; simpa using this, ((Below.refl _ w).alloc (Nat.le_refl _) _).alloc (by simp) _⟩ ?_
  rintro w1 ⟨k1, k2, f1⟩
  go_loopw [7, 5, 6] (fun i o _ wr => ∃ k : Nat, k ≤ 32 ∧ i = .int .i64 k ∧ o = .int .u8 ((oddN a b k).toNat : Int) ∧ Blk wr w.heap.size 29 (bvs a) ∧ Blk wr (w.heap.size + 1) 29 (bvs b) ∧ Below w.heap.size w wr) (fun i _ _ _ => 32 - (intOf i).toNat)
  case atStart => exact ⟨0, by omega, rfl, rfl, k1, k2, f1⟩
  case round =>
    clear k1 k2 f1
    obtain ⟨k, hk, rfl, rfl, k1, k2, f1⟩ := hrel
    by_cases hlt : k < 32
    · have d1 : decide ((k : Int) < 32) = true := by simp; omega
      have c1 := k1.byteAt (i := k) (by rw [Ha.out]; exact hlt)
      have c2 := k2.byteAt (i := k) (by rw [Hb.out]; exact hlt)
      have b1 : (0 : Int) ≤ (k : Int) := by omega
      have b2 : (k : Int) < 32 := by omega
      go_wp2_with fail
      go_quiet (fail)
      go_wp2_with fail
      go_roundw
      case rel => exact ⟨k + 1, by omega, by go_num, by rw [oddN_succ], k1.drewN nq, k2.drewN nq, belowN f1 nq⟩
      case measure => simp [intOf]; omega
    · obtain rfl : k = 32 := by omega
      have d1 : decide (((32 : Nat) : Int) < 32) = false := rfl
      go_wp2_with fail
      go_ret
      exact ⟨by rw [← He.out]; rfl, f1⟩
/-- '[]byte' of a constant text: its block, marked. -/
theorem run_conv_const {P : Program} {t e : TypeId} (T : ByteTy P t e) (w : World) (g : Nat) (hg : w.heap.size = g) (C : Array Value) (n c : Nat) :
    (convert t t (.slice (some ⟨g, 0, none⟩) n c)).run P (w.alloc (.cells C e)) = .ok (.slice (some ⟨g, 0, none⟩) n c) (w.alloc (.cells C e (C.size, C.size + 1))) := by
  subst hg
  exact Lib.run_convert_bytes_const w t e C n c T.sl T.el
end Go.Proofs.Ytgefbgjgcjiceaa
