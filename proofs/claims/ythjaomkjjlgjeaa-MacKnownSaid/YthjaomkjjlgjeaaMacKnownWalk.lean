/- The law MacKnown, walked. No condition. -/
import Derived.Test.YthjaomkjjlgjeaaMacKat
namespace Go.Proofs.Ythjaomkjjlgjeaa
open Go.RowKit
set_option linter.unusedSimpArgs false
set_option linter.unusedVariables false
set_option maxRecDepth 100000 in
set_option maxHeartbeats 2000000 in
theorem macKnown_walk (w : World) : Calls Try.prog 7 #[] w fun e w' => e = .returned (.bool true) ∧ Below w.heap.size w w' := by
  have kc := fun (w : World) (g : Nat) (hg : w.heap.size = g) (C : Array Value) (n c : Nat) => run_conv_const T23 w g hg C n c
  go_enter Try.func7, Try.ntmps7
  go_wp2_with fail
  refine (row_any w 11 20 (by omega)).mono ?_
  rintro e w1 ⟨rfl, k1, f1⟩
  go_wp2_with fail
  refine absC (fun w2 => RdB w2 w2.heap.size (some ⟨w.heap.size, 0, none⟩) 20 key0 ∧ RdL w2 w2.heap.size (some ⟨w1.heap.size + 1, 0, none⟩) 1 [⟨some ⟨w1.heap.size, 0, none⟩, 8, 8, msg0⟩] ∧ Below w.heap.size w w2) ⟨?_, ?_, ?_⟩ ?_
  · exact (((RdB.more (k1.rdB (l := key0) rfl) (Nat.le_refl _)).alloc (Nat.le_refl _) _).alloc (by simp) _).more (by simp; omega)
  · refine RdL.of_blk (ps := [⟨some ⟨w1.heap.size, 0, none⟩, 8, 8, msg0⟩]) (t := 23) (Blk.newAt (by simp) _ _) ?_
    intro p hp
    obtain rfl : p = ⟨some ⟨w1.heap.size, 0, none⟩, 8, 8, msg0⟩ := by simpa using hp
    exact ((RdB.mark _ 5 msg0 (8, 9) _ rfl (w1.heap.size + 1) (by omega)).alloc (by simp) _).more (by simp)
  · exact (f1.alloc f1.size _).alloc (by have := f1.size; simp; omega) _
  clear k1 f1
  rintro w2 ⟨rk, rl, f2⟩
  refine (mac_any _ 20 20 _ _ 1 1 _ w2 rk (by omega) rl (by simp [catB, msg0]) (by omega)).mono ?_
  rintro e w3 ⟨rfl, f3⟩
  rw [show catB [(⟨some ⟨w1.heap.size, 0, none⟩, 8, 8, msg0⟩ : Part)] = msg0 from by simp [catB]]
  replace f2 := f2.trans (f3.mono f2.size)
  clear f3 rk rl
  go_wp2_with fail
  refine (hex_any w3 _ (macB_length _ _)).mono ?_
  rintro e w4 ⟨rfl, f4⟩
  rw [known0]
  replace f2 := f2.trans (f4.mono f2.size)
  clear f4
  go_wp2_with fail
  refine absC (fun w5 => RdB w5 w5.heap.size (some ⟨w4.heap.size, 0, none⟩) 4 key1 ∧ RdL w5 w5.heap.size (some ⟨w4.heap.size + 1 + 1, 0, none⟩) 1 [⟨some ⟨w4.heap.size + 1, 0, none⟩, 28, 28, msg1⟩] ∧ Below w.heap.size w w5) ⟨?_, ?_, ?_⟩ ?_
  · exact (((RdB.mark _ 5 key1 (4, 5) _ rfl (w4.heap.size + 1) (by omega)).alloc (by simp) _).alloc (by simp) _).more (by simp)
  · refine RdL.of_blk (ps := [⟨some ⟨w4.heap.size + 1, 0, none⟩, 28, 28, msg1⟩]) (t := 23) (Blk.newAt (by simp) _ _) ?_
    intro p hp
    obtain rfl : p = ⟨some ⟨w4.heap.size + 1, 0, none⟩, 28, 28, msg1⟩ := by simpa using hp
    exact ((RdB.mark _ 5 msg1 (28, 29) (w4.heap.size + 1) (by simp) (w4.heap.size + 2) (by omega)).alloc (by simp) _).more (by simp)
  · exact ((f2.alloc f2.size _).alloc (by have := f2.size; simp; omega) _).alloc (by have := f2.size; simp; omega) _
  clear f2
  rintro w5 ⟨rk, rl, f2⟩
  refine (mac_any _ 4 4 _ _ 1 1 _ w5 rk (by omega) rl (by simp [catB, msg1]) (by omega)).mono ?_
  rintro e w6 ⟨rfl, f3⟩
  rw [show catB [(⟨some ⟨w4.heap.size + 1, 0, none⟩, 28, 28, msg1⟩ : Part)] = msg1 from by simp [catB]]
  replace f2 := f2.trans (f3.mono f2.size)
  clear f3 rk rl
  go_wp2_with fail
  refine (hex_any w6 _ (macB_length _ _)).mono ?_
  rintro e w7 ⟨rfl, f4⟩
  rw [known1]
  replace f2 := f2.trans (f4.mono f2.size)
  clear f4
  go_wp2_with fail
  refine (row_any w7 170 20 (by omega)).mono ?_
  rintro e w8 ⟨rfl, k1, f3⟩
  replace f2 := f2.trans (f3.mono f2.size)
  clear f3
  go_wp2_with fail
  refine (row_any w8 221 50 (by omega)).mono ?_
  rintro e w9 ⟨rfl, k2, f3⟩
  replace k1 := k1.below f3 k1.lt
  replace f2 := f2.trans (f3.mono f2.size)
  clear f3
  go_wp2_with fail
  refine absC (fun w10 => RdB w10 w10.heap.size (some ⟨w7.heap.size, 0, none⟩) 20 key2 ∧ RdL w10 w10.heap.size (some ⟨w9.heap.size, 0, none⟩) 1 [⟨some ⟨w8.heap.size, 0, none⟩, 50, 50, msg2⟩] ∧ Below w.heap.size w w10) ⟨?_, ?_, ?_⟩ ?_
  · exact (((k1.rdB (l := key2) rfl)).alloc (Nat.le_refl _) _).more (by simp)
  · refine RdL.of_blk (ps := [⟨some ⟨w8.heap.size, 0, none⟩, 50, 50, msg2⟩]) (t := 23) (Blk.newAt (by simp) _ _) ?_
    intro p hp
    obtain rfl : p = ⟨some ⟨w8.heap.size, 0, none⟩, 50, 50, msg2⟩ := by simpa using hp
    exact (((k2.rdB (l := msg2) rfl)).alloc (Nat.le_refl _) _).more (by simp)
  · exact f2.alloc f2.size _
  clear k1 k2 f2
  rintro w10 ⟨rk, rl, f2⟩
  refine (mac_any _ 20 20 _ _ 1 1 _ w10 rk (by omega) rl (by simp [catB, msg2]) (by omega)).mono ?_
  rintro e w11 ⟨rfl, f3⟩
  rw [show catB [(⟨some ⟨w8.heap.size, 0, none⟩, 50, 50, msg2⟩ : Part)] = msg2 from by simp [catB]]
  replace f2 := f2.trans (f3.mono f2.size)
  clear f3 rk rl
  go_wp2_with fail
  refine (hex_any w11 _ (macB_length _ _)).mono ?_
  rintro e w12 ⟨rfl, f4⟩
  rw [known2]
  replace f2 := f2.trans (f4.mono f2.size)
  clear f4
  go_wp2_with fail
  refine (row_any w12 170 131 (by omega)).mono ?_
  rintro e w13 ⟨rfl, k1, f3⟩
  replace f2 := f2.trans (f3.mono f2.size)
  clear f3
  go_wp2_with fail
  refine absC (fun w14 => RdB w14 w14.heap.size (some ⟨w12.heap.size, 0, none⟩) 131 key3 ∧ RdL w14 w14.heap.size (some ⟨w13.heap.size + 1, 0, none⟩) 1 [⟨some ⟨w13.heap.size, 0, none⟩, 54, 54, msg3⟩] ∧ Below w.heap.size w w14) ⟨?_, ?_, ?_⟩ ?_
  · exact (((RdB.more (k1.rdB (l := key3) rfl) (Nat.le_refl _)).alloc (Nat.le_refl _) _).alloc (by simp) _).more (by simp; omega)
  · refine RdL.of_blk (ps := [⟨some ⟨w13.heap.size, 0, none⟩, 54, 54, msg3⟩]) (t := 23) (Blk.newAt (by simp) _ _) ?_
    intro p hp
    obtain rfl : p = ⟨some ⟨w13.heap.size, 0, none⟩, 54, 54, msg3⟩ := by simpa using hp
    exact ((RdB.mark _ 5 msg3 (54, 55) _ rfl (w13.heap.size + 1) (by omega)).alloc (by simp) _).more (by simp)
  · exact (f2.alloc f2.size _).alloc (by have := f2.size; simp; omega) _
  clear k1 f2
  rintro w14 ⟨rk, rl, f2⟩
  refine (mac_any _ 131 131 _ _ 1 1 _ w14 rk (by omega) rl (by simp [catB, msg3]) (by omega)).mono ?_
  rintro e w15 ⟨rfl, f3⟩
  rw [show catB [(⟨some ⟨w13.heap.size, 0, none⟩, 54, 54, msg3⟩ : Part)] = msg3 from by simp [catB]]
  replace f2 := f2.trans (f3.mono f2.size)
  clear f3 rk rl
  go_wp2_with fail
  refine (hex_any w15 _ (macB_length _ _)).mono ?_
  rintro e w16 ⟨rfl, f4⟩
  rw [known3]
  replace f2 := f2.trans (f4.mono f2.size)
  clear f4
  go_wp2_with fail
  refine (awake2_any w16).mono ?_
  rintro e w17 ⟨rfl, f4⟩
  replace f2 := f2.trans (f4.mono f2.size)
  go_wp2_with fail
  go_ret
  exact ⟨rfl, f2⟩
end Go.Proofs.Ythjaomkjjlgjeaa
