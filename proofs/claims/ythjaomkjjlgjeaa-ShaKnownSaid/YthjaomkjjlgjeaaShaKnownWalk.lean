/- The law ShaKnown, walked. No condition. -/
import Derived.Test.YthjaomkjjlgjeaaShaKat
import Derived.Test.YthjaomkjjlgjeaaShaPartsLaw
namespace Go.Proofs.Ythjaomkjjlgjeaa
open Go.RowKit
set_option linter.unusedSimpArgs false
set_option linter.unusedVariables false
theorem set_row (x : UInt8) (n k : Nat) (h : k < n) : (List.replicate k x ++ List.replicate (n - k) 0).set k x = List.replicate (k + 1) x ++ List.replicate (n - (k + 1)) 0 := by
  rw [List.set_append_right _ _ (by simp), List.length_replicate, Nat.sub_self, show n - k = (n - (k + 1)) + 1 by omega, List.replicate_succ, List.set_cons_zero, List.replicate_succ']
  simp
def rowA (n : Nat) : List UInt8 := List.replicate n 97
theorem rowA_length (n : Nat) : (rowA n).length = n := List.length_replicate
theorem rowA_add (m n : Nat) : rowA m ++ rowA n = rowA (m + n) := by simp [rowA]
theorem rowA_mil : rowA 1000000 = aMil := rfl
attribute [local irreducible] rowA aMil
set_option maxRecDepth 100000 in
set_option maxHeartbeats 2000000 in
theorem shaKnown_walk (w : World) : Calls Try.prog 12 #[] w fun e w' => e = .returned (.bool true) ∧ Below w.heap.size w w' := by
  have kc := fun (w : World) (g : Nat) (hg : w.heap.size = g) (C : Array Value) (n c : Nat) => run_conv_const T23 w g hg C n c
  have hi : (Try.prog.info? 43).map (·.size) = some 10 := by kernel_rfl
  have Hi := Lib.hid hi; clear hi
  have hs : ∀ L A c, (Try.prog.info? 43).map (·.size) = some (shaL L A c).length := fun L A c => by rw [shaL_length]; exact Hi.out
  have HS := Lib.hid hs; clear hs
  have hmk : ∀ w : World, (Instr.makeSlice 23 (.int .i64 10000) (.int .i64 10000)).run Try.prog w = .ok (.slice (some ⟨w.heap.size, 0, none⟩) 10000 10000) (w.alloc (.cells (bvs (List.replicate 10000 0)).toArray 5)) := fun w => run_make_bytes T23 10000 (by omega) w
  go_enter Try.func12, Try.ntmps12
  go_wp2_with fail
  refine (new_of w).mono ?_
  rintro e w1 ⟨rfl, f1⟩
  go_wp2_with (first | (refine store_blk (Blk.newAt rfl 43 _) rfl 43 (.tmp 1) (.tmp 5) rfl rfl (us := shaL [] none 0) rfl (HS.out _ _ _) (by rw [shaL_length]; rfl) (shaL_all _ _ _) ?_; intro w2 k1 hg; have f2 : Below w.heap.size w w2 := (f1.alloc f1.size _).grown hg (by have := f1.size; simp; omega) (by have := f1.size; simp; omega)))
  have g1 : w.heap.size ≤ w1.heap.size := f1.size
  generalize w1.heap.size = g at *
  clear hg f1 w1
  refine abs (fun w3 => Blk w3 g 43 (shaL [] none 0) ∧ g < w2.heap.size ∧ Blk w3 w2.heap.size 5 (bvs (List.replicate 0 97 ++ List.replicate (10000 - 0) 0)) ∧ Below w.heap.size w w3) ⟨k1.alloc _, k1.lt, Blk.of_new w2 _ _, f2.alloc f2.size _⟩ ?_
  have hw2 := f2.size
  clear k1 f2 hmk
  rintro w3 ⟨k1, hgg, k2, f2⟩
  generalize w2.heap.size = g2 at *
  clear w2
  try go_frame
  go_loopw [3] (fun i wr => ∃ k : Nat, k ≤ 10000 ∧ i = .int .i64 k ∧ Blk wr g 43 (shaL [] none 0) ∧ Blk wr g2 5 (bvs (List.replicate k 97 ++ List.replicate (10000 - k) 0)) ∧ Below w.heap.size w wr) (fun i _ => 10000 - (intOf i).toNat)
  case atStart => exact ⟨0, by omega, rfl, k1, k2, f2⟩
  case round =>
    clear k1 k2 f2
    obtain ⟨k, hk, rfl, k1, k2, f2⟩ := hrel
    by_cases hlt : k < 10000
    · have d1 : decide ((k : Int) < 10000) = true := by simp; omega
      have b1 : (0 : Int) ≤ (k : Int) := by omega
      have b2 : (k : Int) < 10000 := by omega
      have c1 := k2.byteAt (i := k) (by simp; omega)
      have z1 := k2.frozen k
      go_wp2_with fail
      go_roundw
      case rel => exact ⟨k + 1, by omega, by go_num, k1.far (by simp; omega) _, by rw [← set_row 97 10000 k hlt]; exact k2.setByte k 97, f2.setCell (by simp; omega) _⟩
      case measure => simp [intOf]; omega
    · obtain rfl : k = 10000 := by omega
      simp only [show ((10000 : Nat) : Int) = (10000 : Int) from rfl]
      have d1 : decide ((10000 : Int) < 10000) = false := rfl
      rw [Nat.sub_self, List.replicate_zero, List.append_nil, show List.replicate 10000 (97 : UInt8) = rowA 10000 from by unfold rowA; rfl] at k2
      go_wp2_with fail
      try go_frame
      go_loopw [4] (fun i ws => ∃ (j : Nat) (A1 : Option Addr) (c1 : Nat), j ≤ 100 ∧ i = .int .i64 j ∧ Blk ws g 43 (shaL (rowA (10000 * j)) A1 c1) ∧ RdT ws (rowA (10000 * j)) A1 ∧ Blk ws g2 5 (bvs (rowA 10000)) ∧ Below w.heap.size w ws) (fun i _ => 100 - (intOf i).toNat)
      case atStart => exact ⟨0, none, 0, by omega, rfl, by rw [show rowA (10000 * 0) = [] from by unfold rowA; rfl]; exact k1, by rw [show rowA (10000 * 0) = [] from by unfold rowA; rfl]; exact RdT.nil, k2, f2⟩
      case round =>
        clear k1 k2 f2
        obtain ⟨j, A1, c1, hj, rfl, k1, r1, k2, f2⟩ := hrel
        by_cases hlt : j < 100
        · have d1 : decide ((j : Int) < 100) = true := by simp; omega
          have hL := rowA_length (10000 * j)
          have hN := rowA_add (10000 * j) 10000
          rw [show 10000 * j + 10000 = 10000 * (j + 1) from by omega] at hN
          generalize rowA (10000 * j) = L at *
          generalize hL2 : rowA (10000 * (j + 1)) = L' at *
          have HL2 := Lib.hid hL2; clear hL2
          have HL := Lib.hid hL; clear hL
          have HN := Lib.hid hN; clear hN
          have hk2 := k2.rdB (rowA_length 10000)
          generalize rowA 10000 = R at *
          go_wp2_with (first | (refine load_blk k1 rfl 43 (.tmp 1) rfl rfl Try.underlying43 (HS.out _ _ _) ?_))
          refine (write_of L A1 c1 _ 10000 10000 _ _ r1 hk2 (by rw [HL.out]; omega)).mono ?_
          rintro e w5 ⟨A', c', rfl, r', f5⟩
          rw [HN.out] at r' ⊢
          have lg := k1.lt
          replace k1 := k1.below f5 k1.lt
          replace k2 := k2.below f5 k2.lt
          replace f2 := f2.trans (f5.mono f2.size)
          clear r1 hk2 f5
          go_wp2_with (first | (refine store_blk k1 rfl 43 (.tmp 1) (.tmp 22) rfl rfl (us := shaL L' A' c') rfl (HS.out _ _ _) (by rw [shaL_length, shaL_length]) (shaL_all _ _ _) ?_; intro w6 k6 hg))
          go_roundw
          case rel =>
            exact ⟨j + 1, A', c', by omega, by go_num, by rw [HL2.out]; exact k6, by rw [HL2.out]; exact (r'.grown hg lg).rd, k2.grown hg (by simp; omega), f2.grown hg f2.size (by simp; omega)⟩
          case measure => simp [intOf]; omega
        · obtain rfl : j = 100 := by omega
          have d1 : decide (((100 : Nat) : Int) < 100) = false := rfl
          rw [show rowA (10000 * 100) = aMil from rowA_mil] at k1 r1
          clear k2
          go_wp2_with fail
          refine (of_any none 0 0 [] _ ⟨rfl, fun h => absurd h (by omega), by simp⟩ (by simp [catB]) (by omega)).mono ?_
          rintro e w5 ⟨rfl, f5⟩
          rw [show catB [] = [] from rfl]
          replace k1 := k1.below f5 k1.lt
          replace r1 := r1.below f5
          replace f2 := f2.trans (f5.mono f2.size)
          clear f5
          go_wp2_with fail
          refine (hex_any w5 _ (shaB_length _)).mono ?_
          rintro e w6 ⟨rfl, f5⟩
          rw [kat0]
          replace k1 := k1.below f5 k1.lt
          replace r1 := r1.below f5
          replace f2 := f2.trans (f5.mono f2.size)
          clear f5 w5
          go_wp2_with fail
          refine absC (fun w7 => RdL w7 w7.heap.size (some ⟨w6.heap.size + 1, 0, none⟩) 1 [⟨some ⟨w6.heap.size, 0, none⟩, 3, 3, [97, 98, 99]⟩] ∧ Blk w7 g 43 (shaL aMil A1 c1) ∧ RdT w7 aMil A1 ∧ Below w.heap.size w w7) ⟨?_, (k1.alloc _).alloc _, (r1.below ((Below.refl _ w6).alloc (Nat.le_refl _) _)).below ((Below.refl _ _).alloc (Nat.le_refl _) _), (f2.alloc f2.size _).alloc (by have := f2.size; simp; omega) _⟩ ?_
          · refine RdL.of_blk (ps := [⟨some ⟨w6.heap.size, 0, none⟩, 3, 3, [97, 98, 99]⟩]) (t := 23) (Blk.newAt (by simp) _ _) ?_
            intro p hp
            obtain rfl : p = ⟨some ⟨w6.heap.size, 0, none⟩, 3, 3, [97, 98, 99]⟩ := by simpa using hp
            exact ((RdB.mark _ 5 [97, 98, 99] (3, 4) _ rfl (w6.heap.size + 1) (by omega)).alloc (by simp) _).more (by simp)
          clear k1 r1 f2
          rintro w7 ⟨q1, k1, r1, f2⟩
          refine (of_any _ 1 1 _ w7 q1 (by simp [catB]) (by omega)).mono ?_
          rintro e w8 ⟨rfl, f5⟩
          rw [show catB [(⟨some ⟨w6.heap.size, 0, none⟩, 3, 3, [97, 98, 99]⟩ : Part)] = [97, 98, 99] from by simp [catB]]
          replace k1 := k1.below f5 k1.lt
          replace r1 := r1.below f5
          replace f2 := f2.trans (f5.mono f2.size)
          clear f5 q1
          go_wp2_with fail
          refine (hex_any w8 _ (shaB_length _)).mono ?_
          rintro e w9 ⟨rfl, f5⟩
          rw [kat1]
          replace k1 := k1.below f5 k1.lt
          replace r1 := r1.below f5
          replace f2 := f2.trans (f5.mono f2.size)
          clear f5 w8
          go_wp2_with fail
          refine absC (fun w7 => RdL w7 w7.heap.size (some ⟨w9.heap.size + 1, 0, none⟩) 1 [⟨some ⟨w9.heap.size, 0, none⟩, 56, 56, m56⟩] ∧ Blk w7 g 43 (shaL aMil A1 c1) ∧ RdT w7 aMil A1 ∧ Below w.heap.size w w7) ⟨?_, (k1.alloc _).alloc _, (r1.below ((Below.refl _ w9).alloc (Nat.le_refl _) _)).below ((Below.refl _ _).alloc (Nat.le_refl _) _), (f2.alloc f2.size _).alloc (by have := f2.size; simp; omega) _⟩ ?_
          · refine RdL.of_blk (ps := [⟨some ⟨w9.heap.size, 0, none⟩, 56, 56, m56⟩]) (t := 23) (Blk.newAt (by simp) _ _) ?_
            intro p hp
            obtain rfl : p = ⟨some ⟨w9.heap.size, 0, none⟩, 56, 56, m56⟩ := by simpa using hp
            exact ((RdB.mark _ 5 m56 (56, 57) _ rfl (w9.heap.size + 1) (by omega)).alloc (by simp) _).more (by simp)
          clear k1 r1 f2
          rintro w7 ⟨q1, k1, r1, f2⟩
          refine (of_any _ 1 1 _ w7 q1 (by simp [catB, m56]) (by omega)).mono ?_
          rintro e w8 ⟨rfl, f5⟩
          rw [show catB [(⟨some ⟨w9.heap.size, 0, none⟩, 56, 56, m56⟩ : Part)] = m56 from by simp [catB]]
          replace k1 := k1.below f5 k1.lt
          replace r1 := r1.below f5
          replace f2 := f2.trans (f5.mono f2.size)
          clear f5 q1
          go_wp2_with fail
          refine (hex_any w8 _ (shaB_length _)).mono ?_
          rintro e w10 ⟨rfl, f5⟩
          rw [kat2]
          replace k1 := k1.below f5 k1.lt
          replace r1 := r1.below f5
          replace f2 := f2.trans (f5.mono f2.size)
          clear f5 w8
          go_wp2_with (first | (refine load_blk k1 rfl 43 (.tmp 1) rfl rfl Try.underlying43 (HS.out _ _ _) ?_) | (refine load_blk_if k1 rfl 43 (.tmp 1) rfl rfl Try.underlying43 (HS.out _ _ _) ?_))
          refine (sum_of aMil A1 c1 _ r1).mono ?_
          rintro e w11 ⟨rfl, f5⟩
          replace f2 := f2.trans (f5.mono f2.size)
          clear f5 k1 r1
          go_wp2_with fail
          refine (hex_any w11 _ (shaB_length _)).mono ?_
          rintro e w12 ⟨rfl, f5⟩
          rw [kat3]
          replace f2 := f2.trans (f5.mono f2.size)
          clear f5 w11
          go_wp2_with fail
          refine (awake1_any w12).mono ?_
          rintro e w13 ⟨rfl, f5⟩
          replace f2 := f2.trans (f5.mono f2.size)
          go_wp2_with fail
          go_ret
          exact ⟨rfl, f2⟩
end Go.Proofs.Ythjaomkjjlgjeaa
