/- The document's sha: table, begin, out, End. No condition. -/
import Derived.Test.YtgefbgjgcjiceaaMacOf
namespace Go.Proofs.Ytgefbgjgcjiceaa
open Go.RowKit
set_option linter.unusedVariables false
set_option maxRecDepth 100000 in
theorem refBegin_any (w : World) : Calls Try.prog 87 #[] w fun e w' => e = .returned (.agg (uvs H0).toArray) ∧ Below w.heap.size w w' := by
  have hi : (Try.prog.info? 127).map (·.size) = some (uvs H0).length := by kernel_rfl
  have Hi := Lib.hid hi; clear hi
  go_enter Try.func87, Try.ntmps87
  go_wp2_with (first | (refine store_blk (us := uvs H0) (Blk.newAt rfl 127 _) rfl 127 (.tmp 0) (.tmp 1) rfl rfl (by rfl) Hi.out rfl (uvs_all _) ?_; intro w' b9 hg))
  exact bodyPost_ret (b9.sized rfl _ rfl Try.underlying127 Hi.out) rfl ⟨rfl, ((Below.refl _ w).alloc (Nat.le_refl _) _).grown hg (by simp) (by simp)⟩
set_option maxRecDepth 100000 in
set_option maxHeartbeats 1000000 in
theorem refTable_any (w : World) : Calls Try.prog 95 #[] w fun e w' => e = .returned (.agg (uvs KEYS).toArray) ∧ Below w.heap.size w w' := by
  have hi : (Try.prog.info? 138).map (·.size) = some (uvs KEYS).length := by kernel_rfl
  have Hi := Lib.hid hi; clear hi
  go_enter Try.func95, Try.ntmps95
  go_wp2_with (first | (refine store_blk (us := uvs KEYS) (Blk.newAt rfl 138 _) rfl 138 (.tmp 0) (.tmp 1) rfl rfl (by rfl) Hi.out rfl (uvs_all _) ?_; intro w' b9 hg))
  exact bodyPost_ret (b9.sized rfl _ rfl Try.underlying138 Hi.out) rfl ⟨rfl, ((Below.refl _ w).alloc (Nat.le_refl _) _).grown hg (by simp) (by simp)⟩
theorem out_byte (h : List UInt32) (k j : Nat) (hj : j < 4) (m : Nat) (hm : m = 2 ^ (24 - 8 * j)) : bv (byteAt h (4 * k + j)) = .int .u8 (((at32 h k).toNat : Int) / (m : Int) % 256) := by
  rw [← byteAt_of, show (4 * k + j) / 4 = k from by omega, show (4 * k + j) % 4 = j from by omega, hm]
  push_cast
  rfl
theorem out_four {h : List UInt32} {k g t : Nat} {w : World} (b : Blk w g t (bvs (outN h (4 * k)))) :
    Blk ((((w.setCell ⟨g, 4 * k, none⟩ (.int .u8 (((at32 h k).toNat : Int) / 16777216 % 256))).setCell ⟨g, 4 * k + 1, none⟩ (.int .u8 (((at32 h k).toNat : Int) / 65536 % 256))).setCell ⟨g, 4 * k + 2, none⟩ (.int .u8 (((at32 h k).toNat : Int) / 256 % 256))).setCell ⟨g, 4 * k + 3, none⟩ (.int .u8 (((at32 h k).toNat : Int) % 256))) g t (bvs (outN h (4 * (k + 1)))) := by
  have e0 := out_byte h k 0 (by omega) 16777216 rfl
  have e1 := out_byte h k 1 (by omega) 65536 rfl
  have e2 := out_byte h k 2 (by omega) 256 rfl
  have e3 := out_byte h k 3 (by omega) 1 rfl
  have q := (((b.setByte (4 * k) (byteAt h (4 * k + 0))).setByte (4 * k + 1) (byteAt h (4 * k + 1))).setByte (4 * k + 2) (byteAt h (4 * k + 2))).setByte (4 * k + 3) (byteAt h (4 * k + 3))
  rw [e0, e1, e2, e3] at q
  rw [show 4 * (k + 1) = 4 * k + 3 + 1 from by omega, outN_succ, outN_succ, outN_succ, outN_succ]
  simpa using q
set_option maxRecDepth 100000 in
set_option maxHeartbeats 1000000 in
theorem refOut_any (h : List UInt32) (hh : h.length = 8) (w : World) : Calls Try.prog 89 #[.agg (uvs h).toArray] w fun e w' => e = .returned (.agg (bvs (outN h 32)).toArray) ∧ Below w.heap.size w w' := by
  have Hh := Lib.hid hh; clear hh
  go_enter Try.func89, Try.ntmps89
  go_wp2_with fail
  refine abs (fun w1 => Blk w1 w.heap.size 127 (uvs h) ∧ Blk w1 (w.heap.size + 1) 29 (bvs (List.replicate 32 0)) ∧ Blk w1 (w.heap.size + 2) 29 (bvs (outN h (4 * 0))) ∧ Below w.heap.size w w1) ⟨((Blk.of_new w _ _).alloc _).alloc _, (Blk.newAt (by simp) _ _).alloc _, Blk.newAt (by simp) _ _, (((Below.refl _ w).alloc (Nat.le_refl _) _).alloc (by simp) _).alloc (by simp; omega) _⟩ ?_
  rintro w1 ⟨k1, kz, k2, f1⟩
  go_loopw [4] (fun i wr => ∃ k : Nat, k ≤ 8 ∧ i = .int .i64 k ∧ Blk wr w.heap.size 127 (uvs h) ∧ Blk wr (w.heap.size + 1) 29 (bvs (List.replicate 32 0)) ∧ Blk wr (w.heap.size + 2) 29 (bvs (outN h (4 * k))) ∧ Below w.heap.size w wr) (fun i _ => 8 - (intOf i).toNat)
  case atStart => exact ⟨0, by omega, rfl, k1, kz, k2, f1⟩
  case round =>
    clear k1 kz k2 f1
    obtain ⟨k, hk, rfl, k1, kz, k2, f1⟩ := hrel
    by_cases hlt : k < 8
    · have d1 : decide ((k : Int) < 8) = true := by simp; omega
      have c1 := k1.word (i := k) (by rw [Hh.out]; exact hlt)
      have b0 := k2.byte (i := 4 * k) (by rw [outN_length]; omega)
      have b1 := k2.byte (i := 4 * k + 1) (by rw [outN_length]; omega)
      have b2 := k2.byte (i := 4 * k + 2) (by rw [outN_length]; omega)
      have b3 := k2.byte (i := 4 * k + 3) (by rw [outN_length]; omega)
      have z0 := k2.frozen (4 * k)
      have z1 := k2.frozen (4 * k + 1)
      have z2 := k2.frozen (4 * k + 2)
      have z3 := k2.frozen (4 * k + 3)
      go_wp2_with fail
      go_roundw
      case rel => exact ⟨k + 1, by omega, by go_num, (((k1.far (by simp <;> omega) _).far (by simp <;> omega) _).far (by simp <;> omega) _).far (by simp <;> omega) _, (((kz.far (by simp <;> omega) _).far (by simp <;> omega) _).far (by simp <;> omega) _).far (by simp <;> omega) _, out_four k2, (((f1.setCell (by simp <;> omega) _).setCell (by simp <;> omega) _).setCell (by simp <;> omega) _).setCell (by simp <;> omega) _⟩
      case measure => simp [intOf]; omega
    · obtain rfl : k = 8 := by omega
      have d1 : decide (((8 : Nat) : Int) < 8) = false := rfl
      have hs : (Try.prog.info? 29).map (·.size) = some (bvs (outN h (4 * 8))).length := by rw [bvs_length, outN_length]; kernel_rfl
      have Hs := Lib.hid hs; clear hs
      have hs2 : (bvs (List.replicate 32 0)).length = (bvs (outN h (4 * 8))).length := by rw [bvs_length, bvs_length, outN_length]; rfl
      have Hs2 := Lib.hid hs2; clear hs2
      go_wp2_with (first
        | (refine load_blk k2 rfl 29 (.tmp 3) rfl rfl Try.underlying29 Hs.out ?_)
        | (refine store_blk kz rfl 29 (.tmp 2) (.tmp 43) rfl rfl (us := bvs (outN h (4 * 8))) rfl Hs.out Hs2.out (bvs_all _) ?_; intro w' k9 hg))
      exact bodyPost_ret (k9.sized rfl _ rfl Try.underlying29 Hs.out) rfl ⟨rfl, f1.grown hg f1.size (by simp)⟩
def endR (n k : Nat) : List UInt8 := (128 :: List.replicate (zeros n) 0) ++ ((be64 (8 * n % 2 ^ 64)).take k ++ List.replicate (8 - k) 0)
theorem endR_zero (n : Nat) : endR n 0 = 128 :: List.replicate (zeros n + 8) 0 := by
  unfold endR
  rw [List.take_zero, List.nil_append, List.cons_append, List.replicate_append_replicate]
theorem endR_length (n k : Nat) (hk : k ≤ 8) : (endR n k).length = zeros n + 9 := by
  simp [endR, be64_length]; omega
theorem endR_eight (n : Nat) : endR n 8 = endB n := by
  unfold endR endB
  rw [List.take_of_length_le (by rw [be64_length]; omega)]
  simp
theorem endR_succ (n k : Nat) (hk : k < 8) : (endR n k).set (zeros n + 1 + k) ((be64 (8 * n % 2 ^ 64))[k]'(by rw [be64_length]; exact hk)) = endR n (k + 1) := by
  have hl := be64_length (8 * n % 2 ^ 64)
  unfold endR
  rw [List.set_append_right _ _ (by simp), List.set_append_right _ _ (by simp [be64_length]; omega), List.take_succ_eq_append_getElem (by omega)]
  have e : zeros n + 1 + k - (128 :: List.replicate (zeros n) (0 : UInt8)).length - (List.take k (be64 (8 * n % 2 ^ 64))).length = 0 := by simp [be64_length]; omega
  rw [e, show 8 - k = (8 - (k + 1)) + 1 from by omega, List.replicate_succ, List.set_cons_zero, List.append_assoc _ [_], List.singleton_append]
theorem run_make_bytesU {P : Program} {t e : TypeId} (T : ByteTy P t e) (n : Nat) (hn : n ≤ 140737488355328) (w : World) :
    (Instr.makeSlice t (.int .u64 (n : Int)) (.int .u64 (n : Int))).run P w = .ok (.slice (some ⟨w.heap.size, 0, none⟩) n n) (w.alloc (.cells (bvs (List.replicate n 0)).toArray e)) := by
  obtain ⟨i, hi, hz0, hz1, hz2⟩ := info_parts T.info
  have h := run_make (P := P) w t e i (.int .u8 0) T.sl hi hz0 .u64 .u64 n n (by omega) (by omega) (by rw [hz2]; omega) (by omega)
  simp only [Int.toNat_natCast, hz1, Nat.mul_one] at h
  rw [h]
  congr 3
  simp only [madeCells, bvs, List.map_replicate]
  apply Array.ext
  · simp [Value.cells]
  · intro j h1 h2
    simp [Value.cells, bv, Nat.mod_one]
set_option maxRecDepth 100000 in
set_option maxHeartbeats 1000000 in
theorem refEnd_any (n : Nat) (hn : n < 18446744073709551616) (w : World) : Calls Try.prog 88 #[.int .u64 n] w fun e w' => ∃ g, e = .returned (.slice (some ⟨g, 0, none⟩) (zeros n + 9) (zeros n + 9)) ∧ OwnB w' w.heap.size 5 (.slice (some ⟨g, 0, none⟩) (zeros n + 9) (zeros n + 9)) (endB n) ∧ Below w.heap.size w w' := by
  have hzl := zeros_lt n
  have hz : (119 - (n : Int) % 64) % 64 = (zeros n : Int) := by unfold zeros; omega
  have hmk := run_make_bytesU T23 (zeros n + 9) (by omega)
  go_enter Try.func88, Try.ntmps88
  rw [show ((zeros n + 9 : Nat) : Int) = 1 + (zeros n : Int) + 8 from by omega] at hmk
  go_upto_region 3 with fail
  refine abs (fun w1 => Blk w1 w.heap.size 5 (bvs (List.replicate (zeros n + 9) 0)) ∧ Below w.heap.size w w1) ⟨Blk.of_new w _ _, (Below.refl _ w).alloc (Nat.le_refl _) _⟩ ?_
  rintro w1 ⟨k1, f1⟩
  have c0 := k1.byteAt (i := 0) (by simp)
  have z0 := k1.frozen 0
  have k2 := k1.setByte 0 128
  have e2 : (List.replicate (zeros n + 9) (0 : UInt8)).set 0 128 = endR n 0 := by rw [endR_zero]; rfl
  rw [e2] at k2
  clear e2 hmk
  go_wp2_with fail
  go_loopw [5] (fun i wr => ∃ k : Nat, k ≤ 8 ∧ i = .int .u64 k ∧ Blk wr w.heap.size 5 (bvs (endR n k)) ∧ Below w.heap.size w wr) (fun i _ => 8 - (intOf i).toNat)
  case atStart => exact ⟨0, by omega, rfl, k2, f1.setCell (Nat.le_refl _) _⟩
  case round =>
    clear k1 f1 k2 c0 z0
    obtain ⟨k, hk, rfl, k1, f1⟩ := hrel
    by_cases hlt : k < 8
    · have d1 : decide ((k : Int) < 8) = true := by simp; omega
      have hel := endR_length n k hk
      have c1 := k1.byteAt (i := 1 + zeros n + k) (by omega)
      have z1 := k1.frozen (1 + zeros n + k)
      clear hel
      have hb := endR_succ n k hlt
      have he := end_byte n k hlt
      rw [Int.mul_comm 8 (n : Int), show 8 * (7 - k) = 56 - 8 * k from by omega] at he
      have HB := Lib.hid hb
      have HE := Lib.hid he
      clear hb he
      go_wp2_with fail
      go_roundw
      case rel =>
        refine ⟨k + 1, by omega, by go_num, ?_, f1.setCell (Nat.le_refl _) _⟩
        rw [HE.out, ← HB.out, show 1 + zeros n + k = zeros n + 1 + k from by omega]
        exact k1.setByte _ _
      case measure => simp [intOf]; omega
    · obtain rfl : k = 8 := by omega
      have d1 : decide (((8 : Nat) : Int) < 8) = false := rfl
      go_wp2_with fail
      go_ret
      rw [endR_eight] at k1
      exact ⟨_, rfl, OwnB.of_blk k1 (Nat.le_refl _) (endB_len n) (by simp only [maxLen]; omega), f1⟩
end Go.Proofs.Ytgefbgjgcjiceaa
