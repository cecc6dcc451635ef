/- The document's Wide (of 1 and 4 bytes), Text; meant: what they answer. Conditions: sizes. -/
import Derived.Test.YtdblgjecbmebjaaRefShort
import Derived.Test.YtdblgjecbmebjaaMake
import Derived.Test.YtdblgjecbmebjaaWriter
namespace Go.Proofs.Ytdblgjecbmebjaa
open Go.RowKit
set_option linter.unusedVariables false
theorem run_index_str {P : Program} {t : TypeId} (ht : P.underlying t = some .string) (w : World) (s : List UInt8) (k : Nat) (hk : k < s.length) :
    (Instr.index t (.string (strB s)) (.int .i64 (k : Int))).run P w = .ok (.int .u8 ((at8 s k).toNat : Int)) w := by
  have hz : k < (strB s).size := by rw [strB_size]; exact hk
  have h : (strB s)[k]? = some (at8 s k) := by
    rw [getElem?_pos (strB s) k hz]
    congr 1
    show (strB s).data[k] = _
    simp [strB, at8, List.getD, hk]
  have h0 : (0 : Int) ≤ (k : Int) := by omega
  simp [Instr.index, run_underlying ht, asIntOf, h0, h]
set_option maxRecDepth 100000 in
set_option maxHeartbeats 1000000 in
theorem refWide1_any (x : Nat) (hx : x < 18446744073709551616) (w : World) :
    Calls Try.prog 43 #[.int .u64 x, .int .i64 1] w fun e w' => ∃ A', e = .returned (.slice A' 1 1) ∧ RdB w' w'.heap.size A' 1 ([UInt8.ofNat x]) ∧ Below w.heap.size w w' := by
  have hmk : ∀ w : World, (Instr.makeSlice 28 (.int .i64 1) (.int .i64 1)).run Try.prog w = .ok (.slice (some ⟨w.heap.size, 0, none⟩) 1 1) (w.alloc (.cells (bvs (List.replicate 1 0)).toArray 5)) := run_make_bytesM T23 1 (by omega)
  have hL : ([UInt8.ofNat x]).length = 1 := rfl
  go_enter Try.func43, Try.ntmps43
  go_wp2_with fail
  refine abs (fun w1 => Blk w1 w.heap.size 5 (bvs (([UInt8.ofNat x]).take 0 ++ List.replicate (1 - 0) 0)) ∧ Below w.heap.size w w1) ⟨Blk.of_new w _ _, (Below.refl _ w).alloc (Nat.le_refl _) _⟩ ?_
  rintro w1 ⟨k1, f1⟩
  go_loopw [6] (fun i wr => ∃ k : Nat, k ≤ 1 ∧ i = .int .i64 k ∧ Blk wr w.heap.size 5 (bvs (([UInt8.ofNat x]).take k ++ List.replicate (1 - k) 0)) ∧ Below w.heap.size w wr) (fun i _ => 1 - (intOf i).toNat)
  case atStart => exact ⟨0, by omega, rfl, k1, f1⟩
  case round =>
    clear k1 f1
    obtain ⟨k, hk, rfl, k1, f1⟩ := hrel
    rcases k with _ | _ | k
    · have c1 := k1.byteAt (i := 0) (by simp [le32])
      have z1 := k1.frozen 0
      have k2 := k1.setByte 0 (UInt8.ofNat (x / 1))
      have ho : ((UInt8.ofNat (x / 1)).toNat : Int) = (x : Int) / 1 % 256 := by simp
      unfold bv at k2
      rw [ho] at k2
      go_wp2_with fail
      go_roundw
      case rel => exact ⟨1, by omega, by go_num, by simpa [le32] using k2, by simpa using f1.setCell (p := ⟨w.heap.size, 0, none⟩) (Nat.le_refl _) (.int .u8 ((x : Int) / 1 % 256))⟩
      case measure => simp [intOf]
    · go_wp2_with fail
      go_ret
      refine ⟨some ⟨w.heap.size, 0, none⟩, rfl, ?_, f1⟩
      exact (show Blk wr w.heap.size 5 (bvs ([UInt8.ofNat x])) from k1).rdB rfl
    · omega
set_option maxRecDepth 100000 in
set_option maxHeartbeats 1000000 in
theorem refWide4_any (x : Nat) (hx : x < 18446744073709551616) (w : World) :
    Calls Try.prog 43 #[.int .u64 x, .int .i64 4] w fun e w' => ∃ A', e = .returned (.slice A' 4 4) ∧ RdB w' w'.heap.size A' 4 (le32 x) ∧ Below w.heap.size w w' := by
  have hmk : ∀ w : World, (Instr.makeSlice 28 (.int .i64 4) (.int .i64 4)).run Try.prog w = .ok (.slice (some ⟨w.heap.size, 0, none⟩) 4 4) (w.alloc (.cells (bvs (List.replicate 4 0)).toArray 5)) := run_make_bytesM T23 4 (by omega)
  have hL : (le32 x).length = 4 := rfl
  go_enter Try.func43, Try.ntmps43
  go_wp2_with fail
  refine abs (fun w1 => Blk w1 w.heap.size 5 (bvs ((le32 x).take 0 ++ List.replicate (4 - 0) 0)) ∧ Below w.heap.size w w1) ⟨Blk.of_new w _ _, (Below.refl _ w).alloc (Nat.le_refl _) _⟩ ?_
  rintro w1 ⟨k1, f1⟩
  go_loopw [6] (fun i wr => ∃ k : Nat, k ≤ 4 ∧ i = .int .i64 k ∧ Blk wr w.heap.size 5 (bvs ((le32 x).take k ++ List.replicate (4 - k) 0)) ∧ Below w.heap.size w wr) (fun i _ => 4 - (intOf i).toNat)
  case atStart => exact ⟨0, by omega, rfl, k1, f1⟩
  case round =>
    clear k1 f1
    obtain ⟨k, hk, rfl, k1, f1⟩ := hrel
    rcases k with _ | _ | _ | _ | _ | k
    · have c1 := k1.byteAt (i := 0) (by simp [le32])
      have z1 := k1.frozen 0
      have k2 := k1.setByte 0 (UInt8.ofNat (x / 1))
      have ho : ((UInt8.ofNat (x / 1)).toNat : Int) = (x : Int) / 1 % 256 := by simp
      unfold bv at k2
      rw [ho] at k2
      go_wp2_with fail
      go_roundw
      case rel => exact ⟨1, by omega, by go_num, by simpa [le32] using k2, by simpa using f1.setCell (p := ⟨w.heap.size, 0, none⟩) (Nat.le_refl _) (.int .u8 ((x : Int) / 1 % 256))⟩
      case measure => simp [intOf]
    · have c1 := k1.byteAt (i := 1) (by simp [le32])
      have z1 := k1.frozen 1
      have k2 := k1.setByte 1 (UInt8.ofNat (x / 256))
      have ho : ((UInt8.ofNat (x / 256)).toNat : Int) = (x : Int) / 256 % 256 := by simp
      unfold bv at k2
      rw [ho] at k2
      go_wp2_with fail
      go_roundw
      case rel => exact ⟨2, by omega, by go_num, by simpa [le32] using k2, by simpa using f1.setCell (p := ⟨w.heap.size, 1, none⟩) (Nat.le_refl _) (.int .u8 ((x : Int) / 256 % 256))⟩
      case measure => simp [intOf]
    · have c1 := k1.byteAt (i := 2) (by simp [le32])
      have z1 := k1.frozen 2
      have k2 := k1.setByte 2 (UInt8.ofNat (x / 65536))
      have ho : ((UInt8.ofNat (x / 65536)).toNat : Int) = (x : Int) / 65536 % 256 := by simp
      unfold bv at k2
      rw [ho] at k2
      go_wp2_with fail
      go_roundw
      case rel => exact ⟨3, by omega, by go_num, by simpa [le32] using k2, by simpa using f1.setCell (p := ⟨w.heap.size, 2, none⟩) (Nat.le_refl _) (.int .u8 ((x : Int) / 65536 % 256))⟩
      case measure => simp [intOf]
    · have c1 := k1.byteAt (i := 3) (by simp [le32])
      have z1 := k1.frozen 3
      have k2 := k1.setByte 3 (UInt8.ofNat (x / 16777216))
      have ho : ((UInt8.ofNat (x / 16777216)).toNat : Int) = (x : Int) / 16777216 % 256 := by simp
      unfold bv at k2
      rw [ho] at k2
      go_wp2_with fail
      go_roundw
      case rel => exact ⟨4, by omega, by go_num, by simpa [le32] using k2, by simpa using f1.setCell (p := ⟨w.heap.size, 3, none⟩) (Nat.le_refl _) (.int .u8 ((x : Int) / 16777216 % 256))⟩
      case measure => simp [intOf]
    · go_wp2_with fail
      go_ret
      refine ⟨some ⟨w.heap.size, 0, none⟩, rfl, ?_, f1⟩
      exact (show Blk wr w.heap.size 5 (bvs (le32 x)) from k1).rdB rfl
    · omega
set_option maxRecDepth 100000 in
set_option maxHeartbeats 1000000 in
theorem refText_any (s : List UInt8) (hs : s.length ≤ 70368744177664) (w : World) :
    Calls Try.prog 44 #[.string (strB s)] w fun e w' => ∃ A' c', e = .returned (.slice A' (leb s.length ++ s).length c') ∧ OwnB w' w.heap.size 5 (.slice A' (leb s.length ++ s).length c') (leb s.length ++ s) ∧ Below w.heap.size w w' := by
  have zs := strB_size s
  have hgl := grp_le s.length (by omega)
  have hlen := leb_length s.length (by omega)
  go_enter Try.func44, Try.ntmps44
  go_wp2_with fail
  refine (refShort_any s.length (by omega) w).mono ?_
  rintro e w1 ⟨A1, c1, rfl, o1, f1⟩
  have HL := Lib.hid hlen
  clear hlen
  generalize hS : leb s.length = S at *
  have HS := Lib.hid hS
  clear hS
  go_wp2_with fail
  go_loopw [3, 4] (fun b i wr => ∃ (k m : Nat) (A' : Option Addr) (c' : Nat), i = .int .i64 k ∧ b = .slice A' m c' ∧ k ≤ s.length ∧ m = S.length + k ∧ OwnB wr w.heap.size 5 (.slice A' m c') (S ++ s.take k) ∧ Below w.heap.size w wr) (fun _ i _ => s.length - (intOf i).toNat)
  case atStart => exact ⟨0, S.length, A1, c1, rfl, rfl, by omega, rfl, by simpa using o1, f1⟩
  case round =>
    clear o1 f1
    obtain ⟨k, m, A', c', rfl, rfl, hk, rfl, o1, f1⟩ := hrel
    by_cases hlt : k < s.length
    · have d1 : decide ((k : Int) < (s.length : Int)) = true := by simp; omega
      have hidx := fun w => run_index_str (P := Try.prog) Try.underlying9 w s k hlt
      have hst : s.take (k + 1) = s.take k ++ [at8 s k] := by
        rw [List.take_succ_eq_append_getElem hlt]
        simp [at8, List.getD, hlt]
      have hm64 : S.length + k + 1 ≤ 140737488355328 := by have := HL.out; omega
      have hs1 := f1.size
      generalize at8 s k = B at *
      go_wp2_with (at_builtin; go_must (refine appendR T23 rfl rfl rfl (o1.alloc _) rfl (rdB_one wr (b := B) rfl) hm64 (f1.alloc hs1 _) (Nat.le_refl _) ?_); intro A3 c3 w3 o3 f3 _)
      go_roundw
      case rel => exact ⟨k + 1, S.length + k + 1, A3, c3, by go_num, rfl, by omega, by omega, by rw [hst, ← List.append_assoc]; exact o3, f3⟩
      case measure => simp [intOf]; omega
    · obtain rfl : k = s.length := by omega
      have d1 : decide ((s.length : Int) < (s.length : Int)) = false := by simp
      rw [List.take_length] at o1
      go_wp2_with fail
      go_ret
      rw [HS.out, List.length_append]
      exact ⟨A', c', rfl, o1, f1⟩
end Go.Proofs.Ytdblgjecbmebjaa
