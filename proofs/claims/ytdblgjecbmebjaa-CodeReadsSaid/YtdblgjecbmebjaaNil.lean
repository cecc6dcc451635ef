/- A nil writer takes nothing. Condition: a text is at most 2^47 bytes. -/
import Derived.Test.YtdblgjecbmebjaaFields
namespace Go.Proofs.Ytdblgjecbmebjaa
open Go.RowKit
set_option linter.unusedVariables false
set_option maxRecDepth 100000 in
set_option maxHeartbeats 1000000 in
theorem wU32_nil (x : Nat) (hx : x < 4294967296) (w : World) :
    Calls Try.prog 39 #[.pointer none, .int .u32 x] w fun e w' => e = .returned (.tuple #[]) ∧ Below w.heap.size w w' := by
  go_enter Try.func39, Try.ntmps39
  go_wp2_with fail
  go_loopw [7] (fun i wr => ∃ k : Nat, i = .int .i64 k ∧ k ≤ 4 ∧ Below w.heap.size w wr) (fun i _ => 4 - (intOf i).toNat)
  case atStart => exact ⟨0, rfl, by omega, Below.refl _ _⟩
  case round =>
    obtain ⟨k, rfl, hk, f1⟩ := hrel
    rcases k with _ | _ | _ | _ | _ | k
    · have ki : ∀ w, (Instr.index 88 (.agg #[.int .i64 0, .int .i64 8, .int .i64 16, .int .i64 24]) (.int .i64 0)).run Try.prog w = .ok (.int .i64 0) w := fun w => run_index_ints Try.underlying88 Try.underlying3 (by kernel_rfl) w _ .i64 0 (by omega) _ rfl
      go_wp2_with fail
      refine (more_nil _ _ _ _).mono ?_
      rintro e w' ⟨rfl, rfl⟩
      go_wp2_with fail
      go_roundw
      case rel => exact ⟨1, by go_num, by omega, f1.alloc f1.size _⟩
      case measure => simp [intOf]
    · have ki : ∀ w, (Instr.index 88 (.agg #[.int .i64 0, .int .i64 8, .int .i64 16, .int .i64 24]) (.int .i64 1)).run Try.prog w = .ok (.int .i64 8) w := fun w => run_index_ints Try.underlying88 Try.underlying3 (by kernel_rfl) w _ .i64 1 (by omega) _ rfl
      go_wp2_with fail
      refine (more_nil _ _ _ _).mono ?_
      rintro e w' ⟨rfl, rfl⟩
      go_wp2_with fail
      go_roundw
      case rel => exact ⟨2, by go_num, by omega, f1.alloc f1.size _⟩
      case measure => simp [intOf]
    · have ki : ∀ w, (Instr.index 88 (.agg #[.int .i64 0, .int .i64 8, .int .i64 16, .int .i64 24]) (.int .i64 2)).run Try.prog w = .ok (.int .i64 16) w := fun w => run_index_ints Try.underlying88 Try.underlying3 (by kernel_rfl) w _ .i64 2 (by omega) _ rfl
      go_wp2_with fail
      refine (more_nil _ _ _ _).mono ?_
      rintro e w' ⟨rfl, rfl⟩
      go_wp2_with fail
      go_roundw
      case rel => exact ⟨3, by go_num, by omega, f1.alloc f1.size _⟩
      case measure => simp [intOf]
    · have ki : ∀ w, (Instr.index 88 (.agg #[.int .i64 0, .int .i64 8, .int .i64 16, .int .i64 24]) (.int .i64 3)).run Try.prog w = .ok (.int .i64 24) w := fun w => run_index_ints Try.underlying88 Try.underlying3 (by kernel_rfl) w _ .i64 3 (by omega) _ rfl
      go_wp2_with fail
      refine (more_nil _ _ _ _).mono ?_
      rintro e w' ⟨rfl, rfl⟩
      go_wp2_with fail
      go_roundw
      case rel => exact ⟨4, by go_num, by omega, f1.alloc f1.size _⟩
      case measure => simp [intOf]
    · go_wp2_with fail
      go_end0
      exact ⟨rfl, f1⟩
    · omega
set_option maxRecDepth 100000 in
set_option maxHeartbeats 1000000 in
theorem wUint_nil (x : Nat) (hx : x < 18446744073709551616) (w : World) :
    Calls Try.prog 40 #[.pointer none, .int .u64 x] w fun e w' => e = .returned (.tuple #[]) ∧ Below w.heap.size w w' := by
  have hg := grp_le x hx
  have hg1 := grp_pos x hx
  go_enter Try.func40, Try.ntmps40
  go_wp2_with fail
  refine (groups_any x hx w).mono ?_
  rintro e w' ⟨rfl, rfl⟩
  generalize hG : grp x = G at *
  go_wp2_with fail
  go_loopw [1, 7] (fun i j wr => ∃ k y : Nat, j = .int .i64 k ∧ i = .int .u64 y ∧ k + 1 ≤ G ∧ y < 18446744073709551616 ∧ Below w'.heap.size w' wr) (fun _ j _ => G - (intOf j).toNat)
  case atStart => exact ⟨0, x, rfl, rfl, hg1, hx, Below.refl _ _⟩
  case round =>
    obtain ⟨k, y, rfl, rfl, hk, hy, f1⟩ := hrel
    by_cases hlt : k + 1 < G
    · have d1' : decide ((k : Int) < (G : Int) - 1) = true := by simp; omega
      go_wp2_with fail
      refine (more_nil _ _ _ _).mono ?_
      rintro e w3 ⟨rfl, rfl⟩
      go_wp2_with fail
      go_roundw
      case rel => exact ⟨k + 1, y / 128, by go_num, by go_num, by omega, by omega, f1.alloc f1.size _⟩
      case measure => simp [intOf]; omega
    · have d1' : decide ((k : Int) < (G : Int) - 1) = false := by simp; omega
      go_wp2_with fail
      refine (more_nil _ _ _ _).mono ?_
      rintro e w3 ⟨rfl, rfl⟩
      go_wp2_with fail
      go_end0
      exact ⟨rfl, f1.alloc f1.size _⟩
set_option maxRecDepth 100000 in
set_option maxHeartbeats 1000000 in
theorem wText_nil (s : List UInt8) (hs : s.length ≤ 140737488355328) (w : World) :
    Calls Try.prog 41 #[.pointer none, .string (strB s)] w fun e w' => e = .returned (.tuple #[]) ∧ Below w.heap.size w w' := by
  have zs := strB_size s
  go_enter Try.func41, Try.ntmps41
  go_wp2_with fail
  refine (wUint_nil s.length (by omega) w).mono ?_
  rintro e w1 ⟨rfl, f1⟩
  have kc := fun w => run_conv_str T23 Try.underlying9 w s
  go_wp2_with fail
  refine (more_nil _ _ _ _).mono ?_
  rintro e w2 ⟨rfl, rfl⟩
  go_wp2_with fail
  go_end0
  exact ⟨rfl, f1.trans ((below_conv w1 _ s).mono f1.size)⟩
set_option maxRecDepth 100000 in
set_option maxHeartbeats 2000000 in
theorem write_nil (f : Fd) (w : World) (hn : f.n < 18446744073709551616) (hlen : f.s.length ≤ 140737488355328) :
    Calls Try.prog 14 #[.pointer none, .agg f.cells.toArray] w fun e w' => e = .returned (.tuple #[]) ∧ Below w.heap.size w w' := by
  go_enter Try.func14, Try.ntmps14
  simp only [Fd.cells]
  go_wp2_with fail
  refine absC (fun w1 => Blk w1 w.heap.size 32 f.cells ∧ Below w.heap.size w w1) ⟨Blk.newAt rfl _ _, (Below.refl _ _).alloc (Nat.le_refl _) _⟩ ?_
  rintro w1 ⟨k1, d1⟩
  refine (kind_any f w1).mono ?_
  rintro e w2 ⟨rfl, f2⟩
  replace k1 := k1.below f2 k1.lt
  replace d1 := d1.trans (f2.mono d1.size)
  clear f2
  have c3 : w2.cell? ⟨w.heap.size, 3, none⟩ = some (.int .u64 f.n) := k1.cell 3
  have c4 : w2.cell? ⟨w.heap.size, 4, none⟩ = some (.string (strB f.s)) := k1.cell 4
  have hk := fk_lt f
  generalize hK : fk f = K at *
  clear hK
  rcases K with _ | _ | _ | _ | _ | K
  · go_wp2_with fail
    refine (wU8_nil _ w2).mono ?_
    rintro e w3 ⟨rfl, hp⟩
    go_wp2_with fail
    go_end0
    exact ⟨rfl, d1.trans (hp.mono d1.size)⟩
  · go_wp2_with fail
    rw [show (f.n : Int) % 4294967296 = ((f.n % 4294967296 : Nat) : Int) from by omega]
    refine (wU32_nil (f.n % 4294967296) (by omega) w2).mono ?_
    rintro e w3 ⟨rfl, hp⟩
    go_wp2_with fail
    go_end0
    exact ⟨rfl, d1.trans (hp.mono d1.size)⟩
  · go_wp2_with fail
    refine (wUint_nil f.n hn w2).mono ?_
    rintro e w3 ⟨rfl, hp⟩
    go_wp2_with fail
    go_end0
    exact ⟨rfl, d1.trans (hp.mono d1.size)⟩
  · go_wp2_with fail
    refine (wText_nil f.s hlen w2).mono ?_
    rintro e w3 ⟨rfl, hp⟩
    go_wp2_with fail
    go_end0
    exact ⟨rfl, d1.trans (hp.mono d1.size)⟩
  · have kc := fun w => run_conv_str T23 Try.underlying9 w f.s
    go_wp2_with fail
    refine (wRaw_nil _ _ _ _).mono ?_
    rintro e w3 ⟨rfl, rfl⟩
    go_wp2_with fail
    go_end0
    exact ⟨rfl, d1.trans ((below_conv w2 _ f.s).mono d1.size)⟩
  · omega
end Go.Proofs.Ytdblgjecbmebjaa
