/- What a writer's U32, Text, Put leave. Conditions: all bytes together below 2^47. -/
import Derived.Test.YtdbjihpdfiipcaaGreatWriter
import Derived.Test.YtdbjihpdfiipcaaGreatIdx
namespace Go.Proofs.YtdbjihpdfiipcaaGreat
open Go.RowKit
theorem WrP.trans {w w1 w2 : World} {p : Nat} {A B : Option Addr} {l : List UInt8} (h : Wrote w w1 p A B) (k : WrP w1 p B l w2) : WrP w p A l w2 := k.to h
set_option maxRecDepth 100000 in
set_option maxHeartbeats 1000000 in
theorem wU32_any (p : Nat) (A : Option Addr) (n c : Nat) (l : List UInt8) (x : Nat) (w : World) (hx : x < 4294967296) (h : Wr w p A n c l) (hlen : n + 4 ≤ 140737488355328) :
    Calls Tryz.prog 151 #[.pointer (some ⟨p, 0, none⟩), .int .u32 x] w fun e w' => e = .returned (.tuple #[]) ∧ WrP w p A (l ++ le32 x) w' := by
  have hl := h.len
  go_enter Tryz.func151, Tryz.ntmps151
  go_wp2_with fail
  go_loopw [7] (fun i wr => ∃ k : Nat, i = .int .i64 k ∧ k ≤ 4 ∧ WrP w p A (l ++ (le32 x).take k) wr) (fun i _ => 4 - (intOf i).toNat)
  case atStart => exact ⟨0, rfl, by omega, A, c, by rw [List.take_zero, List.append_nil, hl]; exact h, Wrote.refl _ _ _⟩
  case round =>
    obtain ⟨k, rfl, hk, A1, c1, h1, d1⟩ := hrel
    have hm2 : k < 4 → (l ++ (le32 x).take k).length ≤ 140737488355327 := fun h => by rw [List.length_append, List.length_take]; omega
    rcases k with _ | _ | _ | _ | _ | k
    · have ki : ∀ w, (Instr.index 210 (.agg #[.int .i64 0, .int .i64 8, .int .i64 16, .int .i64 24]) (.int .i64 0)).run Tryz.prog w = .ok (.int .i64 0) w := fun w => run_index_ints Tryz.underlying210 Tryz.underlying3 (by kernel_rfl) w _ .i64 0 (by omega) _ rfl
      go_wp2_with fail
      refine absC (fun w2 => Wr w2 p A1 (l ++ (le32 x).take 0).length c1 (l ++ (le32 x).take 0) ∧ Wrote w w2 p A A1 ∧ RdB w2 w2.heap.size (some ⟨wr.heap.size, 0, none⟩) 1 [UInt8.ofNat (x / 1)]) ⟨h1.alloc _, d1.trans (Wrote.alloc _ _ _ _), rdB_one wr (by simp <;> omega)⟩ ?_
      rintro w2 ⟨h2, d2, r2⟩
      refine (more_any p A1 _ c1 _ _ 1 1 _ w2 h2 r2 (Nat.add_le_add_right (hm2 (by omega)) 1)).mono ?_
      rintro e w3 ⟨rfl, hp⟩
      replace hp := hp.to d2
      go_wp2_with fail
      go_roundw
      case rel => exact ⟨0 + 1, by go_num, by omega, by simpa [le32] using hp⟩
      case measure => simp [intOf]
    · have ki : ∀ w, (Instr.index 210 (.agg #[.int .i64 0, .int .i64 8, .int .i64 16, .int .i64 24]) (.int .i64 1)).run Tryz.prog w = .ok (.int .i64 8) w := fun w => run_index_ints Tryz.underlying210 Tryz.underlying3 (by kernel_rfl) w _ .i64 1 (by omega) _ rfl
      go_wp2_with fail
      refine absC (fun w2 => Wr w2 p A1 (l ++ (le32 x).take 1).length c1 (l ++ (le32 x).take 1) ∧ Wrote w w2 p A A1 ∧ RdB w2 w2.heap.size (some ⟨wr.heap.size, 0, none⟩) 1 [UInt8.ofNat (x / 256)]) ⟨h1.alloc _, d1.trans (Wrote.alloc _ _ _ _), rdB_one wr (by simp <;> omega)⟩ ?_
      rintro w2 ⟨h2, d2, r2⟩
      refine (more_any p A1 _ c1 _ _ 1 1 _ w2 h2 r2 (Nat.add_le_add_right (hm2 (by omega)) 1)).mono ?_
      rintro e w3 ⟨rfl, hp⟩
      replace hp := hp.to d2
      go_wp2_with fail
      go_roundw
      case rel => exact ⟨1 + 1, by go_num, by omega, by simpa [le32] using hp⟩
      case measure => simp [intOf]
    · have ki : ∀ w, (Instr.index 210 (.agg #[.int .i64 0, .int .i64 8, .int .i64 16, .int .i64 24]) (.int .i64 2)).run Tryz.prog w = .ok (.int .i64 16) w := fun w => run_index_ints Tryz.underlying210 Tryz.underlying3 (by kernel_rfl) w _ .i64 2 (by omega) _ rfl
      go_wp2_with fail
      refine absC (fun w2 => Wr w2 p A1 (l ++ (le32 x).take 2).length c1 (l ++ (le32 x).take 2) ∧ Wrote w w2 p A A1 ∧ RdB w2 w2.heap.size (some ⟨wr.heap.size, 0, none⟩) 1 [UInt8.ofNat (x / 65536)]) ⟨h1.alloc _, d1.trans (Wrote.alloc _ _ _ _), rdB_one wr (by simp <;> omega)⟩ ?_
      rintro w2 ⟨h2, d2, r2⟩
      refine (more_any p A1 _ c1 _ _ 1 1 _ w2 h2 r2 (Nat.add_le_add_right (hm2 (by omega)) 1)).mono ?_
      rintro e w3 ⟨rfl, hp⟩
      replace hp := hp.to d2
      go_wp2_with fail
      go_roundw
      case rel => exact ⟨2 + 1, by go_num, by omega, by simpa [le32] using hp⟩
      case measure => simp [intOf]
    · have ki : ∀ w, (Instr.index 210 (.agg #[.int .i64 0, .int .i64 8, .int .i64 16, .int .i64 24]) (.int .i64 3)).run Tryz.prog w = .ok (.int .i64 24) w := fun w => run_index_ints Tryz.underlying210 Tryz.underlying3 (by kernel_rfl) w _ .i64 3 (by omega) _ rfl
      go_wp2_with fail
      refine absC (fun w2 => Wr w2 p A1 (l ++ (le32 x).take 3).length c1 (l ++ (le32 x).take 3) ∧ Wrote w w2 p A A1 ∧ RdB w2 w2.heap.size (some ⟨wr.heap.size, 0, none⟩) 1 [UInt8.ofNat (x / 16777216)]) ⟨h1.alloc _, d1.trans (Wrote.alloc _ _ _ _), rdB_one wr (by simp <;> omega)⟩ ?_
      rintro w2 ⟨h2, d2, r2⟩
      refine (more_any p A1 _ c1 _ _ 1 1 _ w2 h2 r2 (Nat.add_le_add_right (hm2 (by omega)) 1)).mono ?_
      rintro e w3 ⟨rfl, hp⟩
      replace hp := hp.to d2
      go_wp2_with fail
      go_roundw
      case rel => exact ⟨3 + 1, by go_num, by omega, by simpa [le32] using hp⟩
      case measure => simp [intOf]
    · go_wp2_with fail
      go_end0
      exact ⟨rfl, A1, c1, by simpa [le32] using h1, d1⟩
    · omega
set_option maxRecDepth 100000 in
set_option maxHeartbeats 1000000 in
theorem wText_any (p : Nat) (A : Option Addr) (n c : Nat) (l : List UInt8) (s : List UInt8) (w : World) (h : Wr w p A n c l) (hlen : n + 10 + s.length ≤ 140737488355328) :
    Calls Tryz.prog 52 #[.pointer (some ⟨p, 0, none⟩), .string (strB s)] w fun e w' => e = .returned (.tuple #[]) ∧ WrP w p A (l ++ leb s.length ++ s) w' := by
  have hl := h.len
  have hs := strB_size s
  go_enter Tryz.func52, Tryz.ntmps52
  go_wp2_with fail
  refine (wUint_any p A n c l s.length w (by omega) h (by omega)).mono ?_
  rintro e w1 ⟨rfl, A1, c1, h1, d1⟩
  have kc := fun w => run_conv_str T23 Tryz.underlying9 w s
  have hg := grp_le s.length (by omega)
  have hl1 : (l ++ leb s.length).length ≤ n + 10 := by rw [List.length_append, leb_length _ (by omega)]; omega
  go_wp2_with fail
  refine (more_any p A1 _ c1 _ _ s.length _ s _ (h1.off (Off.of_all (below_conv w1 _ s)) id (fun _ _ => id)) (rd_conv w1 _ s) (by omega)).mono ?_
  rintro e w2 ⟨rfl, hp⟩
  go_wp2_with fail
  go_end0
  exact ⟨rfl, hp.to (d1.trans (B := A1) ⟨.inl rfl, (Off.of_all (below_conv w1 _ s)).mono fun _ _ h => h.elim⟩)⟩
end Go.Proofs.YtdbjihpdfiipcaaGreat
