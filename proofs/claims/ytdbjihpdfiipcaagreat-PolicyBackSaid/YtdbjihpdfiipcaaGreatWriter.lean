/- What a writer's methods leave. Conditions: all bytes together below 2^47. -/
import Derived.Test.YtdbjihpdfiipcaaGreatLeb
namespace Go.Proofs.YtdbjihpdfiipcaaGreat
open Go.RowKit
theorem Wr.alloc {w : World} {p : Nat} {A : Option Addr} {n c : Nat} {l : List UInt8} (h : Wr w p A n c l) (o : Obj) : Wr (w.alloc o) p A n c l := ⟨h.1.alloc o, h.2.alloc o⟩
theorem Wrote.alloc (w : World) (p : Nat) (A : Option Addr) (o : Obj) : Wrote w (w.alloc o) p A A := ⟨.inl rfl, (Off.refl _ _).alloc o⟩
theorem rdB_one (w : World) {v : Int} {b : UInt8} (hv : v = (b.toNat : Int)) : RdB (w.alloc (.cells #[.int .u8 v] 5)) (w.alloc (.cells #[.int .u8 v] 5)).heap.size (some ⟨w.heap.size, 0, none⟩) 1 [b] := by
  subst hv
  exact (Blk.of_new w 5 (bvs [b])).rdB rfl
theorem Wr.lt {w : World} {p : Nat} {A : Option Addr} {n c : Nat} {l : List UInt8} (h : Wr w p A n c l) : p < w.heap.size := h.1.lt
set_option maxRecDepth 100000 in
set_option maxHeartbeats 1000000 in
theorem newWriter_any (w : World) : Calls Tryz.prog 50 #[] w fun e w' => e = .returned (.pointer (some ⟨w.heap.size, 0, none⟩)) ∧ Wr w' w.heap.size none 0 0 [] ∧ Below w.heap.size w w' := by
  go_enter Tryz.func50, Tryz.ntmps50
  go_wp2_with fail
  go_ret
  exact ⟨rfl, ⟨Blk.newAt rfl _ _, OwnB.nil_ _ _ _⟩, (Below.refl _ _).alloc (Nat.le_refl _) _⟩
set_option maxRecDepth 100000 in
set_option maxHeartbeats 1000000 in
theorem wU8_any (p : Nat) (A : Option Addr) (n c : Nat) (l : List UInt8) (b : UInt8) (w : World) (h : Wr w p A n c l) (hlen : n + 1 ≤ 140737488355328) :
    Calls Tryz.prog 152 #[.pointer (some ⟨p, 0, none⟩), .int .u8 (b.toNat : Int)] w fun e w' => e = .returned (.tuple #[]) ∧ WrP w p A (l ++ [b]) w' := by
  go_enter Tryz.func152, Tryz.ntmps152
  go_wp2_with fail
  refine (more_any p A n c l _ 1 1 [b] _ (h.alloc _) ((Blk.of_new w 5 (bvs [b])).rdB rfl) hlen).mono ?_
  rintro e w' ⟨rfl, hp⟩
  go_wp2_with fail
  go_end0
  exact ⟨rfl, hp.to (Wrote.alloc w p A _)⟩
theorem wU8_nil (x : Int) (w : World) : Calls Tryz.prog 152 #[.pointer none, .int .u8 x] w fun e w' => e = .returned (.tuple #[]) ∧ Below w.heap.size w w' := by
  go_enter Tryz.func152, Tryz.ntmps152
  go_wp2_with fail
  refine (more_nil _ _ _ _).mono ?_
  rintro e w' ⟨rfl, rfl⟩
  go_wp2_with fail
  go_end0
  exact ⟨rfl, (Below.refl _ _).alloc (Nat.le_refl _) _⟩
set_option maxRecDepth 100000 in
set_option maxHeartbeats 1000000 in
theorem bytes_any (p : Nat) (A : Option Addr) (n c : Nat) (l : List UInt8) (w : World) (h : Wr w p A n c l) (hlen : n ≤ 140737488355328) :
    Calls Tryz.prog 56 #[.pointer (some ⟨p, 0, none⟩)] w fun e w' => ∃ A' c', e = .returned (.slice A' n c') ∧ OwnB w' w.heap.size 5 (.slice A' n c') l ∧ Below w.heap.size w w' := by
  have c1 := h.1.cell 0
  go_enter Tryz.func56, Tryz.ntmps56
  go_wp2_with (at_builtin; go_must (refine appendR T23 rfl rfl rfl (OwnB.nil_ _ _ _) rfl h.2.rd (by omega) (Below.refl w.heap.size w) (Nat.le_refl _) ?_); intro A' c' w' o1 f1 _)
  go_ret
  exact ⟨A', c', by simp, by simpa using o1, f1⟩
theorem bytes_nil (w : World) : Calls Tryz.prog 56 #[.pointer none] w fun e w' => e = .returned (.slice none 0 0) ∧ w' = w := by
  go_enter Tryz.func56, Tryz.ntmps56
  go_wp2_with fail
  go_ret
  exact ⟨rfl, rfl⟩
set_option maxRecDepth 100000 in
set_option maxHeartbeats 1000000 in
theorem wUint_any (p : Nat) (A : Option Addr) (n c : Nat) (l : List UInt8) (x : Nat) (w : World) (hx : x < 18446744073709551616) (h : Wr w p A n c l) (hlen : n + 10 ≤ 140737488355328) :
    Calls Tryz.prog 51 #[.pointer (some ⟨p, 0, none⟩), .int .u64 x] w fun e w' => e = .returned (.tuple #[]) ∧ WrP w p A (l ++ leb x) w' := by
  have hg := grp_le x hx
  have hg1 := grp_pos x hx
  have hl := h.len
  go_enter Tryz.func51, Tryz.ntmps51
  go_wp2_with fail
  refine (groups_any x hx w).mono ?_
  rintro e w' ⟨rfl, rfl⟩
  generalize hG : grp x = G at *
  go_wp2_with fail
  go_loopw [1, 7] (fun i j wr => ∃ k y : Nat, ∃ m : List UInt8, j = .int .i64 k ∧ i = .int .u64 y ∧ k + 1 ≤ G ∧ y < 18446744073709551616 ∧ grp y + k = G ∧ m ++ leb y = l ++ leb x ∧ m.length = n + k ∧ WrP w' p A m wr) (fun _ j _ => G - (intOf j).toNat)
  case atStart => exact ⟨0, x, l, rfl, rfl, hg1, hx, by omega, rfl, hl, A, c, by rw [hl]; exact h, Wrote.refl _ _ _⟩
  case round =>
    obtain ⟨k, y, m, rfl, rfl, hk, hy, hgy, hm, hml, A1, c1, h1, d1⟩ := hrel
    have hm2 : m.length ≤ 140737488355327 := by omega
    by_cases hlt : k + 1 < G
    · have d1' : decide ((k : Int) < (G : Int) - 1) = true := by simp; omega
      have hy2 : 128 ≤ y := by
        refine Decidable.byContradiction fun h0 => ?_
        rw [grp_small (by omega)] at hgy
        omega
      have ho := bits_or128 (y % 256) (by omega)
      rw [show ((y % 256 : Nat) : Int) = (y : Int) % 256 from by omega, show y % 256 % 128 = y % 128 from by omega] at ho
      go_wp2_with fail
      have hb : ((y % 128 + 128 : Nat) : Int) = ((UInt8.ofNat (y % 128 + 128)).toNat : Int) := by simp; omega
      refine absC (fun w2 => Wr w2 p A1 m.length c1 m ∧ Wrote w' w2 p A A1 ∧ RdB w2 w2.heap.size (some ⟨wr.heap.size, 0, none⟩) 1 [UInt8.ofNat (y % 128 + 128)]) ⟨h1.alloc _, d1.trans (Wrote.alloc _ _ _ _), ?_⟩ ?_
      · exact rdB_one wr (by simp; omega)
      rintro w2 ⟨h2, d2, r2⟩
      refine (more_any p A1 _ c1 m _ 1 1 _ w2 h2 r2 (by omega)).mono ?_
      rintro e w3 ⟨rfl, hp⟩
      replace hp := hp.to d2
      go_wp2_with fail
      go_roundw
      case rel => exact ⟨k + 1, y / 128, _, by go_num, by go_num, by omega, by omega, by rw [grp_step hy2 (by omega)] at hgy; omega, by rw [← hm, leb_step hy2 (by omega)]; simp, by simp; omega, hp⟩
      case measure => simp [intOf]; omega
    · have d1' : decide ((k : Int) < (G : Int) - 1) = false := by simp; omega
      have hy2 : y < 128 := by
        refine Decidable.byContradiction fun h0 => ?_
        have := grp_pos (y / 128) (by omega)
        rw [grp_step (by omega) (by omega)] at hgy
        omega
      have hb : (y : Int) % 256 = ((UInt8.ofNat y).toNat : Int) := by simp
      go_wp2_with fail
      refine absC (fun w2 => Wr w2 p A1 m.length c1 m ∧ Wrote w' w2 p A A1 ∧ RdB w2 w2.heap.size (some ⟨wr.heap.size, 0, none⟩) 1 [UInt8.ofNat y]) ⟨h1.alloc _, d1.trans (Wrote.alloc _ _ _ _), ?_⟩ ?_
      · exact rdB_one wr (by simp <;> omega)
      rintro w2 ⟨h2, d2, r2⟩
      refine (more_any p A1 _ c1 m _ 1 1 _ w2 h2 r2 (by omega)).mono ?_
      rintro e w3 ⟨rfl, hp⟩
      replace hp := hp.to d2
      go_wp2_with fail
      go_end0
      rw [leb_small hy2] at hm
      rw [hm] at hp
      exact ⟨rfl, hp⟩
end Go.Proofs.YtdbjihpdfiipcaaGreat
