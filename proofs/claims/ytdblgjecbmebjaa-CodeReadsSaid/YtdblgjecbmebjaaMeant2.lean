/- meant: a field's bytes. Conditions: sizes. -/
import Derived.Test.YtdblgjecbmebjaaMeant
namespace Go.Proofs.Ytdblgjecbmebjaa
open Go.RowKit
set_option linter.unusedVariables false
set_option maxRecDepth 100000 in
set_option maxHeartbeats 2000000 in
theorem meant_any (f : Fd) (w : World) (hok : Fok f) (hfs : f.s.length ≤ 70368744177664) :
    Calls Try.prog 15 #[.agg f.cells.toArray] w fun e w' => ∃ A' n' c', e = .returned (.slice A' n' c') ∧ RdB w' w'.heap.size A' n' (fbytes f) ∧ Below w.heap.size w w' := by
  go_enter Try.func15, Try.ntmps15
  simp only [Fd.cells]
  go_wp2_with fail
  refine absC (fun w1 => Blk w1 w.heap.size 32 f.cells ∧ Below w.heap.size w w1) ⟨Blk.newAt rfl _ _, (Below.refl _ _).alloc (Nat.le_refl _) _⟩ ?_
  rintro w1 ⟨k1, d1⟩
  refine (kind_any f w1).mono ?_
  rintro e w2 ⟨rfl, f2⟩
  replace k1 := k1.below f2 k1.lt
  replace d1 := d1.trans (f2.mono d1.size)
  clear f2
  have c3 : w2.cell? ⟨w.heap.size, 3, none⟩ = some (.int .u64 f.n) := k1.cell 3
  have c4 : w2.cell? ⟨w.heap.size, 4, none⟩ = some (.string (strB f.s)) := k1.cell 4
  have hfb : fbytes f = (match fk f with | 0 => [UInt8.ofNat f.n] | 1 => le32 f.n | 2 => leb f.n | 3 => leb f.s.length ++ f.s | _ => f.s) := rfl
  have hk := fk_lt f
  generalize hK : fk f = K at *
  clear hK
  rcases K with _ | _ | _ | _ | _ | K
  · have Hfb := Lib.hid hfb; clear hfb
    go_wp2_with fail
    refine (refWide1_any f.n hok.1 w2).mono ?_
    rintro e w3 ⟨A', rfl, r3, f3⟩
    go_wp2_with fail
    go_ret
    exact ⟨A', 1, 1, rfl, by rw [Hfb.out]; exact r3, d1.trans (f3.mono d1.size)⟩
  · have Hfb := Lib.hid hfb; clear hfb
    go_wp2_with fail
    refine (refWide4_any f.n hok.1 w2).mono ?_
    rintro e w3 ⟨A', rfl, r3, f3⟩
    go_wp2_with fail
    go_ret
    exact ⟨A', 4, 4, rfl, by rw [Hfb.out]; exact r3, d1.trans (f3.mono d1.size)⟩
  · have Hfb := Lib.hid hfb; clear hfb
    go_wp2_with fail
    refine (refShort_any f.n hok.1 w2).mono ?_
    rintro e w3 ⟨A', c', rfl, o3, f3⟩
    go_wp2_with fail
    go_ret
    exact ⟨A', _, c', rfl, by rw [Hfb.out]; exact o3.rd, d1.trans (f3.mono d1.size)⟩
  · have Hfb := Lib.hid hfb; clear hfb
    go_wp2_with fail
    refine (refText_any f.s hfs w2).mono ?_
    rintro e w3 ⟨A', c', rfl, o3, f3⟩
    go_wp2_with fail
    go_ret
    exact ⟨A', _, c', rfl, by rw [Hfb.out, ← List.length_append]; exact o3.rd, d1.trans (f3.mono d1.size)⟩
  · have Hfb := Lib.hid hfb; clear hfb
    have kc := fun w => run_conv_str T23 Try.underlying9 w f.s
    go_wp2_with fail
    go_ret
    exact ⟨_, _, _, rfl, by rw [Hfb.out]; exact rd_conv w2 _ f.s, d1.trans ((below_conv w2 _ f.s).mono d1.size)⟩
  · omega
end Go.Proofs.Ytdblgjecbmebjaa
