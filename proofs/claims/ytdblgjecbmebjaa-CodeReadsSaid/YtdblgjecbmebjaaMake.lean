/- 'make([]byte, n)'. No condition but size. -/
import Derived.Test.YtdblgjecbmebjaaOff
namespace Go.Proofs.Ytdblgjecbmebjaa
open Go.RowKit
theorem run_make_bytesM {P : Program} {t e : TypeId} (T : ByteTy P t e) (n : Nat) (hn : n ≤ 140737488355328) (w : World) :
    (Instr.makeSlice t (.int .i64 (n : Int)) (.int .i64 (n : Int))).run P w = .ok (.slice (some ⟨w.heap.size, 0, none⟩) n n) (w.alloc (.cells (bvs (List.replicate n 0)).toArray e)) := by
  obtain ⟨i, hi, hz0, hz1, hz2⟩ := info_parts T.info
  have h := run_make (P := P) w t e i (.int .u8 0) T.sl hi hz0 .i64 .i64 n n (by omega) (by omega) (by rw [hz2]; omega) (by omega)
  simp only [Int.toNat_natCast, hz1, Nat.mul_one] at h
  rw [h]
  congr 3
  simp only [madeCells, bvs, List.map_replicate]
  apply Array.ext
  · simp [Value.cells]
  · intro j h1 h2
    simp [Value.cells, bv, Nat.mod_one]
end Go.Proofs.Ytdblgjecbmebjaa
