/- An array by value, at an index: of cells that are numbers. '[]byte' of a text. No condition. -/
import Derived.Test.YtdbjihpdfiipcaaGreatOff
import Derived.Lib.ConvBytes
namespace Go.Proofs.YtdbjihpdfiipcaaGreat
open Go.RowKit
theorem run_index_ints {P : Program} {t e n : Nat} {k0 : IntKind} (ht : P.underlying t = some (.array n e)) (he : P.underlying e = some (.int k0)) (hi : (P.info? e).map (·.size) = some 1)
    (w : World) (cs : Array Value) (k : IntKind) (j : Nat) (hj : j < n) (v : Value) (hv : cs[j]? = some v) : (Instr.index t (.agg cs) (.int k j)).run P w = .ok v w := by
  obtain ⟨i, hi, hz⟩ : ∃ i, P.info? e = some i ∧ i.size = 1 := by simpa using hi
  have h1 : (0 : Int) ≤ (j : Int) ∧ (j : Int) < (n : Int) := by omega
  simp [Instr.index, run_underlying ht, asIntOf, h1.1, hj, sizeOf, typeInfo, hi, hz, part, isAgg, run_underlying he, hv]
theorem run_conv_str {P : Program} {t e d : TypeId} (T : ByteTy P t e) (hd : P.underlying d = some .string) (w : World) (s : List UInt8) :
    (convert d t (.string (strB s))).run P w = .ok (.slice (some ⟨w.heap.size, 0, none⟩) s.length (grownCap w s.length 0 e)) (Lib.bytesWorld w e (strB s)) := by
  have := Lib.run_convert_string_bytes (P := P) w d t e (strB s) hd T.sl T.el
  rwa [strB_size] at this
theorem below_conv (w : World) (e : TypeId) (s : List UInt8) : Below w.heap.size w (Lib.bytesWorld w e (strB s)) :=
  ⟨by rw [Lib.bytesWorld, World.freeze]; split <;> first | rfl | simp, by rw [Lib.bytesWorld, World.freeze]; split <;> first | rfl | simp, by rw [Lib.bytesWorld, World.freeze]; split <;> first | rfl | simp, by rw [Lib.bytesWorld_size]; omega, fun k hk => Lib.bytesWorld_at_old w e (strB s) k hk⟩
theorem rd_conv (w : World) (e : TypeId) (s : List UInt8) : RdB (Lib.bytesWorld w e (strB s)) (Lib.bytesWorld w e (strB s)).heap.size (some ⟨w.heap.size, 0, none⟩) s.length s := by
  refine ⟨rfl, fun _ => ⟨w.heap.size, 0, rfl, by rw [Lib.bytesWorld_size]; omega, fun j hj => ?_⟩⟩
  rw [Nat.zero_add, Lib.bytesWorld_cell w e (strB s) j (by rw [strB_size]; exact hj)]
  simp [strB, bv, List.getD, hj]
end Go.Proofs.YtdbjihpdfiipcaaGreat
