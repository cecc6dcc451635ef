/- A slice of bytes that are read, as an operation. No condition. -/
import Derived.Test.YtgefbgjgcjiceaaSeat
namespace Go.Proofs.Ytgefbgjgcjiceaa
open Go.RowKit
section
variable {P : Program} {t e : TypeId} {o : Oper} {a : Act} {K : Act → World → Prop} {Q : Exit → Act → World → Prop} {w w0 : World} {B : Nat} {A : Option Addr} {n c : Nat} {l : List UInt8}
theorem run_sliceB (T : ByteTy P t e) (lo hi : Option Value) {i k : Nat} (hb : (Instr.sliceBounds true n c lo hi none).run P w = .ok (i, k, c) w) :
    (Instr.sliceAt t (.slice A n c) lo hi none).run P w = .ok (sliced A i k c 1) w := by
  obtain ⟨j, hj, hz0, hz1, hz2⟩ := info_parts T.info
  simp [Instr.sliceAt, run_underlying T.sl, Instr.slice, hb, sizeOf, typeInfo, hj, hz1, sliced]
theorem wp_slice_h (T : ByteTy P t e) {x y : Operand} (ho : o.op = .slice t x none (some y) none) (hx : a.eval x = .slice A n c) {k : Nat} (hy : a.eval y = .int .i64 (k : Int)) (hr : RdB w0 B A n l) (hk : k ≤ n) (hc : n ≤ c)
    (h : ∀ A', RdB w0 B A' k (l.take k) → K (a.put o.dst (.slice A' k c)) w) : o.wp P a w K Q := by
  obtain ⟨A', e', r'⟩ := hr.sliced (Nat.zero_le k) hk hc
  unfold Oper.wp execOp
  simp only [ho, hx, hy, Option.map_some, Option.map_none, Sem.run_bind]
  rw [run_sliceB T none (some (.int .i64 (k : Int))) (i := 0) (k := k) (by simp [Instr.sliceBounds, run_sliceBound, show (k : Int) ≤ c by omega]), e']
  exact h A' (by simpa using r')
theorem wp_slice_lh (T : ByteTy P t e) {x y z : Operand} (ho : o.op = .slice t x (some z) (some y) none) (hx : a.eval x = .slice A n c) {i k : Nat} (hy : a.eval y = .int .i64 (k : Int)) (hz : a.eval z = .int .i64 (i : Int)) (hr : RdB w0 B A n l) (hi : i ≤ k) (hk : k ≤ n) (hc : n ≤ c)
    (h : ∀ A', RdB w0 B A' (k - i) ((l.take k).drop i) → K (a.put o.dst (.slice A' (k - i) (c - i))) w) : o.wp P a w K Q := by
  obtain ⟨A', e', r'⟩ := hr.sliced hi hk hc
  unfold Oper.wp execOp
  simp only [ho, hx, hy, hz, Option.map_some, Option.map_none, Sem.run_bind]
  rw [run_sliceB T (some (.int .i64 (i : Int))) (some (.int .i64 (k : Int))) (i := i) (k := k) (by simp [Instr.sliceBounds, run_sliceBound, show (k : Int) ≤ c by omega, show (i : Int) ≤ k by omega]), e']
  exact h A' r'
theorem wp_slice_l (T : ByteTy P t e) {x z : Operand} (ho : o.op = .slice t x (some z) none none) (hx : a.eval x = .slice A n c) {i : Nat} (hz : a.eval z = .int .i64 (i : Int)) (hr : RdB w0 B A n l) (hi : i ≤ n) (hc : n ≤ c)
    (h : ∀ A', RdB w0 B A' (n - i) (l.drop i) → K (a.put o.dst (.slice A' (n - i) (c - i))) w) : o.wp P a w K Q := by
  obtain ⟨A', e', r'⟩ := hr.sliced hi (Nat.le_refl n) hc
  unfold Oper.wp execOp
  simp only [ho, hx, hz, Option.map_some, Option.map_none, Sem.run_bind]
  rw [run_sliceB T (some (.int .i64 (i : Int))) none (i := i) (k := n) (by simp [Instr.sliceBounds, run_sliceBound, show (i : Int) ≤ n by omega]), e']
  exact h A' (by rw [List.take_of_length_le (by rw [hr.1]; exact Nat.le_refl n)] at r'; exact r')
end
end Go.Proofs.Ytgefbgjgcjiceaa
