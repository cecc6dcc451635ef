/- How a law's row of policies is opened. No condition. -/
import Derived.Test.YtpcdmbajfmnoiaaGreatDoorOpenA
namespace Go.Proofs.YtpcdmbajfmnoiaaGreatDoor
open Go.RowKit Go.ChangeShapes Go.WideShapes Go.ChangeAt
set_option linter.unusedVariables false
section
variable {H : Type} {enc : TypeId × Value → H} {W : World} {base : Nat} {v : Value} {d : DataW H} {ps : List MemPlace}
set_option maxRecDepth 100000 in
theorem opn_pos (hval : Value.okWide Tryz.prog W .any base 22 v) (h : DataW.Trod enc Tryz.prog W 0 (fun _ => true) true 22 v d ps) :
  ∃ A n c, ∃ L : List Po, v = .slice A n c ∧ RdG 5 PoP W W.heap.size A n L ∧ n ≤ c ∧ c ≤ maxLen ∧ ∀ p ∈ L, oqPo p := by
 obtain ⟨a0, len, cap, rfl⟩ := okWide_slice Tryz.underlying22 hval
 obtain ⟨fuel, hf⟩ := h
 obtain ⟨v', L, h1, ⟨A, m, c, h2, h3, h4, h5⟩, h6, h7⟩ := trd_rowG (k := 5) (Pr := PoP) (ok := oqPo) Tryz.underlying22 (by kernel_rfl) (by omega) (fun h => trd_po h) hf
 simp [Value.cells] at h1
 subst h1
 exact ⟨A, m, c, L, h2, h5, h3, h4, h7⟩
end
end Go.Proofs.YtpcdmbajfmnoiaaGreatDoor
