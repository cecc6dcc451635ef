/- How a law's row of names is opened. No condition. -/
import Derived.Test.YtopemhdoccgjmaaOpenR
import Derived.Test.YtopemhdoccgjmaaNameOpen
import Derived.Test.YtopemhdoccgjmaaNames
namespace Go.Proofs.Ytopemhdoccgjmaa
open Go.RowKit Go.ChangeShapes Go.WideShapes Go.ChangeAt
section
variable {H : Type} {enc : TypeId × Value → H} {W : World} {v : Value} {d : DataW H} {ps : List MemPlace}
theorem opn_names {base : Nat} (hval : Value.okWide Try.prog W .any base 38 v) (h : DataW.Trod enc Try.prog W 0 (fun _ => true) true 38 v d ps) :
    ∃ A n c, ∃ fs : List Nm, v = .slice A n c ∧ RdN W W.heap.size A n fs ∧ n ≤ c ∧ c ≤ maxLen ∧ ∀ f ∈ fs, f.1.length ≤ maxLen ∧ f.2.length ≤ maxLen := by
  refine opn_rowR (en := nmC) (k := 2) (ok := fun f : Nm => f.1.length ≤ maxLen ∧ f.2.length ≤ maxLen) Try.underlying38 (by kernel_rfl) (fun _ => rfl) (by omega) ?_ hval h
  intro b sp hd n cs x hx
  obtain ⟨ns, sa, e, h1, h2⟩ := opn_nm hx
  exact ⟨(ns, sa), e, h1, h2⟩
end
end Go.Proofs.Ytopemhdoccgjmaa
