/- gatepostref12.SameRule: whether two rules are the same. Condition: sizes. Printed by gen_psrule.py. -/
import Derived.Test.YtpcdmbajfmnoiaaGreatDoorPolSame
import Derived.Test.YtpcdmbajfmnoiaaGreatDoorPolTRS
import Derived.BigQuiet
import Derived.Test.YtpcdmbajfmnoiaaGreatDoorOrderT
import Derived.Test.YtpcdmbajfmnoiaaGreatDoorPolLongR
namespace Go.Proofs.YtpcdmbajfmnoiaaGreatDoor
open Go.RowKit Go.Sort
set_option linter.unusedVariables false
set_option linter.unusedSimpArgs false
theorem RdR.inE {w : World} {B n k : Nat} {A : Option Addr} {L : List Int} (h : RdR inC 1 w B A n L) (hk : k < L.length) : ∃ b off, A = some ⟨b, off, none⟩ ∧ b < B ∧ w.cell? ⟨b, off + k, none⟩ = some (.int .i64 L[k]) := by
 obtain ⟨hl, h⟩ := h
 obtain ⟨b, off, h1, h2, h3⟩ := h (by omega)
 have := h3 k hk 0 _ rfl
 rw [Nat.mul_one, Nat.add_zero] at this
 exact ⟨b, off, h1, h2, this⟩
end Go.Proofs.YtpcdmbajfmnoiaaGreatDoor
