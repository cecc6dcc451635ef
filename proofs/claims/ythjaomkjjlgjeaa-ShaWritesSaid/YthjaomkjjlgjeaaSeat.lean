/- The seat's own numbers for the types that the proofs name. No condition. -/
import Derived.Test.YthjaomkjjlgjeaaChecked
import Derived.Test.YthjaomkjjlgjeaaBase
namespace Go.Proofs.Ythjaomkjjlgjeaa
theorem T23 : ByteTy Try.prog 23 5 := ⟨Try.underlying23, Try.underlying5, by kernel_rfl⟩
end Go.Proofs.Ythjaomkjjlgjeaa
