/- The seat's own numbers for the types that the proofs name. No condition. -/
import Derived.Test.YtgefbgjgcjiceaaChecked
import Derived.Test.YtgefbgjgcjiceaaBase
namespace Go.Proofs.Ytgefbgjgcjiceaa
theorem T23 : ByteTy Try.prog 22 5 := ⟨Try.underlying22, Try.underlying5, by kernel_rfl⟩
end Go.Proofs.Ytgefbgjgcjiceaa
