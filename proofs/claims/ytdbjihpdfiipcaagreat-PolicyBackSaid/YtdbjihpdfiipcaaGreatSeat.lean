/- The seat's own numbers for the types that the proofs name. No condition. -/
import Derived.Test.YtdbjihpdfiipcaaGreatChecked
import Derived.Test.YtdbjihpdfiipcaaGreatBase
namespace Go.Proofs.YtdbjihpdfiipcaaGreat
theorem T23 : ByteTy Tryz.prog 52 5 := ⟨Tryz.underlying52, Tryz.underlying5, by kernel_rfl⟩
end Go.Proofs.YtdbjihpdfiipcaaGreat
