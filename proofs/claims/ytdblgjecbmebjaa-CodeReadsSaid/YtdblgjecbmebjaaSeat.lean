/- The seat's own numbers for the types that the proofs name. No condition. -/
import Derived.Test.YtdblgjecbmebjaaChecked
import Derived.Test.YtdblgjecbmebjaaBase
namespace Go.Proofs.Ytdblgjecbmebjaa
theorem T23 : ByteTy Try.prog 28 5 := ⟨Try.underlying28, Try.underlying5, by kernel_rfl⟩
end Go.Proofs.Ytdblgjecbmebjaa
