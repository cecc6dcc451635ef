/- Whether two terms, two nets are one; the document's terms, and Same of nets. Condition: a million at most. Printed by gen_psame.py. -/
import Derived.Test.YtpcdmbajfmnoiaaGreatDoorPolData
import Derived.BigQuiet
import Derived.Laws.StructEq
namespace Go.Proofs.YtpcdmbajfmnoiaaGreatDoor
open Go.RowKit Go.Sort
set_option linter.unusedVariables false
set_option linter.unusedSimpArgs false
end Go.Proofs.YtpcdmbajfmnoiaaGreatDoor
