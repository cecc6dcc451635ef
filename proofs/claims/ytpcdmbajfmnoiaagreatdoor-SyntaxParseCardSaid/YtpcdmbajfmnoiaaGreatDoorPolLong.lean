/- law12's terms: are rows of terms longer than what the law goes through? Condition: the machine's sizes. -/
import Derived.Test.YtpcdmbajfmnoiaaGreatDoorPolTRS
namespace Go.Proofs.YtpcdmbajfmnoiaaGreatDoor
set_option linter.unusedVariables false
set_option linter.unusedSimpArgs false
open Go.RowKit Go.Sort
def tmLong(t:Tm):Bool:=decide (300<t.2.length)
def tsLong(L:List Tm):Bool:=decide (20<L.length)||L.any tmLong
def mxS(l:List UInt8):Prop:=l.length≤9223372036854775807
def mxTs(L:List Tm):Prop:=L.length≤9223372036854775807∧∀t∈L,mxS t.2
end Go.Proofs.YtpcdmbajfmnoiaaGreatDoor
