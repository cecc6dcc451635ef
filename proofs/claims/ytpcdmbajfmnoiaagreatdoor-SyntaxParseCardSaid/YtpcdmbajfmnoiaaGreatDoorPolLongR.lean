/- law12's LongRule. Condition: the machine's sizes. Printed by gen_plong.py. -/
import Derived.Test.YtpcdmbajfmnoiaaGreatDoorPolLong
import Derived.Test.YtpcdmbajfmnoiaaGreatDoorPolTRS
import Derived.Test.YtpcdmbajfmnoiaaGreatDoorOrder
import Derived.BigQuiet
namespace Go.Proofs.YtpcdmbajfmnoiaaGreatDoor
set_option linter.unusedVariables false
set_option linter.unusedSimpArgs false
open Go.RowKit Go.Sort
def CsS:List (Addr×Value)→World→Prop
 | [],_=>True
 | (a,v)::l,u=>u.cell? a=some v∧CsS l u
theorem CsS.below{l:List (Addr×Value)}{u v:World}(h:CsS l u)(hb:Below u.heap.size u v):CsS l v:=by
 induction l with
 | nil=>trivial
 | cons x l ih =>
  obtain⟨a,y⟩:=x
  exact⟨(hb.cell (World.block_lt_of_cell? u _ h.1)).trans h.1,ih h.2⟩
def srLong(s:Sr):Bool:=[s.names,s.spaces].any tsLong||decide (20<s.nets.length)
def tgLong(t:Tg):Bool:=[t.methods,t.paths,t.hosts].any tsLong||decide (20<t.ports.length)
def wnLong(x:Wn):Bool:=[x.terms].any tsLong||decide (300<x.head.length)
def ruLong(r:Ru):Bool:=(decide (12<r.froms.length)||(decide (12<r.tos.length)||decide (12<r.whens.length)))||(r.froms.any srLong||(r.tos.any tgLong||r.whens.any wnLong))
def mxSr(s:Sr):Prop:=mxTs s.names∧mxTs s.spaces∧s.nets.length≤9223372036854775807
def mxTg(t:Tg):Prop:=mxTs t.methods∧mxTs t.paths∧mxTs t.hosts∧t.ports.length≤9223372036854775807
def mxWn(x:Wn):Prop:=mxTs x.terms∧mxS x.head
end Go.Proofs.YtpcdmbajfmnoiaaGreatDoor
