/- How the arguments of a law are opened: an unsigned number as a natural number, bytes as a list, a text as a list. No condition. How a law's rule, its policy, is opened: rows of rows. No condition. -/
import Derived.Test.YtpcdmbajfmnoiaaGreatDoorBase
import Derived.ProofKit
import Derived.OpenShut
import Derived.ShutString
import Derived.ChangeOld
import Derived.Test.YtpcdmbajfmnoiaaGreatDoorPolLongR
namespace Go.Proofs.YtpcdmbajfmnoiaaGreatDoor
set_option linter.unusedVariables false
set_option linter.unusedSimpArgs false
open Go.RowKit Go.ChangeShapes Go.WideShapes Go.ChangeAt
open Go.ChangeMaps (open_string shut_string)
section
variable {H:Type} {enc:TypeId×Value→H} {P:Program} {W:World} {base t:Nat} {v:Value} {d:DataW H} {ps:List MemPlace}
theorem opn_str(ht:P.underlying t=some .string)(hval:Value.okWide P W .any base t v)(h:DataW.Trod enc P W 0 (fun _=>true) true t v d ps):∃l:List UInt8,v=.string (strB l)∧l.length≤maxLen:=by
 obtain⟨s,rfl,_,_,hs⟩:=open_string ht hval h
 exact⟨s.data.toList,by rw[strB_data],by rw[Array.length_toList];exact hs⟩
end
def oqSr(s:Sr):Prop:=mxSr s∧∀c∈s.nets,okN c
def oqTg(t:Tg):Prop:=mxTg t∧∀x∈t.ports,-9223372036854775808≤x∧x≤9223372036854775807
def oqRu(r:Ru):Prop:=(r.froms.length≤9223372036854775807∧∀s∈r.froms,oqSr s)∧(r.tos.length≤9223372036854775807∧∀t∈r.tos,oqTg t)∧(r.whens.length≤9223372036854775807∧∀x∈r.whens,mxWn x)
def oqPo(p:Po):Prop:=p.id<18446744073709551616∧mxS p.ns∧p.service<18446744073709551616∧(-9223372036854775808≤p.deny∧p.deny≤9223372036854775807)∧(p.rules.length≤9223372036854775807∧∀r∈p.rules,oqRu r)
theorem any_no{α:Type}{f:α→Bool}{L:List α}(h:L.any f=false):∀x∈L,f x=false:=by
 intro x hx
 rcases hf:f x with _|_
 ·rfl
 rw[←Bool.not_eq_true,List.any_eq_true] at h
 exact absurd ⟨x,hx,hf⟩ h
theorem ts_short{L:List Tm}(h:tsLong L=false):okTs L:=by
 unfold tsLong at h
 rw[Bool.or_eq_false_iff,decide_eq_false_iff_not] at h
 refine⟨by omega,fun t ht=>?_⟩
 have:=any_no h.2 t ht
 unfold tmLong at this
 rw[decide_eq_false_iff_not] at this
 show t.2.length≤1000000
 omega
theorem rows_short{R:List (List Tm)}(h:R.any tsLong=false):∀L∈R,okTs L:=fun L hL=>ts_short (any_no h L hL)
theorem oqRu.ok{r:Ru}(h:oqRu r)(hl:ruLong r=false):okRu r:=by
 unfold ruLong at hl
 simp only[Bool.or_eq_false_iff,decide_eq_false_iff_not] at hl
 obtain⟨⟨l1,l2,l3⟩,a1,a2,a3⟩:=hl
 refine⟨⟨by omega,fun s hs=>?_⟩,⟨by omega,fun t ht=>?_⟩,⟨by omega,fun x hx=>?_⟩⟩
 ·have:=any_no a1 s hs
  unfold srLong at this
  rw[Bool.or_eq_false_iff,decide_eq_false_iff_not] at this
  have hr:=rows_short this.1
  exact⟨hr _ (by simp),hr _ (by simp),by omega,(h.1.2 s hs).2⟩
 ·have:=any_no a2 t ht
  unfold tgLong at this
  rw[Bool.or_eq_false_iff,decide_eq_false_iff_not] at this
  have hr:=rows_short this.1
  exact⟨⟨by omega,(h.2.1.2 t ht).2⟩,hr _ (by simp),hr _ (by simp),hr _ (by simp)⟩
 have:=any_no a3 x hx
 unfold wnLong at this
 rw[Bool.or_eq_false_iff,decide_eq_false_iff_not] at this
 have hr:=rows_short this.1
 exact⟨by show x.head.length≤1000000;omega,hr _ (by simp)⟩
section
variable {H:Type} {enc:TypeId×Value→H} {W:World}
end
end Go.Proofs.YtpcdmbajfmnoiaaGreatDoor
