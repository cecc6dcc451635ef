/- Policies' text, plain; unlike rows of policies that may be have unlike texts. No condition. -/
import Derived.Test.YtpcdmbajfmnoiaaGreatDoorPolData
import Derived.Test.YtpcdmbajfmnoiaaGreatDoorAddrTx
import Derived.Test.YtpcdmbajfmnoiaaGreatDoorPolTRS
import Derived.Test.YtpcdmbajfmnoiaaGreatDoorLabel
import Derived.Test.YtpcdmbajfmnoiaaGreatDoorPolPoA
namespace Go.Proofs.YtpcdmbajfmnoiaaGreatDoor
set_option linter.unusedVariables false
set_option linter.unusedSimpArgs false
open Go.RowKit
def wPolicy:List UInt8:=[112,111,108,105,99,121]
def wAllow:List UInt8:=[97,108,108,111,119]
def wDeny:List UInt8:=[100,101,110,121]
def wNs:List UInt8:=[110,115]
def wService:List UInt8:=[115,101,114,118,105,99,101]
def wRule:List UInt8:=[32,32,114,117,108,101]
def wFrom:List UInt8:=[102,114,111,109]
def wTo:List UInt8:=[116,111]
def wWhen:List UInt8:=[119,104,101,110]
def wNames:List UInt8:=[110,97,109,101,115]
def wSpaces:List UInt8:=[115,112,97,99,101,115]
def wNets:List UInt8:=[110,101,116,115]
def wPorts:List UInt8:=[112,111,114,116,115]
def wMethods:List UInt8:=[109,101,116,104,111,100,115]
def wPaths:List UInt8:=[112,97,116,104,115]
def wHosts:List UInt8:=[104,111,115,116,115]
def tmT(t:Tm):List UInt8:=if t.1=1 then t.2 else if t.1=2 then t.2++[42] else if t.1=3 then 42::t.2 else [42]
def wordsP(p:Po):List (List UInt8):=[wPolicy,Lib.decDigits p.id,if p.deny=1 then wDeny else wAllow]++((if p.ns=[] then [] else [wNs,p.ns])++(if p.service=0 then [] else [wService,Lib.decDigits p.service]))
def lineOf(ws:List (List UInt8)):List UInt8:=Lib.join ws [32]
theorem chOk_no{l:List UInt8}(h:l.all chOk=true){c:UInt8}(hc:chOk c=false):c∉l:=fun hm=>by
 have:=List.all_eq_true.1 h c hm
 rw[hc] at this
 cases this
theorem dec_digit(u:Nat):∀b∈Lib.decDigits u,48≤b.toNat∧b.toNat≤57:=by
 induction u using Nat.strongRecOn with
 | ind u ih =>
  intro b hb
  rw[Lib.decDigits] at hb
  split at hb
  ·obtain rfl:b=UInt8.ofNat (48+u):=by simpa using hb
   rw[UInt8.toNat_ofNat']
   omega
  rcases List.mem_append.1 hb with hb|hb
  ·exact ih (u/10) (by omega) b hb
  obtain rfl:b=UInt8.ofNat (48+u%10):=by simpa using hb
  rw[UInt8.toNat_ofNat']
  omega
def decV(l:List UInt8):Nat:=l.foldl (fun a b=>a*10+(b.toNat-48)) 0
theorem decV_dec(u:Nat):decV (Lib.decDigits u)=u:=by
 induction u using Nat.strongRecOn with
 | ind u ih =>
  rw[Lib.decDigits]
  split
  ·show 0*10+((UInt8.ofNat (48+u)).toNat-48)=u
   rw[UInt8.toNat_ofNat']
   omega
  unfold decV
  rw[List.foldl_append]
  have:=ih (u/10) (by omega)
  unfold decV at this
  rw[this]
  show u/10*10+((UInt8.ofNat (48+u%10)).toNat-48)=u
  rw[UInt8.toNat_ofNat']
  omega
theorem dec_inj{u v:Nat}(h:Lib.decDigits u=Lib.decDigits v):u=v:=by rw[←decV_dec u,←decV_dec v,h]
def okTm(L:List Tm):Prop:=∀t∈L,tmMay t=true
def okF(s:Sr):Prop:=okTm s.names∧okTm s.spaces∧∀c∈s.nets,okN c∧nMay c=true
def okG(t:Tg):Prop:=(∀x∈t.ports,portMay x=true)∧okTm t.methods∧okTm t.paths∧okTm t.hosts
def okW(x:Wn):Prop:=x.head.all hdOk=true∧x.terms≠[]∧okTm x.terms
structure Out(c:UInt8):Prop where
 ch:chOk c=false
 n42:c≠42
 n44:c≠44
 lt:c.toNat<46
 n45:c.toNat≠45
 hd:hdOk c=false
def okR(r:Ru):Prop:=(∀s∈r.froms,okF s)∧(∀t∈r.tos,okG t)∧∀x∈r.whens,okW x
structure okP(p:Po):Prop where
 deny:p.deny=0∨p.deny=1
 ns:∀c,Out c→c∉p.ns
 rules:∀r∈p.rules,okR r
end Go.Proofs.YtpcdmbajfmnoiaaGreatDoor
