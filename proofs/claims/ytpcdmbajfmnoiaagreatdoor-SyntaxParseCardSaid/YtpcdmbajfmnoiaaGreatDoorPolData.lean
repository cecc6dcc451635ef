/- Policies as plain things; how they lie in memory. No condition. -/
import Derived.Test.YtpcdmbajfmnoiaaGreatDoorRowRG
import Derived.Test.YtpcdmbajfmnoiaaGreatDoorAddrM
namespace Go.Proofs.YtpcdmbajfmnoiaaGreatDoor
set_option linter.unusedVariables false
set_option linter.unusedSimpArgs false
open Go.RowKit
abbrev Tm:=Int×List UInt8
structure Sr where
 names:List Tm
 spaces:List Tm
 nets:List Nt
instance:DecidableEq Sr:=fun a b=>decidable_of_iff (a.names=b.names∧a.spaces=b.spaces∧a.nets=b.nets) (by cases a;cases b;simp)
structure Tg where
 ports:List Int
 methods:List Tm
 paths:List Tm
 hosts:List Tm
instance:DecidableEq Tg:=fun a b=>decidable_of_iff (a.ports=b.ports∧a.methods=b.methods∧a.paths=b.paths∧a.hosts=b.hosts) (by cases a;cases b;simp)
structure Wn where
 head:List UInt8
 terms:List Tm
instance:DecidableEq Wn:=fun a b=>decidable_of_iff (a.head=b.head∧a.terms=b.terms) (by cases a;cases b;simp)
structure Ru where
 froms:List Sr
 tos:List Tg
 whens:List Wn
instance:DecidableEq Ru:=fun a b=>decidable_of_iff (a.froms=b.froms∧a.tos=b.tos∧a.whens=b.whens) (by cases a;cases b;simp)
structure Po where
 id:Nat
 ns:List UInt8
 service:Nat
 deny:Int
 rules:List Ru
instance:DecidableEq Po:=fun a b=>decidable_of_iff (a.id=b.id∧a.ns=b.ns∧a.service=b.service∧a.deny=b.deny∧a.rules=b.rules) (by cases a;cases b;simp)
def tmC(t:Tm):List Value:=[.int .i64 t.1,.string (strB t.2)]
theorem tmC_len(t:Tm):(tmC t).length=2:=rfl
theorem tmC_one(t:Tm):∀v∈tmC t,v.oneCell'=true:=by
 intro v hv
 simp only[tmC,List.mem_cons,List.mem_nil_iff,or_false] at hv
 rcases hv with rfl|rfl<;>rfl
def inC(x:Int):List Value:=[.int .i64 x]
theorem inC_len(x:Int):(inC x).length=1:=rfl
theorem inC_one(x:Int):∀v∈inC x,v.oneCell'=true:=by
 intro v hv
 simp only[inC,List.mem_cons,List.mem_nil_iff,or_false] at hv
 subst hv
 rfl
def RvR{α:Type}(enc:α→List Value)(k:Nat)(w:World)(B:Nat)(v:Value)(L:List α):Prop:=∃A n c,v=.slice A n c∧n≤c∧c≤maxLen∧RdR enc k w B A n L
theorem RvR.mono{α:Type}{enc:α→List Value}{k:Nat}{w w':World}{B B':Nat}{v:Value}{L:List α}(h:RvR enc k w B v L)(hB:B≤B')(hb:Below B w w'):RvR enc k w' B' v L:=by
 obtain⟨A,n,c,h1,h2,h3,h4⟩:=h
 exact⟨A,n,c,h1,h2,h3,(h4.below hb).more hB⟩
def RvG{α:Type}(k:Nat)(P:World→Nat→List Value→α→Prop)(w:World)(B:Nat)(v:Value)(L:List α):Prop:=∃A n c,v=.slice A n c∧n≤c∧c≤maxLen∧RdG k P w B A n L
theorem RvG.mono{α:Type}{k:Nat}{P:World→Nat→List Value→α→Prop}{w w':World}{B B':Nat}{v:Value}{L:List α}(h:RvG k P w B v L)(hB:B≤B')(hb:Below B w w')(hP:∀cs x,P w B cs x→P w' B' cs x):RvG k P w' B' v L:=by
 obtain⟨A,n,c,h1,h2,h3,h4⟩:=h
 exact⟨A,n,c,h1,h2,h3,h4.mono hB hb hP⟩
abbrev RvT:=RvR tmC 2
abbrev RvN:=RvR ntC 2
abbrev RvI:=RvR inC 1
def SrP(w:World)(B:Nat)(cs:List Value)(s:Sr):Prop:=∃v1 v2 v3,cs=[v1,v2,v3]∧RvT w B v1 s.names∧RvT w B v2 s.spaces∧RvN w B v3 s.nets
def TgP(w:World)(B:Nat)(cs:List Value)(t:Tg):Prop:=∃v1 v2 v3 v4,cs=[v1,v2,v3,v4]∧RvI w B v1 t.ports∧RvT w B v2 t.methods∧RvT w B v3 t.paths∧RvT w B v4 t.hosts
def WnP(w:World)(B:Nat)(cs:List Value)(x:Wn):Prop:=∃v,cs=[.string (strB x.head),v]∧RvT w B v x.terms
abbrev RvS:=RvG 3 SrP
abbrev RvTg:=RvG 4 TgP
abbrev RvW:=RvG 2 WnP
def RuP(w:World)(B:Nat)(cs:List Value)(r:Ru):Prop:=∃v1 v2 v3,cs=[v1,v2,v3]∧RvS w B v1 r.froms∧RvTg w B v2 r.tos∧RvW w B v3 r.whens
abbrev RvRu:=RvG 3 RuP
def PoP(w:World)(B:Nat)(cs:List Value)(p:Po):Prop:=∃v,cs=[.int .u64 (p.id:Int),.string (strB p.ns),.int .u64 (p.service:Int),.int .i64 p.deny,v]∧RvRu w B v p.rules
section
variable {w w':World} {B B':Nat} {cs:List Value}
theorem SrP.mono{s:Sr}(h:SrP w B cs s)(hB:B≤B')(hb:Below B w w'):SrP w' B' cs s:=by
 obtain⟨v1,v2,v3,e,h1,h2,h3⟩:=h
 exact⟨v1,v2,v3,e,h1.mono hB hb,h2.mono hB hb,h3.mono hB hb⟩
theorem TgP.mono{t:Tg}(h:TgP w B cs t)(hB:B≤B')(hb:Below B w w'):TgP w' B' cs t:=by
 obtain⟨v1,v2,v3,v4,e,h1,h2,h3,h4⟩:=h
 exact⟨v1,v2,v3,v4,e,h1.mono hB hb,h2.mono hB hb,h3.mono hB hb,h4.mono hB hb⟩
theorem WnP.mono{x:Wn}(h:WnP w B cs x)(hB:B≤B')(hb:Below B w w'):WnP w' B' cs x:=by
 obtain⟨v,e,h1⟩:=h
 exact⟨v,e,h1.mono hB hb⟩
theorem RvS.mono{v:Value}{L:List Sr}(h:RvS w B v L)(hB:B≤B')(hb:Below B w w'):RvS w' B' v L:=RvG.mono h hB hb fun _ _ h=>h.mono hB hb
theorem RvTg.mono{v:Value}{L:List Tg}(h:RvTg w B v L)(hB:B≤B')(hb:Below B w w'):RvTg w' B' v L:=RvG.mono h hB hb fun _ _ h=>h.mono hB hb
theorem RvW.mono{v:Value}{L:List Wn}(h:RvW w B v L)(hB:B≤B')(hb:Below B w w'):RvW w' B' v L:=RvG.mono h hB hb fun _ _ h=>h.mono hB hb
theorem RuP.mono{r:Ru}(h:RuP w B cs r)(hB:B≤B')(hb:Below B w w'):RuP w' B' cs r:=by
 obtain⟨v1,v2,v3,e,h1,h2,h3⟩:=h
 exact⟨v1,v2,v3,e,RvS.mono h1 hB hb,RvTg.mono h2 hB hb,RvW.mono h3 hB hb⟩
theorem RvRu.mono{v:Value}{L:List Ru}(h:RvRu w B v L)(hB:B≤B')(hb:Below B w w'):RvRu w' B' v L:=RvG.mono h hB hb fun _ _ h=>h.mono hB hb
theorem PoP.mono{p:Po}(h:PoP w B cs p)(hB:B≤B')(hb:Below B w w'):PoP w' B' cs p:=by
 obtain⟨v,e,h1⟩:=h
 exact⟨v,e,RvRu.mono h1 hB hb⟩
end
def chOk(c:UInt8):Bool:= !(decide (c.toNat<33)||(decide (126<c.toNat)||(decide (c.toNat=42)||decide (c.toNat=44))))
def tmMay(t:Tm):Bool:=t.2.all chOk&&(if t.1=4 then t.2.isEmpty else decide (1≤t.1)&&(decide (t.1≤3)&&(decide (1≤t.2.length)&&decide (t.2.length≤64))))
def allMay(L:List Tm):Bool:=decide (L.length≤6)&&L.all tmMay
def rowsMay(R:List (List Tm)):Bool:=R.all allMay
def portMay(n:Int):Bool:=decide (1≤n)&&decide (n≤65535)
def srMay(s:Sr):Bool:=rowsMay [s.names,s.spaces]&&(decide (s.nets.length≤6)&&s.nets.all nMay)
def tgMay(t:Tg):Bool:=rowsMay [t.methods,t.paths,t.hosts]&&((decide (t.ports.length≤6)&&t.ports.all portMay)&&decide (t.ports.Nodup))
def hdOk(c:UInt8):Bool:=[97,98,99,100,101,102,103,104,105,106,107,108,109,110,111,112,113,114,115,116,117,118,119,120,121,122,48,49,50,51,52,53,54,55,56,57,33,35,36,37,38,39,42,43,45,46,94,95,96,124,126].contains c.toNat
def hdMay(s:List UInt8):Bool:=s.all hdOk&&(decide (1≤s.length)&&decide (s.length≤64))
def wnMay(x:Wn):Bool:=hdMay x.head&&(rowsMay [x.terms]&&decide (0<x.terms.length))
def ruMay(r:Ru):Bool:=(decide (r.froms.length≤3)&&r.froms.all srMay)&&((decide (r.tos.length≤3)&&r.tos.all tgMay)&&(decide (r.whens.length≤3)&&r.whens.all wnMay))
end Go.Proofs.YtpcdmbajfmnoiaaGreatDoor
