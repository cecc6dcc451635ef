/- Policies' text, read back: what Parse computes, plain, and its laws. No condition. Policies' text, read back: what is printed is read; a line that is not there; bounds. Plain, no condition. The document's numbers and cuts, as plain things. No condition. Policies' text, read back: bounds of what has been read. Plain, no condition. -/
import Derived.Test.YtpcdmbajfmnoiaaGreatDoorSynPrAll
import Derived.Lib.ParseIntBCases
import Derived.Test.YtpcdmbajfmnoiaaGreatDoorAddrTx
namespace Go.Proofs.YtpcdmbajfmnoiaaGreatDoor
set_option linter.unusedVariables false
set_option linter.unusedSimpArgs false
open Go.RowKit
def tmStar(l:List UInt8):Tm:=if l=[] then (4,[]) else (3,l)
def tmOf(l:List UInt8):Tm:=if l.head?=some 42 then tmStar l.tail else if l.getLast?=some 42 then (2,l.dropLast) else (1,l)
def readTm(l:List UInt8):Option Tm:=if tmMay (tmOf l)=true then some (tmOf l) else none
def readPt(l:List UInt8):Option Int:=if smallS l 65536<0 then none else some (smallS l 65536)
def numO(l:List UInt8):Option Nat:=if decV l<18446744073709551616∧Lib.decDigits (decV l)=l then some (decV l) else none
def mapO{α β:Type}(f:α→Option β):List α→Option (List β)
 | []=>some []
 | x::l=>match f x with
  | none=>none
  | some y=>match mapO f l with
   | none=>none
   | some r=>some (y::r)
def listO{α:Type}(one:List UInt8→Option α):List (List UInt8)→Option (List α×List (List UInt8))
 | []=>none
 | s::r=>if s=[] then none else match mapO one (spl 44 s) with
  | none=>none
  | some L=>some (L,r)
def elemsO{α:Type}(word:List UInt8)(one:List UInt8→Option α):List (List UInt8)→Option (List α×List (List UInt8))
 | []=>some ([],[])
 | w::r=>if w=word then listO one r else some ([],w::r)
def numberO:List (List UInt8)→Option (Nat×List (List UInt8))
 | []=>none
 | s::r=>match numO s with
  | none=>none
  | some n=>some (n,r)
def denyO:List (List UInt8)→Option (Int×List (List UInt8))
 | []=>none
 | s::r=>if s=wDeny then some (1,r) else if s=wAllow then some (0,r) else none
def nsO:List (List UInt8)→Option (List UInt8×List (List UInt8))
 | []=>some ([],[])
 | s::r=>if s=wNs then
   match r with
   | []=>none
   | x::r2=>if x=[] then none else some (x,r2)
  else some ([],s::r)
def svcO:List (List UInt8)→Option (Nat×List (List UInt8))
 | []=>some (0,[])
 | s::r=>if s=wService then
   match numberO r with
   | none=>none
   | some (n,r2)=>if n=0 then none else some (n,r2)
  else some (0,s::r)
def policyO(ws:List (List UInt8)):Option Po :=
 match numberO ws with
 | none=>none
 | some (n,r1)=>match denyO r1 with
  | none=>none
  | some (d,r2)=>match nsO r2 with
   | none=>none
   | some (ns,r3)=>match svcO r3 with
    | none=>none
    | some (sv,r4)=>if r4=[] then some ⟨n,ns,sv,d,[]⟩ else none
def fromO(ws:List (List UInt8)):Option Sr :=
 match elemsO wNames readTm ws with
 | none=>none
 | some (a,r1)=>match elemsO wSpaces readTm r1 with
  | none=>none
  | some (b,r2)=>match elemsO wNets parseNetA r2 with
   | none=>none
   | some (c,r3)=>if r3=[] then some ⟨a,b,c⟩ else none
def toO(ws:List (List UInt8)):Option Tg :=
 match elemsO wPorts readPt ws with
 | none=>none
 | some (a,r1)=>match elemsO wMethods readTm r1 with
  | none=>none
  | some (b,r2)=>match elemsO wPaths readTm r2 with
   | none=>none
   | some (c,r3)=>match elemsO wHosts readTm r3 with
    | none=>none
    | some (d,r4)=>if r4=[] then some ⟨a,b,c,d⟩ else none
def whenO(ws:List (List UInt8)):Option Wn :=
 match ws with
 | []=>none
 | h::r=>if h=[] then none else match elemsO h readTm (h::r) with
  | none=>none
  | some (a,r1)=>if r1=[] then some ⟨h,a⟩ else none
def partO(ws:List (List UInt8))(r:Ru):Option Ru :=
 match ws with
 | []=>none
 | w::ws=>if w=wFrom then (match fromO ws with
   | none=>none
   | some s=>if r.tos.length+r.whens.length=0 then some ⟨r.froms++[s],r.tos,r.whens⟩ else none)
  else if w=wTo then (match toO ws with
   | none=>none
   | some s=>if r.whens.length=0 then some ⟨r.froms,r.tos++[s],r.whens⟩ else none)
  else if w=wWhen then (match whenO ws with
   | none=>none
   | some s=>some ⟨r.froms,r.tos,r.whens++[s]⟩)
  else none
def ru0:Ru:=⟨[],[],[]⟩
def w4:List UInt8:=[32,32,32,32]
def contO(x:List UInt8)(p:Po):Option Po :=
 if w4.isPrefixOf x then (match p.rules.getLast? with
  | none=>none
  | some r=>match partO (spl 32 (x.drop 4)) r with
   | none=>none
   | some r'=>some { p with rules:=p.rules.dropLast++[r'] })
 else if x=wRule then some { p with rules:=p.rules++[ru0] } else none
def wPol7:List UInt8:=[112,111,108,105,99,121,32]
def begP(x:List UInt8):Bool:=wPol7.isPrefixOf x
structure PS where
 l:List Po
 cur:Option (Po×Nat)
def finP(st:PS):Except Nat (List Po) :=
 match st.cur with
 | none=>.ok st.l
 | some (p,f)=>if poMay p=true then .ok (st.l++[p]) else .error f
def stepP(n:Nat)(x:List UInt8)(st:PS):Except Nat PS :=
 if begP x=true then (match finP st with
  | .error e=>.error e
  | .ok l=>match policyO (spl 32 x).tail with
   | none=>.error n
   | some p=>.ok ⟨l,some (p,n)⟩)
 else match st.cur with
  | none=>.error n
  | some (p,f)=>match contO x p with
   | none=>.error n
   | some p'=>.ok ⟨st.l,some (p',f)⟩
def runP:Nat→List (List UInt8)→PS→Except Nat PS
 | _,[],st=>.ok st
 | n,x::xs,st=>match stepP n x st with
  | .error e=>.error e
  | .ok st'=>runP (n+1) xs st'
def parseL(pieces:List (List UInt8)):Except Nat (List Po) :=
 match runP 1 pieces.dropLast ⟨[],none⟩ with
 | .error e=>.error e
 | .ok st=>if pieces.getLast?=some [] then finP st else .error pieces.length
def parseS(s:List UInt8):Except Nat (List Po):=parseL (spl 10 s)
theorem runP_app(xs ys:List (List UInt8)):∀(n:Nat)(st:PS),runP n (xs++ys) st=match runP n xs st with
  | .error e=>.error e
  | .ok st'=>runP (n+xs.length) ys st':=by
 induction xs with
 | nil=>intro n st;rfl
 | cons x xs ih =>
  intro n st
  rw[List.cons_append,runP,runP]
  cases stepP n x st with
  | error e=>rfl
  | ok st' =>
   simp only
   rw[ih,List.length_cons,show n+1+xs.length=n+(xs.length+1) from by omega]
theorem runP_one(n:Nat)(x:List UInt8)(st:PS):runP n [x] st=stepP n x st:=by
 rw[runP]
 cases stepP n x st<;>rfl
theorem last_app{α:Type}{l:List α}{a:α}(h:l.getLast?=some a):l.dropLast++[a]=l:=by
 have hne:l≠[]:=fun e=>by rw[e] at h;cases h
 have e:=List.getLast?_eq_some_getLast hne
 rw[h] at e
 rw[Option.some.inj e]
 exact List.dropLast_concat_getLast hne
theorem tmOf_txt(l:List UInt8)(h:tmMay (tmOf l)=true):tmT (tmOf l)=l:=by
 unfold tmOf at *
 cases l with
 | nil=>revert h;decide
 | cons b l =>
  by_cases h1:b=42
  ·subst h1
   simp only[List.head?_cons,if_pos,List.tail_cons] at h ⊢
   unfold tmStar
   by_cases h2:l=[]
   ·subst h2;rfl
   rw[if_neg h2];rfl
  have e1:¬(b::l).head?=some 42:=by simpa using h1
  rw[if_neg e1]
  by_cases h2:(b::l).getLast?=some 42
  ·rw[if_pos h2]
   show (b::l).dropLast++[42]=b::l
   exact last_app h2
  rw[if_neg h2];rfl
theorem readTm_inv{l:List UInt8}{t:Tm}(h:readTm l=some t):tmT t=l∧tmMay t=true:=by
 unfold readTm at h
 split at h
 ·rename_i h1
  injection h with h
  subst h
  exact⟨tmOf_txt l h1,h1⟩
 cases h
theorem readPt_inv{l:List UInt8}{x:Int}(h:readPt l=some x):Lib.itoa x=l∧0≤x∧x≤65536:=by
 unfold readPt at h
 split at h
 ·cases h
 rename_i h1
 obtain⟨n,e1,e2,e3⟩:=small_inv h1
 rw[e1] at h
 injection h with h
 subst h
 exact⟨e3.symm,by omega,e2⟩
theorem numO_inv{l:List UInt8}{n:Nat}(h:numO l=some n):Lib.decDigits n=l∧n<18446744073709551616:=by
 unfold numO at h
 split at h
 ·rename_i h1
  injection h with h
  subst h
  exact⟨h1.2,h1.1⟩
 cases h
theorem numO_dec{n:Nat}(h:n<18446744073709551616):numO (Lib.decDigits n)=some n:=by
 unfold numO
 rw[decV_dec,if_pos ⟨h,rfl⟩]
theorem mapO_all{α β:Type}{f:α→Option β}{q:β→Prop}(h1:∀s x,f s=some x→q x):∀{l:List α} {L:List β},mapO f l=some L→∀y∈L,q y
 | [],L,h=>by
  injection h with h
  subst h
  intro y hy
  cases hy
 | x::l,L,h=>by
  rw[mapO] at h
  cases hx:f x with
  | none=>rw[hx] at h;cases h
  | some y =>
   rw[hx] at h
   simp only at h
   cases hl:mapO f l with
   | none=>rw[hl] at h;cases h
   | some r =>
    rw[hl] at h
    injection h with h
    subst h
    intro z hz
    rcases List.mem_cons.1 hz with rfl|hz
    ·exact h1 x z hx
    exact mapO_all h1 hl z hz
theorem elemsO_all{α:Type}{word:List UInt8}{one:List UInt8→Option α}{q:α→Prop}(h1:∀s x,one s=some x→q x){ws:List (List UInt8)}{L:List α}{r:List (List UInt8)}(h:elemsO word one ws=some (L,r)):∀x∈L,q x:=by
 cases ws with
 | nil =>
  injection h with h
  injection h with h2 h3
  subst h2
  intro x hx
  cases hx
 | cons w ws =>
  rw[elemsO] at h
  by_cases hw:w=word
  ·rw[if_pos hw] at h
   cases ws with
   | nil=>cases h
   | cons s ws =>
    rw[listO] at h
    by_cases hs:s=[]
    ·rw[if_pos hs] at h;cases h
    rw[if_neg hs] at h
    cases hm:mapO one (spl 44 s) with
    | none=>rw[hm] at h;cases h
    | some M =>
     rw[hm] at h
     injection h with h
     injection h with h2 h3
     subst h2
     exact mapO_all h1 hm
  rw[if_neg hw] at h
  injection h with h
  injection h with h2 h3
  subst h2
  intro x hx
  cases hx
theorem policyO_inv{ws:List (List UInt8)}{p:Po}(h:policyO ws=some p):wPolicy::ws=wordsP p∧p.rules=[]:=by
 unfold policyO at h
 cases h1:numberO ws with
 | none=>rw[h1] at h;cases h
 | some q =>
  obtain⟨n,r1⟩:=q
  rw[h1] at h
  simp only at h
  cases h2:denyO r1 with
  | none=>rw[h2] at h;cases h
  | some q =>
   obtain⟨d,r2⟩:=q
   rw[h2] at h
   simp only at h
   cases h3:nsO r2 with
   | none=>rw[h3] at h;cases h
   | some q =>
    obtain⟨ns,r3⟩:=q
    rw[h3] at h
    simp only at h
    cases h4:svcO r3 with
    | none=>rw[h4] at h;cases h
    | some q =>
     obtain⟨sv,r4⟩:=q
     rw[h4] at h
     simp only at h
     split at h
     ·rename_i hr
      injection h with h
      subst h hr
      refine⟨?_,rfl⟩
      have e1:ws=Lib.decDigits n::r1:=by
       cases ws with
       | nil=>cases h1
       | cons s r =>
        rw[numberO] at h1
        cases hn:numO s with
        | none=>rw[hn] at h1;cases h1
        | some m =>
         rw[hn] at h1
         injection h1 with h1
         injection h1 with h5 h6
         subst h5 h6
         rw[(numO_inv hn).1]
      have e2:r1=(if d=1 then wDeny else wAllow)::r2:=by
       cases r1 with
       | nil=>cases h2
       | cons s r =>
        rw[denyO] at h2
        split at h2
        ·rename_i hs
         injection h2 with h2
         injection h2 with h5 h6
         subst h5 h6 hs
         rfl
        split at h2
        ·rename_i hs
         injection h2 with h2
         injection h2 with h5 h6
         subst h5 h6 hs
         rfl
        cases h2
      have e3:r2=(if ns=[] then [] else [wNs,ns])++r3:=by
       cases r2 with
       | nil =>
        injection h3 with h3
        injection h3 with h5 h6
        subst h5 h6
        rfl
       | cons s r =>
        unfold nsO at h3
        simp only at h3
        split at h3
        ·rename_i hs
         subst hs
         cases r with
         | nil=>cases h3
         | cons x r =>
          simp only at h3
          split at h3
          ·cases h3
          rename_i hx
          injection h3 with h3
          injection h3 with h5 h6
          subst h5 h6
          rw[if_neg hx]
          rfl
        injection h3 with h3
        injection h3 with h5 h6
        subst h5 h6
        rfl
      have e4:r3=(if sv=0 then [] else [wService,Lib.decDigits sv]):=by
       cases r3 with
       | nil =>
        injection h4 with h4
        injection h4 with h5 h6
        subst h5
        rfl
       | cons s r =>
        rw[svcO] at h4
        split at h4
        ·rename_i hs
         subst hs
         cases r with
         | nil=>cases h4
         | cons x r =>
          rw[numberO] at h4
          cases hn:numO x with
          | none=>rw[hn] at h4;cases h4
          | some m =>
           rw[hn] at h4
           simp only at h4
           split at h4
           ·cases h4
           rename_i hm
           injection h4 with h4
           injection h4 with h5 h6
           subst h5 h6
           rw[if_neg hm,(numO_inv hn).1]
        injection h4 with h4
        injection h4 with h5 h6
        cases h6
      rw[e1,e2,e3,e4]
      rfl
     cases h
def decF(acc:Nat)(l:List UInt8):Nat:=l.foldl (fun a b=>a*10+(b.toNat-48)) acc
theorem decF_ge:∀(l:List UInt8)(acc:Nat),acc≤decF acc l
 | [],acc=>Nat.le_refl _
 | b::l,acc=>by
  have:=decF_ge l (acc*10+(b.toNat-48))
  show acc≤decF (acc*10+(b.toNat-48)) l
  omega
def digs(l:List UInt8):Prop:=∀b∈l,48≤b.toNat∧b.toNat≤57
theorem parse10_of:∀(l:List UInt8)(acc:Nat),digs l→decF acc l<18446744073709551616→Lib.parseUint10 acc l=.ok (decF acc l)
 | [],acc,_,_=>rfl
 | b::l,acc,hd,h=>by
  have hb:=hd b (List.mem_cons_self)
  have e:decF acc (b::l)=decF (acc*10+(b.toNat-48)) l:=rfl
  have hg:=decF_ge l (acc*10+(b.toNat-48))
  rw[e] at h ⊢
  rw[Lib.parseUint10,if_pos hb,if_neg (by omega),if_neg (by omega)]
  exact parse10_of l _ (fun x hx=>hd x (List.mem_cons_of_mem _ hx)) h
theorem dec_ne(n:Nat):Lib.decDigits n≠[]:=by
 rw[Lib.decDigits]
 split<;>simp
theorem mag_dec{n:Nat}(h:n<18446744073709551616):Lib.parseMag (Lib.decDigits n)=.ok n:=by
 have e:decF 0 (Lib.decDigits n)=n:=decV_dec n
 unfold Lib.parseMag
 rw[if_neg (dec_ne n),parse10_of _ _ (fun b hb=>dec_digit n b hb) (by rw[e];exact h),e]
theorem numO_eq(l:List UInt8):numO l=match Lib.parseUintB 64 l with
  | .ok u=>if Lib.decDigits u=l then some u else none
  | _=>none:=by
 rw[Lib.parseUintB_64]
 cases h:numO l with
 | some n =>
  obtain⟨h1,h2⟩:=numO_inv h
  rw[←h1,mag_dec h2]
  simp
 | none =>
  cases hm:Lib.parseMag l with
  | ok u =>
   simp only
   split
   ·rename_i hd
    have h1:=Lib.parseMag_lt hm
    rw[←hd,numO_dec h1] at h
    cases h
   rfl
  | _=>rfl
theorem atoi_dec{n:Nat}(h:n<9223372036854775808):Lib.atoiAll (Lib.itoa (n:Int))=.ok (n:Int):=by
 have e:Lib.itoa (n:Int)=Lib.decDigits n:=by
  unfold Lib.itoa
  rw[if_neg (by omega),Int.toNat_natCast]
 rw[e]
 have hm:=mag_dec (n:=n) (by omega)
 have hd:=dec_digit n
 cases hl:Lib.decDigits n with
 | nil=>exact absurd hl (dec_ne n)
 | cons c r =>
  rw[hl] at hm hd
  have hc:=hd c (List.mem_cons_self)
  rw[Lib.atoiAll_plain c r (by omega) (by omega),hm]
  simp only[Lib.signless]
  rw[if_neg (by omega)]
theorem no42{t:Tm}(h:tmMay t=true):(42:UInt8)∉t.2:=by
 unfold tmMay at h
 rw[Bool.and_eq_true] at h
 exact chOk_no h.1 (by decide)
theorem kinds4{t:Tm}(h:tmMay t=true):(t.1=4∧t.2=[])∨((t.1=1∨t.1=2∨t.1=3)∧t.2≠[]):=by
 unfold tmMay at h
 rw[Bool.and_eq_true] at h
 have h2:=h.2
 split at h2
 ·rename_i h4
  exact .inl ⟨h4,by simpa using h2⟩
 simp only[Bool.and_eq_true,decide_eq_true_eq] at h2
 refine .inr ⟨by omega,fun e=>?_⟩
 rw[e] at h2
 simp at h2
theorem tmOf_of{t:Tm}(h:tmMay t=true):tmOf (tmT t)=t:=by
 have h1:=no42 h
 have h2:=kinds4 h
 obtain⟨k,l⟩:=t
 simp only at h1 h2
 have hh:l.head?≠some 42:=fun e=>h1 (List.mem_of_head? e)
 have hg:l.getLast?≠some 42:=fun e=>h1 (List.mem_of_getLast? e)
 rcases h2 with ⟨rfl,rfl⟩|⟨rfl|rfl|rfl,hn⟩
 ·rfl
 ·show tmOf l=_
  unfold tmOf
  rw[if_neg hh,if_neg hg]
 ·show tmOf (l++[42])=_
  unfold tmOf
  have e1:(l++[42]).head?=l.head?:=by
   cases l with
   | nil=>exact absurd rfl hn
   | cons x l=>rfl
  rw[if_neg (by rw[e1];exact hh),if_pos (by simp),List.dropLast_concat]
 show tmOf (42::l)=_
 unfold tmOf
 have e2:(42::l).head?=some (42:UInt8):=rfl
 rw[if_pos e2,List.tail_cons]
 unfold tmStar
 rw[if_neg hn]
theorem readTm_of{t:Tm}(h:tmMay t=true):readTm (tmT t)=some t:=by
 unfold readTm
 rw[tmOf_of h,if_pos h]
theorem readTm_nil:readTm []=none:=by decide
theorem readPt_nil:readPt []=none:=by decide
theorem readNt_nil:parseNetA []=none:=by
 unfold parseNetA
 rw[if_neg (by decide)]
structure okPh(p:Po):Prop where
 ok:okP p
 heads:∀r∈p.rules,∀s∈r.whens,s.head≠[]
 id:p.id<18446744073709551616
 service:p.service<18446744073709551616
 may:poMay p=true
def numBad(c:UInt8)(n most:Nat):Bool:=decide (c.toNat<48)||(decide (57<c.toNat)||decide (most<n))
def numS(most:Nat):List UInt8→Nat→Option Nat
 | [],n=>some n
 | c::r,n=>if numBad c n most=true then none else numS most r (10*n+(c.toNat-48))
theorem numS_mono{m m':Nat}(h:m≤m'):∀{l:List UInt8} {n x:Nat},numS m l n=some x→numS m' l n=some x
 | [],n,x,e=>e
 | c::r,n,x,e=>by
  unfold numS at e ⊢
  by_cases hb:numBad c n m=true
  ·rw[if_pos hb] at e;cases e
  rw[if_neg hb] at e
  have hb':¬numBad c n m'=true:=by
   unfold numBad at hb ⊢
   simp only[Bool.or_eq_true,decide_eq_true_eq] at hb ⊢
   omega
  rw[if_neg hb']
  exact numS_mono h e
theorem numS_dig:∀v:Fin 256,numS v.val (dig3 v.val) 0=some v.val:=by decide +kernel
theorem numS_itoa{v most:Nat}(h:v<256)(hm:v≤most):numS most (Lib.itoa (v:Int)) 0=some v:=by
 rw[itoa_dig3 (by omega)]
 exact numS_mono hm (numS_dig ⟨v,h⟩)
theorem num_none{l:List UInt8}{most:Nat}(hm:most<256)(h:numS most l 0=none):smallS l most= -1:=by
 by_cases hs:smallS l most<0
 ·have:=smallS_le l most (by omega)
  omega
 obtain⟨n,h1,h2,h3⟩:=small_inv hs
 rw[h3,numS_itoa (by omega) (by omega)] at h
 cases h
theorem num_some{l:List UInt8}{most n:Nat}(hm:most<256)(h:numS most l 0=some n):smallS l most=if n≤most∧Lib.decDigits n=l then (n:Int) else -1:=by
 by_cases hs:smallS l most<0
 ·have h0:=smallS_le l most (by omega)
  rw[if_neg]
  ·omega
  rintro ⟨h1,h2⟩
  have:=small_itoa (n:=n) (most:=most) (by omega) (by omega)
  unfold Lib.itoa at this
  rw[if_neg (by omega),Int.toNat_natCast,h2] at this
  omega
 obtain⟨v,h1,h2,h3⟩:=small_inv hs
 have h4:=numS_itoa (v:=v) (most:=most) (by omega) (by omega)
 rw[←h3,h] at h4
 obtain rfl:n=v:=Option.some.inj h4
 have hd:Lib.decDigits n=l:=by
  rw[h3]
  unfold Lib.itoa
  rw[if_neg (by omega),Int.toNat_natCast]
 rw[if_pos ⟨by omega,hd⟩,h1]
theorem numS_cons{most n:Nat}{l:List UInt8}{i:Nat}(h:i<l.length)(hb:numBad l[i] n most=false):numS most (l.drop i) n=numS most (l.drop (i+1)) (10*n+(l[i].toNat-48)):=by
 rw[List.drop_eq_getElem_cons h]
 show (if numBad l[i] n most=true then none else _)=_
 rw[if_neg (by rw[hb];decide)]
theorem numS_bad{most n:Nat}{l:List UInt8}{i:Nat}(h:i<l.length)(hb:numBad l[i] n most=true):numS most (l.drop i) n=none:=by
 rw[List.drop_eq_getElem_cons h]
 show (if numBad l[i] n most=true then none else _)=_
 rw[if_pos hb]
structure CutAt(c:UInt8)(l:List UInt8)(D:List (List UInt8))(f i:Nat):Prop where
 le:f≤i
 li:i≤l.length
 eq:D++spl c (l.drop f)=spl c l
 no:c∉(l.drop f).take (i-f)
theorem cutAt_start(c:UInt8)(l:List UInt8):CutAt c l [] 0 0:=⟨Nat.le_refl _,Nat.zero_le _,by simp,by simp⟩
theorem cut_piece{l:List UInt8}{f i:Nat}(hf:f≤i)(hi:i<l.length):l.drop f=(l.drop f).take (i-f)++l[i]::l.drop (i+1):=by
 have h:=(List.take_append_drop (i-f) (l.drop f)).symm
 rw[List.drop_drop,show f+(i-f)=i by omega,List.drop_eq_getElem_cons hi] at h
 exact h
theorem cutAt_hit{c:UInt8}{l:List UInt8}{D:List (List UInt8)}{f i:Nat}(h:CutAt c l D f i)(hi:i<l.length)(hc:l[i]=c):CutAt c l (D++[(l.drop f).take (i-f)]) (i+1) (i+1):=by
 refine⟨Nat.le_refl _,hi,?_,by rw[Nat.sub_self];simp⟩
 have e:=cut_piece h.le hi
 rw[hc] at e
 have e2:spl c (l.drop f)=(l.drop f).take (i-f)::spl c (l.drop (i+1)):=by
  conv=>lhs;rw[e]
  exact spl_app _ h.no
 rw[←h.eq,e2]
 simp
theorem cutAt_miss{c:UInt8}{l:List UInt8}{D:List (List UInt8)}{f i:Nat}(h:CutAt c l D f i)(hi:i<l.length)(hc:l[i]≠c):CutAt c l D f (i+1):=by
 refine⟨by have:=h.le;omega,hi,h.eq,?_⟩
 rw[show i+1-f=(i-f)+1 by have:=h.le;omega,List.take_succ_eq_append_getElem (by rw[List.length_drop];have:=h.le;omega),List.mem_append,List.getElem_drop]
 rintro (h1|h1)
 ·exact h.no h1
 rw[List.mem_singleton] at h1
 have e:f+(i-f)=i:=by have:=h.le;omega
 simp only[e] at h1
 exact hc h1.symm
theorem cutAt_end{c:UInt8}{l:List UInt8}{D:List (List UInt8)}{f:Nat}(h:CutAt c l D f l.length):D++[(l.drop f).take (l.length-f)]=spl c l:=by
 have e:(l.drop f).take (l.length-f)=l.drop f:=List.take_of_length_le (by rw[List.length_drop];exact Nat.le_refl _)
 have hn:=h.no
 rw[e] at hn ⊢
 rw[←h.eq,spl_no hn]
theorem spl_len(c:UInt8):∀l:List UInt8,(spl c l).length≤l.length+1
 | []=>by simp[spl]
 | b::l=>by
  have ih:=spl_len c l
  have e:=spl_cons c l
  have h2:(spl c l).length=((spl c l).tail).length+1:=by rw[e];simp
  unfold spl
  split
  ·simp only[List.length_cons];omega
  simp only[List.length_cons];omega
theorem spl_mem_len(c:UInt8)(l:List UInt8):∀x∈spl c l,x.length≤l.length:=by
 induction l with
 | nil=>intro x hx;simp[spl] at hx;subst hx;simp
 | cons b l ih =>
  have e:=spl_cons c l
  intro x hx
  unfold spl at hx
  split at hx
  ·rcases List.mem_cons.1 hx with rfl|h
   ·simp
   have:=ih x h;rw[List.length_cons];omega
  rcases List.mem_cons.1 hx with rfl|h
  ·have:=ih ((spl c l).headD []) (by rw[e];simp)
   rw[List.length_cons,List.length_cons];omega
  have:=ih x (by rw[e];exact List.mem_cons_of_mem _ h)
  rw[List.length_cons];omega
theorem idx_no{c:UInt8}:∀{l:List UInt8},0≤Lib.index l [c]→c∉l.take (Lib.index l [c]).toNat
 | [],h=>by simp[Lib.index] at h
 | b::l,h=>by
  by_cases hb:b=c
  ·subst hb
   rw[idx_eq]
   simp
  rw[idx_ne hb] at h ⊢
  split at h
  ·omega
  rename_i g
  rw[beq_iff_eq] at g
  have hg:=Lib.index_ge l [c]
  rw[if_neg (by rw[beq_iff_eq];exact g)]
  have ih:=idx_no (c:=c) (l:=l) (by omega)
  rw[show (Lib.index l [c]+1).toNat=(Lib.index l [c]).toNat+1 by omega,List.take_succ_cons,List.mem_cons]
  rintro (h1|h1)
  ·exact hb h1.symm
  exact ih h1
theorem idx_none{c:UInt8}:∀{l:List UInt8},¬0≤Lib.index l [c]→c∉l
 | [],h=>by simp
 | b::l,h=>by
  by_cases hb:b=c
  ·subst hb
   rw[idx_eq] at h
   omega
  rw[idx_ne hb] at h
  split at h
  ·rename_i g
   rw[beq_iff_eq] at g
   rw[List.mem_cons]
   rintro (h1|h1)
   ·exact hb h1.symm
   exact idx_none (c:=c) (l:=l) (by omega) h1
  have hg:=Lib.index_ge l [c]
  rename_i g
  rw[beq_iff_eq] at g
  omega
theorem spl_mem{y:List UInt8}(hm:(47:UInt8)∈y):spl 47 y≠[y]:=by
 intro h
 obtain⟨u,v,e⟩:=List.append_of_mem hm
 have:2≤(spl 47 y).length:=by
  clear h hm
  induction y generalizing u v with
  | nil=>simp at e
  | cons b y ih =>
   unfold spl
   split
   ·have:=spl_ne 47 y
    have h2:0<(spl 47 y).length:=by cases hh:spl 47 y with
     | nil=>exact absurd hh this
     | cons _ _=>simp
    rw[List.length_cons];omega
   rename_i hb
   cases u with
   | nil=>injection e with e1 _;exact absurd e1 hb
   | cons b' u =>
    injection e with _ e2
    have:=ih u v e2
    rw[List.length_cons,List.length_tail];omega
 rw[h] at this
 simp at this
theorem parseNet_two{l x y:List UInt8}(h:spl 47 l=[x,y]):parseNetA l=match parseA x with
  | some a=>if nMay (a,smallS y 32)=true then some (a,smallS y 32) else none
  | none=>none:=by
 unfold parseNetA
 by_cases hi:0≤Lib.index l [47]
 ·have e:Lib.cut l [47]=(l.take (Lib.index l [47]).toNat,l.drop ((Lib.index l [47]).toNat+1),true):=by
   unfold Lib.cut;rw[if_pos hi];rfl
  rw[e]
  have h1:=idx_has hi
  have h2:=idx_no hi
  rw[h1,spl_app _ h2] at h
  injection h with h3 h4
  have hno:(47:UInt8)∉l.drop ((Lib.index l [47]).toNat+1):=by
   intro hm
   have hl:=congrArg List.length h4
   obtain⟨u,v,e⟩:=List.append_of_mem hm
   have hj:=join_spl 47 (l.drop ((Lib.index l [47]).toNat+1))
   rw[h4,join_one] at hj
   rw[←hj] at h4
   have:spl 47 y=[y]:=h4
   have hm':(47:UInt8)∈y:=by rw[hj];exact hm
   exact absurd this (spl_mem hm')
  rw[spl_no hno] at h4
  injection h4 with h5 _
  simp only[if_true,h3,h5]
  cases parseA x<;>rfl
 have h2:=idx_none hi
 rw[spl_no h2] at h
 cases h
theorem parseNet_not{l:List UInt8}(h:(spl 47 l).length≠2):parseNetA l=none:=by
 cases hp:parseNetA l with
 | none=>rfl
 | some c =>
  exfalso
  obtain⟨h1,h2,h3⟩:=parseNet_inv hp
  apply h
  obtain⟨h0,hb,_⟩:=(nMay_iff c).1 h2
  rw[←h1]
  unfold printNetA
  rw[if_pos h2,spl_app _ (print_no47 _)]
  have hn:(47:UInt8)∉Lib.itoa c.2:=by
   obtain⟨n,hn⟩:∃n:Nat,c.2=n:=⟨c.2.toNat,by omega⟩
   rw[hn]
   exact itoa_no (by omega) (by decide)
  rw[spl_no hn]
  rfl
def okRuN(n:Nat)(r:Ru):Prop:=(r.froms.length≤n∧∀s∈r.froms,okSr s)∧(r.tos.length≤n∧∀t∈r.tos,okTg t)∧(r.whens.length≤n∧∀x∈r.whens,okWn x)
structure okPoN(n:Nat)(p:Po):Prop where
 id:p.id<18446744073709551616
 ns:okS p.ns
 service:p.service<18446744073709551616
 deny:p.deny=0∨p.deny=1
 len:p.rules.length≤n
 rules:∀r∈p.rules,okRuN n r
theorem okRuN.mono{n m:Nat}{r:Ru}(h:okRuN n r)(hm:n≤m):okRuN m r:=⟨⟨Nat.le_trans h.1.1 hm,h.1.2⟩,⟨Nat.le_trans h.2.1.1 hm,h.2.1.2⟩,⟨Nat.le_trans h.2.2.1 hm,h.2.2.2⟩⟩
theorem okPoN.mono{n m:Nat}{p:Po}(h:okPoN n p)(hm:n≤m):okPoN m p:=⟨h.id,h.ns,h.service,h.deny,Nat.le_trans h.len hm,fun r hr=>(h.rules r hr).mono hm⟩
theorem okPoN.ok{n:Nat}{p:Po}(h:okPoN n p)(hn:n≤1000000):okPo p:=by
 refine⟨h.id,h.ns,h.service,?_,Nat.le_trans h.len hn,fun r hr=>?_⟩
 ·rcases h.deny with e|e<;>rw[e]<;>decide
 obtain⟨h1,h2,h3⟩:=h.rules r hr
 exact⟨⟨Nat.le_trans h1.1 hn,h1.2⟩,⟨Nat.le_trans h2.1 hn,h2.2⟩,⟨Nat.le_trans h3.1 hn,h3.2⟩⟩
theorem mapO_len{α β:Type}{f:α→Option β}:∀{l:List α} {L:List β},mapO f l=some L→L.length=l.length
 | [],L,h=>by
  injection h with h
  subst h
  rfl
 | x::l,L,h=>by
  rw[mapO] at h
  cases hx:f x with
  | none=>rw[hx] at h;cases h
  | some y =>
   rw[hx] at h
   simp only at h
   cases hl:mapO f l with
   | none=>rw[hl] at h;cases h
   | some r =>
    rw[hl] at h
    injection h with h
    subst h
    rw[List.length_cons,List.length_cons,mapO_len hl]
def shortW(B:Nat)(ws:List (List UInt8)):Prop:=∀x∈ws,x.length≤B
theorem elemsO_bd{α:Type}{word:List UInt8}{one:List UInt8→Option α}{B:Nat}{ws:List (List UInt8)}{L:List α}{r:List (List UInt8)}(hw:shortW B ws)(h:elemsO word one ws=some (L,r)):L.length≤B+1∧shortW B r:=by
 cases ws with
 | nil =>
  injection h with h
  injection h with h2 h3
  subst h2 h3
  exact⟨by simp,hw⟩
 | cons w ws =>
  rw[elemsO] at h
  by_cases he:w=word
  ·rw[if_pos he] at h
   cases ws with
   | nil=>cases h
   | cons s ws =>
    rw[listO] at h
    by_cases hs:s=[]
    ·rw[if_pos hs] at h;cases h
    rw[if_neg hs] at h
    cases hm:mapO one (spl 44 s) with
    | none=>rw[hm] at h;cases h
    | some M =>
     rw[hm] at h
     injection h with h
     injection h with h2 h3
     subst h2 h3
     have h1:=hw s (by simp)
     have h4:=spl_len 44 s
     exact⟨by rw[mapO_len hm];omega,fun x hx=>hw x (by simp[hx])⟩
  rw[if_neg he] at h
  injection h with h
  injection h with h2 h3
  subst h2 h3
  exact⟨by simp,hw⟩
theorem readTm_ok{s:List UInt8}{t:Tm}(h:readTm s=some t):okT t:=by
 have h1:=(readTm_inv h).2
 unfold tmMay at h1
 rw[Bool.and_eq_true] at h1
 have h2:=h1.2
 unfold okT okS
 split at h2
 ·rw[List.isEmpty_iff] at h2
  rw[h2];simp
 simp only[Bool.and_eq_true,decide_eq_true_eq] at h2
 omega
theorem parseNet_ok{s:List UInt8}{c:Nt}(h:parseNetA s=some c):okN c:=by
 obtain⟨h1,h2,h3⟩:=parseNet_inv h
 rw[nMay_iff] at h2
 exact⟨h3,by omega,by omega⟩
theorem readPt_ok{s:List UInt8}{x:Int}(h:readPt s=some x): -9223372036854775808≤x∧x≤9223372036854775807:=by
 obtain⟨_,h2,h3⟩:=readPt_inv h
 omega
theorem terms_bd{word:List UInt8}{B:Nat}{ws:List (List UInt8)}{L:List Tm}{r:List (List UInt8)}(hB:B<1000000)(hw:shortW B ws)(h:elemsO word readTm ws=some (L,r)):okTs L∧shortW B r:=by
 obtain⟨h1,h2⟩:=elemsO_bd hw h
 exact⟨⟨by (first|omega|(dsimp only;omega)),elemsO_all (fun s x hx=>readTm_ok hx) h⟩,h2⟩
theorem fromO_ok{B:Nat}{ws:List (List UInt8)}{s:Sr}(hB:B<1000000)(hw:shortW B ws)(h:fromO ws=some s):okSr s:=by
 unfold fromO at h
 cases h1:elemsO wNames readTm ws with
 | none=>rw[h1] at h;cases h
 | some q =>
  obtain⟨a,r1⟩:=q
  rw[h1] at h
  simp only at h
  obtain⟨o1,hw⟩:=terms_bd hB hw h1
  cases h2:elemsO wSpaces readTm r1 with
  | none=>rw[h2] at h;cases h
  | some q =>
   obtain⟨b,r2⟩:=q
   rw[h2] at h
   simp only at h
   obtain⟨o2,hw⟩:=terms_bd hB hw h2
   cases h3:elemsO wNets parseNetA r2 with
   | none=>rw[h3] at h;cases h
   | some q =>
    obtain⟨c,r3⟩:=q
    rw[h3] at h
    simp only at h
    split at h
    ·injection h with h
     subst h
     obtain⟨o3,_⟩:=elemsO_bd hw h3
     exact⟨o1,o2,⟨by (first|omega|(dsimp only;omega)),elemsO_all (fun s x hx=>parseNet_ok hx) h3⟩⟩
    cases h
theorem toO_ok{B:Nat}{ws:List (List UInt8)}{s:Tg}(hB:B<1000000)(hw:shortW B ws)(h:toO ws=some s):okTg s:=by
 unfold toO at h
 cases h1:elemsO wPorts readPt ws with
 | none=>rw[h1] at h;cases h
 | some q =>
  obtain⟨a,r1⟩:=q
  rw[h1] at h
  simp only at h
  obtain⟨o1,hw⟩:=elemsO_bd hw h1
  cases h2:elemsO wMethods readTm r1 with
  | none=>rw[h2] at h;cases h
  | some q =>
   obtain⟨b,r2⟩:=q
   rw[h2] at h
   simp only at h
   obtain⟨o2,hw⟩:=terms_bd hB hw h2
   cases h3:elemsO wPaths readTm r2 with
   | none=>rw[h3] at h;cases h
   | some q =>
    obtain⟨c,r3⟩:=q
    rw[h3] at h
    simp only at h
    obtain⟨o3,hw⟩:=terms_bd hB hw h3
    cases h4:elemsO wHosts readTm r3 with
    | none=>rw[h4] at h;cases h
    | some q =>
     obtain⟨d,r4⟩:=q
     rw[h4] at h
     simp only at h
     split at h
     ·injection h with h
      subst h
      obtain⟨o4,_⟩:=terms_bd hB hw h4
      exact⟨⟨by (first|omega|(dsimp only;omega)),elemsO_all (fun s x hx=>readPt_ok hx) h1⟩,o2,o3,o4⟩
     cases h
theorem whenO_ok{B:Nat}{ws:List (List UInt8)}{s:Wn}(hB:B<1000000)(hw:shortW B ws)(h:whenO ws=some s):okWn s:=by
 unfold whenO at h
 cases ws with
 | nil=>cases h
 | cons k r =>
  simp only at h
  split at h
  ·cases h
  cases h1:elemsO k readTm (k::r) with
  | none=>rw[h1] at h;cases h
  | some q =>
   obtain⟨a,r1⟩:=q
   rw[h1] at h
   simp only at h
   split at h
   ·injection h with h
    subst h
    obtain⟨o1,_⟩:=terms_bd hB hw h1
    have:=hw k (by simp)
    refine⟨?_,o1⟩
    show k.length≤1000000
    omega
   cases h
theorem mem_dropL{α:Type}{a:α}{l:List α}(h:a∈l.dropLast):a∈l:=List.dropLast_subset l h
theorem all_snoc{α:Type}{q:α→Prop}{L:List α}{x:α}(h:∀y∈L,q y)(hx:q x):∀y∈L++[x],q y:=fun y hy=>by
 rcases List.mem_append.1 hy with hy|hy
 ·exact h y hy
 rw[List.mem_singleton.1 hy];exact hx
theorem partO_ok{B n:Nat}{ws:List (List UInt8)}{r r':Ru}(hB:B<1000000)(hw:shortW B ws)(hr:okRuN n r)(h:partO ws r=some r'):okRuN (n+1) r':=by
 unfold partO at h
 cases ws with
 | nil=>cases h
 | cons w ws =>
  have hw':shortW B ws:=fun x hx=>hw x (by simp[hx])
  obtain⟨⟨a1,a2⟩,⟨b1,b2⟩,⟨c1,c2⟩⟩:=hr
  simp only at h
  split at h
  ·cases h1:fromO ws with
   | none=>rw[h1] at h;cases h
   | some s =>
    rw[h1] at h
    simp only at h
    split at h
    ·injection h with h
     subst h
     exact⟨⟨by simp only[List.length_append,List.length_cons,List.length_nil];omega,all_snoc a2 (fromO_ok hB hw' h1)⟩,⟨by (first|omega|(dsimp only;omega)),b2⟩,⟨by (first|omega|(dsimp only;omega)),c2⟩⟩
    cases h
  split at h
  ·cases h1:toO ws with
   | none=>rw[h1] at h;cases h
   | some s =>
    rw[h1] at h
    simp only at h
    split at h
    ·injection h with h
     subst h
     exact⟨⟨by (first|omega|(dsimp only;omega)),a2⟩,⟨by simp only[List.length_append,List.length_cons,List.length_nil];omega,all_snoc b2 (toO_ok hB hw' h1)⟩,⟨by (first|omega|(dsimp only;omega)),c2⟩⟩
    cases h
  split at h
  ·cases h1:whenO ws with
   | none=>rw[h1] at h;cases h
   | some s =>
    rw[h1] at h
    injection h with h
    subst h
    exact⟨⟨by (first|omega|(dsimp only;omega)),a2⟩,⟨by (first|omega|(dsimp only;omega)),b2⟩,⟨by simp only[List.length_append,List.length_cons,List.length_nil];omega,all_snoc c2 (whenO_ok hB hw' h1)⟩⟩
  cases h
theorem short_spl{B:Nat}{c:UInt8}{x:List UInt8}(h:x.length≤B):shortW B (spl c x):=fun y hy=>Nat.le_trans (spl_mem_len c x y hy) h
theorem contO_ok{B n:Nat}{x:List UInt8}{p p':Po}(hB:B<1000000)(hx:x.length≤B)(hp:okPoN n p)(h:contO x p=some p'):okPoN (n+1) p':=by
 obtain⟨a1,a2,a3,a4,a5,a6⟩:=hp
 unfold contO at h
 split at h
 ·cases h1:p.rules.getLast? with
  | none=>rw[h1] at h;cases h
  | some r =>
   rw[h1] at h
   simp only at h
   cases h2:partO (spl 32 (x.drop 4)) r with
   | none=>rw[h2] at h;cases h
   | some r' =>
    rw[h2] at h
    injection h with h
    subst h
    have hr:=a6 r (List.mem_of_getLast? h1)
    have hr':=partO_ok hB (short_spl (by rw[List.length_drop];omega)) hr h2
    refine⟨a1,a2,a3,a4,?_,all_snoc (fun y hy=>(a6 y (mem_dropL hy)).mono (by omega)) hr'⟩
    simp only[List.length_append,List.length_dropLast,List.length_cons,List.length_nil]
    omega
 split at h
 ·injection h with h
  subst h
  refine⟨a1,a2,a3,a4,?_,all_snoc (fun y hy=>(a6 y hy).mono (by omega)) ⟨⟨by simp[ru0],by simp[ru0]⟩,⟨by simp[ru0],by simp[ru0]⟩,⟨by simp[ru0],by simp[ru0]⟩⟩⟩
  simp only[List.length_append,List.length_cons,List.length_nil]
  omega
 cases h
theorem policyO_ok{B:Nat}{ws:List (List UInt8)}{p:Po}(hB:B<1000000)(hw:shortW B ws)(h:policyO ws=some p):okPoN 0 p:=by
 obtain⟨e1,e2⟩:=policyO_inv h
 unfold policyO at h
 cases h1:numberO ws with
 | none=>rw[h1] at h;cases h
 | some q =>
  obtain⟨n,r1⟩:=q
  rw[h1] at h
  simp only at h
  cases h2:denyO r1 with
  | none=>rw[h2] at h;cases h
  | some q =>
   obtain⟨d,r2⟩:=q
   rw[h2] at h
   simp only at h
   cases h3:nsO r2 with
   | none=>rw[h3] at h;cases h
   | some q =>
    obtain⟨ns,r3⟩:=q
    rw[h3] at h
    simp only at h
    cases h4:svcO r3 with
    | none=>rw[h4] at h;cases h
    | some q =>
     obtain⟨sv,r4⟩:=q
     rw[h4] at h
     simp only at h
     split at h
     ·injection h with h
      subst h
      have f1:n<18446744073709551616:=by
       cases ws with
       | nil=>cases h1
       | cons s r =>
        rw[numberO] at h1
        cases hn:numO s with
        | none=>rw[hn] at h1;cases h1
        | some m =>
         rw[hn] at h1
         injection h1 with h1
         injection h1 with h5 h6
         subst h5
         exact (numO_inv hn).2
      have f2:d=0∨d=1:=by
       cases r1 with
       | nil=>cases h2
       | cons s r =>
        rw[denyO] at h2
        split at h2
        ·injection h2 with h2
         injection h2 with h5 h6
         exact .inr h5.symm
        split at h2
        ·injection h2 with h2
         injection h2 with h5 h6
         exact .inl h5.symm
        cases h2
      have f3:okS ns:=by
       show ns.length≤1000000
       by_cases hns:ns=[]
       ·rw[hns];simp
       have hm:ns∈ws:=by
        have:ns∈(wPolicy::ws).tail:=by
         rw[e1]
         show ns∈Lib.decDigits n::(if d=1 then wDeny else wAllow)::((if ns=[] then [] else [wNs,ns])++(if sv=0 then [] else [wService,Lib.decDigits sv]))
         rw[if_neg hns]
         simp
        exact this
       have:=hw ns hm
       omega
      have f4:sv<18446744073709551616:=by
       cases r3 with
       | nil =>
        injection h4 with h4
        injection h4 with h5 h6
        omega
       | cons s r =>
        rw[svcO] at h4
        split at h4
        ·cases r with
         | nil=>cases h4
         | cons x r =>
          rw[numberO] at h4
          cases hn:numO x with
          | none=>rw[hn] at h4;cases h4
          | some m =>
           rw[hn] at h4
           simp only at h4
           split at h4
           ·cases h4
           injection h4 with h4
           injection h4 with h5 h6
           subst h5
           exact (numO_inv hn).2
        injection h4 with h4
        injection h4 with h5 h6
        omega
      exact⟨f1,f3,f4,f2,by simp,by simp⟩
     cases h
structure okPS(n:Nat)(st:PS):Prop where
 all:∀p∈st.l,okPoN n p
 len:st.l.length+(if st.cur=none then 0 else 1)≤n
 cur:∀p f,st.cur=some (p,f)→okPoN n p∧1≤f∧f≤n
theorem okPS0:okPS 0 ⟨[],none⟩:=⟨by simp,by simp,by simp⟩
theorem finP_ok{n:Nat}{st:PS}{L:List Po}(hs:okPS n st)(h:finP st=.ok L):(∀p∈L,okPoN n p)∧L.length≤n:=by
 obtain⟨h1,h2,h3⟩:=hs
 unfold finP at h
 cases hc:st.cur with
 | none =>
  rw[hc] at h h2
  injection h with h
  rw[←h]
  exact⟨h1,by simpa using h2⟩
 | some q =>
  obtain⟨p,f⟩:=q
  rw[hc] at h h2
  simp only at h
  split at h
  ·injection h with h
   rw[←h]
   refine⟨all_snoc h1 (h3 p f hc).1,?_⟩
   simp only[List.length_append,List.length_cons,List.length_nil]
   simpa using h2
  cases h
theorem stepP_ok{B n:Nat}{x:List UInt8}{st st':PS}(hB:B<1000000)(hx:x.length≤B)(hs:okPS n st)(h:stepP (n+1) x st=.ok st'):okPS (n+1) st':=by
 unfold stepP at h
 split at h
 ·cases h1:finP st with
  | error e=>rw[h1] at h;cases h
  | ok l =>
   rw[h1] at h
   simp only at h
   obtain⟨o1,o2⟩:=finP_ok hs h1
   cases h2:policyO (spl 32 x).tail with
   | none=>rw[h2] at h;cases h
   | some p =>
    rw[h2] at h
    injection h with h
    subst h
    refine⟨fun q hq=>(o1 q hq).mono (by omega),by simp;omega,fun q f e=>?_⟩
    injection e with e
    injection e with e3 e4
    subst e3 e4
    exact⟨(policyO_ok hB (fun y hy=>short_spl hx y (List.mem_of_mem_tail hy)) h2).mono (by omega),by omega,by omega⟩
 cases hc:st.cur with
 | none=>rw[hc] at h;cases h
 | some q =>
  obtain⟨p,f⟩:=q
  rw[hc] at h
  simp only at h
  cases h2:contO x p with
  | none=>rw[h2] at h;cases h
  | some p' =>
   rw[h2] at h
   injection h with h
   subst h
   have hl:=hs.len
   rw[hc] at hl
   obtain⟨c1,c2,c3⟩:=hs.cur p f hc
   refine⟨fun q hq=>(hs.all q hq).mono (by omega),by simp at hl ⊢;omega,fun q g e=>?_⟩
   injection e with e
   injection e with e3 e4
   subst e3 e4
   exact⟨contO_ok hB hx c1 h2,c2,by omega⟩
theorem runP_ok{B:Nat}(hB:B<1000000):∀{xs:List (List UInt8)} {n:Nat} {st st':PS},(∀x∈xs,x.length≤B)→okPS n st→runP (n+1) xs st=.ok st'→okPS (n+xs.length) st'
 | [],n,st,st',_,hs,h=>by
  injection h with h
  subst h
  exact hs
 | x::xs,n,st,st',hx,hs,h=>by
  rw[runP] at h
  cases h1:stepP (n+1) x st with
  | error e=>rw[h1] at h;cases h
  | ok st1 =>
   rw[h1] at h
   have:=runP_ok hB (fun y hy=>hx y (List.mem_cons_of_mem _ hy)) (stepP_ok hB (hx x (List.mem_cons_self)) hs h1) h
   rw[List.length_cons,show n+(xs.length+1)=n+1+xs.length from by omega]
   exact this
theorem parse_ok{s:List UInt8}{L:List Po}(hs:s.length<1000000)(h:parseS s=.ok L):(∀p∈L,okPo p)∧L.length≤s.length:=by
 unfold parseS parseL at h
 cases h1:runP 1 (spl 10 s).dropLast ⟨[],none⟩ with
 | error e=>rw[h1] at h;cases h
 | ok st =>
  rw[h1] at h
  simp only at h
  split at h
  ·have hl:=spl_len 10 s
   have h2:=runP_ok (B:=s.length) hs (n:=0) (fun x hx=>spl_mem_len 10 s x (mem_dropL hx)) okPS0 h1
   rw[Nat.zero_add,List.length_dropLast] at h2
   obtain⟨o1,o2⟩:=finP_ok h2 h
   exact⟨fun p hp=>(o1 p hp).ok (by omega),by omega⟩
  cases h
end Go.Proofs.YtpcdmbajfmnoiaaGreatDoor
