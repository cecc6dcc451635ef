/- syntax.text's part: what holds between its steps; what it reads and what it should. No condition. syntax.text's part: what its append comes to. No condition. Printed by gen_synpa1.py. syntax.text's part: a line of a rule. Conditions: bounds; the library's variables hold what they should. Printed by gen_synpart.py. syntax.text's part: a line of a rule. Conditions: bounds; the library's variables hold what they should. Printed by gen_synpart.py. syntax.text's part: a line of a rule. Conditions: bounds; the library's variables hold what they should. Printed by gen_synpart.py. -/
import Derived.Test.YtpcdmbajfmnoiaaGreatDoorSynPolAll
namespace Go.Proofs.YtpcdmbajfmnoiaaGreatDoor
set_option linter.unusedVariables false
set_option linter.unusedSimpArgs false
open Go.RowKit
theorem OwnR.offB{α:Type}{enc:α→List Value}{k:Nat}{w w':World}{base e:Nat}{v:Value}{L:List α}{Y:Nat→Prop}(h:OwnR enc k w base e v L)(ho:Off Y w w')(hY:∀b,Y b→b<base∨w.heap.size≤b):OwnR enc k w' base e v L:=by
 refine⟨h.1,?_⟩
 rcases h.2 with hn|⟨g,cap,cur,h1,h2,h3,h4⟩
 ·exact .inl hn
 have hl:=(Array.getElem?_eq_some_iff.1 h3).1
 exact .inr ⟨g,cap,cur,h1,h2,(ho.block g hl fun hy=>by have:=hY g hy;omega).trans h3,h4⟩
section
variable {K X X0:Nat→Bool} {lo bt:Nat} {f:Int} {l:List Po} {p:Po} {lv rv:Value} {M B bw:Nat} {ws ws':List (List UInt8)} {bad bad':Bool} {w0 u u':World}
structure PaS(K X X0:Nat→Bool)(lo bt:Nat)(f:Int)(l:List Po)(p:Po)(lv rv:Value)(M B bw:Nat)(ws:List (List UInt8))(bad:Bool)(w0 u:World):Prop where
 tx:Tx K X u lo bt true f l p lv rv
 wd:Wd u M B bw ws bad
 fr:FrT X0 lo w0 u
 ld:LdW u
 hx:∀b,X b=(X0 b||decide (b=bw))
 x0:X0 bw=false
 lM:lo≤M
 low:7<lo
theorem PaS.los(h:PaS K X X0 lo bt f l p lv rv M B bw ws bad w0 u):lo≤u.heap.size:=by have:=h.wd.lt;have:=h.lM;omega
theorem PaS.mb(h:PaS K X X0 lo bt f l p lv rv M B bw ws bad w0 u):M≤bw∧bw<u.heap.size:=h.wd.lt
theorem PaS.xbw(h:PaS K X X0 lo bt f l p lv rv M B bw ws bad w0 u):X bw=true:=by rw[h.hx];simp
def Kup(K:Nat→Bool)(a b:Nat):Nat→Bool:=fun i=>K i||(decide (a≤i)&&decide (i<b))
theorem Tx.grow(h:Tx K X u lo bt true f l p lv rv)(ho:Off (fun b=>X b=true) u u')(hlo:lo≤u.heap.size):Tx (Kup K u.heap.size u'.heap.size) X u' lo bt true f l p lv rv:=by
 refine h.on ⟨ho,fun b hb=>?_,fun _ _=>rfl,fun b hb hk=>?_,fun b hb hx=>?_⟩ hlo
 ·unfold Kup
  have:decide (u.heap.size≤b)=false:=by simpa using hb
  rw[this];simp
 ·unfold Kup at hk
  simp only[Bool.or_eq_true,Bool.and_eq_true,decide_eq_true_eq] at hk
  rcases hk with hk|hk
  ·have:=(h.q.kk b hk).2.1;omega
  refine⟨hk.2,?_⟩
  cases hx:X b with
  | false=>rfl
  | true=>have:=h.q.xx b hx;omega
 have:=h.q.xx b hx;omega
theorem Tx.words(h:Tx K X u lo bt true f l p lv rv)(ho:Off (fun b=>X b=true) u u')(hlo:lo≤u.heap.size):Tx K X u' lo bt true f l p lv rv :=
 h.on ⟨ho,fun _ _=>rfl,fun _ _=>rfl,fun b hb hk=>by have:=(h.q.kk b hk).2.1;omega,fun b hb hx=>by have:=h.q.xx b hx;omega⟩ hlo
theorem PaS.word(h:PaS K X X0 lo bt f l p lv rv M B bw ws bad w0 u)(hw:Wd u' M B bw ws' bad')(ho:Off (fun k=>k=bw) u u'):PaS K X X0 lo bt f l p lv rv M B bw ws' bad' w0 u':=by
 have hm:=h.mb
 have hlM:=h.lM
 refine⟨h.tx.words (ho.mono fun b _ hb=>by rw[show b=bw from hb];exact h.xbw) h.los,hw,h.fr.trans (FrT.off ho fun b hb hl=>?_),h.ld.below h.low (ho.below (B:=lo) h.los fun k hk=>by omega),h.hx,h.x0,h.lM,h.low⟩
 obtain⟨_,A,n,c,hb2,_⟩:=h.wd
 rw[show b=bw from hb]
 exact⟨by omega,h.x0,_,_,_,hb2⟩
theorem PaS.bads(h:PaS K X X0 lo bt f l p lv rv M B bw ws bad w0 u)(x:Bool):PaS K X X0 lo bt f l p lv rv M B bw ws x w0 (u.setCell ⟨bw,1,none⟩ (.bool x)) :=
 h.word (Blk.wd1 (w':=u) h.wd) ((Off.refl (fun k=>k=bw) u).setCell (p:=⟨bw,1,none⟩) (fun _=>rfl) _)
theorem PaS.later(h:PaS K X X0 lo bt f l p lv rv M B bw ws bad w0 u)(hb:Below u.heap.size u u'):PaS K X X0 lo bt f l p lv rv M B bw ws bad w0 u' :=
 h.word (h.wd.off (Off.of_all hb) fun _ h=>h.elim) ((Off.of_all hb).mono fun _ _ h=>h.elim)
theorem OwnR.rvk{α:Type}{enc:α→List Value}{k base e a:Nat}{w:World}{v:Value}{L:List α}(hk:∀x,(enc x).length=k)(h:OwnR enc k w base e v L)(ha:a≤base):RvR enc k (keepW (Kup K a w.heap.size) w) w.heap.size v L:=by
 obtain⟨A,c,rfl⟩:=OwnR.form (show w.ownsRow base e k v L.length (flatR enc L) from h)
 refine (h.rvm hk).sub (Nat.le_refl _) (Sub.mineKeep fun b hb _ hlt=>⟨?_,rfl⟩)
 unfold Kup
 simp only[Bool.or_eq_true,Bool.and_eq_true,decide_eq_true_eq]
 exact .inr ⟨by omega,hlt⟩
end
def elR{α:Type}(word:List UInt8)(one:List UInt8→Option α)(ws:List (List UInt8))(bad:Bool)(L:List α)(ws':List (List UInt8))(bad':Bool):Prop:=bad'=(bad||(elemsO word one ws).isNone)∧∀L0 r0,elemsO word one ws=some (L0,r0)→L=L0∧ws'=r0
theorem from_rel{ws w1 w2 w3:List (List UInt8)}{L1 L2:List Tm}{L3:List Nt}{c b1 b2 b3:Bool}(h1:elR wNames readTm ws c L1 w1 b1)(h2:elR wSpaces readTm w1 b1 L2 w2 b2)(h3:elR wNets parseNetA w2 b2 L3 w3 b3) :
  (b3|| !w3.isEmpty)=(c||(fromO ws).isNone)∧∀s,fromO ws=some s→s=⟨L1,L2,L3⟩:=by
 obtain⟨rfl,a1⟩:=h1
 obtain⟨rfl,a2⟩:=h2
 obtain⟨rfl,a3⟩:=h3
 unfold fromO
 cases e1:elemsO wNames readTm ws with
 | none=>simp
 | some q =>
  obtain⟨x1,r1⟩:=q
  obtain⟨rfl,rfl⟩:=a1 _ _ e1
  simp only
  cases e2:elemsO wSpaces readTm w1 with
  | none=>simp
  | some q =>
   obtain⟨x2,r2⟩:=q
   obtain⟨rfl,rfl⟩:=a2 _ _ e2
   simp only
   cases e3:elemsO wNets parseNetA w2 with
   | none=>simp
   | some q =>
    obtain⟨x3,r3⟩:=q
    obtain⟨rfl,rfl⟩:=a3 _ _ e3
    simp only
    cases w3 with
    | nil=>rw[if_pos rfl];exact⟨by simp,fun s h=>by injection h with h;exact h.symm⟩
    | cons y z=>rw[if_neg (by simp)];exact⟨by simp,fun s h=>by cases h⟩
theorem to_rel{ws w1 w2 w3 w4:List (List UInt8)}{L1:List Int}{L2 L3 L4:List Tm}{c b1 b2 b3 b4:Bool}(h1:elR wPorts readPt ws c L1 w1 b1)(h2:elR wMethods readTm w1 b1 L2 w2 b2)(h3:elR wPaths readTm w2 b2 L3 w3 b3)(h4:elR wHosts readTm w3 b3 L4 w4 b4) :
  (b4|| !w4.isEmpty)=(c||(toO ws).isNone)∧∀s,toO ws=some s→s=⟨L1,L2,L3,L4⟩:=by
 obtain⟨rfl,a1⟩:=h1
 obtain⟨rfl,a2⟩:=h2
 obtain⟨rfl,a3⟩:=h3
 obtain⟨rfl,a4⟩:=h4
 unfold toO
 cases e1:elemsO wPorts readPt ws with
 | none=>simp
 | some q =>
  obtain⟨x1,r1⟩:=q
  obtain⟨rfl,rfl⟩:=a1 _ _ e1
  simp only
  cases e2:elemsO wMethods readTm w1 with
  | none=>simp
  | some q =>
   obtain⟨x2,r2⟩:=q
   obtain⟨rfl,rfl⟩:=a2 _ _ e2
   simp only
   cases e3:elemsO wPaths readTm w2 with
   | none=>simp
   | some q =>
    obtain⟨x3,r3⟩:=q
    obtain⟨rfl,rfl⟩:=a3 _ _ e3
    simp only
    cases e4:elemsO wHosts readTm w3 with
    | none=>simp
    | some q =>
     obtain⟨x4,r4⟩:=q
     obtain⟨rfl,rfl⟩:=a4 _ _ e4
     simp only
     cases w4 with
     | nil=>rw[if_pos rfl];exact⟨by simp,fun s h=>by injection h with h;exact h.symm⟩
     | cons y z=>rw[if_neg (by simp)];exact⟨by simp,fun s h=>by cases h⟩
theorem when_rel{h:List UInt8}{r w1:List (List UInt8)}{L1:List Tm}{b1:Bool}(h1:elR h readTm (h::r) h.isEmpty L1 w1 b1) :
  (b1|| !w1.isEmpty)=(whenO (h::r)).isNone∧∀s,whenO (h::r)=some s→s=⟨h,L1⟩:=by
 obtain⟨rfl,a1⟩:=h1
 unfold whenO
 simp only
 by_cases he:h=[]
 ·rw[if_pos he]
  subst he
  exact⟨by simp,fun s h=>by cases h⟩
 rw[if_neg he]
 have:h.isEmpty=false:=by simpa using he
 rw[this]
 cases e1:elemsO h readTm (h::r) with
 | none=>exact⟨by simp,fun s h=>by cases h⟩
 | some q =>
  obtain⟨x1,r1⟩:=q
  obtain⟨rfl,rfl⟩:=a1 _ _ e1
  simp only
  cases w1 with
  | nil=>rw[if_pos rfl];exact⟨by simp,fun s h=>by injection h with h;exact h.symm⟩
  | cons y z=>rw[if_neg (by simp)];exact⟨by simp,fun s h=>by cases h⟩
def PartP(X X0:Nat→Bool)(lo bt:Nat)(f:Int)(l:List Po)(p:Po)(R0:List Ru)(r:Ru)(lv rv:Value)(M B bw:Nat)(ws:List (List UInt8))(w:World)(e:Ending)(w':World):Prop :=
 ∃(ws':List (List UInt8)) (b:Bool),e=.returned (.tuple #[])∧(∃A c,Blk w' bw 98 [.slice A ws'.length c,.bool b])∧FrT X0 lo w w'∧(b|| !ws'.isEmpty)=(partO ws r).isNone∧∀r',partO ws r=some r'→∃K',Tx K' X w' lo bt true f l { p with rules:=R0++[r'] } lv rv
theorem part_no{ws:List (List UInt8)}{r:Ru}(h1:isW ws wFrom=false)(h2:isW ws wTo=false)(h3:isW ws wWhen=false):partO ws r=none:=by
 unfold partO
 cases ws with
 | nil=>rfl
 | cons w ws =>
  simp only
  rw[if_neg (fun e=>isW_false h1 (by rw[e];rfl)),if_neg (fun e=>isW_false h2 (by rw[e];rfl)),if_neg (fun e=>isW_false h3 (by rw[e];rfl))]
theorem part_from_rel{ws:List (List UInt8)}{r:Ru}{s0:Sr}{x:Bool}(h1:isW ws wFrom=true)(hr:x=(decide (0<r.tos.length+r.whens.length)||(fromO ws.tail).isNone)∧∀s,fromO ws.tail=some s→s=s0):x=(partO ws r).isNone∧∀r',partO ws r=some r'→r'=⟨r.froms++[s0],r.tos,r.whens⟩:=by
 rw[isW_true h1]
 unfold partO
 simp only
 rw[if_pos trivial,hr.1]
 cases e:fromO ws.tail with
 | none=>simp
 | some s =>
  obtain rfl:=hr.2 s e
  simp only
  by_cases hz:r.tos.length+r.whens.length=0
  ·rw[if_pos hz]
   exact⟨by simp[hz],fun r' h=>by injection h with h;exact h.symm⟩
  rw[if_neg hz]
  exact⟨by simp;omega,fun r' h=>by cases h⟩
theorem part_to_rel{ws:List (List UInt8)}{r:Ru}{s0:Tg}{x:Bool}(h1:isW ws wTo=true)(hr:x=(decide (0<r.whens.length)||(toO ws.tail).isNone)∧∀s,toO ws.tail=some s→s=s0):x=(partO ws r).isNone∧∀r',partO ws r=some r'→r'=⟨r.froms,r.tos++[s0],r.whens⟩:=by
 rw[isW_true h1]
 unfold partO
 simp only
 rw[if_neg (by decide),if_pos trivial,hr.1]
 cases e:toO ws.tail with
 | none=>simp
 | some s =>
  obtain rfl:=hr.2 s e
  simp only
  by_cases hz:r.whens.length=0
  ·rw[if_pos hz]
   exact⟨by simp[hz],fun r' h=>by injection h with h;exact h.symm⟩
  rw[if_neg hz]
  exact⟨by simp;omega,fun r' h=>by cases h⟩
theorem part_when_rel{ws:List (List UInt8)}{r:Ru}{s0:Wn}{x:Bool}(h1:isW ws wWhen=true)(hr:x=(whenO ws.tail).isNone∧∀s,whenO ws.tail=some s→s=s0):x=(partO ws r).isNone∧∀r',partO ws r=some r'→r'=⟨r.froms,r.tos,r.whens++[s0]⟩:=by
 rw[isW_true h1]
 unfold partO
 simp only
 rw[if_neg (by decide),if_neg (by decide),if_pos trivial,hr.1]
 cases e:whenO ws.tail with
 | none=>simp
 | some s =>
  obtain rfl:=hr.2 s e
  exact⟨rfl,fun r' h=>by injection h with h;exact h.symm⟩
theorem part_when0{ws:List (List UInt8)}{r:Ru}(h1:isW ws wWhen=true)(h2:ws.tail=[]):partO ws r=none:=by
 rw[isW_true h1,h2]
 unfold partO
 simp only
 rw[if_neg (by decide),if_neg (by decide),if_pos trivial]
 rfl
theorem Wd.box{w:World}{M B bw:Nat}{ws:List (List UInt8)}{bad:Bool}(h:Wd w M B bw ws bad):∃A c,Blk w bw 98 [.slice A ws.length c,.bool bad]∧ws.length≤c∧c≤maxLen:=by
 obtain⟨_,A,n,c,h1,h2,h3,h4⟩:=h
 obtain rfl:=h4.1
 exact⟨A,c,h1,h2,h3⟩
def PaC(g o:Nat)(v:Value)(bx:Nat)(cs:List Value)(u:World):Prop:=u.cell? ⟨g,o,none⟩=some v∧∀i x,cs[i]?=some x→u.cell? ⟨bx,i,none⟩=some x
theorem PaC.same{g o:Nat}{v:Value}{bx:Nat}{cs:List Value}{u u':World}(h:PaC g o v bx cs u)(h1:u'.heap[g]?=u.heap[g]?)(h2:u'.heap[bx]?=u.heap[bx]?):PaC g o v bx cs u' :=
 ⟨(World.cell?_of_block (a:=⟨g,o,none⟩) h1).trans h.1,fun i x hx=>(World.cell?_of_block (a:=⟨bx,i,none⟩) h2).trans (h.2 i x hx)⟩
theorem PaC.of{g o:Nat}{v:Value}{bx t:Nat}{cs:List Value}{u:World}(h1:u.cell? ⟨g,o,none⟩=some v)(h2:Blk u bx t cs):PaC g o v bx cs u:=⟨h1,fun i x hx=>(h2.cell i).trans hx⟩
def PaT(bw g o2 o3:Nat)(b:Bool)(x2 x3:Value)(u:World):Prop:=u.cell? ⟨bw,1,none⟩=some (.bool b)∧u.cell? ⟨g,o2,none⟩=some x2∧u.cell? ⟨g,o3,none⟩=some x3
theorem wFrom_s:(⟨#[102,114,111,109]⟩:ByteArray)=strB wFrom:=rfl
theorem wTo_s:(⟨#[116,111]⟩:ByteArray)=strB wTo:=rfl
theorem wWhen_s:(⟨#[119,104,101,110]⟩:ByteArray)=strB wWhen:=rfl
theorem wNames_s:(⟨#[110,97,109,101,115]⟩:ByteArray)=strB wNames:=rfl
theorem wSpaces_s:(⟨#[115,112,97,99,101,115]⟩:ByteArray)=strB wSpaces:=rfl
theorem wNets_s:(⟨#[110,101,116,115]⟩:ByteArray)=strB wNets:=rfl
theorem wPorts_s:(⟨#[112,111,114,116,115]⟩:ByteArray)=strB wPorts:=rfl
theorem wMethods_s:(⟨#[109,101,116,104,111,100,115]⟩:ByteArray)=strB wMethods:=rfl
theorem wPaths_s:(⟨#[112,97,116,104,115]⟩:ByteArray)=strB wPaths:=rfl
theorem wHosts_s:(⟨#[104,111,115,116,115]⟩:ByteArray)=strB wHosts:=rfl
theorem OwnR.low{α:Type}{enc:α→List Value}{k:Nat}{w:World}{base b' e:Nat}{v:Value}{L:List α}(h:OwnR enc k w base e v L)(hb:b'≤base):OwnR enc k w b' e v L:=by
 refine⟨h.1,?_⟩
 rcases h.2 with hn|⟨g,cap,cur,h1,h2,h3,h4⟩
 ·exact .inl hn
 exact .inr ⟨g,cap,cur,h1,Nat.le_trans hb h2,h3,h4⟩
theorem OwnR.offT{α:Type}{enc:α→List Value}{k:Nat}{w w':World}{base e bx T:Nat}{cs:List Value}{v:Value}{L:List α}(h:OwnR enc k w base e v L)(hb:Blk w bx T cs)(hT:T≠e)(ho:Off (fun b=>b=bx) w w'):OwnR enc k w' base e v L:=by
 refine⟨h.1,?_⟩
 rcases h.2 with hn|⟨g,cap,cur,h1,h2,h3,h4⟩
 ·exact .inl hn
 have hl:=(Array.getElem?_eq_some_iff.1 h3).1
 exact .inr ⟨g,cap,cur,h1,h2,(ho.block g hl fun hy=>cells_ne hb ⟨_,h3⟩ hT hy.symm).trans h3,h4⟩
theorem OwnR.one{α:Type}{enc:α→List Value}{k:Nat}{w:World}{base e:Nat}{v:Value}{L:List α}(h:OwnR enc k w base e v L):v.oneCell'=true:=by
 obtain⟨A,c,rfl⟩:=OwnR.form (show w.ownsRow base e k v L.length (flatR enc L) from h)
 rfl
def PaC3(g o:Nat)(v:Value)(bx:Nat)(a b c:Value)(u:World):Prop:=u.cell? ⟨g,o,none⟩=some v∧u.cell? ⟨bx,0,none⟩=some a∧u.cell? ⟨bx,1,none⟩=some b∧u.cell? ⟨bx,2,none⟩=some c
def PaC4(g o:Nat)(v:Value)(bx:Nat)(a b c d:Value)(u:World):Prop:=u.cell? ⟨g,o,none⟩=some v∧u.cell? ⟨bx,0,none⟩=some a∧u.cell? ⟨bx,1,none⟩=some b∧u.cell? ⟨bx,2,none⟩=some c∧u.cell? ⟨bx,3,none⟩=some d
theorem PaC3.same{g o:Nat}{v:Value}{bx:Nat}{a b c:Value}{u u':World}(h:PaC3 g o v bx a b c u)(h1:u'.heap[g]?=u.heap[g]?)(h2:u'.heap[bx]?=u.heap[bx]?):PaC3 g o v bx a b c u':=by
 have e:∀i,u'.cell? ⟨bx,i,none⟩=u.cell? ⟨bx,i,none⟩:=fun i=>World.cell?_of_block (a:=⟨bx,i,none⟩) h2
 exact⟨(World.cell?_of_block (a:=⟨g,o,none⟩) h1).trans h.1,(e 0).trans h.2.1,(e 1).trans h.2.2.1,(e 2).trans h.2.2.2⟩
theorem PaC4.same{g o:Nat}{v:Value}{bx:Nat}{a b c d:Value}{u u':World}(h:PaC4 g o v bx a b c d u)(h1:u'.heap[g]?=u.heap[g]?)(h2:u'.heap[bx]?=u.heap[bx]?):PaC4 g o v bx a b c d u':=by
 have e:∀i,u'.cell? ⟨bx,i,none⟩=u.cell? ⟨bx,i,none⟩:=fun i=>World.cell?_of_block (a:=⟨bx,i,none⟩) h2
 exact⟨(World.cell?_of_block (a:=⟨g,o,none⟩) h1).trans h.1,(e 0).trans h.2.1,(e 1).trans h.2.2.1,(e 2).trans h.2.2.2.1,(e 3).trans h.2.2.2.2⟩
section
variable {K X X0:Nat→Bool} {lo bt:Nat} {f:Int} {l:List Po} {p:Po} {lv rv:Value} {M B bw:Nat} {ws ws' wsa wsb:List (List UInt8)} {bad ba bb:Bool} {w u0 u:World} {R0:List Ru} {r:Ru} {g cg n:Nat}
structure AddP(X:Nat→Bool)(lo bt:Nat)(f:Int)(l:List Po)(p:Po)(R0:List Ru)(lv rv:Value)(z:Nat)(wx:World)(g o:Nat)(v:Value)(r':Ru)(w':World)(x:Value):Prop where
 grow:wx.grownBy w' v.ownBlock
 own:∀b,v.ownBlock=some b→b≠g∧X b=false∧¬(z≤b∧b<wx.heap.size)
 tx:∃K',Tx K' X (w'.setCell ⟨g,o,none⟩ x) lo bt true f l { p with rules:=R0++[r'] } lv rv
 fr:FrT X lo wx (w'.setCell ⟨g,o,none⟩ x)
theorem PaS.grown(k:PaS K X X0 lo bt f l p lv rv M B bw wsa ba w u0){wx:World}(of:Off (fun b=>b=bw) u0 wx):Tx (Kup K u0.heap.size wx.heap.size) X wx lo bt true f l p lv rv :=
 k.tx.grow (of.mono fun b _ hb=>by rw[show b=bw from hb];exact k.xbw) k.los
theorem kup_not{K:Nat→Bool}{a c b:Nat}(h:Kup K a c b=false):¬(a≤b∧b<c):=by
 intro ⟨h1,h2⟩
 unfold Kup at h
 simp[h1,h2] at h
theorem OwnR.laid0{α:Type}{enc:α→List Value}{k:Nat}{w:World}{base e:Nat}{v:Value}{L:List α}(h:OwnR enc k w base e v L)(o:Obj):OwnR enc k (w.alloc o) base e v L :=
 h.offB (Y:=fun _=>False) ((Off.refl _ w).alloc o) fun _ h=>h.elim
theorem OwnR.laid{α:Type}{enc:α→List Value}{k:Nat}{w:World}{base e:Nat}{v:Value}{L:List α}(h:OwnR enc k w base e v L)(o:Obj):OwnR enc k (w.alloc o).drew base e v L :=
 h.offB (Y:=fun _=>False) ((Off.refl _ w).alloc o).drew fun _ h=>h.elim
theorem add_from{A1:Option Addr}{fl c1:Nat}{x1 x2 x3:Value}{L1:List Tm}{L2:List Tm}{L3:List Nt}(k3:PaS K X X0 lo bt f l p lv (.slice (some ⟨g,0,none⟩) (n+1) cg) M B bw wsa ba w u0)(of:Off (fun b=>b=bw) u0 u)(own1:OwnR tmC 2 u u0.heap.size 42 x1 L1)(own2:OwnR tmC 2 u u0.heap.size 42 x2 L2)(own3:OwnR ntC 2 u u0.heap.size 85 x3 L3)(hR:p.rules=R0++[r])(hn:R0.length=n)(hc:u.cell? ⟨g,n*3,none⟩=some (.slice A1 fl c1))(hg:g<u.heap.size)(hfl:fl<900000)(ty:TypeId) :
  ∃A' c' w',(Builtin.append_ #[47,47] ty #[.slice A1 fl c1,.slice (some ⟨u.heap.size,0,none⟩) 1 1]).run Tryz.prog ((u.alloc (.cells #[x1,x2,x3] 56)).drew)=.ok (.slice A' (fl+1) c') w' ∧
   AddP X lo bt f l p R0 lv (.slice (some ⟨g,0,none⟩) (n+1) cg) u0.heap.size ((u.alloc (.cells #[x1,x2,x3] 56)).drew) g (n*3) (.slice A1 fl c1) ⟨r.froms++[⟨L1,L2,L3⟩],r.tos,r.whens⟩ w' (.slice A' (fl+1) c'):=by
 subst hn
 obtain⟨wx,hwx⟩:∃wx,((u.alloc (.cells #[x1,x2,x3] 56)).drew)=wx:=⟨_,rfl⟩
 have hB:Below u.heap.size u wx:=by rw[←hwx];exact ((Below.refl _ u).alloc (Nat.le_refl _) _).drew
 have of':Off (fun b=>b=bw) u0 wx:=by rw[←hwx];exact (of.alloc _).drew
 have hcell:∀j v,[x1,x2,x3][j]?=some v→wx.cell? ((⟨u.heap.size,0,none⟩:Addr).add j)=some v:=by
  rw[←hwx]
  exact fun j v hv=>new_cells u [x1,x2,x3] 56 j v hv
 have o1:OwnR tmC 2 wx u0.heap.size 42 x1 L1:=by rw[←hwx];exact own1.laid _
 have o2:OwnR tmC 2 wx u0.heap.size 42 x2 L2:=by rw[←hwx];exact own2.laid _
 have o3:OwnR ntC 2 wx u0.heap.size 85 x3 L3:=by rw[←hwx];exact own3.laid _
 rw[hwx]
 have htx:=k3.grown of'
 have hs:SrP (keepW (Kup K u0.heap.size wx.heap.size) wx) wx.heap.size [x1,x2,x3] ⟨L1,L2,L3⟩:=⟨x1,x2,x3,rfl,o1.rvk (fun _=>rfl) (Nat.le_refl _),o2.rvk (fun _=>rfl) (Nat.le_refl _),o3.rvk (fun _=>rfl) (Nat.le_refl _)⟩
 obtain⟨A',c',w',hrun,h1,h2,h3,h4⟩:=htx.addF (Nat.le_trans k3.los of'.size) hR (g:=g) (cg:=cg) rfl (A:=A1) (n:=fl) (c:=c1) ((World.cell?_of_block (a:=⟨g,R0.length*3,none⟩) (hB.block g hg)).trans hc) (s:=⟨L1,L2,L3⟩) (cs:=[x1,x2,x3]) rfl (by
  intro v hv
  simp only[List.mem_cons,List.mem_nil_iff,or_false] at hv
  rcases hv with rfl|rfl|rfl
  ·exact o1.one
  ·exact o2.one
  exact o3.one) (ad:=⟨u.heap.size,0,none⟩) (c9:=1) hcell hs (by omega) ty
 exact⟨A',c',w',hrun,h1,fun b hb=>⟨(h2 b hb).1,(h2 b hb).2.2.1,kup_not (h2 b hb).2.2.2.1⟩,⟨_,h3⟩,h4⟩
theorem add_to{A1:Option Addr}{fl c1:Nat}{x1 x2 x3 x4:Value}{L1:List Int}{L2:List Tm}{L3:List Tm}{L4:List Tm}(k3:PaS K X X0 lo bt f l p lv (.slice (some ⟨g,0,none⟩) (n+1) cg) M B bw wsa ba w u0)(of:Off (fun b=>b=bw) u0 u)(own1:OwnR inC 1 u u0.heap.size 3 x1 L1)(own2:OwnR tmC 2 u u0.heap.size 42 x2 L2)(own3:OwnR tmC 2 u u0.heap.size 42 x3 L3)(own4:OwnR tmC 2 u u0.heap.size 42 x4 L4)(hR:p.rules=R0++[r])(hn:R0.length=n)(hc:u.cell? ⟨g,n*3+1,none⟩=some (.slice A1 fl c1))(hg:g<u.heap.size)(hfl:fl<900000)(ty:TypeId) :
  ∃A' c' w',(Builtin.append_ #[46,46] ty #[.slice A1 fl c1,.slice (some ⟨u.heap.size,0,none⟩) 1 1]).run Tryz.prog ((u.alloc (.cells #[x1,x2,x3,x4] 45)).drew)=.ok (.slice A' (fl+1) c') w' ∧
   AddP X lo bt f l p R0 lv (.slice (some ⟨g,0,none⟩) (n+1) cg) u0.heap.size ((u.alloc (.cells #[x1,x2,x3,x4] 45)).drew) g (n*3+1) (.slice A1 fl c1) ⟨r.froms,r.tos++[⟨L1,L2,L3,L4⟩],r.whens⟩ w' (.slice A' (fl+1) c'):=by
 subst hn
 obtain⟨wx,hwx⟩:∃wx,((u.alloc (.cells #[x1,x2,x3,x4] 45)).drew)=wx:=⟨_,rfl⟩
 have hB:Below u.heap.size u wx:=by rw[←hwx];exact ((Below.refl _ u).alloc (Nat.le_refl _) _).drew
 have of':Off (fun b=>b=bw) u0 wx:=by rw[←hwx];exact (of.alloc _).drew
 have hcell:∀j v,[x1,x2,x3,x4][j]?=some v→wx.cell? ((⟨u.heap.size,0,none⟩:Addr).add j)=some v:=by
  rw[←hwx]
  exact fun j v hv=>new_cells u [x1,x2,x3,x4] 45 j v hv
 have o1:OwnR inC 1 wx u0.heap.size 3 x1 L1:=by rw[←hwx];exact own1.laid _
 have o2:OwnR tmC 2 wx u0.heap.size 42 x2 L2:=by rw[←hwx];exact own2.laid _
 have o3:OwnR tmC 2 wx u0.heap.size 42 x3 L3:=by rw[←hwx];exact own3.laid _
 have o4:OwnR tmC 2 wx u0.heap.size 42 x4 L4:=by rw[←hwx];exact own4.laid _
 rw[hwx]
 have htx:=k3.grown of'
 have hs:TgP (keepW (Kup K u0.heap.size wx.heap.size) wx) wx.heap.size [x1,x2,x3,x4] ⟨L1,L2,L3,L4⟩:=⟨x1,x2,x3,x4,rfl,o1.rvk (fun _=>rfl) (Nat.le_refl _),o2.rvk (fun _=>rfl) (Nat.le_refl _),o3.rvk (fun _=>rfl) (Nat.le_refl _),o4.rvk (fun _=>rfl) (Nat.le_refl _)⟩
 obtain⟨A',c',w',hrun,h1,h2,h3,h4⟩:=htx.addT (Nat.le_trans k3.los of'.size) hR (g:=g) (cg:=cg) rfl (A:=A1) (n:=fl) (c:=c1) ((World.cell?_of_block (a:=⟨g,R0.length*3+1,none⟩) (hB.block g hg)).trans hc) (s:=⟨L1,L2,L3,L4⟩) (cs:=[x1,x2,x3,x4]) rfl (by
  intro v hv
  simp only[List.mem_cons,List.mem_nil_iff,or_false] at hv
  rcases hv with rfl|rfl|rfl|rfl
  ·exact o1.one
  ·exact o2.one
  ·exact o3.one
  exact o4.one) (ad:=⟨u.heap.size,0,none⟩) (c9:=1) hcell hs (by omega) ty
 exact⟨A',c',w',hrun,h1,fun b hb=>⟨(h2 b hb).1,(h2 b hb).2.2.1,kup_not (h2 b hb).2.2.2.1⟩,⟨_,h3⟩,h4⟩
theorem add_when{A1:Option Addr}{fl c1:Nat}{x1:Value}{L1:List Tm}{hd:List UInt8}(k3:PaS K X X0 lo bt f l p lv (.slice (some ⟨g,0,none⟩) (n+1) cg) M B bw wsa ba w u0)(of:Off (fun b=>b=bw) u0 u)(own1:OwnR tmC 2 u u0.heap.size 42 x1 L1)(hR:p.rules=R0++[r])(hn:R0.length=n)(hc:u.cell? ⟨g,n*3+2,none⟩=some (.slice A1 fl c1))(hg:g<u.heap.size)(hfl:fl<900000)(ty:TypeId) :
  ∃A' c' w',(Builtin.append_ #[48,48] ty #[.slice A1 fl c1,.slice (some ⟨u.heap.size,0,none⟩) 1 1]).run Tryz.prog ((u.alloc (.cells #[.string (strB hd),x1] 60)))=.ok (.slice A' (fl+1) c') w' ∧
   AddP X lo bt f l p R0 lv (.slice (some ⟨g,0,none⟩) (n+1) cg) u0.heap.size ((u.alloc (.cells #[.string (strB hd),x1] 60))) g (n*3+2) (.slice A1 fl c1) ⟨r.froms,r.tos,r.whens++[⟨hd,L1⟩]⟩ w' (.slice A' (fl+1) c'):=by
 subst hn
 obtain⟨wx,hwx⟩:∃wx,((u.alloc (.cells #[.string (strB hd),x1] 60)))=wx:=⟨_,rfl⟩
 have hB:Below u.heap.size u wx:=by rw[←hwx];exact ((Below.refl _ u).alloc (Nat.le_refl _) _)
 have of':Off (fun b=>b=bw) u0 wx:=by rw[←hwx];exact (of.alloc _)
 have hcell:∀j v,[.string (strB hd),x1][j]?=some v→wx.cell? ((⟨u.heap.size,0,none⟩:Addr).add j)=some v:=by
  rw[←hwx]
  exact fun j v hv=>new_cells u [.string (strB hd),x1] 60 j v hv
 have o1:OwnR tmC 2 wx u0.heap.size 42 x1 L1:=by rw[←hwx];exact own1.laid0 _
 rw[hwx]
 have htx:=k3.grown of'
 have hs:WnP (keepW (Kup K u0.heap.size wx.heap.size) wx) wx.heap.size [.string (strB hd),x1] ⟨hd,L1⟩:=⟨x1,rfl,o1.rvk (fun _=>rfl) (Nat.le_refl _)⟩
 obtain⟨A',c',w',hrun,h1,h2,h3,h4⟩:=htx.addW (Nat.le_trans k3.los of'.size) hR (g:=g) (cg:=cg) rfl (A:=A1) (n:=fl) (c:=c1) ((World.cell?_of_block (a:=⟨g,R0.length*3+2,none⟩) (hB.block g hg)).trans hc) (s:=⟨hd,L1⟩) (cs:=[.string (strB hd),x1]) rfl (by
  intro v hv
  simp only[List.mem_cons,List.mem_nil_iff,or_false] at hv
  rcases hv with rfl|rfl
  ·rfl
  exact o1.one) (ad:=⟨u.heap.size,0,none⟩) (c9:=1) hcell hs (by omega) ty
 exact⟨A',c',w',hrun,h1,fun b hb=>⟨(h2 b hb).1,(h2 b hb).2.2.1,kup_not (h2 b hb).2.2.2.1⟩,⟨_,h3⟩,h4⟩
theorem part_close(k4:PaS K X X0 lo bt f l p lv rv M B bw ws' ba w u){wx w':World}(hx:Below u.heap.size u wx){z o:Nat}{v x:Value}{r1:Ru}(ha:AddP X lo bt f l p R0 lv rv z wx g o v r1 w' x)(hgb:g≠bw)(hr:(ba|| !ws'.isEmpty)=(partO ws r).isNone∧∀r',partO ws r=some r'→r'=r1) :
  PartP X X0 lo bt f l p R0 r lv rv M B bw ws w (.returned (.tuple #[])) (w'.setCell ⟨g,o,none⟩ x):=by
 obtain⟨A,c,hb,_⟩:=k4.wd.box
 have hlt:=hb.lt
 refine⟨ws',ba,rfl,⟨A,c,?_⟩,?_,hr.1,fun r' h=>by rw[hr.2 r' h];exact ha.tx⟩
 ·refine (Below.heap_setCell w' ⟨g,o,none⟩ x bw (Ne.symm hgb)).trans ((ha.grow.block bw (Nat.lt_of_lt_of_le hlt hx.size) fun e=>?_).trans ((hx.block bw hlt).trans hb))
  have:=(ha.own bw e.symm).2.1
  rw[k4.xbw] at this
  cases this
 refine (k4.fr.trans (FrT.of_below hx)).trans (ha.fr.less fun k _ hk=>?_)
 rw[k4.hx,hk]
 rfl
end
set_option maxRecDepth 100000 in
set_option maxHeartbeats 16000000 in
theorem part_F(K X X0:Nat→Bool)(lo bt:Nat)(f:Int)(l:List Po)(p:Po)(R0:List Ru)(r:Ru)(lv rv:Value)(M B bw:Nat)(ws:List (List UInt8))(w:World)(hp:PaS K X X0 lo bt f l p lv rv M B bw ws false w w)(hR:p.rules=R0++[r])(hl:∀s∈ws,s.length≤1000000)(hbt:bt≠bw)(hBs:B≤w.heap.size)(hM:M≤w.heap.size)(hn:R0.length<900000)(hf:r.froms.length<900000)(ht:r.tos.length<900000)(hw:r.whens.length<900000)
  (h1:isW ws wFrom=true) :
  Calls Tryz.prog 54 #[.pointer (some ⟨bt,0,none⟩),.pointer (some ⟨bw,0,none⟩)] w fun e w'=>PartP X X0 lo bt f l p R0 r lv rv M B bw ws w e w':=by
 obtain⟨g,cg,cur,css,v1,v2,v3,hrv,hcg1,hcg2,hlog,hkg,hgl,gc1,gc2,gc3,_,_,_,_,hru,hsep⟩:=(by have:=hp.tx.rules;rw[hR] at this;exact this:RulesX K X w lo rv (R0++[r])).last
 obtain⟨A1,c1,hv1,_,hcm1⟩:=hru.1.1.form
 obtain⟨A2,c2,hv2,_,hcm2⟩:=hru.2.1.1.form
 obtain⟨A3,c3,hv3,_,hcm3⟩:=hru.2.2.1.form
 obtain⟨n,hnn⟩:∃n,R0.length=n:=⟨_,rfl⟩
 obtain⟨fl,hfl⟩:∃n,r.froms.length=n:=⟨_,rfl⟩
 obtain⟨tl,htl⟩:∃n,r.tos.length=n:=⟨_,rfl⟩
 obtain⟨wl,hwl⟩:∃n,r.whens.length=n:=⟨_,rfl⟩
 rw[hnn] at hrv hcg1 hgl gc1 gc2 gc3 hn
 rw[hfl] at hv1 hf
 rw[htl] at hv2 ht
 rw[hwl] at hv3 hw
 subst hv1 hv2 hv3
 have hXg:X g=false:=(hsep g (by rw[hrv];rfl)).2
 have hgbw:g≠bw:=fun e=>by rw[e,hp.xbw] at hXg;cases hXg
 have HRV:=Lib.hid hrv
 subst hrv
 have hg0:=fun(u:World)(o:Off (fun k=>k=bw) w u)=>hkg.off o hgbw
 have hlow:=hp.low
 have hlM:=hp.lM
 have hMb:=hp.mb
 have hgw:=hkg.lt
 have hS:=BxT.of hp.tx.q.box
 obtain⟨e0,e1,e2,e3,e4,e5,e6,e7⟩:=id hS
 have d0:((n:Int)+1==0)=false:=by rw[beq_eq_false_iff_ne];omega
 have i1:(0:Int)≤(n:Int):=by omega
 have i2:(n:Int)<(n:Int)+1:=by omega
 have hwn:IntKind.i64.wrap (n:Int)=(n:Int):=IntWalk.i64_in _ (by omega)
 have HP:=Lib.hid hp;have HNN:=Lib.hid hnn;have HG:=Lib.hid hg0;have GC1:=Lib.hid gc1;have GC2:=Lib.hid gc2;have GC3:=Lib.hid gc3
 have HB:=Lib.hid hBs;have HFL:=Lib.hid hfl;have HTL:=Lib.hid htl;have HWL:=Lib.hid hwl;have HRR:=Lib.hid hR;have HL:=Lib.hid hl
 have H1:=Lib.hid h1;clear h1
 clear hp hnn hsep hru hg0 gc1 gc2 gc3 hkg hfl htl hwl hR hl
 go_enter Tryz.func54,Tryz.ntmps54
 go_wp2_with fail
 refine wp_region_order (BxT bt lv true (.int .u64 (p.id:Int)) (.string (strB p.ns)) (.int .u64 (p.service:Int)) (.int .i64 p.deny) (.slice (some ⟨g,0,none⟩) (n+1) cg) f) 100 [(0,0),(1,0),(2,0),(3,0),(4,0),(5,0),(6,0),(7,0),(8,0),(9,0),(10,0),(11,0),(12,0),(13,0)] (by kernel_rfl) (by kernel_rfl) ?_
 simp only[pick,List.filterMap_cons,List.filterMap_nil,List.getElem?_cons_zero,List.getElem?_cons_succ,Option.map_some]
 replace hS:BxT bt lv true (.int .u64 (p.id:Int)) (.string (strB p.ns)) (.int .u64 (p.service:Int)) (.int .i64 p.deny) (.slice (some ⟨g,0,none⟩) (n+1) cg) f w.drew:=hS
 iterate 14 (refine wpF_take (v:=?_) hS rfl ?_ (fun _ _ _ h=>h) ?_;rotate_left;(· intro w' hS';obtain⟨e0,e1,e2,e3,e4,e5,e6,e7⟩:=hS';go_simp<;>rfl);go_simp)
 refine wpF_nil ?_
 clear e0 e1 e2 e3 e4 e5 e6 e7 hwn d0 i1 i2 hS
 have k0:=HP.out.later (u':=w.drew) (Below.refl _ w).drew
 have ow0:Off (fun k=>k=bw) w w.drew:=(Off.refl _ w).drew
 go_wp2_with fail
 rw[wFrom_s]
 refine (is_true M B bw false ws wFrom _ k0.wd H1.out).mono ?_
 rintro e w1 ⟨rfl,kw,o⟩
 have k1:=k0.word kw o
 have ow1:=ow0.trans o fun _ _ h=>h
 clear kw o k0 ow0
 have x1:w1.cell? ⟨bw,1,none⟩=some (.bool false):=by obtain⟨A,c,hb,_⟩:=k1.wd.box;exact hb.cell 1
 have x1f:w1.frozen? ⟨bw,1,none⟩=false:=by obtain⟨A,c,hb,_⟩:=k1.wd.box;exact hb.frozen 1
 have x2:w1.cell? ⟨g,n*3+1,none⟩=some (.slice A2 tl c2):=((HG.out w1 ow1).cell _).trans GC2.out
 have x3:w1.cell? ⟨g,n*3+2,none⟩=some (.slice A3 wl c3):=((HG.out w1 ow1).cell _).trans GC3.out
 have hwt:IntKind.i64.wrap ((tl:Int)+(wl:Int))=(tl:Int)+(wl:Int):=IntWalk.i64_in _ (by omega)
 have j1:(0:Int)≤(tl:Int):=by omega
 have j2:(0:Int)≤(wl:Int):=by omega
 have j3:(tl:Int)≤1000000:=by omega
 have j4:(wl:Int)≤1000000:=by omega
 go_wp2_with fail
 refine wp_region_order (PaT bw g (n*3+1) (n*3+2) false (.slice A2 tl c2) (.slice A3 wl c3)) 21 [(0,0),(1,0),(2,0),(3,0),(4,0),(5,0),(6,0),(7,0),(8,0),(9,0),(10,0),(11,0),(12,0),(13,0),(14,0),(15,0),(16,0),(17,0),(18,0),(19,1),(20,0),(21,2)] (by kernel_rfl) (by kernel_rfl) ?_
 simp only[pick,List.filterMap_cons,List.filterMap_nil,List.getElem?_cons_zero,List.getElem?_cons_succ,Option.map_some]
 have hS:PaT bw g (n*3+1) (n*3+2) false (.slice A2 tl c2) (.slice A3 wl c3) w1.drew:=⟨x1,x2,x3⟩
 iterate 19 (refine wpF_take (v:=?_) hS rfl ?_ (fun _ _ _ h=>h) ?_;rotate_left;(· intro w' hS';obtain⟨e0,e1,e2⟩:=hS';go_simp<;>rfl);go_simp)
 refine wpF_only rfl (fun K hK=>?_)
 go_wp2_with fail
 first|refine⟨fun _=>hS,?_⟩|refine⟨hS,?_⟩|skip
 (refine wpF_take (v:=?_) hS rfl ?_ (fun _ _ _ h=>h) ?_;rotate_left;(· intro w' hS';obtain⟨e0,e1,e2⟩:=hS';go_simp<;>rfl);go_simp)
 refine wpF_only rfl (fun K hK=>?_)
 go_wp2_with fail
 first|refine⟨fun h=>absurd h (by decide),wpF_nil ?_⟩|skip
 clear hS x2 x3 x1 x1f
 obtain⟨tb,htb⟩:∃tb,decide ((0:Int)<(tl:Int)+(wl:Int))=tb:=⟨_,rfl⟩
 have HTB:=Lib.hid (show tb=decide (0<r.tos.length+r.whens.length) by rw[←htb];simp only[HTL.out,HWL.out]<;>exact decide_eq_decide.2 (by omega))
 first|rw[htb]|skip
 clear htb j2 j4 hwt j1 j3
 have k2:=(k1.later (u':=w1.drew) (Below.refl _ w1).drew).bads tb
 have ow2:Off (fun k=>k=bw) w (w1.drew.setCell ⟨bw,1,none⟩ (.bool tb)):=(ow1.drew).setCell (p:=⟨bw,1,none⟩) (fun _=>rfl) _
 clear k1 ow1
 go_wp2_with fail
 refine absC (fun u=>PaS K X X0 lo bt f l p lv (.slice (some ⟨g,0,none⟩) (n+1) cg) M B bw ws.tail tb w u∧Off (fun k=>k=bw) w u) ⟨k2,ow2⟩ ?_
 rintro u0 ⟨k3,ow3⟩
 clear k2 ow2
 have hu0:=k3.mb
 have hlo0:=k3.los
 have hlM:=k3.lM
 have hgl0:=k3.low
 have hbwB:=HB.out
 have hu0w:w.heap.size≤u0.heap.size:=ow3.size
 have hl3:∀s∈ws.tail,s.length≤1000000:=fun s hs=>HL.out s (List.mem_of_mem_tail hs)
 rw[wNames_s]
 refine (elT_any M B bw wNames ws.tail tb u0 k3.ld (by omega) (Nat.le_trans hM hu0w) hl3 k3.wd).mono ?_
 rintro e w12 ⟨V1,L1,ws1,rfl,own1,len1,wd1,o1,sub1,rel1⟩
 obtain⟨B1,d1,hV1⟩:=OwnR.form (show w12.ownsRow u0.heap.size 42 2 V1 L1.length (flatR tmC L1) from own1)
 generalize hb1:(tb||(elemsO wNames readTm ws.tail).isNone)=b1 at wd1
 have HR1:=Lib.hid (show elR wNames readTm ws.tail tb L1 ws1 b1 from ⟨hb1.symm,rel1⟩)
 have hl4:∀s∈ws1,s.length≤1000000:=fun s hs=>hl3 s (sub1 s hs)
 clear hb1 rel1 sub1 len1
 subst hV1
 obtain⟨bx,hbx⟩:∃x,w12.heap.size=x:=⟨_,rfl⟩
 have bxl:u0.heap.size≤bx:=by rw[←hbx];exact o1.size
 go_wp2_with fail
 first|rw[hbx]|skip
 refine absC (fun u=>Wd u M B bw ws1 b1∧Off (fun k=>k=bw) u0 u∧Blk u bx 56 [.slice B1 L1.length d1,.slice none 0 0,.slice none 0 0]∧OwnR tmC 2 u u0.heap.size 42 (.slice B1 L1.length d1) L1) ⟨wd1.off (Off.of_all ((Below.refl _ w12).alloc (Nat.le_refl _) _)) (fun _ h=>h.elim),o1.alloc _,Blk.newAt hbx 56 #[.slice B1 L1.length d1,.slice none 0 0,.slice none 0 0],own1.offB (Y:=fun _=>False) ((Off.refl _ w12).alloc _) (fun _ h=>h.elim)⟩ ?_
 rintro u14 ⟨wd1n,of1,kb1,ow_1_1⟩
 clear wd1 o1 own1 hbx
 have ld2:=k3.ld.below (B:=lo) (by omega) (of1.below (B:=lo) (by omega) fun k hk=>by rw[show k=bw from hk];omega)
 rw[wSpaces_s]
 refine (elT_any M B bw wSpaces ws1 b1 u14 ld2 (by omega) (Nat.le_trans hM (Nat.le_trans hu0w of1.size)) hl4 wd1n).mono ?_
 rintro e w22 ⟨V2,L2,ws2,rfl,own2,len2,wd2,o2,sub2,rel2⟩
 replace own2:=own2.low (b':=u0.heap.size) of1.size
 obtain⟨B2,d2,hV2⟩:=OwnR.form (show w22.ownsRow u0.heap.size 42 2 V2 L2.length (flatR tmC L2) from own2)
 generalize hb2:(b1||(elemsO wSpaces readTm ws1).isNone)=b2 at wd2
 have HR2:=Lib.hid (show elR wSpaces readTm ws1 b1 L2 ws2 b2 from ⟨hb2.symm,rel2⟩)
 have hl5:∀s∈ws2,s.length≤1000000:=fun s hs=>hl4 s (sub2 s hs)
 clear hb2 rel2 sub2 len2
 subst hV2
 have hbw2:¬bx=bw:=by omega
 have kb2a:=kb1.off o2 hbw2
 have own2_1:=ow_1_1.offB o2 (fun k hk=>.inl (by rw[show k=bw from hk];exact hu0.2))
 have of2a:=of1.trans o2 fun _ _ h=>h
 have q2c:=kb2a.cell 1
 have q2f:=kb2a.frozen 1
 go_wp2_with fail
 refine absC (fun u=>Wd u M B bw ws2 b2∧Off (fun k=>k=bw) u0 u∧Blk u bx 56 [.slice B1 L1.length d1,.slice B2 L2.length d2,.slice none 0 0]∧OwnR tmC 2 u u0.heap.size 42 (.slice B1 L1.length d1) L1∧OwnR tmC 2 u u0.heap.size 42 (.slice B2 L2.length d2) L2) ⟨wd2.off ((Off.refl (fun k=>k=bx) w22).setCell (p:=⟨bx,1,none⟩) (fun _=>rfl) _) (fun b hb=>.inr ⟨by rw[show b=bx from hb];omega,by rw[show b=bx from hb];exact hbw2⟩),of2a.setCell (p:=⟨bx,1,none⟩) (fun h=>absurd h (Nat.not_lt.2 bxl)) _,kb2a.set 1 _,own2_1.offT kb2a (by decide) ((Off.refl (fun k=>k=bx) w22).setCell (p:=⟨bx,1,none⟩) (fun _=>rfl) _),own2.offT kb2a (by decide) ((Off.refl (fun k=>k=bx) w22).setCell (p:=⟨bx,1,none⟩) (fun _=>rfl) _)⟩ ?_
 rintro u24 ⟨wd2n,of2,kb2,ow_2_1,ow_2_2⟩
 clear wd2 o2 own2 kb2a of2a q2c q2f wd1n kb1 own2_1 ow_1_1
 have ld3:=k3.ld.below (B:=lo) (by omega) (of2.below (B:=lo) (by omega) fun k hk=>by rw[show k=bw from hk];omega)
 rw[wNets_s]
 refine (elN_any M B bw wNets ws2 b2 u24 ld3 (by omega) (Nat.le_trans hM (Nat.le_trans hu0w of2.size)) hl5 wd2n).mono ?_
 rintro e w32 ⟨V3,L3,ws3,rfl,own3,len3,wd3,o3,sub3,rel3⟩
 replace own3:=own3.low (b':=u0.heap.size) of2.size
 obtain⟨B3,d3,hV3⟩:=OwnR.form (show w32.ownsRow u0.heap.size 85 2 V3 L3.length (flatR ntC L3) from own3)
 generalize hb3:(b2||(elemsO wNets parseNetA ws2).isNone)=b3 at wd3
 have HR3:=Lib.hid (show elR wNets parseNetA ws2 b2 L3 ws3 b3 from ⟨hb3.symm,rel3⟩)
 have hl6:∀s∈ws3,s.length≤1000000:=fun s hs=>hl5 s (sub3 s hs)
 clear hb3 rel3 sub3 len3
 subst hV3
 have hbw3:¬bx=bw:=by omega
 have kb3a:=kb2.off o3 hbw3
 have own3_1:=ow_2_1.offB o3 (fun k hk=>.inl (by rw[show k=bw from hk];exact hu0.2))
 have own3_2:=ow_2_2.offB o3 (fun k hk=>.inl (by rw[show k=bw from hk];exact hu0.2))
 have of3a:=of2.trans o3 fun _ _ h=>h
 have q3c:=kb3a.cell 2
 have q3f:=kb3a.frozen 2
 go_wp2_with fail
 refine abs (fun u=>Wd u M B bw ws3 b3∧Off (fun k=>k=bw) u0 u∧Blk u bx 56 [.slice B1 L1.length d1,.slice B2 L2.length d2,.slice B3 L3.length d3]∧OwnR tmC 2 u u0.heap.size 42 (.slice B1 L1.length d1) L1∧OwnR tmC 2 u u0.heap.size 42 (.slice B2 L2.length d2) L2∧OwnR ntC 2 u u0.heap.size 85 (.slice B3 L3.length d3) L3) ⟨wd3.off ((Off.refl (fun k=>k=bx) w32).setCell (p:=⟨bx,2,none⟩) (fun _=>rfl) _) (fun b hb=>.inr ⟨by rw[show b=bx from hb];omega,by rw[show b=bx from hb];exact hbw3⟩),of3a.setCell (p:=⟨bx,2,none⟩) (fun h=>absurd h (Nat.not_lt.2 bxl)) _,kb3a.set 2 _,own3_1.offT kb3a (by decide) ((Off.refl (fun k=>k=bx) w32).setCell (p:=⟨bx,2,none⟩) (fun _=>rfl) _),own3_2.offT kb3a (by decide) ((Off.refl (fun k=>k=bx) w32).setCell (p:=⟨bx,2,none⟩) (fun _=>rfl) _),own3.offT kb3a (by decide) ((Off.refl (fun k=>k=bx) w32).setCell (p:=⟨bx,2,none⟩) (fun _=>rfl) _)⟩ ?_
 rintro u34 ⟨wd3n,of3,kb3,ow_3_1,ow_3_2,ow_3_3⟩
 clear wd3 o3 own3 kb3a of3a q3c q3f wd2n kb2 own3_1 own3_2 ow_2_1 ow_2_2
 have k4:=k3.word wd3n of3
 have hgU:=HG.out u34 (ow3.trans of3 fun _ _ h=>h)
 have x1:u34.cell? ⟨g,n*3,none⟩=some (.slice A1 fl c1):=(hgU.cell _).trans GC1.out
 have hgu:=hgU.lt
 have hbxU:=kb3.lt
 have hS:PaC3 g (n*3) (.slice A1 fl c1) bx (.slice B1 L1.length d1) (.slice B2 L2.length d2) (.slice B3 L3.length d3) u34:=⟨x1,kb3.cell 0,kb3.cell 1,kb3.cell 2⟩
 have hadd:=add_from k3 of3 ow_3_1 ow_3_2 ow_3_3 HRR.out HNN.out x1 hgu (by omega) 47
 obtain⟨A',c',w',hrun,hA⟩:=hadd
 have hx:Below u34.heap.size u34 (u34.alloc (.cells #[.slice B1 L1.length d1,.slice B2 L2.length d2,.slice B3 L3.length d3] 56)).drew:=((Below.refl _ u34).alloc (Nat.le_refl _) _).drew
 have same:∀b,b=g∨b=bx→w'.heap[b]?=(u34.alloc (.cells #[.slice B1 L1.length d1,.slice B2 L2.length d2,.slice B3 L3.length d3] 56)).drew.heap[b]?:=fun b hb=>hA.grow.block b (by rcases hb with rfl|rfl<;>exact Nat.lt_of_lt_of_le (by assumption) hx.size) fun e=>by
  have:=hA.own b e.symm
  rcases hb with rfl|rfl
  ·exact this.1 rfl
  exact this.2.2 ⟨bxl,Nat.lt_of_lt_of_le hbxU hx.size⟩
 have sg:=same g (.inl rfl)
 have sb:=same bx (.inr rfl)
 have sg':w'.heap[g]?=u34.heap[g]?:=sg.trans (hx.block g hgu)
 have hgW:Blk w' g _ _:=sg'.trans hgU
 have xg:=(hgW.cell (n*3)).trans GC1.out
 have xf:=hgW.frozen (n*3)
 have hfin:=part_close (r:=r) k4 hx (o:=n*3) hA hgbw (part_from_rel H1.out (by have:=from_rel HR1.out HR2.out HR3.out;rwa [HTB.out] at this))
 have HFIN:=Lib.hid hfin
 have S1:PaC3 g (n*3) (.slice A1 fl c1) bx (.slice B1 L1.length d1) (.slice B2 L2.length d2) (.slice B3 L3.length d3) (u34.alloc (.cells #[.slice B1 L1.length d1,.slice B2 L2.length d2,.slice B3 L3.length d3] 56)).drew:=hS.same (hx.block g hgu) (hx.block bx hbxU)
 have S2:PaC3 g (n*3) (.slice A1 fl c1) bx (.slice B1 L1.length d1) (.slice B2 L2.length d2) (.slice B3 L3.length d3) w':=S1.same sg sb
 clear k4 hgU hA hx same sg sb sg' hgW hfin k3 of3 ow_3_1 ow_3_2 ow_3_3 kb3 wd3n ow3 x1
 obtain⟨e0,e1,e2,e3⟩:=id hS
 refine wp_region_order (PaC3 g (n*3) (.slice A1 fl c1) bx (.slice B1 L1.length d1) (.slice B2 L2.length d2) (.slice B3 L3.length d3)) 10 [(0,0),(1,0),(2,0),(3,0),(4,0),(5,0),(6,1),(7,1),(8,1),(9,0),(10,2)] (by kernel_rfl) (by kernel_rfl) ?_
 simp only[pick,List.filterMap_cons,List.filterMap_nil,List.getElem?_cons_zero,List.getElem?_cons_succ,Option.map_some]
 replace hS:PaC3 g (n*3) (.slice A1 fl c1) bx (.slice B1 L1.length d1) (.slice B2 L2.length d2) (.slice B3 L3.length d3) u34.drew:=hS
 iterate 6 (refine wpF_take (v:=?_) hS rfl ?_ (fun _ _ _ h=>h) ?_;rotate_left;(· intro w' hS';obtain⟨e0,e1,e2,e3⟩:=hS';go_simp<;>rfl);go_simp)
 refine wpF_only rfl (fun K hK=>?_)
 go_wp2_with fail
 first|refine⟨S1,?_⟩|skip
 refine wpF_only rfl (fun K hK=>?_)
 refine wp_append_run rfl rfl rfl hrun ?_
 clear hrun
 go_wp2_with fail
 first|refine⟨fun _=>S2,?_⟩|refine⟨S2,?_⟩|skip
 first|(refine wpF_only rfl (fun K hK=>?_);go_wp2_with fail;first|refine⟨fun _=>S2,?_⟩|refine⟨S2,?_⟩|skip)|skip
 clear hS S1 e0 e1 e2 e3
 (refine wpF_take (v:=?_) S2 rfl ?_ (fun _ _ _ h=>h) ?_;rotate_left;(· intro w' hS';obtain⟨e0,e1,e2,e3⟩:=hS';go_simp<;>rfl);go_simp)
 refine wpF_only rfl (fun K hK=>?_)
 go_wp2_with fail
 first|refine⟨fun h=>absurd h (by decide),wpF_nil ?_⟩|skip
 go_wp2_with fail
 go_end0
 exact HFIN.out
set_option maxRecDepth 100000 in
set_option maxHeartbeats 16000000 in
theorem part_T(K X X0:Nat→Bool)(lo bt:Nat)(f:Int)(l:List Po)(p:Po)(R0:List Ru)(r:Ru)(lv rv:Value)(M B bw:Nat)(ws:List (List UInt8))(w:World)(hp:PaS K X X0 lo bt f l p lv rv M B bw ws false w w)(hR:p.rules=R0++[r])(hl:∀s∈ws,s.length≤1000000)(hbt:bt≠bw)(hBs:B≤w.heap.size)(hM:M≤w.heap.size)(hn:R0.length<900000)(hf:r.froms.length<900000)(ht:r.tos.length<900000)(hw:r.whens.length<900000)
  (h1:isW ws wFrom=false) (h2:isW ws wTo=true) :
  Calls Tryz.prog 54 #[.pointer (some ⟨bt,0,none⟩),.pointer (some ⟨bw,0,none⟩)] w fun e w'=>PartP X X0 lo bt f l p R0 r lv rv M B bw ws w e w':=by
 obtain⟨g,cg,cur,css,v1,v2,v3,hrv,hcg1,hcg2,hlog,hkg,hgl,gc1,gc2,gc3,_,_,_,_,hru,hsep⟩:=(by have:=hp.tx.rules;rw[hR] at this;exact this:RulesX K X w lo rv (R0++[r])).last
 obtain⟨A1,c1,hv1,_,hcm1⟩:=hru.1.1.form
 obtain⟨A2,c2,hv2,_,hcm2⟩:=hru.2.1.1.form
 obtain⟨A3,c3,hv3,_,hcm3⟩:=hru.2.2.1.form
 obtain⟨n,hnn⟩:∃n,R0.length=n:=⟨_,rfl⟩
 obtain⟨fl,hfl⟩:∃n,r.froms.length=n:=⟨_,rfl⟩
 obtain⟨tl,htl⟩:∃n,r.tos.length=n:=⟨_,rfl⟩
 obtain⟨wl,hwl⟩:∃n,r.whens.length=n:=⟨_,rfl⟩
 rw[hnn] at hrv hcg1 hgl gc1 gc2 gc3 hn
 rw[hfl] at hv1 hf
 rw[htl] at hv2 ht
 rw[hwl] at hv3 hw
 subst hv1 hv2 hv3
 have hXg:X g=false:=(hsep g (by rw[hrv];rfl)).2
 have hgbw:g≠bw:=fun e=>by rw[e,hp.xbw] at hXg;cases hXg
 have HRV:=Lib.hid hrv
 subst hrv
 have hg0:=fun(u:World)(o:Off (fun k=>k=bw) w u)=>hkg.off o hgbw
 have hlow:=hp.low
 have hlM:=hp.lM
 have hMb:=hp.mb
 have hgw:=hkg.lt
 have hS:=BxT.of hp.tx.q.box
 obtain⟨e0,e1,e2,e3,e4,e5,e6,e7⟩:=id hS
 have d0:((n:Int)+1==0)=false:=by rw[beq_eq_false_iff_ne];omega
 have i1:(0:Int)≤(n:Int):=by omega
 have i2:(n:Int)<(n:Int)+1:=by omega
 have hwn:IntKind.i64.wrap (n:Int)=(n:Int):=IntWalk.i64_in _ (by omega)
 have HP:=Lib.hid hp;have HNN:=Lib.hid hnn;have HG:=Lib.hid hg0;have GC1:=Lib.hid gc1;have GC2:=Lib.hid gc2;have GC3:=Lib.hid gc3
 have HB:=Lib.hid hBs;have HFL:=Lib.hid hfl;have HTL:=Lib.hid htl;have HWL:=Lib.hid hwl;have HRR:=Lib.hid hR;have HL:=Lib.hid hl
 have H1:=Lib.hid h1;have H2:=Lib.hid h2;clear h1 h2
 clear hp hnn hsep hru hg0 gc1 gc2 gc3 hkg hfl htl hwl hR hl
 go_enter Tryz.func54,Tryz.ntmps54
 go_wp2_with fail
 refine wp_region_order (BxT bt lv true (.int .u64 (p.id:Int)) (.string (strB p.ns)) (.int .u64 (p.service:Int)) (.int .i64 p.deny) (.slice (some ⟨g,0,none⟩) (n+1) cg) f) 100 [(0,0),(1,0),(2,0),(3,0),(4,0),(5,0),(6,0),(7,0),(8,0),(9,0),(10,0),(11,0),(12,0),(13,0)] (by kernel_rfl) (by kernel_rfl) ?_
 simp only[pick,List.filterMap_cons,List.filterMap_nil,List.getElem?_cons_zero,List.getElem?_cons_succ,Option.map_some]
 replace hS:BxT bt lv true (.int .u64 (p.id:Int)) (.string (strB p.ns)) (.int .u64 (p.service:Int)) (.int .i64 p.deny) (.slice (some ⟨g,0,none⟩) (n+1) cg) f w.drew:=hS
 iterate 14 (refine wpF_take (v:=?_) hS rfl ?_ (fun _ _ _ h=>h) ?_;rotate_left;(· intro w' hS';obtain⟨e0,e1,e2,e3,e4,e5,e6,e7⟩:=hS';go_simp<;>rfl);go_simp)
 refine wpF_nil ?_
 clear e0 e1 e2 e3 e4 e5 e6 e7 hwn d0 i1 i2 hS
 have k0:=HP.out.later (u':=w.drew) (Below.refl _ w).drew
 have ow0:Off (fun k=>k=bw) w w.drew:=(Off.refl _ w).drew
 go_wp2_with fail
 rw[wFrom_s]
 refine (is_false M B bw false ws wFrom _ k0.wd H1.out).mono ?_
 rintro e w9 ⟨rfl,rfl⟩
 go_wp2_with fail
 rw[wTo_s]
 refine (is_true M B bw false ws wTo _ k0.wd H2.out).mono ?_
 rintro e w1 ⟨rfl,kw,o⟩
 have k1:=k0.word kw o
 have ow1:=ow0.trans o fun _ _ h=>h
 clear kw o k0 ow0
 have x1:w1.cell? ⟨bw,1,none⟩=some (.bool false):=by obtain⟨A,c,hb,_⟩:=k1.wd.box;exact hb.cell 1
 have x1f:w1.frozen? ⟨bw,1,none⟩=false:=by obtain⟨A,c,hb,_⟩:=k1.wd.box;exact hb.frozen 1
 have x2:w1.cell? ⟨g,n*3+1,none⟩=some (.slice A2 tl c2):=((HG.out w1 ow1).cell _).trans GC2.out
 have x3:w1.cell? ⟨g,n*3+2,none⟩=some (.slice A3 wl c3):=((HG.out w1 ow1).cell _).trans GC3.out
 have j2:(0:Int)≤(wl:Int):=by omega
 have j4:(wl:Int)≤1000000:=by omega
 go_wp2_with fail
 clear x2 x3 x1 x1f
 obtain⟨tb,htb⟩:∃tb,decide (0<wl)=tb:=⟨_,rfl⟩
 have HTB:=Lib.hid (show tb=decide (0<r.whens.length) by rw[←htb];simp only[HTL.out,HWL.out]<;>exact decide_eq_decide.2 (by omega))
 first|rw[htb]|skip
 clear htb j2 j4
 have k2:=k1.bads tb
 have ow2:Off (fun k=>k=bw) w (w1.setCell ⟨bw,1,none⟩ (.bool tb)):=(ow1).setCell (p:=⟨bw,1,none⟩) (fun _=>rfl) _
 clear k1 ow1
 refine absC (fun u=>PaS K X X0 lo bt f l p lv (.slice (some ⟨g,0,none⟩) (n+1) cg) M B bw ws.tail tb w u∧Off (fun k=>k=bw) w u) ⟨k2,ow2⟩ ?_
 rintro u0 ⟨k3,ow3⟩
 clear k2 ow2
 have hu0:=k3.mb
 have hlo0:=k3.los
 have hlM:=k3.lM
 have hgl0:=k3.low
 have hbwB:=HB.out
 have hu0w:w.heap.size≤u0.heap.size:=ow3.size
 have hl3:∀s∈ws.tail,s.length≤1000000:=fun s hs=>HL.out s (List.mem_of_mem_tail hs)
 rw[wPorts_s]
 refine (elI_any M B bw wPorts ws.tail tb u0 k3.ld (by omega) (Nat.le_trans hM hu0w) hl3 k3.wd).mono ?_
 rintro e w12 ⟨V1,L1,ws1,rfl,own1,len1,wd1,o1,sub1,rel1⟩
 obtain⟨B1,d1,hV1⟩:=OwnR.form (show w12.ownsRow u0.heap.size 3 1 V1 L1.length (flatR inC L1) from own1)
 generalize hb1:(tb||(elemsO wPorts readPt ws.tail).isNone)=b1 at wd1
 have HR1:=Lib.hid (show elR wPorts readPt ws.tail tb L1 ws1 b1 from ⟨hb1.symm,rel1⟩)
 have hl4:∀s∈ws1,s.length≤1000000:=fun s hs=>hl3 s (sub1 s hs)
 clear hb1 rel1 sub1 len1
 subst hV1
 obtain⟨bx,hbx⟩:∃x,w12.heap.size=x:=⟨_,rfl⟩
 have bxl:u0.heap.size≤bx:=by rw[←hbx];exact o1.size
 go_wp2_with fail
 first|rw[hbx]|skip
 refine absC (fun u=>Wd u M B bw ws1 b1∧Off (fun k=>k=bw) u0 u∧Blk u bx 45 [.slice B1 L1.length d1,.slice none 0 0,.slice none 0 0,.slice none 0 0]∧OwnR inC 1 u u0.heap.size 3 (.slice B1 L1.length d1) L1) ⟨wd1.off (Off.of_all ((Below.refl _ w12).alloc (Nat.le_refl _) _)) (fun _ h=>h.elim),o1.alloc _,Blk.newAt hbx 45 #[.slice B1 L1.length d1,.slice none 0 0,.slice none 0 0,.slice none 0 0],own1.offB (Y:=fun _=>False) ((Off.refl _ w12).alloc _) (fun _ h=>h.elim)⟩ ?_
 rintro u14 ⟨wd1n,of1,kb1,ow_1_1⟩
 clear wd1 o1 own1 hbx
 have ld2:=k3.ld.below (B:=lo) (by omega) (of1.below (B:=lo) (by omega) fun k hk=>by rw[show k=bw from hk];omega)
 rw[wMethods_s]
 refine (elT_any M B bw wMethods ws1 b1 u14 ld2 (by omega) (Nat.le_trans hM (Nat.le_trans hu0w of1.size)) hl4 wd1n).mono ?_
 rintro e w22 ⟨V2,L2,ws2,rfl,own2,len2,wd2,o2,sub2,rel2⟩
 replace own2:=own2.low (b':=u0.heap.size) of1.size
 obtain⟨B2,d2,hV2⟩:=OwnR.form (show w22.ownsRow u0.heap.size 42 2 V2 L2.length (flatR tmC L2) from own2)
 generalize hb2:(b1||(elemsO wMethods readTm ws1).isNone)=b2 at wd2
 have HR2:=Lib.hid (show elR wMethods readTm ws1 b1 L2 ws2 b2 from ⟨hb2.symm,rel2⟩)
 have hl5:∀s∈ws2,s.length≤1000000:=fun s hs=>hl4 s (sub2 s hs)
 clear hb2 rel2 sub2 len2
 subst hV2
 have hbw2:¬bx=bw:=by omega
 have kb2a:=kb1.off o2 hbw2
 have own2_1:=ow_1_1.offB o2 (fun k hk=>.inl (by rw[show k=bw from hk];exact hu0.2))
 have of2a:=of1.trans o2 fun _ _ h=>h
 have q2c:=kb2a.cell 1
 have q2f:=kb2a.frozen 1
 go_wp2_with fail
 refine absC (fun u=>Wd u M B bw ws2 b2∧Off (fun k=>k=bw) u0 u∧Blk u bx 45 [.slice B1 L1.length d1,.slice B2 L2.length d2,.slice none 0 0,.slice none 0 0]∧OwnR inC 1 u u0.heap.size 3 (.slice B1 L1.length d1) L1∧OwnR tmC 2 u u0.heap.size 42 (.slice B2 L2.length d2) L2) ⟨wd2.off ((Off.refl (fun k=>k=bx) w22).setCell (p:=⟨bx,1,none⟩) (fun _=>rfl) _) (fun b hb=>.inr ⟨by rw[show b=bx from hb];omega,by rw[show b=bx from hb];exact hbw2⟩),of2a.setCell (p:=⟨bx,1,none⟩) (fun h=>absurd h (Nat.not_lt.2 bxl)) _,kb2a.set 1 _,own2_1.offT kb2a (by decide) ((Off.refl (fun k=>k=bx) w22).setCell (p:=⟨bx,1,none⟩) (fun _=>rfl) _),own2.offT kb2a (by decide) ((Off.refl (fun k=>k=bx) w22).setCell (p:=⟨bx,1,none⟩) (fun _=>rfl) _)⟩ ?_
 rintro u24 ⟨wd2n,of2,kb2,ow_2_1,ow_2_2⟩
 clear wd2 o2 own2 kb2a of2a q2c q2f wd1n kb1 own2_1 ow_1_1
 have ld3:=k3.ld.below (B:=lo) (by omega) (of2.below (B:=lo) (by omega) fun k hk=>by rw[show k=bw from hk];omega)
 rw[wPaths_s]
 refine (elT_any M B bw wPaths ws2 b2 u24 ld3 (by omega) (Nat.le_trans hM (Nat.le_trans hu0w of2.size)) hl5 wd2n).mono ?_
 rintro e w32 ⟨V3,L3,ws3,rfl,own3,len3,wd3,o3,sub3,rel3⟩
 replace own3:=own3.low (b':=u0.heap.size) of2.size
 obtain⟨B3,d3,hV3⟩:=OwnR.form (show w32.ownsRow u0.heap.size 42 2 V3 L3.length (flatR tmC L3) from own3)
 generalize hb3:(b2||(elemsO wPaths readTm ws2).isNone)=b3 at wd3
 have HR3:=Lib.hid (show elR wPaths readTm ws2 b2 L3 ws3 b3 from ⟨hb3.symm,rel3⟩)
 have hl6:∀s∈ws3,s.length≤1000000:=fun s hs=>hl5 s (sub3 s hs)
 clear hb3 rel3 sub3 len3
 subst hV3
 have hbw3:¬bx=bw:=by omega
 have kb3a:=kb2.off o3 hbw3
 have own3_1:=ow_2_1.offB o3 (fun k hk=>.inl (by rw[show k=bw from hk];exact hu0.2))
 have own3_2:=ow_2_2.offB o3 (fun k hk=>.inl (by rw[show k=bw from hk];exact hu0.2))
 have of3a:=of2.trans o3 fun _ _ h=>h
 have q3c:=kb3a.cell 2
 have q3f:=kb3a.frozen 2
 go_wp2_with fail
 refine absC (fun u=>Wd u M B bw ws3 b3∧Off (fun k=>k=bw) u0 u∧Blk u bx 45 [.slice B1 L1.length d1,.slice B2 L2.length d2,.slice B3 L3.length d3,.slice none 0 0]∧OwnR inC 1 u u0.heap.size 3 (.slice B1 L1.length d1) L1∧OwnR tmC 2 u u0.heap.size 42 (.slice B2 L2.length d2) L2∧OwnR tmC 2 u u0.heap.size 42 (.slice B3 L3.length d3) L3) ⟨wd3.off ((Off.refl (fun k=>k=bx) w32).setCell (p:=⟨bx,2,none⟩) (fun _=>rfl) _) (fun b hb=>.inr ⟨by rw[show b=bx from hb];omega,by rw[show b=bx from hb];exact hbw3⟩),of3a.setCell (p:=⟨bx,2,none⟩) (fun h=>absurd h (Nat.not_lt.2 bxl)) _,kb3a.set 2 _,own3_1.offT kb3a (by decide) ((Off.refl (fun k=>k=bx) w32).setCell (p:=⟨bx,2,none⟩) (fun _=>rfl) _),own3_2.offT kb3a (by decide) ((Off.refl (fun k=>k=bx) w32).setCell (p:=⟨bx,2,none⟩) (fun _=>rfl) _),own3.offT kb3a (by decide) ((Off.refl (fun k=>k=bx) w32).setCell (p:=⟨bx,2,none⟩) (fun _=>rfl) _)⟩ ?_
 rintro u34 ⟨wd3n,of3,kb3,ow_3_1,ow_3_2,ow_3_3⟩
 clear wd3 o3 own3 kb3a of3a q3c q3f wd2n kb2 own3_1 own3_2 ow_2_1 ow_2_2
 have ld4:=k3.ld.below (B:=lo) (by omega) (of3.below (B:=lo) (by omega) fun k hk=>by rw[show k=bw from hk];omega)
 rw[wHosts_s]
 refine (elT_any M B bw wHosts ws3 b3 u34 ld4 (by omega) (Nat.le_trans hM (Nat.le_trans hu0w of3.size)) hl6 wd3n).mono ?_
 rintro e w42 ⟨V4,L4,ws4,rfl,own4,len4,wd4,o4,sub4,rel4⟩
 replace own4:=own4.low (b':=u0.heap.size) of3.size
 obtain⟨B4,d4,hV4⟩:=OwnR.form (show w42.ownsRow u0.heap.size 42 2 V4 L4.length (flatR tmC L4) from own4)
 generalize hb4:(b3||(elemsO wHosts readTm ws3).isNone)=b4 at wd4
 have HR4:=Lib.hid (show elR wHosts readTm ws3 b3 L4 ws4 b4 from ⟨hb4.symm,rel4⟩)
 have hl7:∀s∈ws4,s.length≤1000000:=fun s hs=>hl6 s (sub4 s hs)
 clear hb4 rel4 sub4 len4
 subst hV4
 have hbw4:¬bx=bw:=by omega
 have kb4a:=kb3.off o4 hbw4
 have own4_1:=ow_3_1.offB o4 (fun k hk=>.inl (by rw[show k=bw from hk];exact hu0.2))
 have own4_2:=ow_3_2.offB o4 (fun k hk=>.inl (by rw[show k=bw from hk];exact hu0.2))
 have own4_3:=ow_3_3.offB o4 (fun k hk=>.inl (by rw[show k=bw from hk];exact hu0.2))
 have of4a:=of3.trans o4 fun _ _ h=>h
 have q4c:=kb4a.cell 3
 have q4f:=kb4a.frozen 3
 go_wp2_with fail
 refine abs (fun u=>Wd u M B bw ws4 b4∧Off (fun k=>k=bw) u0 u∧Blk u bx 45 [.slice B1 L1.length d1,.slice B2 L2.length d2,.slice B3 L3.length d3,.slice B4 L4.length d4]∧OwnR inC 1 u u0.heap.size 3 (.slice B1 L1.length d1) L1∧OwnR tmC 2 u u0.heap.size 42 (.slice B2 L2.length d2) L2∧OwnR tmC 2 u u0.heap.size 42 (.slice B3 L3.length d3) L3∧OwnR tmC 2 u u0.heap.size 42 (.slice B4 L4.length d4) L4) ⟨wd4.off ((Off.refl (fun k=>k=bx) w42).setCell (p:=⟨bx,3,none⟩) (fun _=>rfl) _) (fun b hb=>.inr ⟨by rw[show b=bx from hb];omega,by rw[show b=bx from hb];exact hbw4⟩),of4a.setCell (p:=⟨bx,3,none⟩) (fun h=>absurd h (Nat.not_lt.2 bxl)) _,kb4a.set 3 _,own4_1.offT kb4a (by decide) ((Off.refl (fun k=>k=bx) w42).setCell (p:=⟨bx,3,none⟩) (fun _=>rfl) _),own4_2.offT kb4a (by decide) ((Off.refl (fun k=>k=bx) w42).setCell (p:=⟨bx,3,none⟩) (fun _=>rfl) _),own4_3.offT kb4a (by decide) ((Off.refl (fun k=>k=bx) w42).setCell (p:=⟨bx,3,none⟩) (fun _=>rfl) _),own4.offT kb4a (by decide) ((Off.refl (fun k=>k=bx) w42).setCell (p:=⟨bx,3,none⟩) (fun _=>rfl) _)⟩ ?_
 rintro u44 ⟨wd4n,of4,kb4,ow_4_1,ow_4_2,ow_4_3,ow_4_4⟩
 clear wd4 o4 own4 kb4a of4a q4c q4f wd3n kb3 own4_1 own4_2 own4_3 ow_3_1 ow_3_2 ow_3_3
 have k4:=k3.word wd4n of4
 have hgU:=HG.out u44 (ow3.trans of4 fun _ _ h=>h)
 have x1:u44.cell? ⟨g,n*3+1,none⟩=some (.slice A2 tl c2):=(hgU.cell _).trans GC2.out
 have hgu:=hgU.lt
 have hbxU:=kb4.lt
 have hS:PaC4 g (n*3+1) (.slice A2 tl c2) bx (.slice B1 L1.length d1) (.slice B2 L2.length d2) (.slice B3 L3.length d3) (.slice B4 L4.length d4) u44:=⟨x1,kb4.cell 0,kb4.cell 1,kb4.cell 2,kb4.cell 3⟩
 have hadd:=add_to k3 of4 ow_4_1 ow_4_2 ow_4_3 ow_4_4 HRR.out HNN.out x1 hgu (by omega) 46
 obtain⟨A',c',w',hrun,hA⟩:=hadd
 have hx:Below u44.heap.size u44 (u44.alloc (.cells #[.slice B1 L1.length d1,.slice B2 L2.length d2,.slice B3 L3.length d3,.slice B4 L4.length d4] 45)).drew:=((Below.refl _ u44).alloc (Nat.le_refl _) _).drew
 have same:∀b,b=g∨b=bx→w'.heap[b]?=(u44.alloc (.cells #[.slice B1 L1.length d1,.slice B2 L2.length d2,.slice B3 L3.length d3,.slice B4 L4.length d4] 45)).drew.heap[b]?:=fun b hb=>hA.grow.block b (by rcases hb with rfl|rfl<;>exact Nat.lt_of_lt_of_le (by assumption) hx.size) fun e=>by
  have:=hA.own b e.symm
  rcases hb with rfl|rfl
  ·exact this.1 rfl
  exact this.2.2 ⟨bxl,Nat.lt_of_lt_of_le hbxU hx.size⟩
 have sg:=same g (.inl rfl)
 have sb:=same bx (.inr rfl)
 have sg':w'.heap[g]?=u44.heap[g]?:=sg.trans (hx.block g hgu)
 have hgW:Blk w' g _ _:=sg'.trans hgU
 have xg:=(hgW.cell (n*3+1)).trans GC2.out
 have xf:=hgW.frozen (n*3+1)
 have hfin:=part_close (r:=r) k4 hx (o:=n*3+1) hA hgbw (part_to_rel H2.out (by have:=to_rel HR1.out HR2.out HR3.out HR4.out;rwa [HTB.out] at this))
 have HFIN:=Lib.hid hfin
 have S1:PaC4 g (n*3+1) (.slice A2 tl c2) bx (.slice B1 L1.length d1) (.slice B2 L2.length d2) (.slice B3 L3.length d3) (.slice B4 L4.length d4) (u44.alloc (.cells #[.slice B1 L1.length d1,.slice B2 L2.length d2,.slice B3 L3.length d3,.slice B4 L4.length d4] 45)).drew:=hS.same (hx.block g hgu) (hx.block bx hbxU)
 have S2:PaC4 g (n*3+1) (.slice A2 tl c2) bx (.slice B1 L1.length d1) (.slice B2 L2.length d2) (.slice B3 L3.length d3) (.slice B4 L4.length d4) w':=S1.same sg sb
 clear k4 hgU hA hx same sg sb sg' hgW hfin k3 of4 ow_4_1 ow_4_2 ow_4_3 ow_4_4 kb4 wd4n ow3 x1
 obtain⟨e0,e1,e2,e3,e4⟩:=id hS
 refine wp_region_order (PaC4 g (n*3+1) (.slice A2 tl c2) bx (.slice B1 L1.length d1) (.slice B2 L2.length d2) (.slice B3 L3.length d3) (.slice B4 L4.length d4)) 10 [(0,0),(1,0),(2,0),(3,0),(4,0),(5,0),(6,1),(7,1),(8,1),(9,0),(10,2)] (by kernel_rfl) (by kernel_rfl) ?_
 simp only[pick,List.filterMap_cons,List.filterMap_nil,List.getElem?_cons_zero,List.getElem?_cons_succ,Option.map_some]
 replace hS:PaC4 g (n*3+1) (.slice A2 tl c2) bx (.slice B1 L1.length d1) (.slice B2 L2.length d2) (.slice B3 L3.length d3) (.slice B4 L4.length d4) u44.drew:=hS
 iterate 6 (refine wpF_take (v:=?_) hS rfl ?_ (fun _ _ _ h=>h) ?_;rotate_left;(· intro w' hS';obtain⟨e0,e1,e2,e3,e4⟩:=hS';go_simp<;>rfl);go_simp)
 refine wpF_only rfl (fun K hK=>?_)
 go_wp2_with fail
 first|refine⟨S1,?_⟩|skip
 refine wpF_only rfl (fun K hK=>?_)
 refine wp_append_run rfl rfl rfl hrun ?_
 clear hrun
 go_wp2_with fail
 first|refine⟨fun _=>S2,?_⟩|refine⟨S2,?_⟩|skip
 first|(refine wpF_only rfl (fun K hK=>?_);go_wp2_with fail;first|refine⟨fun _=>S2,?_⟩|refine⟨S2,?_⟩|skip)|skip
 clear hS S1 e0 e1 e2 e3 e4
 (refine wpF_take (v:=?_) S2 rfl ?_ (fun _ _ _ h=>h) ?_;rotate_left;(· intro w' hS';obtain⟨e0,e1,e2,e3,e4⟩:=hS';go_simp<;>rfl);go_simp)
 refine wpF_only rfl (fun K hK=>?_)
 go_wp2_with fail
 first|refine⟨fun h=>absurd h (by decide),wpF_nil ?_⟩|skip
 go_wp2_with fail
 go_end0
 exact HFIN.out
set_option maxRecDepth 100000 in
set_option maxHeartbeats 4000000 in
theorem part_none0(bt bw M B:Nat)(lv c2 c3 c4 c5 c6:Value)(n:Int)(ws:List (List UInt8))(w:World)(hb:Blk w bt 63 [lv,.bool false,c2,c3,c4,c5,c6,.int .i64 n])(hw:Wd w M B bw ws false) :
  Calls Tryz.prog 54 #[.pointer (some ⟨bt,0,none⟩),.pointer (some ⟨bw,0,none⟩)] w fun e w'=>e=.returned (.tuple #[])∧w'=w.setCell ⟨bw,1,none⟩ (.bool true):=by
 obtain⟨A,c,hk,_⟩:=hw.box
 have e1:w.cell? ⟨bt,1,none⟩=some (.bool false):=hb.cell 1
 have e6:w.cell? ⟨bt,6,none⟩=some (c6):=hb.cell 6
 have x1:w.cell? ⟨bw,1,none⟩=some (.bool false):=hk.cell 1
 have x1f:w.frozen? ⟨bw,1,none⟩=false:=hk.frozen 1
 clear hb hw hk
 go_enter Tryz.func54,Tryz.ntmps54
 go_wp2_with fail
 (try simp only[Exit.inBlock,Exit.then])
 refine bodyPost_ret (results_none rfl _ _ _) rfl ?_
 exact⟨rfl,rfl⟩
set_option maxRecDepth 100000 in
set_option maxHeartbeats 4000000 in
theorem part_none1(bt bw M B:Nat)(lv c2 c3 c4 c5 c6:Value)(n:Int)(A6:Option Addr)(c9:Nat)(ws:List (List UInt8))(w:World)(hb:Blk w bt 63 [lv,.bool true,c2,c3,c4,c5,.slice A6 0 c9,.int .i64 n])(hw:Wd w M B bw ws false) :
  Calls Tryz.prog 54 #[.pointer (some ⟨bt,0,none⟩),.pointer (some ⟨bw,0,none⟩)] w fun e w'=>e=.returned (.tuple #[])∧w'=w.setCell ⟨bw,1,none⟩ (.bool true):=by
 obtain⟨A,c,hk,_⟩:=hw.box
 have e1:w.cell? ⟨bt,1,none⟩=some (.bool true):=hb.cell 1
 have e6:w.cell? ⟨bt,6,none⟩=some (.slice A6 0 c9):=hb.cell 6
 have x1:w.cell? ⟨bw,1,none⟩=some (.bool false):=hk.cell 1
 have x1f:w.frozen? ⟨bw,1,none⟩=false:=hk.frozen 1
 clear hb hw hk
 go_enter Tryz.func54,Tryz.ntmps54
 go_wp2_with fail
 (try simp only[Exit.inBlock,Exit.then])
 refine bodyPost_ret (results_none rfl _ _ _) rfl ?_
 exact⟨rfl,rfl⟩
set_option maxRecDepth 100000 in
set_option maxHeartbeats 16000000 in
theorem part_D(K X X0:Nat→Bool)(lo bt:Nat)(f:Int)(l:List Po)(p:Po)(R0:List Ru)(r:Ru)(lv rv:Value)(M B bw:Nat)(ws:List (List UInt8))(w:World)(hp:PaS K X X0 lo bt f l p lv rv M B bw ws false w w)(hR:p.rules=R0++[r])(hl:∀s∈ws,s.length≤1000000)(hbt:bt≠bw)(hBs:B≤w.heap.size)(hM:M≤w.heap.size)(hn:R0.length<900000)(hf:r.froms.length<900000)(ht:r.tos.length<900000)(hw:r.whens.length<900000)
  (h1:isW ws wFrom=false) (h2:isW ws wTo=false) (h3:isW ws wWhen=false) :
  Calls Tryz.prog 54 #[.pointer (some ⟨bt,0,none⟩),.pointer (some ⟨bw,0,none⟩)] w fun e w'=>PartP X X0 lo bt f l p R0 r lv rv M B bw ws w e w':=by
 obtain⟨g,cg,cur,css,v1,v2,v3,hrv,hcg1,hcg2,hlog,hkg,hgl,gc1,gc2,gc3,_,_,_,_,hru,hsep⟩:=(by have:=hp.tx.rules;rw[hR] at this;exact this:RulesX K X w lo rv (R0++[r])).last
 obtain⟨A1,c1,hv1,_,hcm1⟩:=hru.1.1.form
 obtain⟨A2,c2,hv2,_,hcm2⟩:=hru.2.1.1.form
 obtain⟨A3,c3,hv3,_,hcm3⟩:=hru.2.2.1.form
 obtain⟨n,hnn⟩:∃n,R0.length=n:=⟨_,rfl⟩
 obtain⟨fl,hfl⟩:∃n,r.froms.length=n:=⟨_,rfl⟩
 obtain⟨tl,htl⟩:∃n,r.tos.length=n:=⟨_,rfl⟩
 obtain⟨wl,hwl⟩:∃n,r.whens.length=n:=⟨_,rfl⟩
 rw[hnn] at hrv hcg1 hgl gc1 gc2 gc3 hn
 rw[hfl] at hv1 hf
 rw[htl] at hv2 ht
 rw[hwl] at hv3 hw
 subst hv1 hv2 hv3
 have hXg:X g=false:=(hsep g (by rw[hrv];rfl)).2
 have hgbw:g≠bw:=fun e=>by rw[e,hp.xbw] at hXg;cases hXg
 have HRV:=Lib.hid hrv
 subst hrv
 have hg0:=fun(u:World)(o:Off (fun k=>k=bw) w u)=>hkg.off o hgbw
 have hlow:=hp.low
 have hlM:=hp.lM
 have hMb:=hp.mb
 have hgw:=hkg.lt
 have hS:=BxT.of hp.tx.q.box
 obtain⟨e0,e1,e2,e3,e4,e5,e6,e7⟩:=id hS
 have d0:((n:Int)+1==0)=false:=by rw[beq_eq_false_iff_ne];omega
 have i1:(0:Int)≤(n:Int):=by omega
 have i2:(n:Int)<(n:Int)+1:=by omega
 have hwn:IntKind.i64.wrap (n:Int)=(n:Int):=IntWalk.i64_in _ (by omega)
 have HP:=Lib.hid hp;have HNN:=Lib.hid hnn;have HG:=Lib.hid hg0;have GC1:=Lib.hid gc1;have GC2:=Lib.hid gc2;have GC3:=Lib.hid gc3
 have HB:=Lib.hid hBs;have HFL:=Lib.hid hfl;have HTL:=Lib.hid htl;have HWL:=Lib.hid hwl;have HRR:=Lib.hid hR;have HL:=Lib.hid hl
 have H1:=Lib.hid h1;have H2:=Lib.hid h2;have H3:=Lib.hid h3;clear h1 h2 h3
 clear hp hnn hsep hru hg0 gc1 gc2 gc3 hkg hfl htl hwl hR hl
 go_enter Tryz.func54,Tryz.ntmps54
 go_wp2_with fail
 refine wp_region_order (BxT bt lv true (.int .u64 (p.id:Int)) (.string (strB p.ns)) (.int .u64 (p.service:Int)) (.int .i64 p.deny) (.slice (some ⟨g,0,none⟩) (n+1) cg) f) 100 [(0,0),(1,0),(2,0),(3,0),(4,0),(5,0),(6,0),(7,0),(8,0),(9,0),(10,0),(11,0),(12,0),(13,0)] (by kernel_rfl) (by kernel_rfl) ?_
 simp only[pick,List.filterMap_cons,List.filterMap_nil,List.getElem?_cons_zero,List.getElem?_cons_succ,Option.map_some]
 replace hS:BxT bt lv true (.int .u64 (p.id:Int)) (.string (strB p.ns)) (.int .u64 (p.service:Int)) (.int .i64 p.deny) (.slice (some ⟨g,0,none⟩) (n+1) cg) f w.drew:=hS
 iterate 14 (refine wpF_take (v:=?_) hS rfl ?_ (fun _ _ _ h=>h) ?_;rotate_left;(· intro w' hS';obtain⟨e0,e1,e2,e3,e4,e5,e6,e7⟩:=hS';go_simp<;>rfl);go_simp)
 refine wpF_nil ?_
 clear e0 e1 e2 e3 e4 e5 e6 e7 hwn d0 i1 i2 hS
 have k0:=HP.out.later (u':=w.drew) (Below.refl _ w).drew
 have ow0:Off (fun k=>k=bw) w w.drew:=(Off.refl _ w).drew
 go_wp2_with fail
 rw[wFrom_s]
 refine (is_false M B bw false ws wFrom _ k0.wd H1.out).mono ?_
 rintro e w9 ⟨rfl,rfl⟩
 go_wp2_with fail
 rw[wTo_s]
 refine (is_false M B bw false ws wTo _ k0.wd H2.out).mono ?_
 rintro e w9 ⟨rfl,rfl⟩
 go_wp2_with fail
 rw[wWhen_s]
 refine (is_false M B bw false ws wWhen _ k0.wd H3.out).mono ?_
 rintro e w9 ⟨rfl,rfl⟩
 have k9:=(k0).bads true
 obtain⟨A,c,hb,_⟩:=k9.wd.box
 have HFIN:=Lib.hid (show PartP X X0 lo bt f l p R0 r lv (.slice (some ⟨g,0,none⟩) (n+1) cg) M B bw ws w (.returned (.tuple #[])) (w.drew.setCell ⟨bw,1,none⟩ (.bool true)) from ⟨ws,true,rfl,⟨A,c,hb⟩,k9.fr,by rw[part_no H1.out H2.out H3.out];rfl,fun r' h=>by rw[part_no H1.out H2.out H3.out] at h;cases h⟩)
 clear k9 hb
 have x1:w.drew.cell? ⟨bw,1,none⟩=some (.bool false):=by obtain⟨A,c,hb,_⟩:=Wd.box (k0).wd;exact hb.cell 1
 have x1f:w.drew.frozen? ⟨bw,1,none⟩=false:=by obtain⟨A,c,hb,_⟩:=Wd.box (k0).wd;exact hb.frozen 1
 go_wp2_with fail
 go_end0
 exact HFIN.out
set_option maxRecDepth 100000 in
set_option maxHeartbeats 16000000 in
theorem part_W0(K X X0:Nat→Bool)(lo bt:Nat)(f:Int)(l:List Po)(p:Po)(R0:List Ru)(r:Ru)(lv rv:Value)(M B bw:Nat)(ws:List (List UInt8))(w:World)(hp:PaS K X X0 lo bt f l p lv rv M B bw ws false w w)(hR:p.rules=R0++[r])(hl:∀s∈ws,s.length≤1000000)(hbt:bt≠bw)(hBs:B≤w.heap.size)(hM:M≤w.heap.size)(hn:R0.length<900000)(hf:r.froms.length<900000)(ht:r.tos.length<900000)(hw:r.whens.length<900000)
  (h1:isW ws wFrom=false) (h2:isW ws wTo=false) (h3:isW ws wWhen=true) (h4:ws.tail=[]) :
  Calls Tryz.prog 54 #[.pointer (some ⟨bt,0,none⟩),.pointer (some ⟨bw,0,none⟩)] w fun e w'=>PartP X X0 lo bt f l p R0 r lv rv M B bw ws w e w':=by
 obtain⟨g,cg,cur,css,v1,v2,v3,hrv,hcg1,hcg2,hlog,hkg,hgl,gc1,gc2,gc3,_,_,_,_,hru,hsep⟩:=(by have:=hp.tx.rules;rw[hR] at this;exact this:RulesX K X w lo rv (R0++[r])).last
 obtain⟨A1,c1,hv1,_,hcm1⟩:=hru.1.1.form
 obtain⟨A2,c2,hv2,_,hcm2⟩:=hru.2.1.1.form
 obtain⟨A3,c3,hv3,_,hcm3⟩:=hru.2.2.1.form
 obtain⟨n,hnn⟩:∃n,R0.length=n:=⟨_,rfl⟩
 obtain⟨fl,hfl⟩:∃n,r.froms.length=n:=⟨_,rfl⟩
 obtain⟨tl,htl⟩:∃n,r.tos.length=n:=⟨_,rfl⟩
 obtain⟨wl,hwl⟩:∃n,r.whens.length=n:=⟨_,rfl⟩
 rw[hnn] at hrv hcg1 hgl gc1 gc2 gc3 hn
 rw[hfl] at hv1 hf
 rw[htl] at hv2 ht
 rw[hwl] at hv3 hw
 subst hv1 hv2 hv3
 have hXg:X g=false:=(hsep g (by rw[hrv];rfl)).2
 have hgbw:g≠bw:=fun e=>by rw[e,hp.xbw] at hXg;cases hXg
 have HRV:=Lib.hid hrv
 subst hrv
 have hg0:=fun(u:World)(o:Off (fun k=>k=bw) w u)=>hkg.off o hgbw
 have hlow:=hp.low
 have hlM:=hp.lM
 have hMb:=hp.mb
 have hgw:=hkg.lt
 have hS:=BxT.of hp.tx.q.box
 obtain⟨e0,e1,e2,e3,e4,e5,e6,e7⟩:=id hS
 have d0:((n:Int)+1==0)=false:=by rw[beq_eq_false_iff_ne];omega
 have i1:(0:Int)≤(n:Int):=by omega
 have i2:(n:Int)<(n:Int)+1:=by omega
 have hwn:IntKind.i64.wrap (n:Int)=(n:Int):=IntWalk.i64_in _ (by omega)
 have HP:=Lib.hid hp;have HNN:=Lib.hid hnn;have HG:=Lib.hid hg0;have GC1:=Lib.hid gc1;have GC2:=Lib.hid gc2;have GC3:=Lib.hid gc3
 have HB:=Lib.hid hBs;have HFL:=Lib.hid hfl;have HTL:=Lib.hid htl;have HWL:=Lib.hid hwl;have HRR:=Lib.hid hR;have HL:=Lib.hid hl
 have H1:=Lib.hid h1;have H2:=Lib.hid h2;have H3:=Lib.hid h3;have H4:=Lib.hid h4;clear h1 h2 h3 h4
 clear hp hnn hsep hru hg0 gc1 gc2 gc3 hkg hfl htl hwl hR hl
 go_enter Tryz.func54,Tryz.ntmps54
 go_wp2_with fail
 refine wp_region_order (BxT bt lv true (.int .u64 (p.id:Int)) (.string (strB p.ns)) (.int .u64 (p.service:Int)) (.int .i64 p.deny) (.slice (some ⟨g,0,none⟩) (n+1) cg) f) 100 [(0,0),(1,0),(2,0),(3,0),(4,0),(5,0),(6,0),(7,0),(8,0),(9,0),(10,0),(11,0),(12,0),(13,0)] (by kernel_rfl) (by kernel_rfl) ?_
 simp only[pick,List.filterMap_cons,List.filterMap_nil,List.getElem?_cons_zero,List.getElem?_cons_succ,Option.map_some]
 replace hS:BxT bt lv true (.int .u64 (p.id:Int)) (.string (strB p.ns)) (.int .u64 (p.service:Int)) (.int .i64 p.deny) (.slice (some ⟨g,0,none⟩) (n+1) cg) f w.drew:=hS
 iterate 14 (refine wpF_take (v:=?_) hS rfl ?_ (fun _ _ _ h=>h) ?_;rotate_left;(· intro w' hS';obtain⟨e0,e1,e2,e3,e4,e5,e6,e7⟩:=hS';go_simp<;>rfl);go_simp)
 refine wpF_nil ?_
 clear e0 e1 e2 e3 e4 e5 e6 e7 hwn d0 i1 i2 hS
 have k0:=HP.out.later (u':=w.drew) (Below.refl _ w).drew
 have ow0:Off (fun k=>k=bw) w w.drew:=(Off.refl _ w).drew
 go_wp2_with fail
 rw[wFrom_s]
 refine (is_false M B bw false ws wFrom _ k0.wd H1.out).mono ?_
 rintro e w9 ⟨rfl,rfl⟩
 go_wp2_with fail
 rw[wTo_s]
 refine (is_false M B bw false ws wTo _ k0.wd H2.out).mono ?_
 rintro e w9 ⟨rfl,rfl⟩
 go_wp2_with fail
 rw[wWhen_s]
 refine (is_true M B bw false ws wWhen _ k0.wd H3.out).mono ?_
 rintro e w1 ⟨rfl,kw,o⟩
 have k1:=k0.word kw o
 have ow1:=ow0.trans o fun _ _ h=>h
 clear kw o k0 ow0
 have k9:=(k1).bads true
 obtain⟨A,c,hb,_⟩:=k9.wd.box
 have HFIN:=Lib.hid (show PartP X X0 lo bt f l p R0 r lv (.slice (some ⟨g,0,none⟩) (n+1) cg) M B bw ws w (.returned (.tuple #[])) (w1.setCell ⟨bw,1,none⟩ (.bool true)) from ⟨ws.tail,true,rfl,⟨A,c,hb⟩,k9.fr,by rw[part_when0 (H3.out) H4.out];rfl,fun r' h=>by rw[part_when0 (H3.out) H4.out] at h;cases h⟩)
 clear k9 hb
 obtain⟨A,c,hb,_⟩:=k1.wd.box
 have hlen:ws.tail.length=0:=by rw[H4.out];rfl
 have x1:w1.cell? ⟨bw,1,none⟩=some (.bool false):=by obtain⟨A,c,hb,_⟩:=Wd.box (k1).wd;exact hb.cell 1
 have x1f:w1.frozen? ⟨bw,1,none⟩=false:=by obtain⟨A,c,hb,_⟩:=Wd.box (k1).wd;exact hb.frozen 1
 have x0:w1.cell? ⟨bw,0,none⟩=some (.slice A 0 c):=by have h9:=hb.cell 0;rw[hlen] at h9;exact h9
 clear hb hlen k1 ow1
 go_wp2_with fail
 go_end0
 exact HFIN.out
def PaC0(g o:Nat)(v:Value)(u:World):Prop:=u.cell? ⟨g,o,none⟩=some v∧True
set_option maxRecDepth 100000 in
set_option maxHeartbeats 16000000 in
theorem part_W(K X X0:Nat→Bool)(lo bt:Nat)(f:Int)(l:List Po)(p:Po)(R0:List Ru)(r:Ru)(lv rv:Value)(M B bw:Nat)(ws:List (List UInt8))(w:World)(hp:PaS K X X0 lo bt f l p lv rv M B bw ws false w w)(hR:p.rules=R0++[r])(hl:∀s∈ws,s.length≤1000000)(hbt:bt≠bw)(hBs:B≤w.heap.size)(hM:M≤w.heap.size)(hn:R0.length<900000)(hf:r.froms.length<900000)(ht:r.tos.length<900000)(hw:r.whens.length<900000)
  (h1:isW ws wFrom=false) (h2:isW ws wTo=false) (h3:isW ws wWhen=true) (h4:ws.tail≠[]) :
  Calls Tryz.prog 54 #[.pointer (some ⟨bt,0,none⟩),.pointer (some ⟨bw,0,none⟩)] w fun e w'=>PartP X X0 lo bt f l p R0 r lv rv M B bw ws w e w':=by
 obtain⟨g,cg,cur,css,v1,v2,v3,hrv,hcg1,hcg2,hlog,hkg,hgl,gc1,gc2,gc3,_,_,_,_,hru,hsep⟩:=(by have:=hp.tx.rules;rw[hR] at this;exact this:RulesX K X w lo rv (R0++[r])).last
 obtain⟨A1,c1,hv1,_,hcm1⟩:=hru.1.1.form
 obtain⟨A2,c2,hv2,_,hcm2⟩:=hru.2.1.1.form
 obtain⟨A3,c3,hv3,_,hcm3⟩:=hru.2.2.1.form
 obtain⟨n,hnn⟩:∃n,R0.length=n:=⟨_,rfl⟩
 obtain⟨fl,hfl⟩:∃n,r.froms.length=n:=⟨_,rfl⟩
 obtain⟨tl,htl⟩:∃n,r.tos.length=n:=⟨_,rfl⟩
 obtain⟨wl,hwl⟩:∃n,r.whens.length=n:=⟨_,rfl⟩
 rw[hnn] at hrv hcg1 hgl gc1 gc2 gc3 hn
 rw[hfl] at hv1 hf
 rw[htl] at hv2 ht
 rw[hwl] at hv3 hw
 subst hv1 hv2 hv3
 have hXg:X g=false:=(hsep g (by rw[hrv];rfl)).2
 have hgbw:g≠bw:=fun e=>by rw[e,hp.xbw] at hXg;cases hXg
 have HRV:=Lib.hid hrv
 subst hrv
 have hg0:=fun(u:World)(o:Off (fun k=>k=bw) w u)=>hkg.off o hgbw
 have hlow:=hp.low
 have hlM:=hp.lM
 have hMb:=hp.mb
 have hgw:=hkg.lt
 have hS:=BxT.of hp.tx.q.box
 obtain⟨e0,e1,e2,e3,e4,e5,e6,e7⟩:=id hS
 have d0:((n:Int)+1==0)=false:=by rw[beq_eq_false_iff_ne];omega
 have i1:(0:Int)≤(n:Int):=by omega
 have i2:(n:Int)<(n:Int)+1:=by omega
 have hwn:IntKind.i64.wrap (n:Int)=(n:Int):=IntWalk.i64_in _ (by omega)
 have HP:=Lib.hid hp;have HNN:=Lib.hid hnn;have HG:=Lib.hid hg0;have GC1:=Lib.hid gc1;have GC2:=Lib.hid gc2;have GC3:=Lib.hid gc3
 have HB:=Lib.hid hBs;have HFL:=Lib.hid hfl;have HTL:=Lib.hid htl;have HWL:=Lib.hid hwl;have HRR:=Lib.hid hR;have HL:=Lib.hid hl
 have H1:=Lib.hid h1;have H2:=Lib.hid h2;have H3:=Lib.hid h3;have H4:=Lib.hid h4;clear h1 h2 h3 h4
 clear hp hnn hsep hru hg0 gc1 gc2 gc3 hkg hfl htl hwl hR hl
 go_enter Tryz.func54,Tryz.ntmps54
 go_wp2_with fail
 refine wp_region_order (BxT bt lv true (.int .u64 (p.id:Int)) (.string (strB p.ns)) (.int .u64 (p.service:Int)) (.int .i64 p.deny) (.slice (some ⟨g,0,none⟩) (n+1) cg) f) 100 [(0,0),(1,0),(2,0),(3,0),(4,0),(5,0),(6,0),(7,0),(8,0),(9,0),(10,0),(11,0),(12,0),(13,0)] (by kernel_rfl) (by kernel_rfl) ?_
 simp only[pick,List.filterMap_cons,List.filterMap_nil,List.getElem?_cons_zero,List.getElem?_cons_succ,Option.map_some]
 replace hS:BxT bt lv true (.int .u64 (p.id:Int)) (.string (strB p.ns)) (.int .u64 (p.service:Int)) (.int .i64 p.deny) (.slice (some ⟨g,0,none⟩) (n+1) cg) f w.drew:=hS
 iterate 14 (refine wpF_take (v:=?_) hS rfl ?_ (fun _ _ _ h=>h) ?_;rotate_left;(· intro w' hS';obtain⟨e0,e1,e2,e3,e4,e5,e6,e7⟩:=hS';go_simp<;>rfl);go_simp)
 refine wpF_nil ?_
 clear e0 e1 e2 e3 e4 e5 e6 e7 hwn d0 i1 i2 hS
 have k0:=HP.out.later (u':=w.drew) (Below.refl _ w).drew
 have ow0:Off (fun k=>k=bw) w w.drew:=(Off.refl _ w).drew
 go_wp2_with fail
 rw[wFrom_s]
 refine (is_false M B bw false ws wFrom _ k0.wd H1.out).mono ?_
 rintro e w9 ⟨rfl,rfl⟩
 go_wp2_with fail
 rw[wTo_s]
 refine (is_false M B bw false ws wTo _ k0.wd H2.out).mono ?_
 rintro e w9 ⟨rfl,rfl⟩
 go_wp2_with fail
 rw[wWhen_s]
 refine (is_true M B bw false ws wWhen _ k0.wd H3.out).mono ?_
 rintro e w1 ⟨rfl,kw,o⟩
 have k1:=k0.word kw o
 have ow1:=ow0.trans o fun _ _ h=>h
 clear kw o k0 ow0
 obtain⟨hd,rr,hws⟩:∃a b,ws.tail=a::b:=by cases hw:ws.tail with
  | nil=>exact absurd hw H4.out
  | cons a b=>exact⟨a,b,rfl⟩
 have hl3:∀s∈hd::rr,s.length≤1000000:=fun s hs=>HL.out s (List.mem_of_mem_tail (by rw[hws];exact hs))
 rw[hws] at k1
 have HWS:=Lib.hid hws
 clear hws
 obtain⟨b,off,m,c,hb,hm,hmc,hc,x2,hne,hr⟩:=k1.wd.cons
 have x0:w1.cell? ⟨bw,0,none⟩=some (.slice (some ⟨b,off,none⟩) (m+1) c):=hb.cell 0
 have x1:w1.cell? ⟨bw,1,none⟩=some (.bool false):=hb.cell 1
 have x1f:w1.frozen? ⟨bw,1,none⟩=false:=hb.frozen 1
 clear hb hm hmc hc hr
 have j1:(0:Int)<(m:Int)+1:=by omega
 go_wp2_with fail
 obtain⟨tb,htb⟩:∃tb,hd.isEmpty=tb:=⟨_,rfl⟩
 have k2:=k1.bads hd.isEmpty
 have ow2:Off (fun k=>k=bw) w (w1.setCell ⟨bw,1,none⟩ (.bool hd.isEmpty)):=ow1.setCell (p:=⟨bw,1,none⟩) (fun _=>rfl) _
 clear k1 ow1 x0 x1 x1f x2
 refine abs (fun u=>PaS K X X0 lo bt f l p lv (.slice (some ⟨g,0,none⟩) (n+1) cg) M B bw (hd::rr) hd.isEmpty w u∧Off (fun k=>k=bw) w u) ⟨k2,ow2⟩ ?_
 rintro u0 ⟨k3,ow3⟩
 clear k2 ow2
 have hu0:=k3.mb
 have hlo0:=k3.los
 have hlM:=k3.lM
 have hgl0:=k3.low
 have hu0w:w.heap.size≤u0.heap.size:=ow3.size
 have e0:u0.cell? ⟨g,n*3+2,none⟩=some (.slice A3 wl c3):=((HG.out u0 ow3).cell _).trans GC3.out
 have hS:PaC0 g (n*3+2) (.slice A3 wl c3) u0:=⟨e0,trivial⟩
 refine wp_region_order (PaC0 g (n*3+2) (.slice A3 wl c3)) 14 [(0,0),(1,0),(2,0),(3,0),(4,0),(5,0),(6,0),(7,0),(8,1),(9,0),(10,1),(11,1),(12,1),(13,0),(14,2)] (by kernel_rfl) (by kernel_rfl) ?_
 simp only[pick,List.filterMap_cons,List.filterMap_nil,List.getElem?_cons_zero,List.getElem?_cons_succ,Option.map_some]
 replace hS:PaC0 g (n*3+2) (.slice A3 wl c3) u0.drew:=hS
 iterate 8 (refine wpF_take (v:=?_) hS rfl ?_ (fun _ _ _ h=>h) ?_;rotate_left;(· intro w' hS';obtain⟨e0,_⟩:=hS';go_simp<;>rfl);go_simp)
 replace k3:=k3.later (u':=u0.drew) (Below.refl _ u0).drew
 replace ow3:=ow3.drew
 refine wpF_only rfl (fun K hK=>?_)
 go_wp2_with fail
 refine (elT_any M B bw hd (hd::rr) hd.isEmpty u0.drew k3.ld (by omega) (Nat.le_trans hM hu0w) hl3 k3.wd).mono ?_
 rintro e w12 ⟨V1,L1,ws1,rfl,own1,len1,wd1,o1,sub1,rel1⟩
 obtain⟨B1,d1,hV1⟩:=OwnR.form (show w12.ownsRow u0.drew.heap.size 42 2 V1 L1.length (flatR tmC L1) from own1)
 generalize hb1:(hd.isEmpty||(elemsO hd readTm (hd::rr)).isNone)=b1 at wd1
 have HR1:=Lib.hid (show elR hd readTm (hd::rr) hd.isEmpty L1 ws1 b1 from ⟨hb1.symm,rel1⟩)
 clear hb1 rel1 sub1 len1
 subst hV1
 have k4:=k3.word wd1 o1
 have hgU:=HG.out w12 (ow3.trans o1 fun _ _ h=>h)
 have x1:w12.cell? ⟨g,n*3+2,none⟩=some (.slice A3 wl c3):=(hgU.cell _).trans GC3.out
 have hgu:=hgU.lt
 have S0:PaC0 g (n*3+2) (.slice A3 wl c3) w12:=⟨x1,trivial⟩
 have hadd:=add_when (hd:=hd) k3 o1 own1 HRR.out HNN.out x1 hgu (by omega) 48
 obtain⟨A',c',w',hrun,hA⟩:=hadd
 have hx:Below w12.heap.size w12 (w12.alloc (.cells #[.string (strB hd),.slice B1 L1.length d1] 60)):=((Below.refl _ w12).alloc (Nat.le_refl _) _)
 have sg:w'.heap[g]?=(w12.alloc (.cells #[.string (strB hd),.slice B1 L1.length d1] 60)).heap[g]?:=hA.grow.block g (Nat.lt_of_lt_of_le hgu hx.size) fun e=>(hA.own g e.symm).1 rfl
 have sg':w'.heap[g]?=w12.heap[g]?:=sg.trans (hx.block g hgu)
 have hgW:Blk w' g _ _:=sg'.trans hgU
 have xg:=(hgW.cell (n*3+2)).trans GC3.out
 have xf:=hgW.frozen (n*3+2)
 have hfin:=part_close (r:=r) k4 hx (o:=n*3+2) hA hgbw (part_when_rel H3.out (by rw[HWS.out];exact when_rel HR1.out))
 have HFIN:=Lib.hid hfin
 have S1:PaC0 g (n*3+2) (.slice A3 wl c3) (w12.alloc (.cells #[.string (strB hd),.slice B1 L1.length d1] 60)):=⟨(World.cell?_of_block (a:=⟨g,n*3+2,none⟩) (hx.block g hgu)).trans x1,trivial⟩
 have S2:PaC0 g (n*3+2) (.slice A3 wl c3) w':=⟨xg,trivial⟩
 clear k4 hgU hA hx sg sg' hgW hfin k3 own1 wd1 o1 ow3
 dsimp only
 refine hK _ _ ⟨fun _=>S0,?_⟩
 clear hS hK K
 (refine wpF_take (v:=?_) S0 rfl ?_ (fun _ _ _ h=>h) ?_;rotate_left;(· intro w' hS';obtain⟨e0,_⟩:=hS';go_simp<;>rfl);go_simp)
 refine wpF_only rfl (fun K hK=>?_)
 go_wp2_with fail
 first|refine⟨S1,?_⟩|skip
 refine wpF_only rfl (fun K hK=>?_)
 refine wp_append_run rfl rfl rfl hrun ?_
 clear hrun
 go_wp2_with fail
 first|refine⟨fun _=>S2,?_⟩|refine⟨S2,?_⟩|skip
 first|(refine wpF_only rfl (fun K hK=>?_);go_wp2_with fail;first|refine⟨fun _=>S2,?_⟩|refine⟨S2,?_⟩|skip)|skip
 clear S0 S1 e0 x1
 (refine wpF_take (v:=?_) S2 rfl ?_ (fun _ _ _ h=>h) ?_;rotate_left;(· intro w' hS';obtain⟨e0,_⟩:=hS';go_simp<;>rfl);go_simp)
 refine wpF_only rfl (fun K hK=>?_)
 go_wp2_with fail
 first|refine⟨fun h=>absurd h (by decide),wpF_nil ?_⟩|skip
 go_wp2_with fail
 go_end0
 exact HFIN.out
end Go.Proofs.YtpcdmbajfmnoiaaGreatDoor
