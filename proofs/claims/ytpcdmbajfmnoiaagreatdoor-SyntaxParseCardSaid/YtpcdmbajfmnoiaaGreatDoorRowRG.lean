/- Rows of elements of k cells: read, owned, appended to. No condition. Rows whose elements hold rows: read as a relation between an element's cells and what it is. No condition. -/
import Derived.Test.YtpcdmbajfmnoiaaGreatDoorBase
namespace Go.Proofs.YtpcdmbajfmnoiaaGreatDoor
set_option linter.unusedVariables false
set_option linter.unusedSimpArgs false
open Go.RowKit
structure RowTy(P:Program)(t e:TypeId)(k bytes:Nat)(z:Value):Prop where
 sl:P.underlying t=some (.slice e)
 info:(P.info? e).map (fun i=>(i.zero,i.size,i.bytes))=some (some z,k,bytes)
 zs:z.cells.size=k
 k0:0<k
section
variable {α:Type} {enc:α→List Value} {k:Nat}
def flatR(enc:α→List Value)(L:List α):List Value:=L.flatMap enc
theorem flatR_append(L M:List α):flatR enc (L++M)=flatR enc L++flatR enc M:=List.flatMap_append
theorem flatR_length(hk:∀x,(enc x).length=k)(L:List α):(flatR enc L).length=L.length*k:=by
 induction L with
 | nil=>simp[flatR]
 | cons x L ih =>
  rw[show flatR enc (x::L)=enc x++flatR enc L from rfl,List.length_append,ih,hk,List.length_cons,Nat.add_mul,Nat.one_mul,Nat.add_comm]
theorem flatR_one(h1:∀x,∀v∈enc x,v.oneCell'=true)(L:List α):∀u∈flatR enc L,u.oneCell'=true:=by
 intro u hu
 obtain⟨x,_,hx⟩:=List.mem_flatMap.1 hu
 exact h1 x u hx
theorem flatR_at(hk:∀x,(enc x).length=k):∀(L:List α)(j:Nat)(hj:j<L.length)(i:Nat),i<k→(flatR enc L)[j*k+i]?=(enc L[j])[i]?
 | [],j,hj,_,_=>absurd hj (by simp)
 | x::L,0,_,i,hi=>by
  rw[show flatR enc (x::L)=enc x++flatR enc L from rfl,Nat.zero_mul,Nat.zero_add,List.getElem?_append_left (by rw[hk];exact hi)]
  rfl
 | x::L,j+1,hj,i,hi=>by
  have e:(j+1)*k+i=k+(j*k+i):=by rw[Nat.add_mul,Nat.one_mul];omega
  rw[show flatR enc (x::L)=enc x++flatR enc L from rfl,e,List.getElem?_append_right (by rw[hk];omega),hk,show k+(j*k+i)-k=j*k+i from by omega]
  exact flatR_at hk L j (by simpa using hj) i hi
def RdR(enc:α→List Value)(k:Nat)(w:World)(B:Nat)(A:Option Addr)(n:Nat)(L:List α):Prop :=
 L.length=n∧(0<n→∃b off,A=some ⟨b,off,none⟩∧b<B∧∀j (hj:j<L.length) i v,(enc L[j])[i]?=some v→w.cell? ⟨b,off+j*k+i,none⟩=some v)
theorem RdR.below{w w':World}{B:Nat}{A:Option Addr}{n:Nat}{L:List α}(h:RdR enc k w B A n L)(hb:Below B w w'):RdR enc k w' B A n L :=
 ⟨h.1,fun hn=>by
  obtain⟨b,off,h1,h2,h3⟩:=h.2 hn
  exact⟨b,off,h1,h2,fun j hj i v hv=>(hb.cell (p:=⟨b,off+j*k+i,none⟩) h2).trans (h3 j hj i v hv)⟩⟩
theorem RdR.more{w:World}{B B':Nat}{A:Option Addr}{n:Nat}{L:List α}(h:RdR enc k w B A n L)(hB:B≤B'):RdR enc k w B' A n L :=
 ⟨h.1,fun hn=>by
  obtain⟨b,off,h1,h2,h3⟩:=h.2 hn
  exact⟨b,off,h1,by omega,h3⟩⟩
theorem RdR.nil{w:World}{B:Nat}{A:Option Addr}:RdR enc k w B A 0 []:=⟨rfl,fun h=>absurd h (by omega)⟩
def OwnR(enc:α→List Value)(k:Nat)(w:World)(base e:Nat)(v:Value)(L:List α):Prop:=w.ownsRow base e k v L.length (flatR enc L)
theorem OwnR.form{w:World}{base e:Nat}{v:Value}{m:Nat}{xs:List Value}(h:w.ownsRow base e k v m xs):∃A c,v=.slice A m c:=by
 rcases h.2 with ⟨h1,h2⟩|⟨g,cap,cur,h1,_⟩
 ·exact⟨none,0,by rw[h1,h2]⟩
 exact⟨_,_,h1⟩
theorem OwnR.len{w:World}{base e:Nat}{A:Option Addr}{n c:Nat}{L:List α}(h:OwnR enc k w base e (.slice A n c) L):L.length=n:=by
 rcases h.2 with ⟨h1,h2⟩|⟨g,cap,cur,h1,_⟩
 ·injection h1 with _ h3 _;omega
 injection h1 with _ h3 _;exact h3.symm
theorem OwnR.cap{w:World}{base e:Nat}{A:Option Addr}{n c:Nat}{L:List α}(h:OwnR enc k w base e (.slice A n c) L):n≤c:=by
 rcases h.2 with ⟨h1,h2⟩|⟨g,cap,cur,h1,h2,h3,h4,h5,h6,h7⟩
 ·injection h1 with _ h3 h4;omega
 injection h1 with h8 h9 h10
 have:=h.len
 omega
theorem OwnR.blk{w:World}{base e:Nat}{A:Option Addr}{n c:Nat}{L:List α}(hk:∀x,(enc x).length=k)(h:OwnR enc k w base e (.slice A n c) L)(hn:0<n) :
  ∃g cur,A=some ⟨g,0,none⟩∧base≤g∧Blk w g e cur∧cur.length=c*k∧c≤maxLen∧∀j (hj:j<L.length) i,i<k→cur[j*k+i]?=(enc L[j])[i]?:=by
 have hl:=h.len
 rcases h.2 with ⟨h1,h2⟩|⟨g,cap,cur,h1,h2,h3,h4,h5,h6,h7⟩
 ·omega
 injection h1 with h8 h9 h10
 subst h8 h10
 refine⟨g,cur.toList,rfl,h2,by unfold Blk;rw[Array.toArray_toList];exact h3,by rw[Array.length_toList];exact h6,h5,fun j hj i hi=>?_⟩
 rw[←flatR_at hk L j hj i hi,←h7,List.getElem?_take,if_pos]
 have:(j+1)*k≤L.length*k:=Nat.mul_le_mul_right k hj
 rw[Nat.add_mul,Nat.one_mul] at this
 omega
theorem OwnR.rd{w:World}{base e:Nat}{A:Option Addr}{n c:Nat}{L:List α}(hk:∀x,(enc x).length=k)(h:OwnR enc k w base e (.slice A n c) L):RdR enc k w w.heap.size A n L:=by
 refine⟨h.len,fun hn=>?_⟩
 obtain⟨g,cur,hA,hg,hb,_,_,hc⟩:=h.blk hk hn
 refine⟨g,0,hA,hb.lt,fun j hj i v hv=>?_⟩
 have hi:i<k:=by
  have:=(List.getElem?_eq_some_iff.1 hv).1
  rw[hk] at this
  exact this
 rw[Nat.zero_add,hb.cell,hc j hj i hi]
 exact hv
theorem OwnR.below{w w':World}{base e:Nat}{v:Value}{L:List α}(h:OwnR enc k w base e v L){B:Nat}(hB:w.heap.size≤B)(hb:Below B w w'):OwnR enc k w' base e v L:=by
 refine⟨h.1,?_⟩
 rcases h.2 with hn|⟨g,cap,cur,h1,h2,h3,h4⟩
 ·exact .inl hn
 refine .inr ⟨g,cap,cur,h1,h2,?_,h4⟩
 rw[hb.block g (by have:=(Array.getElem?_eq_some_iff.1 h3).1;omega)]
 exact h3
theorem OwnR.base_le{w:World}{base base' e:Nat}{v:Value}{L:List α}(h:OwnR enc k w base e v L)(hb:base'≤base):OwnR enc k w base' e v L:=by
 refine⟨h.1,?_⟩
 rcases h.2 with hn|⟨g,cap,cur,h1,h2,h3⟩
 ·exact .inl hn
 exact .inr ⟨g,cap,cur,h1,by omega,h3⟩
theorem OwnR.nil{w:World}{base e:Nat}:OwnR enc k w base e (.slice none 0 0) ([]:List α):=⟨by simp[flatR],.inl ⟨rfl,rfl⟩⟩
theorem OwnR.empty{w:World}{base e:Nat}(hb:base≤w.heap.size):OwnR enc k (w.alloc (.cells #[] e)) base e (.slice (some ⟨w.heap.size,0,none⟩) 0 0) ([]:List α) :=
 ⟨by simp[flatR],.inr ⟨w.heap.size,0,#[],rfl,hb,heap_alloc_new w _,Nat.le_refl _,Nat.zero_le _,by simp,by simp[flatR]⟩⟩
theorem RdR.news{w:World}{B:Nat}{ad:Addr}{n:Nat}{L:List α}(hk:∀x,(enc x).length=k)(h:RdR enc k w B (some ad) n L):∀j u,(flatR enc L)[j]?=some u→w.cell? (ad.add j)=some u:=by
 intro j u hu
 have hj:=(List.getElem?_eq_some_iff.1 hu).1
 rw[flatR_length hk] at hj
 have hk0:0<k:=by
  rcases Nat.eq_zero_or_pos k with e|e
  ·rw[e] at hj;omega
  exact e
 have hl:0<L.length:=by
  rcases Nat.eq_zero_or_pos L.length with e|e
  ·rw[e] at hj;omega
  exact e
 obtain⟨b,off,e,_,hc⟩:=h.2 (by rw[←h.1];exact hl)
 injection e with e
 subst e
 have hd:j/k<L.length:=by rw[Nat.div_lt_iff_lt_mul hk0];exact hj
 have hm:j%k<k:=Nat.mod_lt _ hk0
 have e1:j/k*k+j%k=j:=by rw[Nat.mul_comm];exact Nat.div_add_mod j k
 rw[←e1,flatR_at hk L _ hd _ hm] at hu
 have:=hc (j/k) hd (j%k) u hu
 rw[show (⟨b,off,none⟩:Addr).add j=⟨b,off+j/k*k+j%k,none⟩ from by rw[Nat.add_assoc,e1];unfold Addr.add;split<;>simp_all]
 exact this
theorem run_append_nilR{P:Program}{t e:TypeId}{bytes:Nat}{z:Value}(T:RowTy P t e k bytes z)(ty:TypeId){w:World}{base:Nat}{A:Option Addr}{n c:Nat}{L:List α}(hown:OwnR enc k w base e (.slice A n c) L)(c2:Nat) :
  (Builtin.append_ #[t,t] ty #[.slice A n c,.slice none 0 c2]).run P w=.ok (.slice A n c) w:=by
 obtain⟨i,hi,hz0,hz1,hz2⟩:=info_parts T.info
 rcases hown.2 with ⟨h1,h2⟩|⟨g,cap,cur,h1,_,_,hnc,_⟩
 ·rw[h1]
  simp[Builtin.append_,run_underlying T.sl,sizeOf,typeInfo,hi,Builtin.lenOf,Builtin.firstCells]
 injection h1 with h3 h4 h5
 subst h3 h4 h5
 simp[Builtin.append_,run_underlying T.sl,sizeOf,typeInfo,hi,Builtin.lenOf,Builtin.firstCells,hnc,storeCells]
theorem run_appendRow{P:Program}{t e:TypeId}{bytes:Nat}{z:Value}(T:RowTy P t e k bytes z)(hk:∀x,(enc x).length=k)(h1:∀x,∀v∈enc x,v.oneCell'=true)(ty:TypeId){w:World}{base:Nat}{A:Option Addr}{n c:Nat}{L:List α}(hown:OwnR enc k w base e (.slice A n c) L)
  {B:Nat} {A2:Option Addr} {m:Nat} {L2:List α} (hr:RdR enc k w B A2 m L2) (c2:Nat) (hlen:(n+m)*bytes≤140737488355328) (hmax:n+m≤maxLen) (hbase:base≤w.heap.size) :
  ∃A' c' w',(Builtin.append_ #[t,t] ty #[.slice A n c,.slice A2 m c2]).run P w=.ok (.slice A' (n+m) c') w'∧OwnR enc k w' base e (.slice A' (n+m) c') (L++L2)∧w.grownBy w' (Value.slice A n c).ownBlock:=by
 obtain⟨i,hi,hz0,hz1,hz2⟩:=info_parts T.info
 have hl:=hown.len
 have hl2:=hr.1
 rcases A2 with _|ad
 ·have hm:m=0:=by
   rcases Nat.eq_zero_or_pos m with h0|h0
   ·exact h0
   obtain⟨b,off,h,_⟩:=hr.2 h0
   cases h
  subst hm
  have hn:L2=[]:=List.eq_nil_of_length_eq_zero hl2
  subst hn
  exact⟨A,c,w,run_append_nilR T ty hown c2,by rw[List.append_nil];exact hown,World.grownBy.refl w _⟩
 obtain⟨v',w',hrun,h2,h3,_⟩:=run_append_own (P:=P) w base t ty e i z k bytes T.sl hi hz0 hz1 hz2 T.zs T.k0 (.slice A n c) n (flatR enc L) (hl▸hown) ad m c2 (flatR enc L2) (by rw[flatR_length hk,hl2]) (hr.news hk) (flatR_one h1 L2) hmax hlen hbase
 rw[←flatR_append] at h2
 obtain⟨A',c',rfl⟩:=OwnR.form h2
 refine⟨A',c',w',hrun,?_,h3⟩
 unfold OwnR
 rw[List.length_append,hl,hl2]
 exact h2
theorem appendRow{P:Program}{t e:TypeId}{bytes:Nat}{z:Value}(T:RowTy P t e k bytes z)(hk:∀x,(enc x).length=k)(h1:∀x,∀v∈enc x,v.oneCell'=true){ops:Array Oper}{rest:List Oper}{o:Oper}{a:Act}{Q:Exit→Act→World→Prop}{w0 w:World}
  (hgd:o.guard=none) {s x:Operand} (ho:o.op=.call { callee:=.builtin .append,args:=#[s,x],argTypes:=#[t,t] })
  {base:Nat} {A:Option Addr} {n c:Nat} {L:List α} (hs:a.eval s=.slice A n c) (hown:OwnR enc k w base e (.slice A n c) L)
  {B:Nat} {A2:Option Addr} {m c2:Nat} {L2:List α} (hx:a.eval x=.slice A2 m c2) (hr:RdR enc k w B A2 m L2) (hlen:(n+m)*bytes≤140737488355328) (hmax:n+m≤maxLen) (hB:Below base w0 w) (hbase:base≤w0.heap.size)
  (h:∀A' c' w',OwnR enc k w' base e (.slice A' (n+m) c') (L++L2)→Below base w0 w'→w.grownBy w' (Value.slice A n c).ownBlock→wpList P ops Q rest (a.put o.dst (.slice A' (n+m) c')) w') :
  wpList P ops Q (o::rest) a w:=by
 refine wpList_plain hgd fun K hK=>?_
 obtain⟨A',c',w',hrun,h2,h3⟩:=run_appendRow T hk h1 o.type hown hr c2 hlen hmax (Nat.le_trans hbase hB.size)
 unfold Oper.wp execOp
 simp only[ho,resolve,invoke,builtin,Sem.run_bind,Sem.run_pure,Result.andThen_ok,List.map_toArray,List.map_cons,List.map_nil,hs,hx,hrun]
 exact hK _ _ (h A' c' w' h2 (hB.grown h3 (Nat.le_trans hbase hB.size) (fun k hk=>(World.ownsRow.lt hown k hk).1)) h3)
end
section
variable {α:Type} {k:Nat} {P:World→Nat→List Value→α→Prop}
def RdG(k:Nat)(P:World→Nat→List Value→α→Prop)(w:World)(B:Nat)(A:Option Addr)(n:Nat)(L:List α):Prop :=
 L.length=n∧(0<n→∃b off,A=some ⟨b,off,none⟩∧b<B∧∀j (hj:j<L.length),∃cs:List Value,cs.length=k∧P w B cs L[j]∧∀i v,cs[i]?=some v→w.cell? ⟨b,off+j*k+i,none⟩=some v)
theorem RdG.nil{w:World}{B:Nat}{A:Option Addr}:RdG k P w B A 0 []:=⟨rfl,fun h=>absurd h (by omega)⟩
theorem RdG.mono{w w':World}{B B' n:Nat}{A:Option Addr}{L:List α}(h:RdG k P w B A n L)(hB:B≤B')(hb:Below B w w')(hP:∀cs x,P w B cs x→P w' B' cs x):RdG k P w' B' A n L :=
 ⟨h.1,fun hn=>by
  obtain⟨b,off,h1,h2,h3⟩:=h.2 hn
  refine⟨b,off,h1,by omega,fun j hj=>?_⟩
  obtain⟨cs,h4,h5,h6⟩:=h3 j hj
  exact⟨cs,h4,hP _ _ h5,fun i v hv=>(hb.cell (p:=⟨b,off+j*k+i,none⟩) h2).trans (h6 i v hv)⟩⟩
theorem RdG.at_{w:World}{B n j:Nat}{A:Option Addr}{L:List α}(h:RdG k P w B A n L)(hj:j<n):∃b off cs,A=some ⟨b,off,none⟩∧b<B∧cs.length=k∧P w B cs (L[j]'(by rw[h.1];exact hj))∧∀i v,cs[i]?=some v→w.cell? ⟨b,off+j*k+i,none⟩=some v:=by
 obtain⟨b,off,h1,h2,h3⟩:=h.2 (by omega)
 obtain⟨cs,h4,h5,h6⟩:=h3 j (by rw[h.1];exact hj)
 exact⟨b,off,cs,h1,h2,h4,h5,h6⟩
end
end Go.Proofs.YtpcdmbajfmnoiaaGreatDoor
