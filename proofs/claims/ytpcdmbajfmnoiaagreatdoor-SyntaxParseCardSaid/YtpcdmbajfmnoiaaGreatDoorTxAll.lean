/- 'Off X w w'': the world w' is as w was off the blocks that meet X, and with new ones. No condition. Memory that is the call's own all the way down: rows whose elements hold rows; append to such rows. No condition. append to an empty row without room; append of one element as an operation. No condition. Rows that grow side by side, what they hold apart from them: memory of one's own in parts. No condition. The text that Parse reads into: its box, its rows; what becomes of them. No condition. What becomes of the text's box and rows: a policy that is begun, a rule more, a part more, a policy that is done. No condition. What becomes of the text: a rule more; a source, a target, a condition more of its last rule. No condition. Printed by gen_tx3.py. -/
import Derived.Test.YtpcdmbajfmnoiaaGreatDoorPolData
import Derived.RangeFuncWrites
import Derived.Test.YtpcdmbajfmnoiaaGreatDoorSynParseAll
namespace Go.Proofs.YtpcdmbajfmnoiaaGreatDoor
set_option linter.unusedVariables false
set_option linter.unusedSimpArgs false
open Go.RowKit
structure Off(X:Nat→Prop)(w w':World):Prop where
 os:w'.os=w.os
 tape:w'.tape=w.tape
 output:w'.output=w.output
 size:w.heap.size≤w'.heap.size
 block:∀k,k<w.heap.size→¬X k→w'.heap[k]?=w.heap[k]?
theorem Off.refl(X:Nat→Prop)(w:World):Off X w w:=⟨rfl,rfl,rfl,Nat.le_refl _,fun _ _ _=>rfl⟩
theorem Off.trans{X Y:Nat→Prop}{a b c:World}(h:Off X a b)(k:Off Y b c)(hXY:∀i,i<a.heap.size→Y i→X i):Off X a c :=
 ⟨k.os.trans h.os,k.tape.trans h.tape,k.output.trans h.output,Nat.le_trans h.size k.size,fun i hi hx=>(k.block i (Nat.lt_of_lt_of_le hi h.size) fun hy=>hx (hXY i hi hy)).trans (h.block i hi hx)⟩
theorem Off.mono{X Y:Nat→Prop}{a b:World}(h:Off X a b)(hXY:∀i,i<a.heap.size→X i→Y i):Off Y a b :=
 ⟨h.os,h.tape,h.output,h.size,fun i hi hy=>h.block i hi fun hx=>hy (hXY i hi hx)⟩
theorem Off.drew{X:Nat→Prop}{a b:World}(h:Off X a b):Off X a b.drew:=⟨h.os,h.tape,h.output,h.size,h.block⟩
theorem Off.drewN{X:Nat→Prop}{a b:World}(h:Off X a b)(n:Nat):Off X a (b.drewN n):=⟨h.os,h.tape,h.output,h.size,h.block⟩
theorem Off.alloc{X:Nat→Prop}{a b:World}(h:Off X a b)(o:Obj):Off X a (b.alloc o) :=
 ⟨h.os,h.tape,h.output,Nat.le_trans h.size (by simp),fun i hi hx=>(Below.heap_alloc b o i (Nat.lt_of_lt_of_le hi h.size)).trans (h.block i hi hx)⟩
theorem Off.setCell{X:Nat→Prop}{a b:World}(h:Off X a b){p:Addr}(hp:p.block<a.heap.size→X p.block)(u:Value):Off X a (b.setCell p u) :=
 ⟨h.os,h.tape,h.output,Nat.le_trans h.size (by simp[World.setCell]),fun i hi hx=>(Below.heap_setCell b p u i (fun e=>hx (e▸hp (e▸hi)))).trans (h.block i hi hx)⟩
theorem Off.grown{X:Nat→Prop}{a b c:World}{row:Option Nat}(h:Off X a b)(hg:b.grownBy c row)(hr:∀k,row=some k→k<a.heap.size→X k):Off X a c :=
 ⟨hg.os.trans h.os,hg.tape.trans h.tape,hg.output.trans h.output,Nat.le_trans h.size hg.size,fun i hi hx=>(hg.block i (Nat.lt_of_lt_of_le hi h.size) fun e=>hx (hr i e.symm hi)).trans (h.block i hi hx)⟩
theorem Off.below{X:Nat→Prop}{a b:World}(h:Off X a b){B:Nat}(hB:B≤a.heap.size)(hX:∀k,X k→B≤k):Below B a b :=
 ⟨h.os,h.tape,h.output,h.size,fun k hk=>h.block k (Nat.lt_of_lt_of_le hk hB) fun hx=>Nat.lt_irrefl _ (Nat.lt_of_lt_of_le hk (hX k hx))⟩
theorem Off.of_below{a b:World}{B:Nat}(h:Below B a b):Off (fun k=>B≤k) a b :=
 ⟨h.os,h.tape,h.output,h.size,fun k _ hk=>h.block k (by omega)⟩
theorem Off.of_all{a b:World}(h:Below a.heap.size a b):Off (fun _=>False) a b :=
 ⟨h.os,h.tape,h.output,h.size,fun k hk _=>h.block k hk⟩
theorem Off.all{a b:World}(h:Off (fun _=>False) a b):Below a.heap.size a b:=⟨h.os,h.tape,h.output,h.size,fun k hk=>h.block k hk id⟩
theorem Blk.off{X:Nat→Prop}{w w':World}{g t:Nat}{cs:List Value}(h:Blk w g t cs)(hb:Off X w w')(hg:¬X g):Blk w' g t cs:=(hb.block g h.lt hg).trans h
theorem Off.cell{X:Nat→Prop}{w w':World}(hb:Off X w w'){p:Addr}(hp:p.block<w.heap.size)(hx:¬X p.block):w'.cell? p=w.cell? p:=World.cell?_of_block (hb.block _ hp hx)
def Sub(B:Nat)(w w':World):Prop:=∀p:Addr,p.block<B→∀v,w.cell? p=some v→w'.cell? p=some v
theorem Sub.of_below{B:Nat}{w w':World}(h:Below B w w'):Sub B w w':=fun p hp v hv=>(h.cell hp).trans hv
theorem Sub.trans{B:Nat}{a b c:World}(h:Sub B a b)(k:Sub B b c):Sub B a c:=fun p hp v hv=>k p hp v (h p hp v hv)
section
variable {α:Type} {enc:α→List Value} {k:Nat} {P:World→Nat→List Value→α→Prop} {w w':World} {B B' n:Nat} {A:Option Addr} {L:List α} {v:Value}
theorem RdR.sub(h:RdR enc k w B A n L)(hB:B≤B')(hs:Sub B w w'):RdR enc k w' B' A n L :=
 ⟨h.1,fun hn=>by
  obtain⟨b,off,h1,h2,h3⟩:=h.2 hn
  exact⟨b,off,h1,by omega,fun j hj i v hv=>hs ⟨b,off+j*k+i,none⟩ h2 v (h3 j hj i v hv)⟩⟩
theorem RdG.sub(h:RdG k P w B A n L)(hB:B≤B')(hs:Sub B w w')(hP:∀cs x,P w B cs x→P w' B' cs x):RdG k P w' B' A n L :=
 ⟨h.1,fun hn=>by
  obtain⟨b,off,h1,h2,h3⟩:=h.2 hn
  refine⟨b,off,h1,by omega,fun j hj=>?_⟩
  obtain⟨cs,h4,h5,h6⟩:=h3 j hj
  exact⟨cs,h4,hP _ _ h5,fun i v hv=>hs ⟨b,off+j*k+i,none⟩ h2 v (h6 i v hv)⟩⟩
theorem RvR.sub(h:RvR enc k w B v L)(hB:B≤B')(hs:Sub B w w'):RvR enc k w' B' v L:=by
 obtain⟨A,n,c,h1,h2,h3,h4⟩:=h
 exact⟨A,n,c,h1,h2,h3,h4.sub hB hs⟩
theorem RvG.sub(h:RvG k P w B v L)(hB:B≤B')(hs:Sub B w w')(hP:∀cs x,P w B cs x→P w' B' cs x):RvG k P w' B' v L:=by
 obtain⟨A,n,c,h1,h2,h3,h4⟩:=h
 exact⟨A,n,c,h1,h2,h3,h4.sub hB hs hP⟩
end
def Mn{α:Type}(P:World→Nat→List Value→α→Prop):Prop:=∀w w' B B' cs x,B≤B'→Sub B w w'→P w B cs x→P w' B' cs x
theorem SrP.mn:Mn SrP:=by
 rintro w w' B B' cs x hB hs ⟨v1,v2,v3,e,h1,h2,h3⟩
 exact⟨v1,v2,v3,e,h1.sub hB hs,h2.sub hB hs,h3.sub hB hs⟩
theorem TgP.mn:Mn TgP:=by
 rintro w w' B B' cs x hB hs ⟨v1,v2,v3,v4,e,h1,h2,h3,h4⟩
 exact⟨v1,v2,v3,v4,e,h1.sub hB hs,h2.sub hB hs,h3.sub hB hs,h4.sub hB hs⟩
theorem WnP.mn:Mn WnP:=by
 rintro w w' B B' cs x hB hs ⟨v,e,h1⟩
 exact⟨v,e,h1.sub hB hs⟩
theorem RuP.mn:Mn RuP:=by
 rintro w w' B B' cs x hB hs ⟨v1,v2,v3,e,h1,h2,h3⟩
 exact⟨v1,v2,v3,e,RvG.sub h1 hB hs fun _ _ h=>SrP.mn _ _ _ _ _ _ hB hs h,RvG.sub h2 hB hs fun _ _ h=>TgP.mn _ _ _ _ _ _ hB hs h,RvG.sub h3 hB hs fun _ _ h=>WnP.mn _ _ _ _ _ _ hB hs h⟩
theorem PoP.mn:Mn PoP:=by
 rintro w w' B B' cs x hB hs ⟨v,e,h1⟩
 exact⟨v,e,RvG.sub h1 hB hs fun _ _ h=>RuP.mn _ _ _ _ _ _ hB hs h⟩
theorem RdG.mn{α:Type}{k:Nat}{P:World→Nat→List Value→α→Prop}(hP:Mn P){w w':World}{B B' n:Nat}{A:Option Addr}{L:List α}(h:RdG k P w B A n L)(hB:B≤B')(hs:Sub B w w'):RdG k P w' B' A n L:=h.sub hB hs fun _ _ h=>hP _ _ _ _ _ _ hB hs h
theorem RvG.mn{α:Type}{k:Nat}{P:World→Nat→List Value→α→Prop}(hP:Mn P){w w':World}{B B':Nat}{v:Value}{L:List α}(h:RvG k P w B v L)(hB:B≤B')(hs:Sub B w w'):RvG k P w' B' v L:=h.sub hB hs fun _ _ h=>hP _ _ _ _ _ _ hB hs h
def mineB(lo:Nat)(g:Option Nat)(i:Nat):Obj→Bool
 | .cells _ _ (0,0)=>decide (lo≤i)&&decide (some i≠g)
 | _=>false
def mineW(lo:Nat)(g:Option Nat)(w:World):World:={ w with heap:=w.heap.mapIdx fun i o=>if mineB lo g i o then o else .cells #[] 0 }
theorem mineW_in{lo:Nat}{g:Option Nat}{w:World}{p:Addr}{v:Value}(h:(mineW lo g w).cell? p=some v):w.cell? p=some v∧lo≤p.block∧some p.block≠g∧∃c t,w.heap[p.block]?=some (.cells c t (0,0)):=by
 unfold World.cell? mineW at h
 simp only[Array.getElem?_mapIdx] at h
 unfold World.cell?
 cases ho:w.heap[p.block]? with
 | none=>rw[ho] at h;cases h
 | some o =>
  rw[ho] at h
  simp only[Option.map_some] at h
  by_cases hm:mineB lo g p.block o=true
  ·rw[if_pos hm] at h
   refine⟨h,?_⟩
   unfold mineB at hm
   split at hm
   ·simp only[Bool.and_eq_true,decide_eq_true_eq] at hm
    exact⟨hm.1,hm.2,_,_,rfl⟩
   cases hm
  rw[if_neg hm] at h
  simp at h
theorem mineW_of{lo:Nat}{g:Option Nat}{w:World}{p:Addr}{v:Value}(h:w.cell? p=some v)(hl:lo≤p.block)(hg:some p.block≠g){c:Array Value}{t:TypeId}(hc:w.heap[p.block]?=some (.cells c t (0,0))):(mineW lo g w).cell? p=some v:=by
 unfold World.cell? at h
 unfold World.cell? mineW
 simp only[Array.getElem?_mapIdx]
 rw[hc] at h ⊢
 simp only[Option.map_some]
 have:mineB lo g p.block (.cells c t (0,0))=true:=by
  unfold mineB
  simp only[Bool.and_eq_true,decide_eq_true_eq]
  exact⟨hl,hg⟩
 rw[if_pos this]
 exact h
theorem Sub.out(lo:Nat)(g:Option Nat)(w:World)(B:Nat):Sub B (mineW lo g w) w:=fun _ _ _ h=>(mineW_in h).1
theorem Sub.less{lo lo':Nat}{g g':Option Nat}{w:World}{B:Nat}(hl:lo'≤lo)(hg:g'=g∨g'=none):Sub B (mineW lo g w) (mineW lo' g' w):=fun p _ v h=>by
 obtain⟨h1,h2,h3,c,t,h4⟩:=mineW_in h
 refine mineW_of h1 (by omega) ?_ h4
 rcases hg with rfl|rfl
 ·exact h3
 simp
theorem Sub.off{X:Nat→Prop}{lo lo':Nat}{g g':Option Nat}{w w':World}{B:Nat}(hb:Off X w w')(hB:B≤w.heap.size)(hl:lo'≤lo)(hX:∀k,lo≤k→some k≠g→k<B→¬X k)(hg:∀k,g'=some k→g=some k∨w.heap.size≤k∨k<lo):Sub B (mineW lo g w) (mineW lo' g' w'):=fun p hp v h=>by
 obtain⟨h1,h2,h3,c,t,h4⟩:=mineW_in h
 have e:=hb.block p.block (by omega) (hX _ h2 h3 hp)
 refine mineW_of ((World.cell?_of_block e).trans h1) (by omega) (fun e1=>?_) (e.trans h4)
 rcases hg _ e1.symm with e2|e2|e2
 ·exact h3 e2.symm
 ·omega
 omega
section
variable {α:Type} {k:Nat} {P:World→Nat→List Value→α→Prop}
theorem flat_at:∀(css:List (List Value)) (hk:∀cs∈css,cs.length=k) (j:Nat) (hj:j<css.length) (i:Nat),i<k→css.flatten[j*k+i]?=css[j][i]?
 | [],_,j,hj,_,_=>absurd hj (by simp)
 | x::L,hk,0,_,i,hi=>by
  rw[List.flatten_cons,Nat.zero_mul,Nat.zero_add,List.getElem?_append_left (by rw[hk x (List.mem_cons_self)];exact hi)]
  rfl
 | x::L,hk,j+1,hj,i,hi=>by
  have e:(j+1)*k+i=k+(j*k+i):=by rw[Nat.add_mul,Nat.one_mul];omega
  have hx:=hk x (List.mem_cons_self)
  rw[List.flatten_cons,e,List.getElem?_append_right (by rw[hx];omega),hx,show k+(j*k+i)-k=j*k+i from by omega]
  exact flat_at L (fun cs h=>hk cs (List.mem_cons_of_mem _ h)) j (by simpa using hj) i hi
def OwnG(k:Nat)(P:World→Nat→List Value→α→Prop)(w:World)(base e:Nat)(v:Value)(L:List α):Prop :=
 ∃css:List (List Value),css.length=L.length∧w.ownsRow base e k v L.length css.flatten∧(∀cs∈css,cs.length=k∧∀u∈cs,u.oneCell'=true) ∧
  ∀j (hj:j<L.length) (hc:j<css.length),P (mineW base v.ownBlock w) w.heap.size css[j] L[j]
variable {w w':World} {base e:Nat} {v:Value} {L:List α} {A:Option Addr} {n c:Nat}
theorem OwnG.nil:OwnG k P w base e (.slice none 0 0) ([]:List α):=⟨[],rfl,World.ownsRow_nil w base e k,by simp,fun j hj=>absurd hj (by simp)⟩
theorem OwnG.form(h:OwnG k P w base e v L):∃A c,v=.slice A L.length c∧L.length≤c∧c≤maxLen:=by
 obtain⟨css,_,⟨_,h2⟩,_⟩:=h
 rcases h2 with ⟨h1,h2⟩|⟨g,cap,cur,h1,_,_,h3,h4,_⟩
 ·exact⟨none,0,by rw[h1,h2],by omega,by simp[maxLen]⟩
 exact⟨_,_,h1,h3,h4⟩
theorem OwnG.len(h:OwnG k P w base e (.slice A n c) L):L.length=n:=by
 obtain⟨A',c',h1,_⟩:=h.form
 injection h1 with _ h2 _
 exact h2.symm
theorem OwnG.lt(h:OwnG k P w base e v L):∀b,v.ownBlock=some b→base≤b∧b<w.heap.size:=by
 obtain⟨css,_,h2,_⟩:=h
 exact h2.lt
theorem OwnG.off(hP:Mn P){X:Nat→Prop}(h:OwnG k P w base e v L)(hb:Off X w w')(hX:∀k,X k→k<base∨w.heap.size≤k):OwnG k P w' base e v L:=by
 obtain⟨css,h1,h2,h3,h4⟩:=h
 have hn:∀k,base≤k→k<w.heap.size→¬X k:=fun k hk hk2 hx=>by have:=hX k hx;omega
 refine⟨css,h1,?_,h3,fun j hj hc=>hP _ _ _ _ _ _ hb.size (Sub.off hb (Nat.le_refl _) (Nat.le_refl _) (fun k hk _ hk2=>hn k hk hk2) fun k hk=>.inl hk) (h4 j hj hc)⟩
 refine⟨h2.1,?_⟩
 rcases h2.2 with h5|⟨g,cap,cur,h5,h6,h7,h8⟩
 ·exact .inl h5
 have hg:=(Array.getElem?_eq_some_iff.1 h7).1
 exact .inr ⟨g,cap,cur,h5,h6,(hb.block g hg (hn g h6 hg)).trans h7,h8⟩
theorem OwnG.below(hP:Mn P)(h:OwnG k P w base e v L)(hb:Below w.heap.size w w'):OwnG k P w' base e v L:=h.off hP (Off.of_all hb) fun _ hx=>hx.elim
theorem OwnG.base_le(hP:Mn P){base':Nat}(h:OwnG k P w base e v L)(hb:base'≤base):OwnG k P w base' e v L:=by
 obtain⟨css,h1,h2,h3,h4⟩:=h
 refine⟨css,h1,⟨h2.1,?_⟩,h3,fun j hj hc=>hP _ _ _ _ _ _ (Nat.le_refl _) (Sub.less hb (.inl rfl)) (h4 j hj hc)⟩
 rcases h2.2 with h5|⟨g,cap,cur,h5,h6,h7⟩
 ·exact .inl h5
 exact .inr ⟨g,cap,cur,h5,by omega,h7⟩
theorem OwnG.blk(h:OwnG k P w base e (.slice A n c) L)(hn:0<n) :
  ∃(g:Nat)(cur:List Value)(css:List (List Value)),A=some ⟨g,0,none⟩∧base≤g∧Blk w g e cur∧n*k≤cur.length∧css.length=L.length∧(∀cs∈css,cs.length=k)∧(∀j (hj:j<css.length) i,i<k→cur[j*k+i]?=css[j][i]?) ∧
   ∀j (hj:j<L.length) (hc:j<css.length),P (mineW base (some g) w) w.heap.size css[j] L[j]:=by
 have hl:=h.len
 obtain⟨css,h1,h2,h3,h4⟩:=h
 rcases h2.2 with ⟨h5,h6⟩|⟨g,cap,cur,h5,h6,h7,h8,h9,h10,h11⟩
 ·omega
 injection h5 with h12 h13 h14
 subst h12 h14
 have hc:n*k≤cur.toList.length:=by rw[Array.length_toList,h10];exact Nat.mul_le_mul_right k (by omega)
 refine⟨g,cur.toList,css,rfl,h6,by unfold Blk;rw[Array.toArray_toList];exact h7,hc,h1,fun cs hcs=>(h3 cs hcs).1,fun j hj i hi=>?_,h4⟩
 rw[←flat_at css (fun cs hcs=>(h3 cs hcs).1) j hj i hi,←h11,List.getElem?_take,if_pos]
 have:(j+1)*k≤L.length*k:=Nat.mul_le_mul_right k (by omega)
 rw[Nat.add_mul,Nat.one_mul] at this
 omega
theorem OwnG.rdm(hP:Mn P)(h:OwnG k P w base e (.slice A n c) L):RdG k P (mineW base none w) w.heap.size A n L:=by
 refine⟨h.len,fun hn=>?_⟩
 have hl:=h.len
 obtain⟨g,cur,css,hA,h1,h2,h3,h4,h5,h6,h7⟩:=h.blk hn
 refine⟨g,0,hA,h2.lt,fun j hj=>?_⟩
 have hj':j<css.length:=by omega
 refine⟨css[j],h5 _ (List.getElem_mem hj'),hP _ _ _ _ _ _ (Nat.le_refl _) (Sub.less (Nat.le_refl _) (.inr rfl)) (h7 j hj hj'),fun i v hv=>?_⟩
 have hi:i<k:=by
  have:=(List.getElem?_eq_some_iff.1 hv).1
  rwa [h5 _ (List.getElem_mem hj')] at this
 refine mineW_of (c:=cur.toArray) (t:=e) ?_ h1 (by simp) h2
 rw[Nat.zero_add,h2.cell,h6 j hj' i hi]
 exact hv
theorem OwnG.rd(hP:Mn P)(h:OwnG k P w base e (.slice A n c) L):RdG k P w w.heap.size A n L:=(h.rdm hP).mn hP (Nat.le_refl _) (Sub.out _ _ _ _)
theorem OwnG.rvm(hP:Mn P)(h:OwnG k P w base e v L):RvG k P (mineW base none w) w.heap.size v L:=by
 obtain⟨A,c,rfl,h1,h2⟩:=h.form
 exact⟨A,_,c,rfl,h1,h2,h.rdm hP⟩
theorem flatten_one(css:List (List Value))(cs:List Value):(css++[cs]).flatten=css.flatten++cs:=by simp
theorem run_append_blk{Pr:Program}{t:TypeId}{bytes:Nat}{z:Value}(T:RowTy Pr t e k bytes z)(ty:TypeId){xs:List Value}(hown:w.ownsRow base e k (.slice A n c) n xs)
  {ad:Addr} {c2:Nat} {cs:List Value} (hk:cs.length=k) (h1:∀u∈cs,u.oneCell'=true) (hc:∀j u,cs[j]?=some u→w.cell? (ad.add j)=some u)
  (hlen:(n+1)*bytes≤140737488355328) (hmax:n+1≤maxLen) :
  ∃v' w',(Builtin.append_ #[t,t] ty #[.slice A n c,.slice (some ad) 1 c2]).run Pr w=.ok v' w'∧(v'.ownBlock=(Value.slice A n c).ownBlock∨v'.ownBlock=some w.heap.size):=by
 obtain⟨i,hi,hz0,hz1,hz2⟩:=info_parts T.info
 have h63:n+1≤9223372036854775807:=by simp only[maxLen] at hmax;omega
 subst hz1 hz2
 rcases hown.2 with ⟨h4,h5⟩|⟨g,cap,cur,h4,hbg,hg,hnc,hcm,hcs,htake⟩
 ·injection h4 with h6 h7 h8
  subst h6 h7 h8
  exact⟨_,_,run_append_nil (P:=Pr) w t ty e i z T.sl hi hz0 ad 1 c2 cs (by rw[hk,Nat.one_mul]) hc (by omega) (by omega) (by omega),.inr rfl⟩
 injection h4 with h6 h7 h8
 subst h6 h8
 by_cases hroom:n+1≤c
 ·exact⟨_,_,run_append_room (P:=Pr) w t ty e i T.sl hi g n c cur hg ad 1 c2 cs (by rw[hk,Nat.one_mul]) hc h1 hroom (by rw[hk,hcs];have:=Nat.mul_le_mul_right i.size hroom;rw[Nat.add_mul,Nat.one_mul] at this;exact this),.inl rfl⟩
 exact⟨_,_,run_append_grow (P:=Pr) w t ty e i z T.sl hi hz0 ⟨g,0,none⟩ n c xs hown.1 (hown.cells (g:=g) rfl) ad 1 c2 cs (by rw[hk,Nat.one_mul]) hc (by omega) (by omega) (growslice_fits (by omega) hlen),.inr rfl⟩
end
section
variable {α:Type} {enc:α→List Value} {k:Nat} {P:World→Nat→List Value→α→Prop}
theorem new_cells(w:World)(cs:List Value)(t:Nat):∀j u,cs[j]?=some u→(w.alloc (.cells cs.toArray t)).cell? ((⟨w.heap.size,0,none⟩:Addr).add j)=some u:=by
 intro j u hu
 rw[show (⟨w.heap.size,0,none⟩:Addr).add j=⟨w.heap.size,j,none⟩ from by unfold Addr.add;split<;>simp_all,(Blk.newAt (w:=w) rfl t cs.toArray).cell]
 simpa using hu
theorem OwnR.grownG{w w':World}{base e:Nat}{v:Value}{L:List α}(h:OwnR enc k w base e v L){row:Option Nat}(hg:w.grownBy w' row)(hr:∀b,row=some b→b<base):OwnR enc k w' base e v L:=by
 refine⟨h.1,?_⟩
 rcases h.2 with hn|⟨g,cap,cur,h1,h2,h3,h4⟩
 ·exact .inl hn
 exact .inr ⟨g,cap,cur,h1,h2,(hg.block g (Array.getElem?_eq_some_iff.1 h3).1 (fun e=>by have:=hr g e.symm;omega)).trans h3,h4⟩
theorem OwnR.rvm{w:World}{base e:Nat}{A:Option Addr}{n c:Nat}{L:List α}(hk:∀x,(enc x).length=k)(h:OwnR enc k w base e (.slice A n c) L):RvR enc k (mineW base none w) w.heap.size (.slice A n c) L:=by
 have hl:=h.len
 have hc:c≤maxLen:=by
  rcases h.2 with ⟨h1,h2⟩|⟨g,cap,cur,h1,h2,h3,h4,h5,h6,h7⟩
  ·injection h1 with _ _ h3;omega
  injection h1 with _ _ h3;omega
 refine⟨A,n,c,rfl,h.cap,hc,hl,fun hn=>?_⟩
 obtain⟨g,cur,hA,hg,hb,_,_,hcc⟩:=h.blk hk hn
 refine⟨g,0,hA,hb.lt,fun j hj i v hv=>?_⟩
 have hi:i<k:=by
  have:=(List.getElem?_eq_some_iff.1 hv).1
  rw[hk] at this
  exact this
 refine mineW_of ?_ hg (by simp) hb
 rw[Nat.zero_add,hb.cell,hcc j hj i hi]
 exact hv
end
def keepB(K:Nat→Bool)(i:Nat):Obj→Bool
 | .cells _ _ (0,0)=>K i
 | _=>false
def keepW(K:Nat→Bool)(w:World):World:={ w with heap:=w.heap.mapIdx fun i o=>if keepB K i o then o else .cells #[] 0 }
theorem keepW_in{K:Nat→Bool}{w:World}{p:Addr}{v:Value}(h:(keepW K w).cell? p=some v):w.cell? p=some v∧K p.block=true∧∃c t,w.heap[p.block]?=some (.cells c t (0,0)):=by
 unfold World.cell? keepW at h
 simp only[Array.getElem?_mapIdx] at h
 unfold World.cell?
 cases ho:w.heap[p.block]? with
 | none=>rw[ho] at h;cases h
 | some o =>
  rw[ho] at h
  simp only[Option.map_some] at h
  by_cases hm:keepB K p.block o=true
  ·rw[if_pos hm] at h
   refine⟨h,?_⟩
   unfold keepB at hm
   split at hm
   ·exact⟨hm,_,_,rfl⟩
   cases hm
  rw[if_neg hm] at h
  simp at h
theorem keepW_of{K:Nat→Bool}{w:World}{p:Addr}{v:Value}(h:w.cell? p=some v)(hK:K p.block=true){c:Array Value}{t:TypeId}(hc:w.heap[p.block]?=some (.cells c t (0,0))):(keepW K w).cell? p=some v:=by
 unfold World.cell? at h
 unfold World.cell? keepW
 simp only[Array.getElem?_mapIdx]
 rw[hc] at h ⊢
 simp only[Option.map_some]
 have:keepB K p.block (.cells c t (0,0))=true:=hK
 rw[if_pos this]
 exact h
theorem Sub.keepOut(K:Nat→Bool)(w:World)(B:Nat):Sub B (keepW K w) w:=fun _ _ _ h=>(keepW_in h).1
theorem Sub.keep{K K':Nat→Bool}{w w':World}{B:Nat}(h:∀b,b<B→K b=true→K' b=true∧w'.heap[b]?=w.heap[b]?):Sub B (keepW K w) (keepW K' w'):=fun p hp v hv=>by
 obtain⟨h1,h2,c,t,h3⟩:=keepW_in hv
 obtain⟨h4,h5⟩:=h p.block hp h2
 exact keepW_of ((World.cell?_of_block h5).trans h1) h4 (h5.trans h3)
theorem Sub.mineKeep{lo:Nat}{g:Option Nat}{K:Nat→Bool}{w w':World}{B:Nat}(h:∀b,lo≤b→some b≠g→b<B→K b=true∧w'.heap[b]?=w.heap[b]?):Sub B (mineW lo g w) (keepW K w'):=fun p hp v hv=>by
 obtain⟨h1,h2,h3,c,t,h4⟩:=mineW_in hv
 obtain⟨h5,h6⟩:=h p.block h2 h3 hp
 exact keepW_of ((World.cell?_of_block h6).trans h1) h5 (h6.trans h4)
section
variable {α:Type} {k:Nat} {P:World→Nat→List Value→α→Prop}
def GrK(K:Nat→Bool)(k:Nat)(P:World→Nat→List Value→α→Prop)(w:World)(base e:Nat)(v:Value)(L:List α):Prop :=
 ∃css:List (List Value),css.length=L.length∧w.ownsRow base e k v L.length css.flatten∧(∀cs∈css,cs.length=k∧∀u∈cs,u.oneCell'=true) ∧
  ∀j (hj:j<L.length) (hc:j<css.length),P (keepW K w) w.heap.size css[j] L[j]
variable {K K':Nat→Bool} {w w':World} {base e:Nat} {v:Value} {L:List α} {A:Option Addr} {n c:Nat}
theorem GrK.nil:GrK K k P w base e (.slice none 0 0) ([]:List α):=⟨[],rfl,World.ownsRow_nil w base e k,by simp,fun j hj=>absurd hj (by simp)⟩
theorem GrK.form(h:GrK K k P w base e v L):∃A c,v=.slice A L.length c∧L.length≤c∧c≤maxLen:=by
 obtain⟨css,_,⟨_,h2⟩,_⟩:=h
 rcases h2 with ⟨h1,h2⟩|⟨g,cap,cur,h1,_,_,h3,h4,_⟩
 ·exact⟨none,0,by rw[h1,h2],by omega,by simp[maxLen]⟩
 exact⟨_,_,h1,h3,h4⟩
theorem GrK.len(h:GrK K k P w base e (.slice A n c) L):L.length=n:=by
 obtain⟨A',c',h1,_⟩:=h.form
 injection h1 with _ h2 _
 exact h2.symm
theorem GrK.lt(h:GrK K k P w base e v L):∀b,v.ownBlock=some b→base≤b∧b<w.heap.size:=by
 obtain⟨css,_,h2,_⟩:=h
 exact h2.lt
theorem ownsRow_move{m:Nat}{xs:List Value}(h:w.ownsRow base e k v m xs)(hv:∀b,v.ownBlock=some b→w'.heap[b]?=w.heap[b]?):w'.ownsRow base e k v m xs:=by
 refine⟨h.1,?_⟩
 rcases h.2 with h5|⟨g,cap,cur,h5,h6,h7,h8⟩
 ·exact .inl h5
 exact .inr ⟨g,cap,cur,h5,h6,(hv g (by rw[h5];rfl)).trans h7,h8⟩
theorem GrK.move(hP:Mn P)(h:GrK K k P w base e v L)(hs:w.heap.size≤w'.heap.size)(hK:∀b,b<w.heap.size→K b=true→K' b=true∧w'.heap[b]?=w.heap[b]?)(hv:∀b,v.ownBlock=some b→w'.heap[b]?=w.heap[b]?):GrK K' k P w' base e v L:=by
 obtain⟨css,h1,h2,h3,h4⟩:=h
 exact⟨css,h1,ownsRow_move h2 hv,h3,fun j hj hc=>hP _ _ _ _ _ _ hs (Sub.keep hK) (h4 j hj hc)⟩
theorem GrK.blk(h:GrK K k P w base e (.slice A n c) L)(hn:0<n) :
  ∃(g:Nat)(cur:List Value)(css:List (List Value)),A=some ⟨g,0,none⟩∧base≤g∧Blk w g e cur∧n*k≤cur.length∧css.length=L.length∧(∀cs∈css,cs.length=k)∧(∀j (hj:j<css.length) i,i<k→cur[j*k+i]?=css[j][i]?) ∧
   ∀j (hj:j<L.length) (hc:j<css.length),P (keepW K w) w.heap.size css[j] L[j]:=by
 have hl:=h.len
 obtain⟨css,h1,h2,h3,h4⟩:=h
 rcases h2.2 with ⟨h5,h6⟩|⟨g,cap,cur,h5,h6,h7,h8,h9,h10,h11⟩
 ·omega
 injection h5 with h12 h13 h14
 subst h12 h14
 have hc:n*k≤cur.toList.length:=by rw[Array.length_toList,h10];exact Nat.mul_le_mul_right k (by omega)
 refine⟨g,cur.toList,css,rfl,h6,by unfold Blk;rw[Array.toArray_toList];exact h7,hc,h1,fun cs hcs=>(h3 cs hcs).1,fun j hj i hi=>?_,h4⟩
 rw[←flat_at css (fun cs hcs=>(h3 cs hcs).1) j hj i hi,←h11,List.getElem?_take,if_pos]
 have:(j+1)*k≤L.length*k:=Nat.mul_le_mul_right k (by omega)
 rw[Nat.add_mul,Nat.one_mul] at this
 omega
theorem GrK.rdk(hP:Mn P)(h:GrK K k P w base e (.slice A n c) L)(hK:∀b,b<w.heap.size→K b=true→K' b=true)(hg:∀b,(Value.slice A n c).ownBlock=some b→K' b=true):RdG k P (keepW K' w) w.heap.size A n L:=by
 refine⟨h.len,fun hn=>?_⟩
 have hl:=h.len
 obtain⟨g,cur,css,hA,h1,h2,h3,h4,h5,h6,h7⟩:=h.blk hn
 subst hA
 refine⟨g,0,rfl,h2.lt,fun j hj=>?_⟩
 have hj':j<css.length:=by omega
 refine⟨css[j],h5 _ (List.getElem_mem hj'),hP _ _ _ _ _ _ (Nat.le_refl _) (Sub.keep fun b hb hk=>⟨hK b hb hk,rfl⟩) (h7 j hj hj'),fun i v hv=>?_⟩
 have hi:i<k:=by
  have:=(List.getElem?_eq_some_iff.1 hv).1
  rwa [h5 _ (List.getElem_mem hj')] at this
 refine keepW_of (c:=cur.toArray) (t:=e) ?_ (hg g rfl) h2
 rw[Nat.zero_add,h2.cell,h6 j hj' i hi]
 exact hv
theorem GrK.rvk(hP:Mn P)(h:GrK K k P w base e v L)(hK:∀b,b<w.heap.size→K b=true→K' b=true)(hg:∀b,v.ownBlock=some b→K' b=true):RvG k P (keepW K' w) w.heap.size v L:=by
 obtain⟨A,c,rfl,h1,h2⟩:=h.form
 exact⟨A,_,c,rfl,h1,h2,h.rdk hP hK hg⟩
theorem GrK.rd(hP:Mn P)(h:GrK K k P w base e (.slice A n c) L):RdG k P w w.heap.size A n L :=
 (h.rdk (K':=fun _=>true) hP (fun _ _ _=>rfl) (fun _ _=>rfl)).mn hP (Nat.le_refl _) (Sub.keepOut _ _ _)
theorem run_append_raw{Pr:Program}{t:TypeId}{bytes:Nat}{z:Value}(T:RowTy Pr t e k bytes z)(ty:TypeId){xs:List Value}(hown:w.ownsRow base e k (.slice A n c) n xs)
  {ad:Addr} {c2:Nat} {cs:List Value} (hk:cs.length=k) (h1:∀u∈cs,u.oneCell'=true) (hc:∀j u,cs[j]?=some u→w.cell? (ad.add j)=some u)
  (hlen:(n+1)*bytes≤140737488355328) (hmax:n+1≤maxLen) (hbase:base≤w.heap.size) :
  ∃A' c' w',(Builtin.append_ #[t,t] ty #[.slice A n c,.slice (some ad) 1 c2]).run Pr w=.ok (.slice A' (n+1) c') w'∧w'.ownsRow base e k (.slice A' (n+1) c') (n+1) (xs++cs)∧w.grownBy w' (Value.slice A n c).ownBlock ∧
   ((Value.slice A' (n+1) c').ownBlock=(Value.slice A n c).ownBlock∨(Value.slice A' (n+1) c').ownBlock=some w.heap.size):=by
 obtain⟨i,hi,hz0,hz1,hz2⟩:=info_parts T.info
 obtain⟨v',w',hrun,h2,h3,_⟩:=run_append_own (P:=Pr) w base t ty e i z k bytes T.sl hi hz0 hz1 hz2 T.zs T.k0 (.slice A n c) n xs hown ad 1 c2 cs (by rw[hk,Nat.one_mul]) hc h1 hmax hlen hbase
 obtain⟨v2,w2,hr2,hb2⟩:=run_append_blk T ty hown (c2:=c2) hk h1 hc hlen hmax
 rw[hrun] at hr2
 injection hr2 with hr2 _
 subst hr2
 obtain⟨A',c',rfl⟩:=OwnR.form h2
 exact⟨A',c',w',hrun,h2,h3,hb2⟩
theorem run_appendK{Pr:Program}{t:TypeId}{bytes:Nat}{z:Value}(T:RowTy Pr t e k bytes z)(hP:Mn P)(ty:TypeId)(hown:GrK K k P w base e (.slice A n c) L)
  (hKo:∀b,(Value.slice A n c).ownBlock=some b→K b=false) {ad:Addr} {c2:Nat} {cs:List Value} {x:α} (hk:cs.length=k) (h1:∀u∈cs,u.oneCell'=true) (hc:∀j u,cs[j]?=some u→w.cell? (ad.add j)=some u) (hx:P (keepW K w) w.heap.size cs x)
  (hlen:(n+1)*bytes≤140737488355328) (hmax:n+1≤maxLen) (hbase:base≤w.heap.size) :
  ∃A' c' w',(Builtin.append_ #[t,t] ty #[.slice A n c,.slice (some ad) 1 c2]).run Pr w=.ok (.slice A' (n+1) c') w'∧GrK K k P w' base e (.slice A' (n+1) c') (L++[x])∧w.grownBy w' (Value.slice A n c).ownBlock ∧
   ((Value.slice A' (n+1) c').ownBlock=(Value.slice A n c).ownBlock∨(Value.slice A' (n+1) c').ownBlock=some w.heap.size):=by
 have hl:=hown.len
 obtain⟨css,g1,g2,g3,g4⟩:=hown
 obtain⟨A',c',w',hrun,h2,h3,h4⟩:=run_append_raw T ty (hl▸g2) (c2:=c2) hk h1 hc hlen hmax hbase
 have hsub:Sub w.heap.size (keepW K w) (keepW K w'):=Sub.keep fun b hb hkb=>⟨hkb,h3.block b hb fun e=>by rw[hKo b e.symm] at hkb;cases hkb⟩
 refine⟨A',c',w',hrun,⟨css++[cs],by simp[g1],?_,?_,?_⟩,h3,h4⟩
 ·rw[flatten_one,List.length_append,hl];exact h2
 ·intro us hus
  rcases List.mem_append.1 hus with h|h
  ·exact g3 us h
  rw[List.mem_singleton] at h
  subst h
  exact⟨hk,h1⟩
 intro j hj hc'
 by_cases hjl:j<L.length
 ·rw[List.getElem_append_left hjl,List.getElem_append_left (by omega)]
  exact hP _ _ _ _ _ _ h3.size hsub (g4 j hjl (by omega))
 have hj':j=L.length:=by simp at hj;omega
 subst hj'
 rw[List.getElem_append_right (by omega),List.getElem_append_right (by omega)]
 simp only[g1,Nat.sub_self,List.getElem_singleton]
 exact hP _ _ _ _ _ _ h3.size hsub hx
theorem ownsRow_set{m:Nat}{xs:List Value}{g i:Nat}{u:Value}(h:w.ownsRow base e k v m xs)(hg:v.ownBlock=some g)(hi:i<xs.length):(w.setCell ⟨g,i,none⟩ u).ownsRow base e k v m (xs.set i u):=by
 have hl:=h.1
 refine⟨by rw[List.length_set];exact hl,?_⟩
 rcases h.2 with ⟨h1,h2⟩|⟨g',cap,cur,h5,h6,h7,h8,h9,h10,h11⟩
 ·subst h1
  cases hg
 subst h5
 injection hg with hg
 subst hg
 have hb:Blk w g' e cur.toList:=by unfold Blk;rw[Array.toArray_toList];exact h7
 have hb2:=hb.set i u
 refine .inr ⟨g',cap,(cur.toList.set i u).toArray,rfl,h6,hb2,h8,h9,by simpa using h10,?_⟩
 rw[←h11]
 simp[List.take_set]
end
theorem ZSr:RowTy Tryz.prog 47 56 3 72 (.agg #[.slice none 0 0,.slice none 0 0,.slice none 0 0]):=⟨Tryz.underlying47,by kernel_rfl,rfl,by omega⟩
theorem ZTg:RowTy Tryz.prog 46 45 4 96 (.agg #[.slice none 0 0,.slice none 0 0,.slice none 0 0,.slice none 0 0]):=⟨Tryz.underlying46,by kernel_rfl,rfl,by omega⟩
theorem ZWn:RowTy Tryz.prog 48 60 2 40 (.agg #[.string ByteArray.empty,.slice none 0 0]):=⟨Tryz.underlying48,by kernel_rfl,rfl,by omega⟩
theorem ZRu:RowTy Tryz.prog 37 50 3 72 (.agg #[.slice none 0 0,.slice none 0 0,.slice none 0 0]):=⟨Tryz.underlying37,by kernel_rfl,rfl,by omega⟩
theorem ZPo:RowTy Tryz.prog 22 39 5 64 (.agg #[.int .u64 0,.string ByteArray.empty,.int .u64 0,.int .i64 0,.slice none 0 0]):=⟨Tryz.underlying22,by kernel_rfl,rfl,by omega⟩
def Sep(K X:Nat→Bool)(v:Value):Prop:=∀b,v.ownBlock=some b→K b=false∧X b=false
section
variable {K X K' X':Nat→Bool} {w w':World} {lo:Nat}
def RuX(K X:Nat→Bool)(w:World)(lo:Nat)(v1 v2 v3:Value)(r:Ru):Prop :=
 (GrK K 3 SrP w lo 56 v1 r.froms∧Sep K X v1)∧(GrK K 4 TgP w lo 45 v2 r.tos∧Sep K X v2)∧(GrK K 2 WnP w lo 60 v3 r.whens∧Sep K X v3)
def RulesX(K X:Nat→Bool)(w:World)(lo:Nat)(v:Value)(R:List Ru):Prop :=
 (R=[]∧v=.slice none 0 0)∨∃(R0:List Ru)(r:Ru)(css:List (List Value)) (v1 v2 v3:Value),R=R0++[r]∧css.length=R0.length∧w.ownsRow lo 50 3 v (R0.length+1) (css.flatten++[v1,v2,v3]) ∧
  (∀c∈css,c.length=3∧∀u∈c,u.oneCell'=true)∧(∀j (hj:j<R0.length) (hc:j<css.length),RuP (keepW K w) w.heap.size css[j] R0[j])∧RuX K X w lo v1 v2 v3 r∧Sep K X v
theorem Sep.move{v:Value}(h:Sep K X v)(hlt:∀b,v.ownBlock=some b→b<w.heap.size)(hK:∀b,b<w.heap.size→K' b=true→K b=true)(hX:∀b,b<w.heap.size→X' b=true→X b=true):Sep K' X' v:=fun b hb=>by
 obtain⟨h1,h2⟩:=h b hb
 have hl:=hlt b hb
 refine⟨?_,?_⟩
 ·cases hk:K' b with
  | false=>rfl
  | true=>rw[hK b hl hk] at h1;cases h1
 cases hk:X' b with
 | false=>rfl
 | true=>rw[hX b hl hk] at h2;cases h2
structure Mv(K X K' X':Nat→Bool)(w w':World):Prop where
 size:w.heap.size≤w'.heap.size
 kk:∀b,b<w.heap.size→K' b=K b
 xx:∀b,b<w.heap.size→X' b=X b
 same:∀b,b<w.heap.size→X b=false→w'.heap[b]?=w.heap[b]?
 kx:∀b,K b=true→X b=false
theorem RuX.move{v1 v2 v3:Value}{r:Ru}(h:RuX K X w lo v1 v2 v3 r)(m:Mv K X K' X' w w'):RuX K' X' w' lo v1 v2 v3 r:=by
 have hk:∀b,b<w.heap.size→K b=true→K' b=true∧w'.heap[b]?=w.heap[b]?:=fun b hb h=>⟨by rw[m.kk b hb,h],m.same b hb (m.kx b h)⟩
 have hk2:∀b,b<w.heap.size→K' b=true→K b=true:=fun b hb h=>by rw[←m.kk b hb,h]
 have hx2:∀b,b<w.heap.size→X' b=true→X b=true:=fun b hb h=>by rw[←m.xx b hb,h]
 obtain⟨⟨a1,a2⟩,⟨b1,b2⟩,⟨c1,c2⟩⟩:=h
 exact⟨⟨a1.move SrP.mn m.size hk fun b hb=>m.same b (a1.lt b hb).2 (a2 b hb).2,a2.move (fun b hb=>(a1.lt b hb).2) hk2 hx2⟩,⟨b1.move TgP.mn m.size hk fun b hb=>m.same b (b1.lt b hb).2 (b2 b hb).2,b2.move (fun b hb=>(b1.lt b hb).2) hk2 hx2⟩,⟨c1.move WnP.mn m.size hk fun b hb=>m.same b (c1.lt b hb).2 (c2 b hb).2,c2.move (fun b hb=>(c1.lt b hb).2) hk2 hx2⟩⟩
theorem RulesX.move{v:Value}{R:List Ru}(h:RulesX K X w lo v R)(m:Mv K X K' X' w w'):RulesX K' X' w' lo v R:=by
 have hk:∀b,b<w.heap.size→K b=true→K' b=true∧w'.heap[b]?=w.heap[b]?:=fun b hb h=>⟨by rw[m.kk b hb,h],m.same b hb (m.kx b h)⟩
 rcases h with h|⟨R0,r,css,v1,v2,v3,h1,h2,h3,h4,h5,h6,h7⟩
 ·exact .inl h
 refine .inr ⟨R0,r,css,v1,v2,v3,h1,h2,ownsRow_move h3 fun b hb=>m.same b (h3.lt b hb).2 (h7 b hb).2,h4,fun j hj hc=>RuP.mn _ _ _ _ _ _ m.size (Sub.keep hk) (h5 j hj hc),h6.move m,?_⟩
 exact h7.move (fun b hb=>(h3.lt b hb).2) (fun b hb h=>by rw[←m.kk b hb,h]) (fun b hb h=>by rw[←m.xx b hb,h])
theorem RuX.done{v1 v2 v3:Value}{r:Ru}(h:RuX K X w lo v1 v2 v3 r)(hK:∀b,b<w.heap.size→K b=true→K' b=true)(h1:∀b,v1.ownBlock=some b→K' b=true)(h2:∀b,v2.ownBlock=some b→K' b=true)(h3:∀b,v3.ownBlock=some b→K' b=true):RuP (keepW K' w) w.heap.size [v1,v2,v3] r :=
 ⟨v1,v2,v3,rfl,h.1.1.rvk SrP.mn hK h1,h.2.1.1.rvk TgP.mn hK h2,h.2.2.1.rvk WnP.mn hK h3⟩
def K4(K:Nat→Bool)(v1 v2 v3 v4:Value):Nat→Bool:=fun b=>K b||(decide (v1.ownBlock=some b)||(decide (v2.ownBlock=some b)||(decide (v3.ownBlock=some b)||decide (v4.ownBlock=some b))))
theorem K4.k{v1 v2 v3 v4:Value}{b:Nat}(h:K b=true):K4 K v1 v2 v3 v4 b=true:=by simp[K4,h]
theorem K4.v1{v1 v2 v3 v4:Value}{b:Nat}(h:v1.ownBlock=some b):K4 K v1 v2 v3 v4 b=true:=by simp[K4,h]
theorem K4.v2{v1 v2 v3 v4:Value}{b:Nat}(h:v2.ownBlock=some b):K4 K v1 v2 v3 v4 b=true:=by simp[K4,h]
theorem K4.v3{v1 v2 v3 v4:Value}{b:Nat}(h:v3.ownBlock=some b):K4 K v1 v2 v3 v4 b=true:=by simp[K4,h]
theorem K4.v4{v1 v2 v3 v4:Value}{b:Nat}(h:v4.ownBlock=some b):K4 K v1 v2 v3 v4 b=true:=by simp[K4,h]
theorem K4.inv{v1 v2 v3 v4:Value}{b:Nat}(h:K4 K v1 v2 v3 v4 b=true):K b=true∨v1.ownBlock=some b∨v2.ownBlock=some b∨v3.ownBlock=some b∨v4.ownBlock=some b:=by
 simpa [K4] using h
theorem ownsRow_typed{base e k m:Nat}{v:Value}{xs:List Value}(h:w.ownsRow base e k v m xs){b:Nat}(hb:v.ownBlock=some b):∃cur,w.heap[b]?=some (.cells cur e (0,0)):=by
 rcases h.2 with ⟨h1,_⟩|⟨g,cap,cur,h5,_,h7,_⟩
 ·subst h1;cases hb
 subst h5
 injection hb with hb
 subst hb
 exact⟨cur,h7⟩
theorem GrK.typed{α:Type}{k base e:Nat}{P:World→Nat→List Value→α→Prop}{v:Value}{L:List α}(h:GrK K k P w base e v L){b:Nat}(hb:v.ownBlock=some b):∃cur,w.heap[b]?=some (.cells cur e (0,0)):=by
 obtain⟨css,_,h2,_⟩:=h
 exact ownsRow_typed h2 hb
theorem typed_ne{b b':Nat}{e e':TypeId}(h:∃cur,w.heap[b]?=some (.cells cur e (0,0)))(h':∃cur,w.heap[b']?=some (.cells cur e' (0,0)))(hne:e≠e'):b≠b':=fun he=>by
 subst he
 obtain⟨c,h⟩:=h
 obtain⟨c',h'⟩:=h'
 rw[h] at h'
 injection h' with h'
 injection h' with _ h'
 exact hne h'
theorem GrK.other{α:Type}{k base e e':Nat}{P:World→Nat→List Value→α→Prop}{v:Value}{L:List α}(hP:Mn P)(h:GrK K k P w base e v L){row:Option Nat}(hg:w.grownBy w' row)(ht:∀b,row=some b→K b=false∧∃cur,w.heap[b]?=some (.cells cur e' (0,0)))(hne:e≠e'):GrK K k P w' base e v L :=
 h.move hP hg.size (fun b hb hk=>⟨hk,hg.block b hb fun e=>by rw[(ht b e.symm).1] at hk;cases hk⟩) fun b hb=>hg.block b (h.lt b hb).2 fun e=>typed_ne (h.typed hb) (ht b e.symm).2 hne rfl
structure Tq(K X:Nat→Bool)(w:World)(lo bt:Nat)(bg:Bool)(f:Int)(l:List Po)(lv c2 c3 c4 c5 c6:Value):Prop where
 box:Blk w bt 63 [lv,.bool bg,c2,c3,c4,c5,c6,.int .i64 f]
 lob:lo≤bt
 kb:K bt=false
 xb:X bt=false
 kk:∀b,K b=true→lo≤b∧b<w.heap.size∧X b=false
 xx:∀b,X b=true→b<w.heap.size
 row:GrK K 5 PoP w lo 39 lv l
 sep:Sep K X lv
structure Tx(K X:Nat→Bool)(w:World)(lo bt:Nat)(bg:Bool)(f:Int)(l:List Po)(p:Po)(lv rv:Value):Prop where
 q:Tq K X w lo bt bg f l lv (.int .u64 (p.id:Int)) (.string (strB p.ns)) (.int .u64 (p.service:Int)) (.int .i64 p.deny) rv
 rules:RulesX K X w lo rv p.rules
structure On(K X K' X':Nat→Bool)(w w':World):Prop where
 off:Off (fun b=>X b=true) w w'
 kk:∀b,b<w.heap.size→K' b=K b
 xx:∀b,b<w.heap.size→X' b=X b
 knew:∀b,w.heap.size≤b→K' b=true→b<w'.heap.size∧X' b=false
 xnew:∀b,w.heap.size≤b→X' b=true→b<w'.heap.size
variable {bt:Nat} {bg:Bool} {f:Int} {l:List Po} {lv c2 c3 c4 c5 c6 rv:Value} {p:Po}
theorem Tq.mv(h:Tq K X w lo bt bg f l lv c2 c3 c4 c5 c6)(o:On K X K' X' w w'):Mv K X K' X' w w' :=
 ⟨o.off.size,o.kk,o.xx,fun b hb hx=>o.off.block b hb (by rw[hx];exact Bool.false_ne_true),fun b hb=>(h.kk b hb).2.2⟩
theorem Tq.on(h:Tq K X w lo bt bg f l lv c2 c3 c4 c5 c6)(o:On K X K' X' w w')(hlo:lo≤w.heap.size):Tq K' X' w' lo bt bg f l lv c2 c3 c4 c5 c6:=by
 have m:=h.mv o
 have hl:=h.box.lt
 refine⟨(m.same bt hl h.xb).trans h.box,h.lob,by rw[m.kk bt hl];exact h.kb,by rw[m.xx bt hl];exact h.xb,fun b hb=>?_,fun b hb=>?_,?_,?_⟩
 ·rcases Nat.lt_or_ge b w.heap.size with hlt|hge
  ·rw[m.kk b hlt] at hb
   obtain⟨h1,h2,h3⟩:=h.kk b hb
   exact⟨h1,Nat.lt_of_lt_of_le h2 m.size,by rw[m.xx b hlt];exact h3⟩
  obtain⟨h1,h2⟩:=o.knew b hge hb
  exact⟨by omega,h1,h2⟩
 ·rcases Nat.lt_or_ge b w.heap.size with hlt|hge
  ·exact Nat.lt_of_lt_of_le hlt m.size
  exact o.xnew b hge hb
 ·exact h.row.move PoP.mn m.size (fun b hb hk=>⟨by rw[m.kk b hb,hk],m.same b hb (m.kx b hk)⟩) fun b hb=>m.same b (h.row.lt b hb).2 (h.sep b hb).2
 exact h.sep.move (fun b hb=>(h.row.lt b hb).2) (fun b hb hk=>by rw[←m.kk b hb,hk]) (fun b hb hk=>by rw[←m.xx b hb,hk])
theorem Tx.on(h:Tx K X w lo bt bg f l p lv rv)(o:On K X K' X' w w')(hlo:lo≤w.heap.size):Tx K' X' w' lo bt bg f l p lv rv:=⟨h.q.on o hlo,h.rules.move (h.q.mv o)⟩
theorem RulesX.last{v:Value}{R0:List Ru}{r:Ru}(h:RulesX K X w lo v (R0++[r])):∃(g c:Nat)(cur:List Value)(css:List (List Value)) (v1 v2 v3:Value),v=.slice (some ⟨g,0,none⟩) (R0.length+1) c∧R0.length+1≤c∧c≤maxLen∧lo≤g∧Blk w g 50 cur∧R0.length*3+3≤cur.length ∧
  cur[R0.length*3]?=some v1∧cur[R0.length*3+1]?=some v2∧cur[R0.length*3+2]?=some v3∧css.length=R0.length∧w.ownsRow lo 50 3 v (R0.length+1) (css.flatten++[v1,v2,v3]) ∧
  (∀c∈css,c.length=3∧∀u∈c,u.oneCell'=true)∧(∀j (hj:j<R0.length) (hc:j<css.length),RuP (keepW K w) w.heap.size css[j] R0[j])∧RuX K X w lo v1 v2 v3 r∧Sep K X v:=by
 rcases h with ⟨h,_⟩|⟨R1,r1,css,v1,v2,v3,h1,h2,h3,h4,h5,h6,h7⟩
 ·simp at h
 obtain⟨q0,q1⟩:=List.append_inj' h1 rfl
 subst q0
 have q2:r=r1:=by simpa using q1
 subst q2
 have hfl:css.flatten.length=R0.length*3:=by
  have:∀(L:List (List Value)),(∀c∈L,c.length=3)→L.flatten.length=L.length*3:=by
   intro L hL
   induction L with
   | nil=>rfl
   | cons x L ih=>rw[List.flatten_cons,List.length_append,hL x (List.mem_cons_self),ih fun c hc=>hL c (List.mem_cons_of_mem _ hc),List.length_cons];omega
  rw[this css fun c hc=>(h4 c hc).1,h2]
 rcases h3.2 with ⟨e1,e2⟩|⟨g,cap,cur,e5,e6,e7,e8,e9,e10,e11⟩
 ·simp at e2
 have hc:cur.toList.length=cap*3:=by rw[Array.length_toList,e10]
 have hcl:R0.length*3+3≤cur.toList.length:=by omega
 have at_:∀i,i<3→cur.toList[R0.length*3+i]?=[v1,v2,v3][i]?:=fun i hi=>by
  have:(cur.toList.take ((R0.length+1)*3))[R0.length*3+i]?=(css.flatten++[v1,v2,v3])[R0.length*3+i]?:=by rw[e11]
  rw[List.getElem?_take,if_pos (by omega),List.getElem?_append_right (by omega),hfl,show R0.length*3+i-R0.length*3=i from by omega] at this
  exact this
 exact⟨g,cap,cur.toList,css,v1,v2,v3,e5,e8,e9,e6,by unfold Blk;rw[Array.toArray_toList];exact e7,hcl,at_ 0 (by omega),at_ 1 (by omega),at_ 2 (by omega),h2,h3,h4,h5,h6,h7⟩
end
structure FrT(X:Nat→Bool)(lo:Nat)(w w':World):Prop where
 os:w'.os=w.os
 tape:w'.tape=w.tape
 output:w'.output=w.output
 size:w.heap.size≤w'.heap.size
 low:∀k,k<lo→k<w.heap.size→w'.heap[k]?=w.heap[k]?
 xs:∀k,k<w.heap.size→X k=true→w'.heap[k]?=w.heap[k]?
 non:∀(k:Nat)(o:Obj),w.heap[k]?=some o→o.isCells=false→w'.heap[k]?=some o
section
variable {X X' K K':Nat→Bool} {lo:Nat} {w w' w'':World}
theorem FrT.refl(X:Nat→Bool)(lo:Nat)(w:World):FrT X lo w w:=⟨rfl,rfl,rfl,Nat.le_refl _,fun _ _ _=>rfl,fun _ _ _=>rfl,fun _ _ h _=>h⟩
theorem FrT.trans(h:FrT X lo w w')(k:FrT X lo w' w''):FrT X lo w w'' :=
 ⟨k.os.trans h.os,k.tape.trans h.tape,k.output.trans h.output,Nat.le_trans h.size k.size,fun i hi hl=>(k.low i hi (Nat.lt_of_lt_of_le hl h.size)).trans (h.low i hi hl),fun i hl hx=>(k.xs i (Nat.lt_of_lt_of_le hl h.size) hx).trans (h.xs i hl hx),fun i o ho hn=>k.non i o (h.non i o ho hn) hn⟩
theorem FrT.below(h:FrT X lo w w')(hl:lo≤w.heap.size):Below lo w w':=⟨h.os,h.tape,h.output,h.size,fun k hk=>h.low k hk (by omega)⟩
theorem FrT.of_below(h:Below w.heap.size w w'):FrT X lo w w':=⟨h.os,h.tape,h.output,h.size,fun k _ hl=>h.block k hl,fun k hl _=>h.block k hl,fun k o ho _=>(h.block k (Array.getElem?_eq_some_iff.1 ho).1).trans ho⟩
theorem FrT.keeps(h:FrT X lo w w')(B:Nat):KeepsFrom B w w':=⟨h.size,fun k o _ ho hn=>h.non k o ho hn⟩
theorem FrT.less(h:FrT X lo w w')(hX:∀k,k<w.heap.size→X' k=true→X k=true):FrT X' lo w w':=⟨h.os,h.tape,h.output,h.size,h.low,fun k hl hx=>h.xs k hl (hX k hl hx),h.non⟩
theorem FrT.grown{row:Option Nat}(hg:w.grownBy w' row)(hr:∀b,row=some b→lo≤b∧X b=false∧∃cur e f,w.heap[b]?=some (.cells cur e f)):FrT X lo w w':=by
 refine⟨hg.os,hg.tape,hg.output,hg.size,fun k hk hl=>hg.block k hl fun e=>?_,fun k hl hx=>hg.block k hl fun e=>?_,fun k o ho hn=>(hg.block k (Array.getElem?_eq_some_iff.1 ho).1 fun e=>?_).trans ho⟩
 ·have:=(hr k e.symm).1;omega
 ·rw[(hr k e.symm).2.1] at hx;cases hx
 obtain⟨_,_,cur,t,f,hc⟩:=hr k e.symm
 rw[ho] at hc
 injection hc with hc
 subst hc
 cases hn
theorem FrT.off{Y:Nat→Prop}(hg:Off Y w w')(hr:∀b,Y b→b<w.heap.size→lo≤b∧X b=false∧∃cur e f,w.heap[b]?=some (.cells cur e f)):FrT X lo w w':=by
 refine⟨hg.os,hg.tape,hg.output,hg.size,fun k hk hl=>hg.block k hl fun e=>?_,fun k hl hx=>hg.block k hl fun e=>?_,fun k o ho hn=>(hg.block k (Array.getElem?_eq_some_iff.1 ho).1 fun e=>?_).trans ho⟩
 ·have:=(hr k e hl).1;omega
 ·rw[(hr k e hl).2.1] at hx;cases hx
 obtain⟨_,_,cur,t,f,hc⟩:=hr k e (Array.getElem?_eq_some_iff.1 ho).1
 rw[ho] at hc
 injection hc with hc
 subst hc
 cases hn
variable {bt:Nat} {bg bg':Bool} {f f':Int} {l:List Po} {lv c2 c3 c4 c5 c6 d2 d3 d4 d5 d6 rv:Value} {p p':Po}
theorem cells_ne{b b':Nat}{e e':TypeId}{cs:List Value}(h:Blk w b e cs)(h':∃cur,w.heap[b']?=some (.cells cur e' (0,0)))(hne:e≠e'):b≠b':=typed_ne ⟨_,h⟩ h' hne
theorem Tq.put(h:Tq K X w lo bt bg f l lv c2 c3 c4 c5 c6)(ho:Off (fun b=>b=bt) w w')(hb:Blk w' bt 63 [lv,.bool bg',d2,d3,d4,d5,d6,.int .i64 f']):Tq K X w' lo bt bg' f' l lv d2 d3 d4 d5 d6:=by
 refine⟨hb,h.lob,h.kb,h.xb,fun b hk=>?_,fun b hx=>Nat.lt_of_lt_of_le (h.xx b hx) ho.size,?_,h.sep⟩
 ·obtain⟨h1,h2,h3⟩:=h.kk b hk
  exact⟨h1,Nat.lt_of_lt_of_le h2 ho.size,h3⟩
 exact h.row.move PoP.mn ho.size (fun b hb hk=>⟨hk,ho.block b hb fun e=>by rw[e,h.kb] at hk;cases hk⟩) fun b hb=>ho.block b (h.row.lt b hb).2 (Ne.symm (cells_ne h.box (h.row.typed hb) (by decide)))
theorem RulesX.put(h:RulesX K X w lo rv p.rules){e:TypeId}{cs:List Value}(hbt:Blk w bt e cs)(he:e=63)(hk:K bt=false)(ho:Off (fun b=>b=bt) w w'):RulesX K X w' lo rv p.rules:=by
 subst he
 have keep:∀b,b<w.heap.size→K b=true→K b=true∧w'.heap[b]?=w.heap[b]?:=fun b hb hkb=>⟨hkb,ho.block b hb fun e=>by rw[e,hk] at hkb;cases hkb⟩
 rcases h with h|⟨R0,r,css,v1,v2,v3,h1,h2,h3,h4,h5,⟨⟨a1,a2⟩,⟨b1,b2⟩,⟨c1,c2⟩⟩,h7⟩
 ·exact .inl h
 exact .inr ⟨R0,r,css,v1,v2,v3,h1,h2,ownsRow_move h3 fun b hb=>ho.block b (h3.lt b hb).2 (Ne.symm (cells_ne hbt (ownsRow_typed h3 hb) (by decide))),h4,fun j hj hc=>RuP.mn _ _ _ _ _ _ ho.size (Sub.keep keep) (h5 j hj hc),
  ⟨⟨a1.move SrP.mn ho.size keep fun b hb=>ho.block b (a1.lt b hb).2 (Ne.symm (cells_ne hbt (a1.typed hb) (by decide))),a2⟩,⟨b1.move TgP.mn ho.size keep fun b hb=>ho.block b (b1.lt b hb).2 (Ne.symm (cells_ne hbt (b1.typed hb) (by decide))),b2⟩,⟨c1.move WnP.mn ho.size keep fun b hb=>ho.block b (c1.lt b hb).2 (Ne.symm (cells_ne hbt (c1.typed hb) (by decide))),c2⟩⟩,h7⟩
structure DoneK(K K' X:Nat→Bool)(w:World)(lo:Nat):Prop where
 up:∀b,K b=true→K' b=true
 in_:∀b,K' b=true→K b=true∨(lo≤b∧b<w.heap.size∧X b=false∧∃cur e,w.heap[b]?=some (.cells cur e (0,0))∧e≠39∧e≠63)
theorem RulesX.done{R:List Ru}(h:RulesX K X w lo rv R):∃K',DoneK K K' X w lo∧RvRu (keepW K' w) w.heap.size rv R:=by
 rcases h with ⟨h1,h2⟩|⟨R0,r,css,v1,v2,v3,h1,h2,h3,h4,h5,h6,h7⟩
 ·subst h1 h2
  exact⟨K,⟨fun _ h=>h,fun _ h=>.inl h⟩,none,0,0,rfl,Nat.le_refl _,by simp[maxLen],RdG.nil⟩
 subst h1
 have hX:RulesX K X w lo rv (R0++[r]):=.inr ⟨R0,r,css,v1,v2,v3,rfl,h2,h3,h4,h5,h6,h7⟩
 obtain⟨g,c,cur,css',u1,u2,u3,e1,e2,e3,e4,e5,e6,e7,e8,e9,g2,g3,g4,g5,g6,g7⟩:=hX.last
 refine⟨K4 K u1 u2 u3 rv,⟨fun b hb=>K4.k hb,fun b hb=>?_⟩,?_⟩
 ·rcases K4.inv hb with hk|hk|hk|hk|hk
  ·exact .inl hk
  ·obtain⟨cc,hc⟩:=g6.1.1.typed hk
   exact .inr ⟨(g6.1.1.lt b hk).1,(g6.1.1.lt b hk).2,(g6.1.2 b hk).2,cc,_,hc,by decide,by decide⟩
  ·obtain⟨cc,hc⟩:=g6.2.1.1.typed hk
   exact .inr ⟨(g6.2.1.1.lt b hk).1,(g6.2.1.1.lt b hk).2,(g6.2.1.2 b hk).2,cc,_,hc,by decide,by decide⟩
  ·obtain⟨cc,hc⟩:=g6.2.2.1.typed hk
   exact .inr ⟨(g6.2.2.1.lt b hk).1,(g6.2.2.1.lt b hk).2,(g6.2.2.2 b hk).2,cc,_,hc,by decide,by decide⟩
  obtain⟨cc,hc⟩:=ownsRow_typed g3 hk
  exact .inr ⟨(g3.lt b hk).1,(g3.lt b hk).2,(g7 b hk).2,cc,_,hc,by decide,by decide⟩
 have hrow:GrK (K4 K u1 u2 u3 rv) 3 RuP w lo 50 rv (R0++[r]):=by
  refine⟨css'++[[u1,u2,u3]],by simp[g2],?_,?_,?_⟩
  ·rw[flatten_one,List.length_append];exact g3
  ·intro cs hcs
   rcases List.mem_append.1 hcs with h|h
   ·exact g4 cs h
   rw[List.mem_singleton] at h
   subst h
   refine⟨rfl,fun u hu=>?_⟩
   obtain⟨_,_,q1,_⟩:=g6.1.1.form
   obtain⟨_,_,q2,_⟩:=g6.2.1.1.form
   obtain⟨_,_,q3,_⟩:=g6.2.2.1.form
   simp only[List.mem_cons,List.mem_nil_iff,or_false] at hu
   rcases hu with rfl|rfl|rfl
   ·rw[q1];rfl
   ·rw[q2];rfl
   rw[q3];rfl
  intro j hj hc
  by_cases hjl:j<R0.length
  ·rw[List.getElem_append_left hjl,List.getElem_append_left (by omega)]
   exact RuP.mn _ _ _ _ _ _ (Nat.le_refl _) (Sub.keep fun b _ hb=>⟨K4.k hb,rfl⟩) (g5 j hjl (by omega))
  have hj':j=R0.length:=by simp at hj;omega
  subst hj'
  rw[List.getElem_append_right (by omega),List.getElem_append_right (by omega)]
  simp only[g2,Nat.sub_self,List.getElem_singleton]
  exact g6.done (fun b _ hb=>K4.k hb) (fun b hb=>K4.v1 hb) (fun b hb=>K4.v2 hb) (fun b hb=>K4.v3 hb)
 exact hrow.rvk RuP.mn (fun b _ hb=>hb) (fun b hb=>K4.v4 hb)
theorem RulesX.rvv{R:List Ru}(h:RulesX K X w lo rv R):RvRu w w.heap.size rv R:=by
 obtain⟨K',_,hr⟩:=h.done
 exact RvG.mn RuP.mn hr (Nat.le_refl _) (Sub.keepOut _ _ _)
theorem Tx.flush(h:Tx K X w lo bt bg f l p lv rv){A:Option Addr}{n c:Nat}(hlv:lv=.slice A n c){wx:World}(hx:Below w.heap.size w wx){ad:Addr}{c9:Nat}(hlo:lo≤w.heap.size)
  (hc:∀j u,[Value.int .u64 (p.id:Int),.string (strB p.ns),.int .u64 (p.service:Int),.int .i64 p.deny,rv][j]?=some u→wx.cell? (ad.add j)=some u) (hl:n+1≤2000000) (ty:TypeId) :
  ∃A' c' w',(Builtin.append_ #[22,22] ty #[.slice A n c,.slice (some ad) 1 c9]).run Tryz.prog wx=.ok (.slice A' (n+1) c') w' ∧
   wx.grownBy w' (Value.slice A n c).ownBlock∧(∀b,(Value.slice A n c).ownBlock=some b→b≠bt) ∧
   ∀(bg':Bool)(f':Int)(d2 d3 d4 d5 d6:Value)(w2:World),Off (fun b=>b=bt) w' w2→Blk w2 bt 63 [.slice A' (n+1) c',.bool bg',d2,d3,d4,d5,d6,.int .i64 f'] →
    (∃K',Tq K' X w2 lo bt bg' f' (l++[p]) (.slice A' (n+1) c') d2 d3 d4 d5 d6)∧FrT X lo w w2∧PoP w2 w2.heap.size [Value.int .u64 (p.id:Int),.string (strB p.ns),.int .u64 (p.service:Int),.int .i64 p.deny,rv] p:=by
 subst hlv
 obtain⟨q,hr⟩:=h
 obtain⟨K',d,hrv⟩:=hr.done
 have hn:l.length=n:=q.row.len
 have hrow:GrK K' 5 PoP wx lo 39 (.slice A n c) l:=q.row.move PoP.mn hx.size (fun b hb hk=>⟨d.up b hk,hx.block b hb⟩) fun b hb=>hx.block b (q.row.lt b hb).2
 have hKo:∀b,(Value.slice A n c).ownBlock=some b→K' b=false:=fun b hb=>by
  cases hk:K' b with
  | false=>rfl
  | true =>
   rcases d.in_ b hk with h1|⟨_,_,_,cur,e,h1,h2,_⟩
   ·rw[(q.sep b hb).1] at h1;cases h1
   exact absurd rfl (typed_ne (w:=w) ⟨cur,h1⟩ (q.row.typed hb) h2)
 have hP:PoP (keepW K' wx) wx.heap.size [Value.int .u64 (p.id:Int),.string (strB p.ns),.int .u64 (p.service:Int),.int .i64 p.deny,rv] p:=by
  refine PoP.mn _ _ _ _ _ _ hx.size (Sub.keep (K:=K') (w:=w) fun b hb hk=>⟨hk,hx.block b hb⟩) ⟨rv,rfl,hrv⟩
 have h1c:∀u∈[Value.int .u64 (p.id:Int),.string (strB p.ns),.int .u64 (p.service:Int),.int .i64 p.deny,rv],u.oneCell'=true:=by
  intro u hu
  obtain⟨_,_,_,q1,_⟩:=hr.rvv
  simp only[List.mem_cons,List.mem_nil_iff,or_false] at hu
  rcases hu with rfl|rfl|rfl|rfl|rfl<;>first|rfl|(rw[q1];rfl)
 obtain⟨A',c',w',hrun,g1,g2,g3⟩:=run_appendK ZPo PoP.mn ty hrow hKo (c2:=c9) rfl h1c hc hP (by omega) (by unfold maxLen;omega) (Nat.le_trans hlo hx.size)
 have hbt:∀b,(Value.slice A n c).ownBlock=some b→b≠bt:=fun b hb=>Ne.symm (cells_ne q.box (q.row.typed hb) (by decide))
 have hKlt:∀b,K' b=true→lo≤b∧b<w.heap.size∧X b=false:=fun b hk=>by
  rcases d.in_ b hk with h1|⟨h1,h2,h3,_⟩
  ·exact q.kk b h1
  exact⟨h1,h2,h3⟩
 have hkb:K' bt=false:=by
  cases hk:K' bt with
  | false=>rfl
  | true =>
   rcases d.in_ bt hk with h1|⟨_,_,_,cur,e,h1,_,h2⟩
   ·rw[q.kb] at h1;cases h1
   exact absurd rfl (typed_ne (w:=w) ⟨cur,h1⟩ ⟨_,q.box⟩ h2)
 refine⟨A',c',w',hrun,g2,hbt,fun bg' f' d2 d3 d4 d5 d6 w2 ho hb=>⟨⟨K',⟨hb,q.lob,hkb,q.xb,fun b hk=>?_,fun b hxb=>?_,?_,?_⟩⟩,?_,?_⟩⟩
 ·obtain⟨h1,h2,h3⟩:=hKlt b hk
  have:=g2.size;have:=ho.size;have:=hx.size
  exact⟨h1,by omega,h3⟩
 ·have:=q.xx b hxb;have:=g2.size;have:=ho.size;have:=hx.size
  omega
 ·refine g1.move PoP.mn ho.size (fun b hb hk=>⟨hk,ho.block b hb fun e=>by rw[e,hkb] at hk;cases hk⟩) fun b hb=>ho.block b (g1.lt b hb).2 fun e=>?_
  have e2:w'.heap[bt]?=wx.heap[bt]?:=g2.block bt (Nat.lt_of_lt_of_le q.box.lt hx.size) fun e3=>hbt bt e3.symm rfl
  have e4:w'.heap[bt]?=w.heap[bt]?:=e2.trans (hx.block bt q.box.lt)
  exact typed_ne (w:=w') (g1.typed hb) ⟨_,e4.trans q.box⟩ (by decide) e
 ·intro b hb
  rcases g3 with e|e
  ·rw[e] at hb
   exact⟨hKo b hb,(q.sep b hb).2⟩
  rw[e] at hb
  injection hb with hb
  subst hb
  have:=hx.size
  refine⟨?_,?_⟩
  ·cases hk:K' wx.heap.size with
   | false=>rfl
   | true=>have:=(hKlt _ hk).2.1;omega
  cases hk:X wx.heap.size with
  | false=>rfl
  | true=>have:=q.xx _ hk;omega
 ·refine ((FrT.of_below hx).trans (FrT.grown g2 fun b hb=>?_)).trans (FrT.off ho fun b hb hl=>?_)
  ·obtain⟨cur,hc⟩:=hrow.typed hb
   exact⟨(hrow.lt b hb).1,(q.sep b hb).2,cur,_,_,hc⟩
  rw[show b=bt from hb]
  have e2:w'.heap[bt]?=wx.heap[bt]?:=g2.block bt (Nat.lt_of_lt_of_le q.box.lt hx.size) fun e3=>hbt bt e3.symm rfl
  exact⟨q.lob,q.xb,_,_,_,(e2.trans (hx.block bt q.box.lt)).trans q.box⟩
 have hsz:wx.heap.size≤w2.heap.size:=Nat.le_trans g2.size ho.size
 refine PoP.mn (keepW K' w2) w2 _ _ _ _ (Nat.le_refl _) (Sub.keepOut _ _ _) (PoP.mn _ _ _ _ _ _ hsz (Sub.keep (K:=K') (w:=wx) fun b hb hk=>⟨hk,?_⟩) hP)
 exact (ho.block b (Nat.lt_of_lt_of_le hb g2.size) fun e=>by rw[e,hkb] at hk;cases hk).trans (g2.block b hb fun e=>by rw[hKo b e.symm] at hk;cases hk)
end
section
variable {X X' K K':Nat→Bool} {lo:Nat} {w w' w'':World}
variable {bt:Nat} {bg bg':Bool} {f f':Int} {l:List Po} {lv c2 c3 c4 c5 c6 d2 d3 d4 d5 d6 rv:Value} {p p':Po}
theorem one3(A B C:Option Addr)(a b c a' b' c':Nat):∀u∈[Value.slice A a a',.slice B b b',.slice C c c'],u.oneCell'=true:=by
 intro u hu
 simp only[List.mem_cons,List.mem_nil_iff,or_false] at hu
 rcases hu with rfl|rfl|rfl<;>rfl
theorem RuX.one{v1 v2 v3:Value}{r:Ru}(h:RuX K X w lo v1 v2 v3 r):∀u∈[v1,v2,v3],u.oneCell'=true:=by
 obtain⟨_,_,q1,_⟩:=h.1.1.form
 obtain⟨_,_,q2,_⟩:=h.2.1.1.form
 obtain⟨_,_,q3,_⟩:=h.2.2.1.form
 rw[q1,q2,q3]
 exact one3 _ _ _ _ _ _ _ _ _
theorem sep_nil:Sep K X (.slice none 0 0):=fun b hb=>by cases hb
theorem RulesX.settle{R:List Ru}(h:RulesX K X w lo rv R)(hkk:∀b,K b=true→lo≤b∧b<w.heap.size∧X b=false):∃(K':Nat→Bool)(css:List (List Value)),DoneK K K' X w lo∧css.length=R.length∧w.ownsRow lo 50 3 rv R.length css.flatten∧(∀c∈css,c.length=3∧∀u∈c,u.oneCell'=true) ∧
  (∀j (hj:j<R.length) (hc:j<css.length),RuP (keepW K' w) w.heap.size css[j] R[j])∧Sep K' X rv∧(∀b,K' b=true→lo≤b∧b<w.heap.size∧X b=false):=by
 rcases h with ⟨h1,h2⟩|⟨R0,r,css,v1,v2,v3,h1,h2,h3,h4,h5,h6,h7⟩
 ·subst h1 h2
  exact⟨K,[],⟨fun _ h=>h,fun _ h=>.inl h⟩,rfl,World.ownsRow_nil w lo _ 3,by simp,fun j hj=>absurd hj (by simp),sep_nil,hkk⟩
 subst h1
 have hd:DoneK K (K4 K v1 v2 v3 (.slice none 0 0)) X w lo:=by
  refine⟨fun b hb=>K4.k hb,fun b hb=>?_⟩
  rcases K4.inv hb with hk|hk|hk|hk|hk
  ·exact .inl hk
  ·obtain⟨cc,hc⟩:=h6.1.1.typed hk
   exact .inr ⟨(h6.1.1.lt b hk).1,(h6.1.1.lt b hk).2,(h6.1.2 b hk).2,cc,_,hc,by decide,by decide⟩
  ·obtain⟨cc,hc⟩:=h6.2.1.1.typed hk
   exact .inr ⟨(h6.2.1.1.lt b hk).1,(h6.2.1.1.lt b hk).2,(h6.2.1.2 b hk).2,cc,_,hc,by decide,by decide⟩
  ·obtain⟨cc,hc⟩:=h6.2.2.1.typed hk
   exact .inr ⟨(h6.2.2.1.lt b hk).1,(h6.2.2.1.lt b hk).2,(h6.2.2.2 b hk).2,cc,_,hc,by decide,by decide⟩
  cases hk
 refine⟨K4 K v1 v2 v3 (.slice none 0 0),css++[[v1,v2,v3]],hd,by simp[h2],?_,?_,?_,?_,?_⟩
 ·rw[flatten_one,List.length_append];exact h3
 ·intro cs hcs
  rcases List.mem_append.1 hcs with h|h
  ·exact h4 cs h
  rw[List.mem_singleton] at h
  subst h
  exact⟨rfl,h6.one⟩
 ·intro j hj hc
  by_cases hjl:j<R0.length
  ·rw[List.getElem_append_left hjl,List.getElem_append_left (by omega)]
   exact RuP.mn _ _ _ _ _ _ (Nat.le_refl _) (Sub.keep fun b _ hb=>⟨K4.k hb,rfl⟩) (h5 j hjl (by omega))
  have hj':j=R0.length:=by simp at hj;omega
  subst hj'
  rw[List.getElem_append_right (by omega),List.getElem_append_right (by omega)]
  simp only[h2,Nat.sub_self,List.getElem_singleton]
  exact h6.done (fun b _ hb=>K4.k hb) (fun b hb=>K4.v1 hb) (fun b hb=>K4.v2 hb) (fun b hb=>K4.v3 hb)
 ·intro b hb
  refine⟨?_,(h7 b hb).2⟩
  cases hk:K4 K v1 v2 v3 (.slice none 0 0) b with
  | false=>rfl
  | true =>
   have ht:=ownsRow_typed h3 hb
   rcases K4.inv hk with h|h|h|h|h
   ·rw[(h7 b hb).1] at h;cases h
   ·exact absurd rfl (typed_ne (w:=w) (h6.1.1.typed h) ht (by decide))
   ·exact absurd rfl (typed_ne (w:=w) (h6.2.1.1.typed h) ht (by decide))
   ·exact absurd rfl (typed_ne (w:=w) (h6.2.2.1.typed h) ht (by decide))
   cases h
 intro b hk
 rcases hd.in_ b hk with h1|⟨h1,h2,h3,_⟩
 ·exact hkk b h1
 exact⟨h1,h2,h3⟩
theorem Tx.push(h:Tx K X w lo bt bg f l p lv rv){A:Option Addr}{n c:Nat}(hrv:rv=.slice A n c){wx:World}(hx:Below w.heap.size w wx){ad:Addr}{c9:Nat}(hlo:lo≤w.heap.size)
  (hc:∀j u,[Value.slice none 0 0,.slice none 0 0,.slice none 0 0][j]?=some u→wx.cell? (ad.add j)=some u) (hl:n+1≤1000000) (ty:TypeId) :
  ∃A' c' w',(Builtin.append_ #[37,37] ty #[.slice A n c,.slice (some ad) 1 c9]).run Tryz.prog wx=.ok (.slice A' (n+1) c') w' ∧
   wx.grownBy w' (Value.slice A n c).ownBlock∧(∀b,(Value.slice A n c).ownBlock=some b→b≠bt) ∧
   ∀(w2:World),Off (fun b=>b=bt) w' w2→Blk w2 bt 63 [lv,.bool bg,.int .u64 (p.id:Int),.string (strB p.ns),.int .u64 (p.service:Int),.int .i64 p.deny,.slice A' (n+1) c',.int .i64 f] →
    ∃K',Tx K' X w2 lo bt bg f l { p with rules:=p.rules++[ru0] } lv (.slice A' (n+1) c')∧FrT X lo w w2:=by
 subst hrv
 obtain⟨q,hr⟩:=h
 obtain⟨K',css,d,e1,e2,e3,e4,e5,hKlt⟩:=hr.settle q.kk
 have hn:p.rules.length=n:=by
  rcases e2.2 with ⟨g1,g2⟩|⟨g,cap,cur,g1,_⟩
  ·injection g1 with _ g1 _;omega
  injection g1 with _ g1 _;omega
 have hown:wx.ownsRow lo 50 3 (.slice A n c) n css.flatten:=by
  rw[←hn]
  have:=ownsRow_move (w':=wx) (hn▸e2) fun b hb=>hx.block b (e2.lt b hb).2
  rw[hn]
  exact this
 obtain⟨A',c',w',hrun,g1,g2,g3⟩:=run_append_raw ZRu ty hown (c2:=c9) rfl (one3 _ _ _ _ _ _ _ _ _) hc (by omega) (by unfold maxLen;omega) (Nat.le_trans hlo hx.size)
 have hot:∀b,(Value.slice A n c).ownBlock=some b→∃cur,w.heap[b]?=some (.cells cur 50 (0,0)):=fun b hb=>ownsRow_typed e2 hb
 have hbt:∀b,(Value.slice A n c).ownBlock=some b→b≠bt:=fun b hb=>Ne.symm (cells_ne q.box (hot b hb) (by decide))
 have hkb:K' bt=false:=by
  cases hk:K' bt with
  | false=>rfl
  | true =>
   rcases d.in_ bt hk with h1|⟨_,_,_,cur,e,h1,_,h2⟩
   ·rw[q.kb] at h1;cases h1
   exact absurd rfl (typed_ne (w:=w) ⟨cur,h1⟩ ⟨_,q.box⟩ h2)
 have hkl:∀b,lv.ownBlock=some b→K' b=false:=fun b hb=>by
  cases hk:K' b with
  | false=>rfl
  | true =>
   rcases d.in_ b hk with h1|⟨_,_,_,cur,e,h1,h2,_⟩
   ·rw[(q.sep b hb).1] at h1;cases h1
   exact absurd rfl (typed_ne (w:=w) ⟨cur,h1⟩ (q.row.typed hb) h2)
 have same:∀b,b<w.heap.size→some b≠(Value.slice A n c).ownBlock→w'.heap[b]?=w.heap[b]?:=fun b hb hne=>(g2.block b (Nat.lt_of_lt_of_le hb hx.size) hne).trans (hx.block b hb)
 have hbt2:w'.heap[bt]?=w.heap[bt]?:=same bt q.box.lt fun e=>hbt bt e.symm rfl
 have hsz:w.heap.size≤w'.heap.size:=Nat.le_trans hx.size g2.size
 have same2:∀{w2:World},Off (fun b=>b=bt) w' w2→∀b,b<w.heap.size→some b≠(Value.slice A n c).ownBlock→b≠bt→w2.heap[b]?=w.heap[b]?:=fun ho b hb hne hb2=>(ho.block b (Nat.lt_of_lt_of_le hb hsz) hb2).trans (same b hb hne)
 refine⟨A',c',w',hrun,g2,hbt,fun w2 ho hb=>⟨K',⟨⟨hb,q.lob,hkb,q.xb,fun b hk=>?_,fun b hxb=>?_,?_,?_⟩,.inr ⟨p.rules,ru0,css,.slice none 0 0,.slice none 0 0,.slice none 0 0,rfl,e1,?_,e3,fun j hj hc'=>?_,⟨⟨GrK.nil,sep_nil⟩,⟨GrK.nil,sep_nil⟩,⟨GrK.nil,sep_nil⟩⟩,?_⟩⟩,?_⟩⟩
 ·obtain⟨h1,h2,h3⟩:=hKlt b hk
  have:=ho.size
  exact⟨h1,by omega,h3⟩
 ·have:=q.xx b hxb;have:=ho.size
  omega
 ·refine q.row.move PoP.mn (Nat.le_trans hsz ho.size) (fun b hb hk=>⟨d.up b hk,same2 ho b hb (fun e=>?_) fun e=>?_⟩) fun b hb=>same2 ho b (q.row.lt b hb).2 (fun e=>?_) fun e=>?_
  ·have:=(e5 b e.symm).1
   rw[d.up b hk] at this
   cases this
  ·rw[e,q.kb] at hk;cases hk
  ·exact typed_ne (w:=w) (hot b e.symm) (q.row.typed hb) (by decide) rfl
  exact cells_ne q.box (q.row.typed hb) (by decide) e.symm
 ·intro b hb
  exact⟨hkl b hb,(q.sep b hb).2⟩
 ·rw[hn]
  refine ownsRow_move g1 fun b hb=>ho.block b (g1.lt b hb).2 fun e=>?_
  exact typed_ne (w:=w') (ownsRow_typed g1 hb) ⟨_,hbt2.trans q.box⟩ (by decide) e
 ·refine RuP.mn _ _ _ _ _ _ (Nat.le_trans hsz ho.size) (Sub.keep fun b hb hk=>⟨hk,same2 ho b hb (fun e=>?_) fun e=>?_⟩) (e4 j hj hc')
  ·rw[(e5 b e.symm).1] at hk;cases hk
  rw[e,hkb] at hk;cases hk
 ·intro b hb
  rcases g3 with e|e
  ·rw[e] at hb
   exact e5 b hb
  rw[e] at hb
  injection hb with hb
  subst hb
  have:=hx.size
  refine⟨?_,?_⟩
  ·cases hk:K' wx.heap.size with
   | false=>rfl
   | true=>have:=(hKlt _ hk).2.1;omega
  cases hk:X wx.heap.size with
  | false=>rfl
  | true=>have:=q.xx _ hk;omega
 refine ((FrT.of_below hx).trans (FrT.grown g2 fun b hb=>?_)).trans (FrT.off ho fun b hb hl=>?_)
 ·obtain⟨cur,hc⟩:=hot b hb
  exact⟨(e2.lt b hb).1,(e5 b hb).2,cur,_,_,(hx.block b (e2.lt b hb).2).trans hc⟩
 rw[show b=bt from hb]
 exact⟨q.lob,q.xb,_,_,_,hbt2.trans q.box⟩
theorem set_at{xs:List Value}{a b c x:Value}{m:Nat}(h:xs.length=m):(xs++[a,b,c]).set m x=xs++[x,b,c]∧(xs++[a,b,c]).set (m+1) x=xs++[a,x,c]∧(xs++[a,b,c]).set (m+2) x=xs++[a,b,x]:=by
 subst h
 refine⟨?_,?_,?_⟩
 ·rw[List.set_append_right _ _ (Nat.le_refl _),Nat.sub_self];rfl
 ·rw[List.set_append_right _ _ (by omega),show xs.length+1-xs.length=1 from by omega];rfl
 rw[List.set_append_right _ _ (by omega),show xs.length+2-xs.length=2 from by omega];rfl
theorem flat3(css:List (List Value))(h:∀c∈css,c.length=3):css.flatten.length=css.length*3:=by
 induction css with
 | nil=>rfl
 | cons x L ih=>rw[List.flatten_cons,List.length_append,h x (List.mem_cons_self),ih fun c hc=>h c (List.mem_cons_of_mem _ hc),List.length_cons];omega
theorem Tx.addF(h:Tx K X w lo bt bg f l p lv rv)(hlo:lo≤w.heap.size){R0:List Ru}{r:Ru}(hp:p.rules=R0++[r]){g cg:Nat}(hg:rv=.slice (some ⟨g,0,none⟩) (R0.length+1) cg){A:Option Addr}{n c:Nat}(hv:w.cell? ⟨g,R0.length*3,none⟩=some (.slice A n c))
  {s:Sr} {cs:List Value} (hk:cs.length=3) (h1c:∀u∈cs,u.oneCell'=true) {ad:Addr} {c9:Nat} (hc:∀j u,cs[j]?=some u→w.cell? (ad.add j)=some u) (hs:SrP (keepW K w) w.heap.size cs s) (hl:n+1≤1000000) (ty:TypeId) :
  ∃A' c' w',(Builtin.append_ #[47,47] ty #[.slice A n c,.slice (some ad) 1 c9]).run Tryz.prog w=.ok (.slice A' (n+1) c') w'∧w.grownBy w' (Value.slice A n c).ownBlock∧(∀b,(Value.slice A n c).ownBlock=some b→b≠g∧lo≤b∧X b=false∧K b=false∧∃cur,w.heap[b]?=some (.cells cur 56 (0,0))) ∧
   Tx K X (w'.setCell ⟨g,R0.length*3,none⟩ (.slice A' (n+1) c')) lo bt bg f l { p with rules:=R0++[⟨r.froms++[s],r.tos,r.whens⟩] } lv rv∧FrT X lo w (w'.setCell ⟨g,R0.length*3,none⟩ (.slice A' (n+1) c')):=by
 obtain⟨q,hr⟩:=h
 rw[hp] at hr
 obtain⟨g',cg',cur,css,u1,u2,u3,e1,e2,e3,e4,e5,e6,e7,e8,e9,g2,g3,g4,g5,g6,g7⟩:=hr.last
 rw[hg] at e1
 injection e1 with e1 _ _
 injection e1 with e1
 injection e1 with e1 _ _
 subst e1
 have hme:u1=.slice A n c:=by
  have:=(e5.cell (R0.length*3)).symm.trans hv
  rw[e7] at this
  injection this
 subst hme
 have hn:r.froms.length=n:=g6.1.1.len
 obtain⟨A',c',w',hrun,a1,a2,a3⟩:=run_appendK ZSr SrP.mn ty g6.1.1 (fun b hb=>(g6.1.2 b hb).1) (c2:=c9) hk h1c hc hs (by omega) (by unfold maxLen;omega) hlo
 have hot:=fun b (hb:(Value.slice A n c).ownBlock=some b)=>g6.1.1.typed hb
 have hog:∀b,(Value.slice A n c).ownBlock=some b→b≠g:=fun b hb=>Ne.symm (cells_ne e5 (hot b hb) (by decide))
 have hobt:∀b,(Value.slice A n c).ownBlock=some b→b≠bt:=fun b hb=>Ne.symm (cells_ne q.box (hot b hb) (by decide))
 have hgbt:g≠bt:=Ne.symm (cells_ne q.box ⟨_,e5⟩ (by decide))
 have hgs:Sep K X rv:=g7
 have hrg:rv.ownBlock=some g:=by rw[hg];rfl
 obtain⟨hKg,hXg⟩:=hgs g hrg
 have same:∀b,b<w.heap.size→some b≠(Value.slice A n c).ownBlock→b≠g→(w'.setCell ⟨g,R0.length*3,none⟩ (.slice A' (n+1) c')).heap[b]?=w.heap[b]?:=fun b hb h1 h2=>(Below.heap_setCell w' ⟨g,R0.length*3,none⟩ _ b h2).trans (a2.block b hb h1)
 have hsz:w.heap.size≤(w'.setCell ⟨g,R0.length*3,none⟩ (.slice A' (n+1) c')).heap.size:=by have:=a2.size;simpa [World.setCell] using this
 have ksame:∀b,b<w.heap.size→K b=true→K b=true∧(w'.setCell ⟨g,R0.length*3,none⟩ (.slice A' (n+1) c')).heap[b]?=w.heap[b]?:=fun b hb hkb=>⟨hkb,same b hb (fun e=>by have:=(g6.1.2 b e.symm).1;rw[hkb] at this;cases this) (fun e=>by rw[e,hKg] at hkb;cases hkb)⟩
 refine⟨A',c',w',hrun,a2,fun b hb=>⟨hog b hb,(g6.1.1.lt b hb).1,(g6.1.2 b hb).2,(g6.1.2 b hb).1,hot b hb⟩,⟨⟨?_,q.lob,q.kb,q.xb,fun b hkb=>?_,fun b hxb=>Nat.lt_of_lt_of_le (q.xx b hxb) hsz,?_,q.sep⟩,.inr ⟨R0,⟨r.froms++[s],r.tos,r.whens⟩,css,(.slice A' (n+1) c'),u2,u3,rfl,g2,?_,g4,fun j hj hc'=>?_,?_,g7⟩⟩,?_⟩
 ·exact (same bt q.box.lt (fun e=>hobt bt e.symm rfl) (Ne.symm hgbt)).trans q.box
 ·obtain⟨h1,h2,h3⟩:=q.kk b hkb
  exact⟨h1,Nat.lt_of_lt_of_le h2 hsz,h3⟩
 ·refine q.row.move PoP.mn hsz ksame fun b hb=>same b (q.row.lt b hb).2 (fun e=>?_) fun e=>?_
  ·exact typed_ne (w:=w) (hot b e.symm) (q.row.typed hb) (by decide) rfl
  exact cells_ne e5 (q.row.typed hb) (by decide) e.symm
 ·have hw:w'.ownsRow lo 50 3 rv (R0.length+1) (css.flatten++[(.slice A n c),u2,u3]):=ownsRow_move g3 fun b hb=>a2.block b (g3.lt b hb).2 fun e=>typed_ne (w:=w) (hot b e.symm) (ownsRow_typed g3 hb) (by decide) rfl
  have hf:css.flatten.length=R0.length*3:=by rw[flat3 css fun c hc=>(g4 c hc).1,g2]
  have:=ownsRow_set (u:=.slice A' (n+1) c') (i:=R0.length*3) hw hrg (by rw[List.length_append,hf];simp)
  rwa [(set_at hf).1] at this
 ·exact RuP.mn _ _ _ _ _ _ hsz (Sub.keep ksame) (g5 j hj hc')
 ·have oth:∀{α:Type} {k e:Nat} {Q:World→Nat→List Value→α→Prop} {v:Value} {L:List α},Mn Q→GrK K k Q w lo e v L→e≠56→e≠50→GrK K k Q (w'.setCell ⟨g,R0.length*3,none⟩ (.slice A' (n+1) c')) lo e v L:=fun hQ hG h1 h2 =>
   hG.move hQ hsz ksame fun b hb=>same b (hG.lt b hb).2 (fun e=>typed_ne (w:=w) (hot b e.symm) (hG.typed hb) (Ne.symm h1) rfl) fun e=>cells_ne e5 (hG.typed hb) (Ne.symm h2) e.symm
  have mine:GrK K 3 SrP (w'.setCell ⟨g,R0.length*3,none⟩ (.slice A' (n+1) c')) lo 56 (.slice A' (n+1) c') (r.froms++[s]):=by
   refine a1.move SrP.mn (by simp[World.setCell]) (fun b hb hkb=>⟨hkb,Below.heap_setCell w' ⟨g,R0.length*3,none⟩ _ b fun e=>?_⟩) fun b hb=>Below.heap_setCell w' ⟨g,R0.length*3,none⟩ _ b fun e=>?_
   ·rw[show b=g from e,hKg] at hkb;cases hkb
   have e9:w'.heap[g]?=w.heap[g]?:=a2.block g e5.lt fun e=>hog g e.symm rfl
   exact typed_ne (w:=w') (a1.typed hb) ⟨_,e9.trans e5⟩ (by decide) e
  have sepm:Sep K X (.slice A' (n+1) c'):=fun b hb=>by
   rcases a3 with e|e
   ·rw[e] at hb
    exact g6.1.2 b hb
   rw[e] at hb
   injection hb with hb
   subst hb
   refine⟨?_,?_⟩
   ·cases hkb:K w.heap.size with
    | false=>rfl
    | true=>have:=(q.kk _ hkb).2.1;omega
   cases hkb:X w.heap.size with
   | false=>rfl
   | true=>have:=q.xx _ hkb;omega
  exact⟨⟨mine,sepm⟩,⟨oth TgP.mn g6.2.1.1 (by decide) (by decide),g6.2.1.2⟩,⟨oth WnP.mn g6.2.2.1 (by decide) (by decide),g6.2.2.2⟩⟩
 refine (FrT.grown a2 fun b hb=>?_).trans (FrT.grown (row:=some g) ⟨rfl,rfl,rfl,by simp[World.setCell],fun k _ hne=>Below.heap_setCell w' ⟨g,R0.length*3,none⟩ _ k fun e=>hne (by rw[e])⟩ fun b hb=>?_)
 ·obtain⟨cur,hc⟩:=hot b hb
  exact⟨(g6.1.1.lt b hb).1,(g6.1.2 b hb).2,cur,_,_,hc⟩
 injection hb with hb
 subst hb
 exact⟨e4,hXg,_,_,_,(a2.block g e5.lt fun e=>hog g e.symm rfl).trans e5⟩
theorem Tx.addT(h:Tx K X w lo bt bg f l p lv rv)(hlo:lo≤w.heap.size){R0:List Ru}{r:Ru}(hp:p.rules=R0++[r]){g cg:Nat}(hg:rv=.slice (some ⟨g,0,none⟩) (R0.length+1) cg){A:Option Addr}{n c:Nat}(hv:w.cell? ⟨g,R0.length*3+1,none⟩=some (.slice A n c))
  {s:Tg} {cs:List Value} (hk:cs.length=4) (h1c:∀u∈cs,u.oneCell'=true) {ad:Addr} {c9:Nat} (hc:∀j u,cs[j]?=some u→w.cell? (ad.add j)=some u) (hs:TgP (keepW K w) w.heap.size cs s) (hl:n+1≤1000000) (ty:TypeId) :
  ∃A' c' w',(Builtin.append_ #[46,46] ty #[.slice A n c,.slice (some ad) 1 c9]).run Tryz.prog w=.ok (.slice A' (n+1) c') w'∧w.grownBy w' (Value.slice A n c).ownBlock∧(∀b,(Value.slice A n c).ownBlock=some b→b≠g∧lo≤b∧X b=false∧K b=false∧∃cur,w.heap[b]?=some (.cells cur 45 (0,0))) ∧
   Tx K X (w'.setCell ⟨g,R0.length*3+1,none⟩ (.slice A' (n+1) c')) lo bt bg f l { p with rules:=R0++[⟨r.froms,r.tos++[s],r.whens⟩] } lv rv∧FrT X lo w (w'.setCell ⟨g,R0.length*3+1,none⟩ (.slice A' (n+1) c')):=by
 obtain⟨q,hr⟩:=h
 rw[hp] at hr
 obtain⟨g',cg',cur,css,u1,u2,u3,e1,e2,e3,e4,e5,e6,e7,e8,e9,g2,g3,g4,g5,g6,g7⟩:=hr.last
 rw[hg] at e1
 injection e1 with e1 _ _
 injection e1 with e1
 injection e1 with e1 _ _
 subst e1
 have hme:u2=.slice A n c:=by
  have:=(e5.cell (R0.length*3+1)).symm.trans hv
  rw[e8] at this
  injection this
 subst hme
 have hn:r.tos.length=n:=g6.2.1.1.len
 obtain⟨A',c',w',hrun,a1,a2,a3⟩:=run_appendK ZTg TgP.mn ty g6.2.1.1 (fun b hb=>(g6.2.1.2 b hb).1) (c2:=c9) hk h1c hc hs (by omega) (by unfold maxLen;omega) hlo
 have hot:=fun b (hb:(Value.slice A n c).ownBlock=some b)=>g6.2.1.1.typed hb
 have hog:∀b,(Value.slice A n c).ownBlock=some b→b≠g:=fun b hb=>Ne.symm (cells_ne e5 (hot b hb) (by decide))
 have hobt:∀b,(Value.slice A n c).ownBlock=some b→b≠bt:=fun b hb=>Ne.symm (cells_ne q.box (hot b hb) (by decide))
 have hgbt:g≠bt:=Ne.symm (cells_ne q.box ⟨_,e5⟩ (by decide))
 have hgs:Sep K X rv:=g7
 have hrg:rv.ownBlock=some g:=by rw[hg];rfl
 obtain⟨hKg,hXg⟩:=hgs g hrg
 have same:∀b,b<w.heap.size→some b≠(Value.slice A n c).ownBlock→b≠g→(w'.setCell ⟨g,R0.length*3+1,none⟩ (.slice A' (n+1) c')).heap[b]?=w.heap[b]?:=fun b hb h1 h2=>(Below.heap_setCell w' ⟨g,R0.length*3+1,none⟩ _ b h2).trans (a2.block b hb h1)
 have hsz:w.heap.size≤(w'.setCell ⟨g,R0.length*3+1,none⟩ (.slice A' (n+1) c')).heap.size:=by have:=a2.size;simpa [World.setCell] using this
 have ksame:∀b,b<w.heap.size→K b=true→K b=true∧(w'.setCell ⟨g,R0.length*3+1,none⟩ (.slice A' (n+1) c')).heap[b]?=w.heap[b]?:=fun b hb hkb=>⟨hkb,same b hb (fun e=>by have:=(g6.2.1.2 b e.symm).1;rw[hkb] at this;cases this) (fun e=>by rw[e,hKg] at hkb;cases hkb)⟩
 refine⟨A',c',w',hrun,a2,fun b hb=>⟨hog b hb,(g6.2.1.1.lt b hb).1,(g6.2.1.2 b hb).2,(g6.2.1.2 b hb).1,hot b hb⟩,⟨⟨?_,q.lob,q.kb,q.xb,fun b hkb=>?_,fun b hxb=>Nat.lt_of_lt_of_le (q.xx b hxb) hsz,?_,q.sep⟩,.inr ⟨R0,⟨r.froms,r.tos++[s],r.whens⟩,css,u1,(.slice A' (n+1) c'),u3,rfl,g2,?_,g4,fun j hj hc'=>?_,?_,g7⟩⟩,?_⟩
 ·exact (same bt q.box.lt (fun e=>hobt bt e.symm rfl) (Ne.symm hgbt)).trans q.box
 ·obtain⟨h1,h2,h3⟩:=q.kk b hkb
  exact⟨h1,Nat.lt_of_lt_of_le h2 hsz,h3⟩
 ·refine q.row.move PoP.mn hsz ksame fun b hb=>same b (q.row.lt b hb).2 (fun e=>?_) fun e=>?_
  ·exact typed_ne (w:=w) (hot b e.symm) (q.row.typed hb) (by decide) rfl
  exact cells_ne e5 (q.row.typed hb) (by decide) e.symm
 ·have hw:w'.ownsRow lo 50 3 rv (R0.length+1) (css.flatten++[u1,(.slice A n c),u3]):=ownsRow_move g3 fun b hb=>a2.block b (g3.lt b hb).2 fun e=>typed_ne (w:=w) (hot b e.symm) (ownsRow_typed g3 hb) (by decide) rfl
  have hf:css.flatten.length=R0.length*3:=by rw[flat3 css fun c hc=>(g4 c hc).1,g2]
  have:=ownsRow_set (u:=.slice A' (n+1) c') (i:=R0.length*3+1) hw hrg (by rw[List.length_append,hf];simp)
  rwa [(set_at hf).2.1] at this
 ·exact RuP.mn _ _ _ _ _ _ hsz (Sub.keep ksame) (g5 j hj hc')
 ·have oth:∀{α:Type} {k e:Nat} {Q:World→Nat→List Value→α→Prop} {v:Value} {L:List α},Mn Q→GrK K k Q w lo e v L→e≠45→e≠50→GrK K k Q (w'.setCell ⟨g,R0.length*3+1,none⟩ (.slice A' (n+1) c')) lo e v L:=fun hQ hG h1 h2 =>
   hG.move hQ hsz ksame fun b hb=>same b (hG.lt b hb).2 (fun e=>typed_ne (w:=w) (hot b e.symm) (hG.typed hb) (Ne.symm h1) rfl) fun e=>cells_ne e5 (hG.typed hb) (Ne.symm h2) e.symm
  have mine:GrK K 4 TgP (w'.setCell ⟨g,R0.length*3+1,none⟩ (.slice A' (n+1) c')) lo 45 (.slice A' (n+1) c') (r.tos++[s]):=by
   refine a1.move TgP.mn (by simp[World.setCell]) (fun b hb hkb=>⟨hkb,Below.heap_setCell w' ⟨g,R0.length*3+1,none⟩ _ b fun e=>?_⟩) fun b hb=>Below.heap_setCell w' ⟨g,R0.length*3+1,none⟩ _ b fun e=>?_
   ·rw[show b=g from e,hKg] at hkb;cases hkb
   have e9:w'.heap[g]?=w.heap[g]?:=a2.block g e5.lt fun e=>hog g e.symm rfl
   exact typed_ne (w:=w') (a1.typed hb) ⟨_,e9.trans e5⟩ (by decide) e
  have sepm:Sep K X (.slice A' (n+1) c'):=fun b hb=>by
   rcases a3 with e|e
   ·rw[e] at hb
    exact g6.2.1.2 b hb
   rw[e] at hb
   injection hb with hb
   subst hb
   refine⟨?_,?_⟩
   ·cases hkb:K w.heap.size with
    | false=>rfl
    | true=>have:=(q.kk _ hkb).2.1;omega
   cases hkb:X w.heap.size with
   | false=>rfl
   | true=>have:=q.xx _ hkb;omega
  exact⟨⟨oth SrP.mn g6.1.1 (by decide) (by decide),g6.1.2⟩,⟨mine,sepm⟩,⟨oth WnP.mn g6.2.2.1 (by decide) (by decide),g6.2.2.2⟩⟩
 refine (FrT.grown a2 fun b hb=>?_).trans (FrT.grown (row:=some g) ⟨rfl,rfl,rfl,by simp[World.setCell],fun k _ hne=>Below.heap_setCell w' ⟨g,R0.length*3+1,none⟩ _ k fun e=>hne (by rw[e])⟩ fun b hb=>?_)
 ·obtain⟨cur,hc⟩:=hot b hb
  exact⟨(g6.2.1.1.lt b hb).1,(g6.2.1.2 b hb).2,cur,_,_,hc⟩
 injection hb with hb
 subst hb
 exact⟨e4,hXg,_,_,_,(a2.block g e5.lt fun e=>hog g e.symm rfl).trans e5⟩
theorem Tx.addW(h:Tx K X w lo bt bg f l p lv rv)(hlo:lo≤w.heap.size){R0:List Ru}{r:Ru}(hp:p.rules=R0++[r]){g cg:Nat}(hg:rv=.slice (some ⟨g,0,none⟩) (R0.length+1) cg){A:Option Addr}{n c:Nat}(hv:w.cell? ⟨g,R0.length*3+2,none⟩=some (.slice A n c))
  {s:Wn} {cs:List Value} (hk:cs.length=2) (h1c:∀u∈cs,u.oneCell'=true) {ad:Addr} {c9:Nat} (hc:∀j u,cs[j]?=some u→w.cell? (ad.add j)=some u) (hs:WnP (keepW K w) w.heap.size cs s) (hl:n+1≤1000000) (ty:TypeId) :
  ∃A' c' w',(Builtin.append_ #[48,48] ty #[.slice A n c,.slice (some ad) 1 c9]).run Tryz.prog w=.ok (.slice A' (n+1) c') w'∧w.grownBy w' (Value.slice A n c).ownBlock∧(∀b,(Value.slice A n c).ownBlock=some b→b≠g∧lo≤b∧X b=false∧K b=false∧∃cur,w.heap[b]?=some (.cells cur 60 (0,0))) ∧
   Tx K X (w'.setCell ⟨g,R0.length*3+2,none⟩ (.slice A' (n+1) c')) lo bt bg f l { p with rules:=R0++[⟨r.froms,r.tos,r.whens++[s]⟩] } lv rv∧FrT X lo w (w'.setCell ⟨g,R0.length*3+2,none⟩ (.slice A' (n+1) c')):=by
 obtain⟨q,hr⟩:=h
 rw[hp] at hr
 obtain⟨g',cg',cur,css,u1,u2,u3,e1,e2,e3,e4,e5,e6,e7,e8,e9,g2,g3,g4,g5,g6,g7⟩:=hr.last
 rw[hg] at e1
 injection e1 with e1 _ _
 injection e1 with e1
 injection e1 with e1 _ _
 subst e1
 have hme:u3=.slice A n c:=by
  have:=(e5.cell (R0.length*3+2)).symm.trans hv
  rw[e9] at this
  injection this
 subst hme
 have hn:r.whens.length=n:=g6.2.2.1.len
 obtain⟨A',c',w',hrun,a1,a2,a3⟩:=run_appendK ZWn WnP.mn ty g6.2.2.1 (fun b hb=>(g6.2.2.2 b hb).1) (c2:=c9) hk h1c hc hs (by omega) (by unfold maxLen;omega) hlo
 have hot:=fun b (hb:(Value.slice A n c).ownBlock=some b)=>g6.2.2.1.typed hb
 have hog:∀b,(Value.slice A n c).ownBlock=some b→b≠g:=fun b hb=>Ne.symm (cells_ne e5 (hot b hb) (by decide))
 have hobt:∀b,(Value.slice A n c).ownBlock=some b→b≠bt:=fun b hb=>Ne.symm (cells_ne q.box (hot b hb) (by decide))
 have hgbt:g≠bt:=Ne.symm (cells_ne q.box ⟨_,e5⟩ (by decide))
 have hgs:Sep K X rv:=g7
 have hrg:rv.ownBlock=some g:=by rw[hg];rfl
 obtain⟨hKg,hXg⟩:=hgs g hrg
 have same:∀b,b<w.heap.size→some b≠(Value.slice A n c).ownBlock→b≠g→(w'.setCell ⟨g,R0.length*3+2,none⟩ (.slice A' (n+1) c')).heap[b]?=w.heap[b]?:=fun b hb h1 h2=>(Below.heap_setCell w' ⟨g,R0.length*3+2,none⟩ _ b h2).trans (a2.block b hb h1)
 have hsz:w.heap.size≤(w'.setCell ⟨g,R0.length*3+2,none⟩ (.slice A' (n+1) c')).heap.size:=by have:=a2.size;simpa [World.setCell] using this
 have ksame:∀b,b<w.heap.size→K b=true→K b=true∧(w'.setCell ⟨g,R0.length*3+2,none⟩ (.slice A' (n+1) c')).heap[b]?=w.heap[b]?:=fun b hb hkb=>⟨hkb,same b hb (fun e=>by have:=(g6.2.2.2 b e.symm).1;rw[hkb] at this;cases this) (fun e=>by rw[e,hKg] at hkb;cases hkb)⟩
 refine⟨A',c',w',hrun,a2,fun b hb=>⟨hog b hb,(g6.2.2.1.lt b hb).1,(g6.2.2.2 b hb).2,(g6.2.2.2 b hb).1,hot b hb⟩,⟨⟨?_,q.lob,q.kb,q.xb,fun b hkb=>?_,fun b hxb=>Nat.lt_of_lt_of_le (q.xx b hxb) hsz,?_,q.sep⟩,.inr ⟨R0,⟨r.froms,r.tos,r.whens++[s]⟩,css,u1,u2,(.slice A' (n+1) c'),rfl,g2,?_,g4,fun j hj hc'=>?_,?_,g7⟩⟩,?_⟩
 ·exact (same bt q.box.lt (fun e=>hobt bt e.symm rfl) (Ne.symm hgbt)).trans q.box
 ·obtain⟨h1,h2,h3⟩:=q.kk b hkb
  exact⟨h1,Nat.lt_of_lt_of_le h2 hsz,h3⟩
 ·refine q.row.move PoP.mn hsz ksame fun b hb=>same b (q.row.lt b hb).2 (fun e=>?_) fun e=>?_
  ·exact typed_ne (w:=w) (hot b e.symm) (q.row.typed hb) (by decide) rfl
  exact cells_ne e5 (q.row.typed hb) (by decide) e.symm
 ·have hw:w'.ownsRow lo 50 3 rv (R0.length+1) (css.flatten++[u1,u2,(.slice A n c)]):=ownsRow_move g3 fun b hb=>a2.block b (g3.lt b hb).2 fun e=>typed_ne (w:=w) (hot b e.symm) (ownsRow_typed g3 hb) (by decide) rfl
  have hf:css.flatten.length=R0.length*3:=by rw[flat3 css fun c hc=>(g4 c hc).1,g2]
  have:=ownsRow_set (u:=.slice A' (n+1) c') (i:=R0.length*3+2) hw hrg (by rw[List.length_append,hf];simp)
  rwa [(set_at hf).2.2] at this
 ·exact RuP.mn _ _ _ _ _ _ hsz (Sub.keep ksame) (g5 j hj hc')
 ·have oth:∀{α:Type} {k e:Nat} {Q:World→Nat→List Value→α→Prop} {v:Value} {L:List α},Mn Q→GrK K k Q w lo e v L→e≠60→e≠50→GrK K k Q (w'.setCell ⟨g,R0.length*3+2,none⟩ (.slice A' (n+1) c')) lo e v L:=fun hQ hG h1 h2 =>
   hG.move hQ hsz ksame fun b hb=>same b (hG.lt b hb).2 (fun e=>typed_ne (w:=w) (hot b e.symm) (hG.typed hb) (Ne.symm h1) rfl) fun e=>cells_ne e5 (hG.typed hb) (Ne.symm h2) e.symm
  have mine:GrK K 2 WnP (w'.setCell ⟨g,R0.length*3+2,none⟩ (.slice A' (n+1) c')) lo 60 (.slice A' (n+1) c') (r.whens++[s]):=by
   refine a1.move WnP.mn (by simp[World.setCell]) (fun b hb hkb=>⟨hkb,Below.heap_setCell w' ⟨g,R0.length*3+2,none⟩ _ b fun e=>?_⟩) fun b hb=>Below.heap_setCell w' ⟨g,R0.length*3+2,none⟩ _ b fun e=>?_
   ·rw[show b=g from e,hKg] at hkb;cases hkb
   have e9:w'.heap[g]?=w.heap[g]?:=a2.block g e5.lt fun e=>hog g e.symm rfl
   exact typed_ne (w:=w') (a1.typed hb) ⟨_,e9.trans e5⟩ (by decide) e
  have sepm:Sep K X (.slice A' (n+1) c'):=fun b hb=>by
   rcases a3 with e|e
   ·rw[e] at hb
    exact g6.2.2.2 b hb
   rw[e] at hb
   injection hb with hb
   subst hb
   refine⟨?_,?_⟩
   ·cases hkb:K w.heap.size with
    | false=>rfl
    | true=>have:=(q.kk _ hkb).2.1;omega
   cases hkb:X w.heap.size with
   | false=>rfl
   | true=>have:=q.xx _ hkb;omega
  exact⟨⟨oth SrP.mn g6.1.1 (by decide) (by decide),g6.1.2⟩,⟨oth TgP.mn g6.2.1.1 (by decide) (by decide),g6.2.1.2⟩,⟨mine,sepm⟩⟩
 refine (FrT.grown a2 fun b hb=>?_).trans (FrT.grown (row:=some g) ⟨rfl,rfl,rfl,by simp[World.setCell],fun k _ hne=>Below.heap_setCell w' ⟨g,R0.length*3+2,none⟩ _ k fun e=>hne (by rw[e])⟩ fun b hb=>?_)
 ·obtain⟨cur,hc⟩:=hot b hb
  exact⟨(g6.2.2.1.lt b hb).1,(g6.2.2.2 b hb).2,cur,_,_,hc⟩
 injection hb with hb
 subst hb
 exact⟨e4,hXg,_,_,_,(a2.block g e5.lt fun e=>hog g e.symm rfl).trans e5⟩
end
end Go.Proofs.YtpcdmbajfmnoiaaGreatDoor
