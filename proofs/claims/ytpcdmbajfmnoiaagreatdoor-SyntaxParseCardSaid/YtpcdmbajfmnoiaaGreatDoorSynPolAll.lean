/- syntax.text's ended: the policy ahead is put behind the others; it may be, or not. Conditions: bounds. What syntax.text's policy reads, and what it should: plain. No condition. syntax.text's policy: a policy's first line. Conditions: words of a million bytes at most; the library's variables hold what they should. Printed by gen_synpol.py. -/
import Derived.Test.YtpcdmbajfmnoiaaGreatDoorTxAll
import Derived.Test.YtpcdmbajfmnoiaaGreatDoorOrder
import Derived.Test.YtpcdmbajfmnoiaaGreatDoorSynParseAll
import Derived.Test.YtpcdmbajfmnoiaaGreatDoorSynElAll
namespace Go.Proofs.YtpcdmbajfmnoiaaGreatDoor
set_option linter.unusedVariables false
set_option linter.unusedSimpArgs false
open Go.RowKit
theorem wp_append_run{Pr:Program}{o:Oper}{a:Act}{K:Act→World→Prop}{Q:Exit→Act→World→Prop}{w w':World}{s x:Operand}{t:TypeId}{v1 v2 v':Value}(ho:o.op=.call { callee:=.builtin .append,args:=#[s,x],argTypes:=#[t,t] })(hs:a.eval s=v1)(hx:a.eval x=v2)
  (hrun:(Builtin.append_ #[t,t] o.type #[v1,v2]).run Pr w=.ok v' w') (h:K (a.put o.dst v') w'):o.wp Pr a w K Q:=by
 unfold Oper.wp execOp
 simp only[ho,resolve,invoke,builtin,Sem.run_bind,Sem.run_pure,Result.andThen_ok,List.map_toArray,List.map_cons,List.map_nil,hs,hx,hrun]
 exact h
def BxT(bt:Nat)(lv:Value)(bg:Bool)(c2 c3 c4 c5 c6:Value)(f:Int)(u:World):Prop :=
 u.cell? ⟨bt,0,none⟩=some lv∧u.cell? ⟨bt,1,none⟩=some (.bool bg)∧u.cell? ⟨bt,2,none⟩=some c2∧u.cell? ⟨bt,3,none⟩=some c3∧u.cell? ⟨bt,4,none⟩=some c4∧u.cell? ⟨bt,5,none⟩=some c5∧u.cell? ⟨bt,6,none⟩=some c6∧u.cell? ⟨bt,7,none⟩=some (.int .i64 f)
theorem BxT.of{bt:Nat}{lv:Value}{bg:Bool}{c2 c3 c4 c5 c6:Value}{f:Int}{u:World}(h:Blk u bt 63 [lv,.bool bg,c2,c3,c4,c5,c6,.int .i64 f]):BxT bt lv bg c2 c3 c4 c5 c6 f u:=⟨h.cell 0,h.cell 1,h.cell 2,h.cell 3,h.cell 4,h.cell 5,h.cell 6,h.cell 7⟩
theorem BxT.same{bt:Nat}{lv:Value}{bg:Bool}{c2 c3 c4 c5 c6:Value}{f:Int}{u u':World}(h:BxT bt lv bg c2 c3 c4 c5 c6 f u)(he:u'.heap[bt]?=u.heap[bt]?):BxT bt lv bg c2 c3 c4 c5 c6 f u':=by
 have e:∀i,u'.cell? ⟨bt,i,none⟩=u.cell? ⟨bt,i,none⟩:=fun i=>World.cell?_of_block (a:=⟨bt,i,none⟩) he
 obtain⟨h0,h1,h2,h3,h4,h5,h6,h7⟩:=h
 exact⟨(e 0).trans h0,(e 1).trans h1,(e 2).trans h2,(e 3).trans h3,(e 4).trans h4,(e 5).trans h5,(e 6).trans h6,(e 7).trans h7⟩
set_option maxRecDepth 100000 in
set_option maxHeartbeats 2000000 in
theorem ended_none(K X:Nat→Bool)(w:World)(lo bt:Nat)(f:Int)(l:List Po)(lv c2 c3 c4 c5 c6:Value)(h:Tq K X w lo bt false f l lv c2 c3 c4 c5 c6) :
  Calls Tryz.prog 27 #[.pointer (some ⟨bt,0,none⟩)] w fun e w'=>e=.returned (.bool true)∧w=w':=by
 have e1:w.cell? ⟨bt,1,none⟩=some (.bool false):=h.box.cell 1
 clear h
 go_enter Tryz.func27,Tryz.ntmps27
 go_wp2_with fail
 go_ret
 exact⟨rfl,rfl⟩
def EndP(X:Nat→Bool)(lo bt:Nat)(f:Int)(l:List Po)(p:Po)(rv:Value)(w:World)(e:Ending)(w':World):Prop :=
 ∃K' lv',e=.returned (.bool (poMay p))∧Tq K' X w' lo bt true f (l++[p]) lv' (.int .u64 (p.id:Int)) (.string (strB p.ns)) (.int .u64 (p.service:Int)) (.int .i64 p.deny) rv∧FrT X lo w w'
set_option maxRecDepth 100000 in
set_option maxHeartbeats 8000000 in
theorem ended_some(K X:Nat→Bool)(w:World)(lo bt:Nat)(f:Int)(l:List Po)(p:Po)(lv rv:Value)(h:Tx K X w lo bt true f l p lv rv)(hlo:lo≤w.heap.size)(hok:okPo p)(hn:l.length≤1000000) :
  Calls Tryz.prog 27 #[.pointer (some ⟨bt,0,none⟩)] w fun e w'=>EndP X lo bt f l p rv w e w':=by
 obtain⟨A,c,hlv,hc1,hc2⟩:=h.q.row.form
 obtain⟨n,hln⟩:∃n,l.length=n:=⟨_,rfl⟩
 rw[hln] at hlv hc1 hn
 subst hlv
 obtain⟨A6,n6,c6',hrv6,_⟩:=h.rules.rvv
 subst hrv6
 have hS:=BxT.of h.q.box
 obtain⟨e0,e1,e2,e3,e4,e5,e6,e7⟩:=id hS
 have hbl:=h.q.box.lt
 have hmy:=fun(u:World)(hu:PoP u u.heap.size [Value.int .u64 (p.id:Int),.string (strB p.ns),.int .u64 (p.service:Int),.int .i64 p.deny,.slice A6 n6 c6'] p)=>may12_any p _ u hu hok
 have HBOX:=Lib.hid h.q.box
 have H:=Lib.hid h;clear h hln
 obtain⟨pid,hpid⟩:∃x,(p.id:Int)=x:=⟨_,rfl⟩
 obtain⟨psv,hpsv⟩:∃x,(p.service:Int)=x:=⟨_,rfl⟩
 obtain⟨pns,hpns⟩:∃x,strB p.ns=x:=⟨_,rfl⟩
 obtain⟨pdn,hpdn⟩:∃x,p.deny=x:=⟨_,rfl⟩
 have hfl:=fun(wx:World)(hx:Below w.heap.size w wx)(ad:Addr) hc ty=>H.out.flush (n:=n) rfl hx (ad:=ad) (c9:=1) hlo hc (by omega) ty
 rw[hpid] at e2
 rw[hpns] at e3
 rw[hpsv] at e4
 rw[hpdn] at e5
 simp only[hpid,hpsv,hpns,hpdn] at hfl hS hmy
 have HFL:=Lib.hid hfl;have HMY:=Lib.hid hmy
 have HP:=Lib.hid (show (p.id:Int)=pid∧(p.service:Int)=psv∧strB p.ns=pns∧p.deny=pdn from ⟨hpid,hpsv,hpns,hpdn⟩)
 clear hfl hmy hpid hpsv hpns hpdn
 go_enter Tryz.func27,Tryz.ntmps27
 go_wp2_with fail
 refine wp_region_order (BxT bt (.slice A n c) true (.int .u64 pid) (.string pns) (.int .u64 psv) (.int .i64 pdn) (.slice A6 n6 c6') f) 13 [(0,0),(1,0),(2,0),(3,0),(4,0),(5,0),(6,0),(7,0),(8,0),(9,1),(10,1),(11,1),(12,0),(13,2)] (by kernel_rfl) (by kernel_rfl) ?_
 simp only[pick,List.filterMap_cons,List.filterMap_nil,List.getElem?_cons_zero,List.getElem?_cons_succ,Option.map_some]
 replace hS:BxT bt (.slice A n c) true (.int .u64 pid) (.string pns) (.int .u64 psv) (.int .i64 pdn) (.slice A6 n6 c6') f w.drew:=hS
 iterate 9 (refine wpF_take (v:=?_) hS rfl ?_ (fun _ _ _ h=>h) ?_;rotate_left;(· intro w' hS';obtain⟨e0,e1,e2,e3,e4,e5,e6,e7⟩:=hS';go_simp<;>rfl);go_simp)
 refine wpF_only rfl (fun K hK=>?_)
 go_wp2_with fail
 have hx:Below w.heap.size w (w.alloc (.cells #[.int .u64 pid,.string pns,.int .u64 psv,.int .i64 pdn,.slice A6 n6 c6'] 39)).drew:=((Below.refl _ w).alloc (Nat.le_refl _) _).drew
 replace hS:=hS.same (u':=(w.alloc (.cells #[.int .u64 pid,.string pns,.int .u64 psv,.int .i64 pdn,.slice A6 n6 c6'] 39)).drew) (Below.heap_alloc w _ bt hbl)
 refine⟨hS,?_⟩
 obtain⟨A',c',w',hrun,hg,hnb,hfin⟩:=HFL.out _ hx ⟨w.heap.size,0,none⟩ (fun j u hu=>new_cells w [.int .u64 pid,.string pns,.int .u64 psv,.int .i64 pdn,.slice A6 n6 c6'] 39 j u hu) 22
 have hbt:w'.heap[bt]?=w.heap[bt]?:=(hg.block bt (by show bt<(w.alloc _).heap.size;simp;omega) (fun e=>hnb bt e.symm rfl)).trans (hx.block bt hbl)
 replace hS:=hS.same (u':=w') (hg.block bt (by show bt<(w.alloc _).heap.size;simp;omega) (fun e=>hnb bt e.symm rfl))
 have hbw:Blk w' bt 63 _:=hbt.trans HBOX.out
 have g0:=hbw.frozen 0
 have HBW:=Lib.hid hbw;have HFIN:=Lib.hid hfin
 clear hbt hbw hfin hx hg hnb
 refine wpF_only rfl (fun K hK=>?_)
 refine wp_append_run rfl rfl rfl hrun ?_
 clear hrun
 go_wp2_with fail
 first|refine⟨fun _=>hS,?_⟩|refine⟨hS,?_⟩|skip
 first|(refine wpF_only rfl (fun K hK=>?_);go_wp2_with fail;first|refine⟨fun _=>hS,?_⟩|refine⟨hS,?_⟩|skip)|skip
 (refine wpF_take (v:=?_) hS rfl ?_ (fun _ _ _ h=>h) ?_;rotate_left;(· intro w' hS';obtain⟨e0,e1,e2,e3,e4,e5,e6,e7⟩:=hS';go_simp<;>rfl);go_simp)
 refine wpF_only rfl (fun K hK=>?_)
 obtain⟨e0,e1,e2,e3,e4,e5,e6,e7⟩:=id hS
 go_wp2_with fail
 first|refine⟨fun h=>absurd h (by decide),wpF_nil ?_⟩|skip
 have kb:=HBW.out.set 0 (.slice A' (n+1) c')
 obtain⟨w2,hw2⟩:∃w2,w'.setCell ⟨bt,0,none⟩ (.slice A' (n+1) c')=w2:=⟨_,rfl⟩
 have ho:Off (fun b=>b=bt) w' w2:=by rw[←hw2];exact (Off.refl (fun b=>b=bt) w').setCell (p:=⟨bt,0,none⟩) (fun _=>rfl) _
 rw[hw2] at kb ⊢
 have kb':Blk w2 bt 63 [.slice A' (n+1) c',.bool true,.int .u64 pid,.string pns,.int .u64 psv,.int .i64 pdn,.slice A6 n6 c6',.int .i64 f]:=by
  rw[←HP.out.1,←HP.out.2.1,←HP.out.2.2.1,←HP.out.2.2.2]
  exact kb
 obtain⟨⟨K',hq⟩,hfr,hpp⟩:=HFIN.out true f (.int .u64 pid) (.string pns) (.int .u64 psv) (.int .i64 pdn) (.slice A6 n6 c6') w2 ho kb'
 obtain⟨e0,e1,e2,e3,e4,e5,e6,e7⟩:=BxT.of kb'
 have hmy:=HMY.out w2 hpp
 have HQ:=Lib.hid hq;have HFR:=Lib.hid hfr
 clear kb kb' hw2 ho hq hfr hpp
 go_wp2_with fail
 refine hmy.mono ?_
 rintro e w3 ⟨rfl,f3⟩
 go_wp2_with fail
 go_ret
 have ho3:On K' X K' X w2 w3:=⟨(Off.of_all f3).mono fun _ _ h=>h.elim,fun _ _=>rfl,fun _ _=>rfl,fun b hb hk=>by have:=(HQ.out.kk b hk).2.1;omega,fun b hb hx=>by have:=HQ.out.xx b hx;omega⟩
 refine⟨K',.slice A' (n+1) c',rfl,?_,HFR.out.trans (FrT.of_below f3)⟩
 rw[HP.out.1,HP.out.2.1,HP.out.2.2.1,HP.out.2.2.2]
 exact HQ.out.on ho3 (Nat.le_trans hlo HFR.out.size)
def isW(ws:List (List UInt8))(word:List UInt8):Bool:=decide (ws.head?=some word)
theorem nsO_cons(s:List UInt8)(r:List (List UInt8)):nsO (s::r)=if s=wNs then (match r with|[]=>none|x::r2=>if x=[] then none else some (x,r2)) else some ([],s::r):=by
 cases r<;>rfl
theorem svcO_cons(s:List UInt8)(r:List (List UInt8)):svcO (s::r)=if s=wService then (match numberO r with|none=>none|some (n,r2)=>if n=0 then none else some (n,r2)) else some (0,s::r):=rfl
theorem isW_true{ws:List (List UInt8)}{word:List UInt8}(h:isW ws word=true):ws=word::ws.tail:=by
 unfold isW at h
 cases ws with
 | nil=>simp at h
 | cons s r =>
  obtain rfl:s=word:=by simpa using h
  rfl
theorem isW_false{ws:List (List UInt8)}{word:List UInt8}(h:isW ws word=false):ws.head?≠some word:=by
 unfold isW at h
 simpa using h
theorem numO_nil:numO []=none:=by
 cases h:numO [] with
 | none=>rfl
 | some n=>exact absurd (numO_inv h).1 (dec_ne n)
theorem pol_rel{ws r2 r3 r4:List (List UInt8)}{v sv:Nat}{dn:Int}{ns:List UInt8}{b2 b3 b4:Bool}(hv:∀m,numO (ws.headD [])=some m→v=m)
  (hd:(isW ws.tail wDeny=true∧dn=1∧r2=ws.tail.tail∧b2=(numO (ws.headD [])).isNone)∨(isW ws.tail wDeny=false∧isW ws.tail wAllow=true∧dn=0∧r2=ws.tail.tail∧b2=(numO (ws.headD [])).isNone)∨(isW ws.tail wDeny=false∧isW ws.tail wAllow=false∧dn=0∧r2=ws.tail∧b2=true))
  (hn:(isW r2 wNs=true∧ns=r2.tail.headD []∧r3=r2.tail.tail∧b3=(b2||(r2.tail.headD []).isEmpty))∨(isW r2 wNs=false∧ns=[]∧r3=r2∧b3=b2))
  (hs:(isW r3 wService=true∧(∀m,numO (r3.tail.headD [])=some m→sv=m)∧r4=r3.tail.tail∧b4=((b3||(numO (r3.tail.headD [])).isNone)||decide (sv=0)))∨(isW r3 wService=false∧sv=0∧r4=r3∧b4=b3)) :
  (b4|| !r4.isEmpty)=(policyO ws).isNone∧∀q,policyO ws=some q→q=⟨v,ns,sv,dn,[]⟩:=by
 have e4:∀b:Bool,(b=b3)→(b4|| !r4.isEmpty)=(b||match svcO r3 with|none=>true|some (_,r)=> !r.isEmpty)∧∀n r,svcO r3=some (n,r)→n=sv∧r=r4:=by
  intro b hb
  subst hb
  rcases hs with ⟨h1,h2,h3,h4⟩|⟨h1,h2,h3,h4⟩
  ·have e:=isW_true h1
   generalize hr:r3.tail=t at *
   rw[e,h3,h4]
   cases t with
   | nil=>simp[svcO_cons,numberO,numO_nil]
   | cons x r =>
    simp only[List.headD_cons,List.tail_cons] at h2 ⊢
    rw[svcO_cons,if_pos rfl,numberO]
    cases hx:numO x with
    | none=>simp
    | some m =>
     have hm:=h2 m hx
     subst hm
     simp only
     by_cases hz:sv=0
     ·rw[if_pos hz]
      simp[hz]
     rw[if_neg hz]
     simp[hz]
  have e:svcO r3=some (0,r3):=by
   cases r3 with
   | nil=>rfl
   | cons s r=>rw[svcO_cons,if_neg (fun he=>isW_false h1 (by rw[he];rfl))]
  rw[e,h3,h4,h2]
  exact⟨rfl,fun n r h=>by injection h with h;injection h with a c;exact⟨a.symm,c.symm⟩⟩
 have e3:∀b:Bool,b=b2→(b4|| !r4.isEmpty)=(b||match nsO r2 with|none=>true|some (_,r)=>(match svcO r with|none=>true|some (_,r)=> !r.isEmpty))∧∀x r,nsO r2=some (x,r)→x=ns∧r=r3:=by
  intro b hb
  subst hb
  have h4:=(e4 b3 rfl).1
  rw[h4]
  rcases hn with ⟨h1,h2,h3,h5⟩|⟨h1,h2,h3,h5⟩
  ·have e:=isW_true h1
   generalize hr:r2.tail=t at *
   rw[e,h2,h3,h5]
   cases t with
   | nil=>simp[nsO_cons]
   | cons x r =>
    simp only[List.headD_cons,List.tail_cons]
    rw[nsO_cons,if_pos rfl]
    simp only
    by_cases hx:x=[]
    ·rw[if_pos hx]
     simp[hx]
    have:x.isEmpty=false:=by simpa using hx
    rw[if_neg hx,this]
    simp only[Bool.or_false,true_and]
    exact fun y r' h=>by injection h with h;injection h with a c;exact⟨a.symm,c.symm⟩
  have e:nsO r2=some ([],r2):=by
   cases r2 with
   | nil=>rfl
   | cons s r=>rw[nsO_cons,if_neg (fun he=>isW_false h1 (by rw[he];rfl))]
  rw[e,h2,h3,h5]
  exact⟨rfl,fun n r h=>by injection h with h;injection h with a c;exact⟨a.symm,c.symm⟩⟩
 have h3:=(e3 b2 rfl).1
 have hN:ws=[]∨∃s r,ws=s::r:=by cases ws with|nil=>exact .inl rfl|cons s r=>exact .inr ⟨s,r,rfl⟩
 have hnum:∀(n:Nat)(r1:List (List UInt8)),numberO ws=some (n,r1)→n=v∧r1=ws.tail∧(numO (ws.headD [])).isNone=false:=by
  intro n r1 h
  cases ws with
  | nil=>cases h
  | cons s r =>
   rw[numberO] at h
   simp only[List.headD_cons] at hv ⊢
   cases hx:numO s with
   | none=>rw[hx] at h;cases h
   | some m =>
    rw[hx] at h
    injection h with h
    injection h with a c
    exact⟨by rw[←a,hv m hx],c.symm,rfl⟩
 have hnone:numberO ws=none→(numO (ws.headD [])).isNone=true:=by
  intro h
  cases ws with
  | nil=>simp[numO_nil]
  | cons s r =>
   rw[numberO] at h
   simp only[List.headD_cons]
   cases hx:numO s with
   | none=>rfl
   | some m=>rw[hx] at h;cases h
 have hden:∀(d:Int)(r:List (List UInt8)),denyO ws.tail=some (d,r)→d=dn∧r=r2∧b2=(numO (ws.headD [])).isNone:=by
  intro d r h
  rcases hd with ⟨h1,rfl,rfl,rfl⟩|⟨h1,h2,rfl,rfl,rfl⟩|⟨h1,h2,rfl,rfl,rfl⟩
  ·rw[isW_true h1,denyO,if_pos rfl] at h
   injection h with h
   injection h with a c
   exact⟨a.symm,c.symm,rfl⟩
  ·have e:=isW_true h2
   rw[e,denyO,if_neg (by decide),if_pos rfl] at h
   injection h with h
   injection h with a c
   exact⟨a.symm,c.symm,rfl⟩
  exfalso
  cases ht:ws.tail with
  | nil=>rw[ht] at h;cases h
  | cons s r' =>
   rw[ht] at h h1 h2
   rw[denyO,if_neg (fun he=>isW_false h1 (by rw[he];rfl)),if_neg (fun he=>isW_false h2 (by rw[he];rfl))] at h
   cases h
 have hdno:denyO ws.tail=none→b2=true:=by
  intro h
  rcases hd with ⟨h1,rfl,rfl,rfl⟩|⟨h1,h2,rfl,rfl,rfl⟩|⟨h1,h2,rfl,rfl,rfl⟩
  ·rw[isW_true h1,denyO,if_pos rfl] at h;cases h
  ·rw[isW_true h2,denyO,if_neg (by decide),if_pos rfl] at h;cases h
  rfl
 have hb2:(numO (ws.headD [])).isNone=true→b2=true:=by
  intro h
  rcases hd with ⟨_,_,_,rfl⟩|⟨_,_,_,_,rfl⟩|⟨_,_,_,_,rfl⟩
  ·exact h
  ·exact h
  rfl
 unfold policyO
 cases hA:numberO ws with
 | none =>
  rw[h3,hb2 (hnone hA)]
  exact⟨by simp,fun q h=>by cases h⟩
 | some q1 =>
  obtain⟨n,r1⟩:=q1
  obtain⟨rfl,rfl,hq⟩:=hnum n r1 hA
  simp only
  cases hB:denyO ws.tail with
  | none =>
   rw[h3,hdno hB]
   exact⟨by simp,fun q h=>by cases h⟩
  | some q2 =>
   obtain⟨d,r⟩:=q2
   obtain⟨rfl,rfl,hq2⟩:=hden d r hB
   rw[hq] at hq2
   subst hq2
   simp only
   rw[h3,Bool.false_or]
   cases hC:nsO r with
   | none=>exact⟨rfl,fun q h=>by cases h⟩
   | some q3 =>
    obtain⟨x,r'⟩:=q3
    obtain⟨rfl,rfl⟩:=(e3 false rfl).2 x r' hC
    simp only
    cases hD:svcO r' with
    | none=>exact⟨rfl,fun q h=>by cases h⟩
    | some q4 =>
     obtain⟨m,r''⟩:=q4
     obtain⟨rfl,rfl⟩:=(e4 b3 rfl).2 m r'' hD
     simp only
     cases r'' with
     | nil =>
      rw[if_pos rfl]
      exact⟨rfl,fun q h=>by injection h with h;exact h.symm⟩
     | cons y z =>
      rw[if_neg (by simp)]
      exact⟨rfl,fun q h=>by cases h⟩
theorem take_any(M B bw:Nat)(bad:Bool)(ws:List (List UInt8))(w:World)(h:Wd w M B bw ws bad) :
  Calls Tryz.prog 95 #[.pointer (some ⟨bw,0,none⟩)] w fun e w'=>e=.returned (.string (strB (ws.headD [])))∧Wd w' M B bw ws.tail (bad||(ws.headD []).isEmpty)∧Off (fun k=>k=bw) w w':=by
 cases ws with
 | nil =>
  refine (take_nil M B bw bad w h).mono ?_
  rintro e w' ⟨rfl,h1,h2⟩
  exact⟨rfl,by simpa using h1,h2⟩
 | cons s r=>exact take_cons M B bw bad s r w h
theorem is_true(M B bw:Nat)(bad:Bool)(ws:List (List UInt8))(word:List UInt8)(w:World)(h:Wd w M B bw ws bad)(hi:isW ws word=true) :
  Calls Tryz.prog 55 #[.pointer (some ⟨bw,0,none⟩),.string (strB word)] w fun e w'=>e=.returned (.bool true)∧Wd w' M B bw ws.tail bad∧Off (fun k=>k=bw) w w':=by
 unfold isW at hi
 cases ws with
 | nil=>simp at hi
 | cons s r =>
  obtain rfl:s=word:=by simpa using hi
  exact is_yes M B bw bad s r w h
theorem is_false(M B bw:Nat)(bad:Bool)(ws:List (List UInt8))(word:List UInt8)(w:World)(h:Wd w M B bw ws bad)(hi:isW ws word=false) :
  Calls Tryz.prog 55 #[.pointer (some ⟨bw,0,none⟩),.string (strB word)] w fun e w'=>e=.returned (.bool false)∧w=w':=by
 unfold isW at hi
 cases ws with
 | nil=>exact is_nil M B bw bad word w h
 | cons s r=>exact is_no M B bw bad word s r w h (by simpa using hi)
structure PlS(bt:Nat)(cs:List Value)(M B bw:Nat)(ws:List (List UInt8))(bad:Bool)(w0 u:World):Prop where
 box:Blk u bt 63 cs
 wd:Wd u M B bw ws bad
 off:Off (fun b=>b=bt∨b=bw) w0 u
section
variable {bt M B bw:Nat} {cs:List Value} {ws ws':List (List UInt8)} {bad bad':Bool} {w0 u u':World}
theorem PlS.word(h:PlS bt cs M B bw ws bad w0 u)(hne:bt≠bw)(hw:Wd u' M B bw ws' bad')(ho:Off (fun k=>k=bw) u u'):PlS bt cs M B bw ws' bad' w0 u' :=
 ⟨h.box.off ho hne,hw,h.off.trans ho fun _ _ h=>.inr h⟩
theorem PlS.set(h:PlS bt cs M B bw ws bad w0 u)(hM:bt<M)(i:Nat)(v:Value):PlS bt (cs.set i v) M B bw ws bad w0 (u.setCell ⟨bt,i,none⟩ v) :=
 have ho:Off (fun k=>k=bt) u (u.setCell ⟨bt,i,none⟩ v):=(Off.refl (fun k=>k=bt) u).setCell (p:=⟨bt,i,none⟩) (fun _=>rfl) v
 ⟨h.box.set i v,h.wd.off ho (fun b hb=>.inl (by rw[show b=bt from hb];exact hM)),h.off.trans ho fun _ _ h=>.inl h⟩
theorem PlS.badw(h:PlS bt cs M B bw ws bad w0 u)(hne:bt≠bw)(x:Bool):PlS bt cs M B bw ws x w0 (u.setCell ⟨bw,1,none⟩ (.bool x)) :=
 ⟨h.box.far (p:=⟨bw,1,none⟩) hne _,Blk.wd1 (w':=u) h.wd,h.off.setCell (p:=⟨bw,1,none⟩) (fun _=>.inr rfl) _⟩
theorem PlS.cells{c0 c1 c2 c3 c4 c5 c6 c7:Value}(h:PlS bt [c0,c1,c2,c3,c4,c5,c6,c7] M B bw ws bad w0 u):u.cell? ⟨bt,0,none⟩=some c0∧u.cell? ⟨bt,1,none⟩=some c1∧u.cell? ⟨bt,2,none⟩=some c2∧u.cell? ⟨bt,3,none⟩=some c3∧u.cell? ⟨bt,4,none⟩=some c4∧u.cell? ⟨bt,5,none⟩=some c5∧u.cell? ⟨bt,6,none⟩=some c6∧u.cell? ⟨bt,7,none⟩=some c7∧u.frozen? ⟨bt,0,none⟩=false∧u.frozen? ⟨bt,1,none⟩=false∧u.frozen? ⟨bt,2,none⟩=false∧u.frozen? ⟨bt,3,none⟩=false∧u.frozen? ⟨bt,4,none⟩=false∧u.frozen? ⟨bt,5,none⟩=false∧u.frozen? ⟨bt,6,none⟩=false∧u.frozen? ⟨bt,7,none⟩=false :=
 ⟨h.box.cell 0,h.box.cell 1,h.box.cell 2,h.box.cell 3,h.box.cell 4,h.box.cell 5,h.box.cell 6,h.box.cell 7,h.box.frozen 0,h.box.frozen 1,h.box.frozen 2,h.box.frozen 3,h.box.frozen 4,h.box.frozen 5,h.box.frozen 6,h.box.frozen 7⟩
theorem PlS.ld(h:PlS bt cs M B bw ws bad w0 u)(hW:LdW w0)(hM:7<M)(hb:M≤bw)(hlo:7<bt)(hs:bt≤w0.heap.size):LdW u :=
 hW.below (B:=7+1) (by omega) (h.off.below (by omega) fun k hk=>by rcases hk with rfl|rfl<;>omega)
end
def PolP(bt:Nat)(lv:Value)(n:Int)(M B bw:Nat)(ws:List (List UInt8))(w:World)(e:Ending)(w':World):Prop :=
 ∃(p:Po)(r:List (List UInt8)) (b:Bool),e=.returned (.tuple #[])∧PlS bt [lv,.bool true,.int .u64 (p.id:Int),.string (strB p.ns),.int .u64 (p.service:Int),.int .i64 p.deny,.slice none 0 0,.int .i64 n] M B bw r b w w'∧p.rules=[]∧(b|| !r.isEmpty)=(policyO ws).isNone∧∀q,policyO ws=some q→q=p
theorem wDeny_s:(⟨#[100,101,110,121]⟩:ByteArray)=strB wDeny:=rfl
theorem wAllow_s:(⟨#[97,108,108,111,119]⟩:ByteArray)=strB wAllow:=rfl
theorem wNs_s:(⟨#[110,115]⟩:ByteArray)=strB wNs:=rfl
theorem wService_s:(⟨#[115,101,114,118,105,99,101]⟩:ByteArray)=strB wService:=rfl
theorem tail_mem{x:List UInt8}{ws:List (List UInt8)}:∀(k:Nat),x∈(Nat.rec ws (fun _ l=>l.tail) k:List (List UInt8))→x∈ws
 | 0,h=>h
 | k+1,h=>tail_mem k (List.mem_of_mem_tail h)
set_option maxRecDepth 100000 in
set_option maxHeartbeats 8000000 in
theorem pol_dns(M B bw bt:Nat)(ws:List (List UInt8))(w:World)(lv:Value)(n:Int)(bg:Bool)(c2 c3 c4 c5 c6 c7:Value)(hp:PlS bt [lv,.bool bg,c2,c3,c4,c5,c6,c7] M B bw ws false w w)(hW:LdW w)(hM:7<M)(hMw:M≤w.heap.size)(hbt:bt<M)(hlo:7<bt)(hl:∀s∈ws,s.length≤1000000)(hd:isW ws.tail wDeny=true)(hn:isW ws.tail.tail wNs=true)(hs:isW (ws.tail.tail.tail.tail) wService=true) :
  Calls Tryz.prog 56 #[.pointer (some ⟨bt,0,none⟩),.int .i64 n,.pointer (some ⟨bw,0,none⟩)] w fun e w'=>PolP bt lv n M B bw ws w e w':=by
 have hbw:=hp.wd.lt
 have hne:bt≠bw:=by omega
 have hbs:bt≤w.heap.size:=by omega
 have hl2:∀s∈(ws.tail.tail.tail.tail).tail,s.length≤1000000:=fun s hs=>hl s (tail_mem 5 hs)
 obtain⟨e0,e1,e2,e3,e4,e5,e6,e7,g0,g1,g2,g3,g4,g5,g6,g7⟩:=hp.cells
 have HP:=Lib.hid hp;clear hp
 have HW:=Lib.hid hW;clear hW
 have Hhd:=Lib.hid hd;clear hd
 have Hhn:=Lib.hid hn;clear hn
 have Hhs:=Lib.hid hs;clear hs
 go_enter Tryz.func56,Tryz.ntmps56
 go_wp2_with fail
 refine absC (PlS bt [lv,.bool true,c2,c3,c4,c5,c6,.int .i64 n] M B bw ws false w) ((HP.out.set hbt 1 (.bool true)).set hbt 7 (.int .i64 n)) ?_
 rintro u0 k0
 clear e0 g0 e1 g1 e2 g2 e3 g3 e4 g4 e5 g5 e6 g6 e7 g7
 refine (number_any M B bw ws false u0 (k0.ld HW.out hM hbw.1 hlo hbs) hM (Nat.le_trans hMw k0.off.size) hl k0.wd).mono ?_
 rintro e w1 ⟨v,rfl,hv64,kw1,o1,hv⟩
 have k1:=k0.word hne kw1 o1
 have HV:=Lib.hid hv;clear hv kw1 o1 k0
 generalize hb1:(false||(numO (ws.headD [])).isNone)=b1 at k1
 have HB1:=Lib.hid hb1;clear hb1
 obtain⟨e0,e1,e2,e3,e4,e5,e6,e7,g0,g1,g2,g3,g4,g5,g6,g7⟩:=k1.cells
 go_wp2_with fail
 refine absC (PlS bt [lv,.bool true,.int .u64 (v:Int),.string ⟨#[]⟩,.int .u64 0,.int .i64 0,.slice none 0 0,.int .i64 n] M B bw ws.tail b1 w) (((((k1.set hbt 2 (.int .u64 (v:Int))).set hbt 3 (.string ⟨#[]⟩)).set hbt 4 (.int .u64 0)).set hbt 5 (.int .i64 0)).set hbt 6 (.slice none 0 0)) ?_
 rintro u2 k2
 clear e0 g0 e1 g1 e2 g2 e3 g3 e4 g4 e5 g5 e6 g6 e7 g7
 clear k1
 rw[wDeny_s]
 refine (is_true M B bw b1 ws.tail wDeny u2 k2.wd Hhd.out).mono ?_
 rintro e w3 ⟨rfl,kw,o⟩
 have k3:=k2.word hne kw o
 clear kw o k2
 obtain⟨e0,e1,e2,e3,e4,e5,e6,e7,g0,g1,g2,g3,g4,g5,g6,g7⟩:=k3.cells
 go_wp2_with fail
 refine absC (PlS bt [lv,.bool true,.int .u64 (v:Int),.string ⟨#[]⟩,.int .u64 0,.int .i64 1,.slice none 0 0,.int .i64 n] M B bw ws.tail.tail b1 w) (k3.set hbt 5 (.int .i64 1)) ?_
 rintro u4 k4
 clear e0 g0 e1 g1 e2 g2 e3 g3 e4 g4 e5 g5 e6 g6 e7 g7
 clear k3
 rw[wNs_s]
 refine (is_true M B bw b1 ws.tail.tail wNs u4 k4.wd Hhn.out).mono ?_
 rintro e w5 ⟨rfl,kw,o⟩
 have k5:=k4.word hne kw o
 clear kw o k4
 obtain⟨e0,e1,e2,e3,e4,e5,e6,e7,g0,g1,g2,g3,g4,g5,g6,g7⟩:=k5.cells
 go_wp2_with fail
 refine absC (PlS bt [lv,.bool true,.int .u64 (v:Int),.string ⟨#[]⟩,.int .u64 0,.int .i64 1,.slice none 0 0,.int .i64 n] M B bw ws.tail.tail.tail b1 w) (k5) ?_
 rintro u6 k6
 clear e0 g0 e1 g1 e2 g2 e3 g3 e4 g4 e5 g5 e6 g6 e7 g7
 clear k5
 refine (take_any M B bw b1 (ws.tail.tail.tail) u6 k6.wd).mono ?_
 rintro e w7 ⟨rfl,kw,o⟩
 have k7:=k6.word hne kw o
 clear kw o k6
 obtain⟨nss,hns⟩:∃nss,strB (ws.tail.tail.tail.headD [])=nss:=⟨_,rfl⟩
 rw[hns]
 generalize hb3:(b1||(ws.tail.tail.tail.headD []).isEmpty)=b3 at k7
 have HB3:=Lib.hid hb3;have HNS:=Lib.hid hns;clear hb3 hns
 obtain⟨e0,e1,e2,e3,e4,e5,e6,e7,g0,g1,g2,g3,g4,g5,g6,g7⟩:=k7.cells
 go_wp2_with fail
 refine absC (PlS bt [lv,.bool true,.int .u64 (v:Int),.string nss,.int .u64 0,.int .i64 1,.slice none 0 0,.int .i64 n] M B bw (ws.tail.tail.tail.tail) b3 w) (k7.set hbt 3 (.string nss)) ?_
 rintro u8 k8
 clear e0 g0 e1 g1 e2 g2 e3 g3 e4 g4 e5 g5 e6 g6 e7 g7
 clear k7
 rw[wService_s]
 refine (is_true M B bw b3 (ws.tail.tail.tail.tail) wService u8 k8.wd Hhs.out).mono ?_
 rintro e w9 ⟨rfl,kw,o⟩
 have k9:=k8.word hne kw o
 clear kw o k8
 obtain⟨e0,e1,e2,e3,e4,e5,e6,e7,g0,g1,g2,g3,g4,g5,g6,g7⟩:=k9.cells
 go_wp2_with fail
 refine absC (PlS bt [lv,.bool true,.int .u64 (v:Int),.string nss,.int .u64 0,.int .i64 1,.slice none 0 0,.int .i64 n] M B bw (ws.tail.tail.tail.tail).tail b3 w) (k9) ?_
 rintro u10 k10
 clear e0 g0 e1 g1 e2 g2 e3 g3 e4 g4 e5 g5 e6 g6 e7 g7
 clear k9
 refine (number_any M B bw ((ws.tail.tail.tail.tail).tail) b3 u10 (k10.ld HW.out hM hbw.1 hlo hbs) hM (Nat.le_trans hMw k10.off.size) hl2 k10.wd).mono ?_
 rintro e w11 ⟨sv,rfl,hs64,kw1,o1,hsv⟩
 have k11:=k10.word hne kw1 o1
 have HSV:=Lib.hid hsv;clear hsv kw1 o1 k10
 generalize hb4:(b3||(numO ((ws.tail.tail.tail.tail).tail.headD [])).isNone)=b4 at k11
 have HB4:=Lib.hid hb4;clear hb4
 obtain⟨e0,e1,e2,e3,e4,e5,e6,e7,g0,g1,g2,g3,g4,g5,g6,g7⟩:=k11.cells
 obtain⟨_,A0,n0,c0,kb0,_⟩:=id k11.wd
 have x1:w11.cell? ⟨bw,1,none⟩=some (.bool b4):=kb0.cell 1
 have x2:w11.frozen? ⟨bw,1,none⟩=false:=kb0.frozen 1
 have hne2:¬bw=bt:=fun h=>hne h.symm
 have hne3:¬bt=bw:=hne
 clear kb0
 have HF:∀x:Bool,x=(b4||decide (sv=0))→Hid (PolP bt lv n M B bw ws w (.returned (.tuple #[])) ((w11.setCell ⟨bt,4,none⟩ (.int .u64 (sv:Int))).setCell ⟨bw,1,none⟩ (.bool x))):=fun x hx=>Lib.hid ⟨⟨v,(ws.tail.tail.tail.headD []),sv,1,[]⟩,(ws.tail.tail.tail.tail).tail.tail,x,rfl,by show PlS bt [lv,.bool true,.int .u64 (v:Int),.string (strB (ws.tail.tail.tail.headD [])),.int .u64 (sv:Int),.int .i64 1,.slice none 0 0,.int .i64 n] M B bw _ x w _;rw[HNS.out];exact (k11.set hbt 4 (.int .u64 (sv:Int))).badw hne x,rfl,(pol_rel (b4:=x) HV.out (.inl ⟨Hhd.out,rfl,rfl,HB1.out.symm.trans (Bool.false_or _)⟩) (.inl ⟨Hhn.out,rfl,rfl,HB3.out.symm⟩) (.inl ⟨Hhs.out,HSV.out,rfl,hx.trans (by rw[←HB4.out])⟩)).1,(pol_rel (b4:=x) HV.out (.inl ⟨Hhd.out,rfl,rfl,HB1.out.symm.trans (Bool.false_or _)⟩) (.inl ⟨Hhn.out,rfl,rfl,HB3.out.symm⟩) (.inl ⟨Hhs.out,HSV.out,rfl,hx.trans (by rw[←HB4.out])⟩)).2⟩
 have hz:((sv:Int)==0)=decide (sv=0):=by rw[Bool.eq_iff_iff];simp
 generalize decide (sv=0)=zb at *
 clear k11
 rcases b4 with _|_
 ·go_wp2_with fail
  go_end0
  exact (HF zb (by simp)).out
 go_wp2_with fail
 go_end0
 exact (HF true (by simp)).out
set_option maxRecDepth 100000 in
set_option maxHeartbeats 8000000 in
theorem pol_dnt(M B bw bt:Nat)(ws:List (List UInt8))(w:World)(lv:Value)(n:Int)(bg:Bool)(c2 c3 c4 c5 c6 c7:Value)(hp:PlS bt [lv,.bool bg,c2,c3,c4,c5,c6,c7] M B bw ws false w w)(hW:LdW w)(hM:7<M)(hMw:M≤w.heap.size)(hbt:bt<M)(hlo:7<bt)(hl:∀s∈ws,s.length≤1000000)(hd:isW ws.tail wDeny=true)(hn:isW ws.tail.tail wNs=true)(hs:isW (ws.tail.tail.tail.tail) wService=false) :
  Calls Tryz.prog 56 #[.pointer (some ⟨bt,0,none⟩),.int .i64 n,.pointer (some ⟨bw,0,none⟩)] w fun e w'=>PolP bt lv n M B bw ws w e w':=by
 have hbw:=hp.wd.lt
 have hne:bt≠bw:=by omega
 have hbs:bt≤w.heap.size:=by omega
 have hl2:∀s∈(ws.tail.tail.tail.tail).tail,s.length≤1000000:=fun s hs=>hl s (tail_mem 5 hs)
 obtain⟨e0,e1,e2,e3,e4,e5,e6,e7,g0,g1,g2,g3,g4,g5,g6,g7⟩:=hp.cells
 have HP:=Lib.hid hp;clear hp
 have HW:=Lib.hid hW;clear hW
 have Hhd:=Lib.hid hd;clear hd
 have Hhn:=Lib.hid hn;clear hn
 have Hhs:=Lib.hid hs;clear hs
 go_enter Tryz.func56,Tryz.ntmps56
 go_wp2_with fail
 refine absC (PlS bt [lv,.bool true,c2,c3,c4,c5,c6,.int .i64 n] M B bw ws false w) ((HP.out.set hbt 1 (.bool true)).set hbt 7 (.int .i64 n)) ?_
 rintro u0 k0
 clear e0 g0 e1 g1 e2 g2 e3 g3 e4 g4 e5 g5 e6 g6 e7 g7
 refine (number_any M B bw ws false u0 (k0.ld HW.out hM hbw.1 hlo hbs) hM (Nat.le_trans hMw k0.off.size) hl k0.wd).mono ?_
 rintro e w1 ⟨v,rfl,hv64,kw1,o1,hv⟩
 have k1:=k0.word hne kw1 o1
 have HV:=Lib.hid hv;clear hv kw1 o1 k0
 generalize hb1:(false||(numO (ws.headD [])).isNone)=b1 at k1
 have HB1:=Lib.hid hb1;clear hb1
 obtain⟨e0,e1,e2,e3,e4,e5,e6,e7,g0,g1,g2,g3,g4,g5,g6,g7⟩:=k1.cells
 go_wp2_with fail
 refine absC (PlS bt [lv,.bool true,.int .u64 (v:Int),.string ⟨#[]⟩,.int .u64 0,.int .i64 0,.slice none 0 0,.int .i64 n] M B bw ws.tail b1 w) (((((k1.set hbt 2 (.int .u64 (v:Int))).set hbt 3 (.string ⟨#[]⟩)).set hbt 4 (.int .u64 0)).set hbt 5 (.int .i64 0)).set hbt 6 (.slice none 0 0)) ?_
 rintro u2 k2
 clear e0 g0 e1 g1 e2 g2 e3 g3 e4 g4 e5 g5 e6 g6 e7 g7
 clear k1
 rw[wDeny_s]
 refine (is_true M B bw b1 ws.tail wDeny u2 k2.wd Hhd.out).mono ?_
 rintro e w3 ⟨rfl,kw,o⟩
 have k3:=k2.word hne kw o
 clear kw o k2
 obtain⟨e0,e1,e2,e3,e4,e5,e6,e7,g0,g1,g2,g3,g4,g5,g6,g7⟩:=k3.cells
 go_wp2_with fail
 refine absC (PlS bt [lv,.bool true,.int .u64 (v:Int),.string ⟨#[]⟩,.int .u64 0,.int .i64 1,.slice none 0 0,.int .i64 n] M B bw ws.tail.tail b1 w) (k3.set hbt 5 (.int .i64 1)) ?_
 rintro u4 k4
 clear e0 g0 e1 g1 e2 g2 e3 g3 e4 g4 e5 g5 e6 g6 e7 g7
 clear k3
 rw[wNs_s]
 refine (is_true M B bw b1 ws.tail.tail wNs u4 k4.wd Hhn.out).mono ?_
 rintro e w5 ⟨rfl,kw,o⟩
 have k5:=k4.word hne kw o
 clear kw o k4
 obtain⟨e0,e1,e2,e3,e4,e5,e6,e7,g0,g1,g2,g3,g4,g5,g6,g7⟩:=k5.cells
 go_wp2_with fail
 refine absC (PlS bt [lv,.bool true,.int .u64 (v:Int),.string ⟨#[]⟩,.int .u64 0,.int .i64 1,.slice none 0 0,.int .i64 n] M B bw ws.tail.tail.tail b1 w) (k5) ?_
 rintro u6 k6
 clear e0 g0 e1 g1 e2 g2 e3 g3 e4 g4 e5 g5 e6 g6 e7 g7
 clear k5
 refine (take_any M B bw b1 (ws.tail.tail.tail) u6 k6.wd).mono ?_
 rintro e w7 ⟨rfl,kw,o⟩
 have k7:=k6.word hne kw o
 clear kw o k6
 obtain⟨nss,hns⟩:∃nss,strB (ws.tail.tail.tail.headD [])=nss:=⟨_,rfl⟩
 rw[hns]
 generalize hb3:(b1||(ws.tail.tail.tail.headD []).isEmpty)=b3 at k7
 have HB3:=Lib.hid hb3;have HNS:=Lib.hid hns;clear hb3 hns
 obtain⟨e0,e1,e2,e3,e4,e5,e6,e7,g0,g1,g2,g3,g4,g5,g6,g7⟩:=k7.cells
 go_wp2_with fail
 refine absC (PlS bt [lv,.bool true,.int .u64 (v:Int),.string nss,.int .u64 0,.int .i64 1,.slice none 0 0,.int .i64 n] M B bw (ws.tail.tail.tail.tail) b3 w) (k7.set hbt 3 (.string nss)) ?_
 rintro u8 k8
 clear e0 g0 e1 g1 e2 g2 e3 g3 e4 g4 e5 g5 e6 g6 e7 g7
 clear k7
 rw[wService_s]
 refine (is_false M B bw b3 (ws.tail.tail.tail.tail) wService u8 k8.wd Hhs.out).mono ?_
 rintro e w9 ⟨rfl,rfl⟩
 obtain⟨e0,e1,e2,e3,e4,e5,e6,e7,g0,g1,g2,g3,g4,g5,g6,g7⟩:=k8.cells
 have HF:Hid (PolP bt lv n M B bw ws w (.returned (.tuple #[])) u8):=Lib.hid ⟨⟨v,(ws.tail.tail.tail.headD []),0,1,[]⟩,(ws.tail.tail.tail.tail),b3,rfl,by show PlS bt [lv,.bool true,.int .u64 (v:Int),.string (strB (ws.tail.tail.tail.headD [])),.int .u64 0,.int .i64 1,.slice none 0 0,.int .i64 n] M B bw _ _ w _;rw[HNS.out];exact k8,rfl,(pol_rel HV.out (.inl ⟨Hhd.out,rfl,rfl,HB1.out.symm.trans (Bool.false_or _)⟩) (.inl ⟨Hhn.out,rfl,rfl,HB3.out.symm⟩) (.inr ⟨Hhs.out,rfl,rfl,rfl⟩)).1,(pol_rel HV.out (.inl ⟨Hhd.out,rfl,rfl,HB1.out.symm.trans (Bool.false_or _)⟩) (.inl ⟨Hhn.out,rfl,rfl,HB3.out.symm⟩) (.inr ⟨Hhs.out,rfl,rfl,rfl⟩)).2⟩
 clear k8
 go_wp2_with fail
 go_end0
 exact HF.out
set_option maxRecDepth 100000 in
set_option maxHeartbeats 8000000 in
theorem pol_dos(M B bw bt:Nat)(ws:List (List UInt8))(w:World)(lv:Value)(n:Int)(bg:Bool)(c2 c3 c4 c5 c6 c7:Value)(hp:PlS bt [lv,.bool bg,c2,c3,c4,c5,c6,c7] M B bw ws false w w)(hW:LdW w)(hM:7<M)(hMw:M≤w.heap.size)(hbt:bt<M)(hlo:7<bt)(hl:∀s∈ws,s.length≤1000000)(hd:isW ws.tail wDeny=true)(hn:isW ws.tail.tail wNs=false)(hs:isW ws.tail.tail wService=true) :
  Calls Tryz.prog 56 #[.pointer (some ⟨bt,0,none⟩),.int .i64 n,.pointer (some ⟨bw,0,none⟩)] w fun e w'=>PolP bt lv n M B bw ws w e w':=by
 have hbw:=hp.wd.lt
 have hne:bt≠bw:=by omega
 have hbs:bt≤w.heap.size:=by omega
 have hl2:∀s∈ws.tail.tail.tail,s.length≤1000000:=fun s hs=>hl s (tail_mem 3 hs)
 obtain⟨e0,e1,e2,e3,e4,e5,e6,e7,g0,g1,g2,g3,g4,g5,g6,g7⟩:=hp.cells
 have HP:=Lib.hid hp;clear hp
 have HW:=Lib.hid hW;clear hW
 have Hhd:=Lib.hid hd;clear hd
 have Hhn:=Lib.hid hn;clear hn
 have Hhs:=Lib.hid hs;clear hs
 go_enter Tryz.func56,Tryz.ntmps56
 go_wp2_with fail
 refine absC (PlS bt [lv,.bool true,c2,c3,c4,c5,c6,.int .i64 n] M B bw ws false w) ((HP.out.set hbt 1 (.bool true)).set hbt 7 (.int .i64 n)) ?_
 rintro u0 k0
 clear e0 g0 e1 g1 e2 g2 e3 g3 e4 g4 e5 g5 e6 g6 e7 g7
 refine (number_any M B bw ws false u0 (k0.ld HW.out hM hbw.1 hlo hbs) hM (Nat.le_trans hMw k0.off.size) hl k0.wd).mono ?_
 rintro e w1 ⟨v,rfl,hv64,kw1,o1,hv⟩
 have k1:=k0.word hne kw1 o1
 have HV:=Lib.hid hv;clear hv kw1 o1 k0
 generalize hb1:(false||(numO (ws.headD [])).isNone)=b1 at k1
 have HB1:=Lib.hid hb1;clear hb1
 obtain⟨e0,e1,e2,e3,e4,e5,e6,e7,g0,g1,g2,g3,g4,g5,g6,g7⟩:=k1.cells
 go_wp2_with fail
 refine absC (PlS bt [lv,.bool true,.int .u64 (v:Int),.string ⟨#[]⟩,.int .u64 0,.int .i64 0,.slice none 0 0,.int .i64 n] M B bw ws.tail b1 w) (((((k1.set hbt 2 (.int .u64 (v:Int))).set hbt 3 (.string ⟨#[]⟩)).set hbt 4 (.int .u64 0)).set hbt 5 (.int .i64 0)).set hbt 6 (.slice none 0 0)) ?_
 rintro u2 k2
 clear e0 g0 e1 g1 e2 g2 e3 g3 e4 g4 e5 g5 e6 g6 e7 g7
 clear k1
 rw[wDeny_s]
 refine (is_true M B bw b1 ws.tail wDeny u2 k2.wd Hhd.out).mono ?_
 rintro e w3 ⟨rfl,kw,o⟩
 have k3:=k2.word hne kw o
 clear kw o k2
 obtain⟨e0,e1,e2,e3,e4,e5,e6,e7,g0,g1,g2,g3,g4,g5,g6,g7⟩:=k3.cells
 go_wp2_with fail
 refine absC (PlS bt [lv,.bool true,.int .u64 (v:Int),.string ⟨#[]⟩,.int .u64 0,.int .i64 1,.slice none 0 0,.int .i64 n] M B bw ws.tail.tail b1 w) (k3.set hbt 5 (.int .i64 1)) ?_
 rintro u4 k4
 clear e0 g0 e1 g1 e2 g2 e3 g3 e4 g4 e5 g5 e6 g6 e7 g7
 clear k3
 rw[wNs_s]
 refine (is_false M B bw b1 ws.tail.tail wNs u4 k4.wd Hhn.out).mono ?_
 rintro e w9 ⟨rfl,rfl⟩
 obtain⟨e0,e1,e2,e3,e4,e5,e6,e7,g0,g1,g2,g3,g4,g5,g6,g7⟩:=k4.cells
 go_wp2_with fail
 refine absC (PlS bt [lv,.bool true,.int .u64 (v:Int),.string ⟨#[]⟩,.int .u64 0,.int .i64 1,.slice none 0 0,.int .i64 n] M B bw ws.tail.tail b1 w) (k4) ?_
 rintro u8 k8
 clear e0 g0 e1 g1 e2 g2 e3 g3 e4 g4 e5 g5 e6 g6 e7 g7
 clear k4
 rw[wService_s]
 refine (is_true M B bw b1 ws.tail.tail wService u8 k8.wd Hhs.out).mono ?_
 rintro e w9 ⟨rfl,kw,o⟩
 have k9:=k8.word hne kw o
 clear kw o k8
 obtain⟨e0,e1,e2,e3,e4,e5,e6,e7,g0,g1,g2,g3,g4,g5,g6,g7⟩:=k9.cells
 go_wp2_with fail
 refine absC (PlS bt [lv,.bool true,.int .u64 (v:Int),.string ⟨#[]⟩,.int .u64 0,.int .i64 1,.slice none 0 0,.int .i64 n] M B bw ws.tail.tail.tail b1 w) (k9) ?_
 rintro u10 k10
 clear e0 g0 e1 g1 e2 g2 e3 g3 e4 g4 e5 g5 e6 g6 e7 g7
 clear k9
 refine (number_any M B bw (ws.tail.tail.tail) b1 u10 (k10.ld HW.out hM hbw.1 hlo hbs) hM (Nat.le_trans hMw k10.off.size) hl2 k10.wd).mono ?_
 rintro e w11 ⟨sv,rfl,hs64,kw1,o1,hsv⟩
 have k11:=k10.word hne kw1 o1
 have HSV:=Lib.hid hsv;clear hsv kw1 o1 k10
 generalize hb4:(b1||(numO (ws.tail.tail.tail.headD [])).isNone)=b4 at k11
 have HB4:=Lib.hid hb4;clear hb4
 obtain⟨e0,e1,e2,e3,e4,e5,e6,e7,g0,g1,g2,g3,g4,g5,g6,g7⟩:=k11.cells
 obtain⟨_,A0,n0,c0,kb0,_⟩:=id k11.wd
 have x1:w11.cell? ⟨bw,1,none⟩=some (.bool b4):=kb0.cell 1
 have x2:w11.frozen? ⟨bw,1,none⟩=false:=kb0.frozen 1
 have hne2:¬bw=bt:=fun h=>hne h.symm
 have hne3:¬bt=bw:=hne
 clear kb0
 have HF:∀x:Bool,x=(b4||decide (sv=0))→Hid (PolP bt lv n M B bw ws w (.returned (.tuple #[])) ((w11.setCell ⟨bt,4,none⟩ (.int .u64 (sv:Int))).setCell ⟨bw,1,none⟩ (.bool x))):=fun x hx=>Lib.hid ⟨⟨v,[],sv,1,[]⟩,ws.tail.tail.tail.tail,x,rfl,(k11.set hbt 4 (.int .u64 (sv:Int))).badw hne x,rfl,(pol_rel (b4:=x) HV.out (.inl ⟨Hhd.out,rfl,rfl,HB1.out.symm.trans (Bool.false_or _)⟩) (.inr ⟨Hhn.out,rfl,rfl,rfl⟩) (.inl ⟨Hhs.out,HSV.out,rfl,hx.trans (by rw[←HB4.out])⟩)).1,(pol_rel (b4:=x) HV.out (.inl ⟨Hhd.out,rfl,rfl,HB1.out.symm.trans (Bool.false_or _)⟩) (.inr ⟨Hhn.out,rfl,rfl,rfl⟩) (.inl ⟨Hhs.out,HSV.out,rfl,hx.trans (by rw[←HB4.out])⟩)).2⟩
 have hz:((sv:Int)==0)=decide (sv=0):=by rw[Bool.eq_iff_iff];simp
 generalize decide (sv=0)=zb at *
 clear k11
 rcases b4 with _|_
 ·go_wp2_with fail
  go_end0
  exact (HF zb (by simp)).out
 go_wp2_with fail
 go_end0
 exact (HF true (by simp)).out
set_option maxRecDepth 100000 in
set_option maxHeartbeats 8000000 in
theorem pol_dot(M B bw bt:Nat)(ws:List (List UInt8))(w:World)(lv:Value)(n:Int)(bg:Bool)(c2 c3 c4 c5 c6 c7:Value)(hp:PlS bt [lv,.bool bg,c2,c3,c4,c5,c6,c7] M B bw ws false w w)(hW:LdW w)(hM:7<M)(hMw:M≤w.heap.size)(hbt:bt<M)(hlo:7<bt)(hl:∀s∈ws,s.length≤1000000)(hd:isW ws.tail wDeny=true)(hn:isW ws.tail.tail wNs=false)(hs:isW ws.tail.tail wService=false) :
  Calls Tryz.prog 56 #[.pointer (some ⟨bt,0,none⟩),.int .i64 n,.pointer (some ⟨bw,0,none⟩)] w fun e w'=>PolP bt lv n M B bw ws w e w':=by
 have hbw:=hp.wd.lt
 have hne:bt≠bw:=by omega
 have hbs:bt≤w.heap.size:=by omega
 have hl2:∀s∈ws.tail.tail.tail,s.length≤1000000:=fun s hs=>hl s (tail_mem 3 hs)
 obtain⟨e0,e1,e2,e3,e4,e5,e6,e7,g0,g1,g2,g3,g4,g5,g6,g7⟩:=hp.cells
 have HP:=Lib.hid hp;clear hp
 have HW:=Lib.hid hW;clear hW
 have Hhd:=Lib.hid hd;clear hd
 have Hhn:=Lib.hid hn;clear hn
 have Hhs:=Lib.hid hs;clear hs
 go_enter Tryz.func56,Tryz.ntmps56
 go_wp2_with fail
 refine absC (PlS bt [lv,.bool true,c2,c3,c4,c5,c6,.int .i64 n] M B bw ws false w) ((HP.out.set hbt 1 (.bool true)).set hbt 7 (.int .i64 n)) ?_
 rintro u0 k0
 clear e0 g0 e1 g1 e2 g2 e3 g3 e4 g4 e5 g5 e6 g6 e7 g7
 refine (number_any M B bw ws false u0 (k0.ld HW.out hM hbw.1 hlo hbs) hM (Nat.le_trans hMw k0.off.size) hl k0.wd).mono ?_
 rintro e w1 ⟨v,rfl,hv64,kw1,o1,hv⟩
 have k1:=k0.word hne kw1 o1
 have HV:=Lib.hid hv;clear hv kw1 o1 k0
 generalize hb1:(false||(numO (ws.headD [])).isNone)=b1 at k1
 have HB1:=Lib.hid hb1;clear hb1
 obtain⟨e0,e1,e2,e3,e4,e5,e6,e7,g0,g1,g2,g3,g4,g5,g6,g7⟩:=k1.cells
 go_wp2_with fail
 refine absC (PlS bt [lv,.bool true,.int .u64 (v:Int),.string ⟨#[]⟩,.int .u64 0,.int .i64 0,.slice none 0 0,.int .i64 n] M B bw ws.tail b1 w) (((((k1.set hbt 2 (.int .u64 (v:Int))).set hbt 3 (.string ⟨#[]⟩)).set hbt 4 (.int .u64 0)).set hbt 5 (.int .i64 0)).set hbt 6 (.slice none 0 0)) ?_
 rintro u2 k2
 clear e0 g0 e1 g1 e2 g2 e3 g3 e4 g4 e5 g5 e6 g6 e7 g7
 clear k1
 rw[wDeny_s]
 refine (is_true M B bw b1 ws.tail wDeny u2 k2.wd Hhd.out).mono ?_
 rintro e w3 ⟨rfl,kw,o⟩
 have k3:=k2.word hne kw o
 clear kw o k2
 obtain⟨e0,e1,e2,e3,e4,e5,e6,e7,g0,g1,g2,g3,g4,g5,g6,g7⟩:=k3.cells
 go_wp2_with fail
 refine absC (PlS bt [lv,.bool true,.int .u64 (v:Int),.string ⟨#[]⟩,.int .u64 0,.int .i64 1,.slice none 0 0,.int .i64 n] M B bw ws.tail.tail b1 w) (k3.set hbt 5 (.int .i64 1)) ?_
 rintro u4 k4
 clear e0 g0 e1 g1 e2 g2 e3 g3 e4 g4 e5 g5 e6 g6 e7 g7
 clear k3
 rw[wNs_s]
 refine (is_false M B bw b1 ws.tail.tail wNs u4 k4.wd Hhn.out).mono ?_
 rintro e w9 ⟨rfl,rfl⟩
 obtain⟨e0,e1,e2,e3,e4,e5,e6,e7,g0,g1,g2,g3,g4,g5,g6,g7⟩:=k4.cells
 go_wp2_with fail
 refine absC (PlS bt [lv,.bool true,.int .u64 (v:Int),.string ⟨#[]⟩,.int .u64 0,.int .i64 1,.slice none 0 0,.int .i64 n] M B bw ws.tail.tail b1 w) (k4) ?_
 rintro u8 k8
 clear e0 g0 e1 g1 e2 g2 e3 g3 e4 g4 e5 g5 e6 g6 e7 g7
 clear k4
 rw[wService_s]
 refine (is_false M B bw b1 ws.tail.tail wService u8 k8.wd Hhs.out).mono ?_
 rintro e w9 ⟨rfl,rfl⟩
 obtain⟨e0,e1,e2,e3,e4,e5,e6,e7,g0,g1,g2,g3,g4,g5,g6,g7⟩:=k8.cells
 have HF:Hid (PolP bt lv n M B bw ws w (.returned (.tuple #[])) u8):=Lib.hid ⟨⟨v,[],0,1,[]⟩,ws.tail.tail,b1,rfl,k8,rfl,(pol_rel HV.out (.inl ⟨Hhd.out,rfl,rfl,HB1.out.symm.trans (Bool.false_or _)⟩) (.inr ⟨Hhn.out,rfl,rfl,rfl⟩) (.inr ⟨Hhs.out,rfl,rfl,rfl⟩)).1,(pol_rel HV.out (.inl ⟨Hhd.out,rfl,rfl,HB1.out.symm.trans (Bool.false_or _)⟩) (.inr ⟨Hhn.out,rfl,rfl,rfl⟩) (.inr ⟨Hhs.out,rfl,rfl,rfl⟩)).2⟩
 clear k8
 go_wp2_with fail
 go_end0
 exact HF.out
set_option maxRecDepth 100000 in
set_option maxHeartbeats 8000000 in
theorem pol_ans(M B bw bt:Nat)(ws:List (List UInt8))(w:World)(lv:Value)(n:Int)(bg:Bool)(c2 c3 c4 c5 c6 c7:Value)(hp:PlS bt [lv,.bool bg,c2,c3,c4,c5,c6,c7] M B bw ws false w w)(hW:LdW w)(hM:7<M)(hMw:M≤w.heap.size)(hbt:bt<M)(hlo:7<bt)(hl:∀s∈ws,s.length≤1000000)(hd:isW ws.tail wDeny=false)(ha:isW ws.tail wAllow=true)(hn:isW ws.tail.tail wNs=true)(hs:isW (ws.tail.tail.tail.tail) wService=true) :
  Calls Tryz.prog 56 #[.pointer (some ⟨bt,0,none⟩),.int .i64 n,.pointer (some ⟨bw,0,none⟩)] w fun e w'=>PolP bt lv n M B bw ws w e w':=by
 have hbw:=hp.wd.lt
 have hne:bt≠bw:=by omega
 have hbs:bt≤w.heap.size:=by omega
 have hl2:∀s∈(ws.tail.tail.tail.tail).tail,s.length≤1000000:=fun s hs=>hl s (tail_mem 5 hs)
 obtain⟨e0,e1,e2,e3,e4,e5,e6,e7,g0,g1,g2,g3,g4,g5,g6,g7⟩:=hp.cells
 have HP:=Lib.hid hp;clear hp
 have HW:=Lib.hid hW;clear hW
 have Hhd:=Lib.hid hd;clear hd
 have Hha:=Lib.hid ha;clear ha
 have Hhn:=Lib.hid hn;clear hn
 have Hhs:=Lib.hid hs;clear hs
 go_enter Tryz.func56,Tryz.ntmps56
 go_wp2_with fail
 refine absC (PlS bt [lv,.bool true,c2,c3,c4,c5,c6,.int .i64 n] M B bw ws false w) ((HP.out.set hbt 1 (.bool true)).set hbt 7 (.int .i64 n)) ?_
 rintro u0 k0
 clear e0 g0 e1 g1 e2 g2 e3 g3 e4 g4 e5 g5 e6 g6 e7 g7
 refine (number_any M B bw ws false u0 (k0.ld HW.out hM hbw.1 hlo hbs) hM (Nat.le_trans hMw k0.off.size) hl k0.wd).mono ?_
 rintro e w1 ⟨v,rfl,hv64,kw1,o1,hv⟩
 have k1:=k0.word hne kw1 o1
 have HV:=Lib.hid hv;clear hv kw1 o1 k0
 generalize hb1:(false||(numO (ws.headD [])).isNone)=b1 at k1
 have HB1:=Lib.hid hb1;clear hb1
 obtain⟨e0,e1,e2,e3,e4,e5,e6,e7,g0,g1,g2,g3,g4,g5,g6,g7⟩:=k1.cells
 go_wp2_with fail
 refine absC (PlS bt [lv,.bool true,.int .u64 (v:Int),.string ⟨#[]⟩,.int .u64 0,.int .i64 0,.slice none 0 0,.int .i64 n] M B bw ws.tail b1 w) (((((k1.set hbt 2 (.int .u64 (v:Int))).set hbt 3 (.string ⟨#[]⟩)).set hbt 4 (.int .u64 0)).set hbt 5 (.int .i64 0)).set hbt 6 (.slice none 0 0)) ?_
 rintro u2 k2
 clear e0 g0 e1 g1 e2 g2 e3 g3 e4 g4 e5 g5 e6 g6 e7 g7
 clear k1
 rw[wDeny_s]
 refine (is_false M B bw b1 ws.tail wDeny u2 k2.wd Hhd.out).mono ?_
 rintro e w9 ⟨rfl,rfl⟩
 obtain⟨e0,e1,e2,e3,e4,e5,e6,e7,g0,g1,g2,g3,g4,g5,g6,g7⟩:=k2.cells
 go_wp2_with fail
 rw[wAllow_s]
 clear e0 g0
 clear e1 g1
 clear e2 g2
 clear e3 g3
 clear e4 g4
 clear e5 g5
 clear e6 g6
 clear e7 g7
 refine (is_true M B bw b1 ws.tail wAllow u2 k2.wd Hha.out).mono ?_
 rintro e w3 ⟨rfl,kw,o⟩
 have k3:=k2.word hne kw o
 clear kw o k2
 obtain⟨e0,e1,e2,e3,e4,e5,e6,e7,g0,g1,g2,g3,g4,g5,g6,g7⟩:=k3.cells
 go_wp2_with fail
 refine absC (PlS bt [lv,.bool true,.int .u64 (v:Int),.string ⟨#[]⟩,.int .u64 0,.int .i64 0,.slice none 0 0,.int .i64 n] M B bw ws.tail.tail b1 w) (k3) ?_
 rintro u4 k4
 clear e0 g0 e1 g1 e2 g2 e3 g3 e4 g4 e5 g5 e6 g6 e7 g7
 clear k3
 rw[wNs_s]
 refine (is_true M B bw b1 ws.tail.tail wNs u4 k4.wd Hhn.out).mono ?_
 rintro e w5 ⟨rfl,kw,o⟩
 have k5:=k4.word hne kw o
 clear kw o k4
 obtain⟨e0,e1,e2,e3,e4,e5,e6,e7,g0,g1,g2,g3,g4,g5,g6,g7⟩:=k5.cells
 go_wp2_with fail
 refine absC (PlS bt [lv,.bool true,.int .u64 (v:Int),.string ⟨#[]⟩,.int .u64 0,.int .i64 0,.slice none 0 0,.int .i64 n] M B bw ws.tail.tail.tail b1 w) (k5) ?_
 rintro u6 k6
 clear e0 g0 e1 g1 e2 g2 e3 g3 e4 g4 e5 g5 e6 g6 e7 g7
 clear k5
 refine (take_any M B bw b1 (ws.tail.tail.tail) u6 k6.wd).mono ?_
 rintro e w7 ⟨rfl,kw,o⟩
 have k7:=k6.word hne kw o
 clear kw o k6
 obtain⟨nss,hns⟩:∃nss,strB (ws.tail.tail.tail.headD [])=nss:=⟨_,rfl⟩
 rw[hns]
 generalize hb3:(b1||(ws.tail.tail.tail.headD []).isEmpty)=b3 at k7
 have HB3:=Lib.hid hb3;have HNS:=Lib.hid hns;clear hb3 hns
 obtain⟨e0,e1,e2,e3,e4,e5,e6,e7,g0,g1,g2,g3,g4,g5,g6,g7⟩:=k7.cells
 go_wp2_with fail
 refine absC (PlS bt [lv,.bool true,.int .u64 (v:Int),.string nss,.int .u64 0,.int .i64 0,.slice none 0 0,.int .i64 n] M B bw (ws.tail.tail.tail.tail) b3 w) (k7.set hbt 3 (.string nss)) ?_
 rintro u8 k8
 clear e0 g0 e1 g1 e2 g2 e3 g3 e4 g4 e5 g5 e6 g6 e7 g7
 clear k7
 rw[wService_s]
 refine (is_true M B bw b3 (ws.tail.tail.tail.tail) wService u8 k8.wd Hhs.out).mono ?_
 rintro e w9 ⟨rfl,kw,o⟩
 have k9:=k8.word hne kw o
 clear kw o k8
 obtain⟨e0,e1,e2,e3,e4,e5,e6,e7,g0,g1,g2,g3,g4,g5,g6,g7⟩:=k9.cells
 go_wp2_with fail
 refine absC (PlS bt [lv,.bool true,.int .u64 (v:Int),.string nss,.int .u64 0,.int .i64 0,.slice none 0 0,.int .i64 n] M B bw (ws.tail.tail.tail.tail).tail b3 w) (k9) ?_
 rintro u10 k10
 clear e0 g0 e1 g1 e2 g2 e3 g3 e4 g4 e5 g5 e6 g6 e7 g7
 clear k9
 refine (number_any M B bw ((ws.tail.tail.tail.tail).tail) b3 u10 (k10.ld HW.out hM hbw.1 hlo hbs) hM (Nat.le_trans hMw k10.off.size) hl2 k10.wd).mono ?_
 rintro e w11 ⟨sv,rfl,hs64,kw1,o1,hsv⟩
 have k11:=k10.word hne kw1 o1
 have HSV:=Lib.hid hsv;clear hsv kw1 o1 k10
 generalize hb4:(b3||(numO ((ws.tail.tail.tail.tail).tail.headD [])).isNone)=b4 at k11
 have HB4:=Lib.hid hb4;clear hb4
 obtain⟨e0,e1,e2,e3,e4,e5,e6,e7,g0,g1,g2,g3,g4,g5,g6,g7⟩:=k11.cells
 obtain⟨_,A0,n0,c0,kb0,_⟩:=id k11.wd
 have x1:w11.cell? ⟨bw,1,none⟩=some (.bool b4):=kb0.cell 1
 have x2:w11.frozen? ⟨bw,1,none⟩=false:=kb0.frozen 1
 have hne2:¬bw=bt:=fun h=>hne h.symm
 have hne3:¬bt=bw:=hne
 clear kb0
 have HF:∀x:Bool,x=(b4||decide (sv=0))→Hid (PolP bt lv n M B bw ws w (.returned (.tuple #[])) ((w11.setCell ⟨bt,4,none⟩ (.int .u64 (sv:Int))).setCell ⟨bw,1,none⟩ (.bool x))):=fun x hx=>Lib.hid ⟨⟨v,(ws.tail.tail.tail.headD []),sv,0,[]⟩,(ws.tail.tail.tail.tail).tail.tail,x,rfl,by show PlS bt [lv,.bool true,.int .u64 (v:Int),.string (strB (ws.tail.tail.tail.headD [])),.int .u64 (sv:Int),.int .i64 0,.slice none 0 0,.int .i64 n] M B bw _ x w _;rw[HNS.out];exact (k11.set hbt 4 (.int .u64 (sv:Int))).badw hne x,rfl,(pol_rel (b4:=x) HV.out (.inr (.inl ⟨Hhd.out,Hha.out,rfl,rfl,HB1.out.symm.trans (Bool.false_or _)⟩)) (.inl ⟨Hhn.out,rfl,rfl,HB3.out.symm⟩) (.inl ⟨Hhs.out,HSV.out,rfl,hx.trans (by rw[←HB4.out])⟩)).1,(pol_rel (b4:=x) HV.out (.inr (.inl ⟨Hhd.out,Hha.out,rfl,rfl,HB1.out.symm.trans (Bool.false_or _)⟩)) (.inl ⟨Hhn.out,rfl,rfl,HB3.out.symm⟩) (.inl ⟨Hhs.out,HSV.out,rfl,hx.trans (by rw[←HB4.out])⟩)).2⟩
 have hz:((sv:Int)==0)=decide (sv=0):=by rw[Bool.eq_iff_iff];simp
 generalize decide (sv=0)=zb at *
 clear k11
 rcases b4 with _|_
 ·go_wp2_with fail
  go_end0
  exact (HF zb (by simp)).out
 go_wp2_with fail
 go_end0
 exact (HF true (by simp)).out
set_option maxRecDepth 100000 in
set_option maxHeartbeats 8000000 in
theorem pol_ant(M B bw bt:Nat)(ws:List (List UInt8))(w:World)(lv:Value)(n:Int)(bg:Bool)(c2 c3 c4 c5 c6 c7:Value)(hp:PlS bt [lv,.bool bg,c2,c3,c4,c5,c6,c7] M B bw ws false w w)(hW:LdW w)(hM:7<M)(hMw:M≤w.heap.size)(hbt:bt<M)(hlo:7<bt)(hl:∀s∈ws,s.length≤1000000)(hd:isW ws.tail wDeny=false)(ha:isW ws.tail wAllow=true)(hn:isW ws.tail.tail wNs=true)(hs:isW (ws.tail.tail.tail.tail) wService=false) :
  Calls Tryz.prog 56 #[.pointer (some ⟨bt,0,none⟩),.int .i64 n,.pointer (some ⟨bw,0,none⟩)] w fun e w'=>PolP bt lv n M B bw ws w e w':=by
 have hbw:=hp.wd.lt
 have hne:bt≠bw:=by omega
 have hbs:bt≤w.heap.size:=by omega
 have hl2:∀s∈(ws.tail.tail.tail.tail).tail,s.length≤1000000:=fun s hs=>hl s (tail_mem 5 hs)
 obtain⟨e0,e1,e2,e3,e4,e5,e6,e7,g0,g1,g2,g3,g4,g5,g6,g7⟩:=hp.cells
 have HP:=Lib.hid hp;clear hp
 have HW:=Lib.hid hW;clear hW
 have Hhd:=Lib.hid hd;clear hd
 have Hha:=Lib.hid ha;clear ha
 have Hhn:=Lib.hid hn;clear hn
 have Hhs:=Lib.hid hs;clear hs
 go_enter Tryz.func56,Tryz.ntmps56
 go_wp2_with fail
 refine absC (PlS bt [lv,.bool true,c2,c3,c4,c5,c6,.int .i64 n] M B bw ws false w) ((HP.out.set hbt 1 (.bool true)).set hbt 7 (.int .i64 n)) ?_
 rintro u0 k0
 clear e0 g0 e1 g1 e2 g2 e3 g3 e4 g4 e5 g5 e6 g6 e7 g7
 refine (number_any M B bw ws false u0 (k0.ld HW.out hM hbw.1 hlo hbs) hM (Nat.le_trans hMw k0.off.size) hl k0.wd).mono ?_
 rintro e w1 ⟨v,rfl,hv64,kw1,o1,hv⟩
 have k1:=k0.word hne kw1 o1
 have HV:=Lib.hid hv;clear hv kw1 o1 k0
 generalize hb1:(false||(numO (ws.headD [])).isNone)=b1 at k1
 have HB1:=Lib.hid hb1;clear hb1
 obtain⟨e0,e1,e2,e3,e4,e5,e6,e7,g0,g1,g2,g3,g4,g5,g6,g7⟩:=k1.cells
 go_wp2_with fail
 refine absC (PlS bt [lv,.bool true,.int .u64 (v:Int),.string ⟨#[]⟩,.int .u64 0,.int .i64 0,.slice none 0 0,.int .i64 n] M B bw ws.tail b1 w) (((((k1.set hbt 2 (.int .u64 (v:Int))).set hbt 3 (.string ⟨#[]⟩)).set hbt 4 (.int .u64 0)).set hbt 5 (.int .i64 0)).set hbt 6 (.slice none 0 0)) ?_
 rintro u2 k2
 clear e0 g0 e1 g1 e2 g2 e3 g3 e4 g4 e5 g5 e6 g6 e7 g7
 clear k1
 rw[wDeny_s]
 refine (is_false M B bw b1 ws.tail wDeny u2 k2.wd Hhd.out).mono ?_
 rintro e w9 ⟨rfl,rfl⟩
 obtain⟨e0,e1,e2,e3,e4,e5,e6,e7,g0,g1,g2,g3,g4,g5,g6,g7⟩:=k2.cells
 go_wp2_with fail
 rw[wAllow_s]
 clear e0 g0
 clear e1 g1
 clear e2 g2
 clear e3 g3
 clear e4 g4
 clear e5 g5
 clear e6 g6
 clear e7 g7
 refine (is_true M B bw b1 ws.tail wAllow u2 k2.wd Hha.out).mono ?_
 rintro e w3 ⟨rfl,kw,o⟩
 have k3:=k2.word hne kw o
 clear kw o k2
 obtain⟨e0,e1,e2,e3,e4,e5,e6,e7,g0,g1,g2,g3,g4,g5,g6,g7⟩:=k3.cells
 go_wp2_with fail
 refine absC (PlS bt [lv,.bool true,.int .u64 (v:Int),.string ⟨#[]⟩,.int .u64 0,.int .i64 0,.slice none 0 0,.int .i64 n] M B bw ws.tail.tail b1 w) (k3) ?_
 rintro u4 k4
 clear e0 g0 e1 g1 e2 g2 e3 g3 e4 g4 e5 g5 e6 g6 e7 g7
 clear k3
 rw[wNs_s]
 refine (is_true M B bw b1 ws.tail.tail wNs u4 k4.wd Hhn.out).mono ?_
 rintro e w5 ⟨rfl,kw,o⟩
 have k5:=k4.word hne kw o
 clear kw o k4
 obtain⟨e0,e1,e2,e3,e4,e5,e6,e7,g0,g1,g2,g3,g4,g5,g6,g7⟩:=k5.cells
 go_wp2_with fail
 refine absC (PlS bt [lv,.bool true,.int .u64 (v:Int),.string ⟨#[]⟩,.int .u64 0,.int .i64 0,.slice none 0 0,.int .i64 n] M B bw ws.tail.tail.tail b1 w) (k5) ?_
 rintro u6 k6
 clear e0 g0 e1 g1 e2 g2 e3 g3 e4 g4 e5 g5 e6 g6 e7 g7
 clear k5
 refine (take_any M B bw b1 (ws.tail.tail.tail) u6 k6.wd).mono ?_
 rintro e w7 ⟨rfl,kw,o⟩
 have k7:=k6.word hne kw o
 clear kw o k6
 obtain⟨nss,hns⟩:∃nss,strB (ws.tail.tail.tail.headD [])=nss:=⟨_,rfl⟩
 rw[hns]
 generalize hb3:(b1||(ws.tail.tail.tail.headD []).isEmpty)=b3 at k7
 have HB3:=Lib.hid hb3;have HNS:=Lib.hid hns;clear hb3 hns
 obtain⟨e0,e1,e2,e3,e4,e5,e6,e7,g0,g1,g2,g3,g4,g5,g6,g7⟩:=k7.cells
 go_wp2_with fail
 refine absC (PlS bt [lv,.bool true,.int .u64 (v:Int),.string nss,.int .u64 0,.int .i64 0,.slice none 0 0,.int .i64 n] M B bw (ws.tail.tail.tail.tail) b3 w) (k7.set hbt 3 (.string nss)) ?_
 rintro u8 k8
 clear e0 g0 e1 g1 e2 g2 e3 g3 e4 g4 e5 g5 e6 g6 e7 g7
 clear k7
 rw[wService_s]
 refine (is_false M B bw b3 (ws.tail.tail.tail.tail) wService u8 k8.wd Hhs.out).mono ?_
 rintro e w9 ⟨rfl,rfl⟩
 obtain⟨e0,e1,e2,e3,e4,e5,e6,e7,g0,g1,g2,g3,g4,g5,g6,g7⟩:=k8.cells
 have HF:Hid (PolP bt lv n M B bw ws w (.returned (.tuple #[])) u8):=Lib.hid ⟨⟨v,(ws.tail.tail.tail.headD []),0,0,[]⟩,(ws.tail.tail.tail.tail),b3,rfl,by show PlS bt [lv,.bool true,.int .u64 (v:Int),.string (strB (ws.tail.tail.tail.headD [])),.int .u64 0,.int .i64 0,.slice none 0 0,.int .i64 n] M B bw _ _ w _;rw[HNS.out];exact k8,rfl,(pol_rel HV.out (.inr (.inl ⟨Hhd.out,Hha.out,rfl,rfl,HB1.out.symm.trans (Bool.false_or _)⟩)) (.inl ⟨Hhn.out,rfl,rfl,HB3.out.symm⟩) (.inr ⟨Hhs.out,rfl,rfl,rfl⟩)).1,(pol_rel HV.out (.inr (.inl ⟨Hhd.out,Hha.out,rfl,rfl,HB1.out.symm.trans (Bool.false_or _)⟩)) (.inl ⟨Hhn.out,rfl,rfl,HB3.out.symm⟩) (.inr ⟨Hhs.out,rfl,rfl,rfl⟩)).2⟩
 clear k8
 go_wp2_with fail
 go_end0
 exact HF.out
set_option maxRecDepth 100000 in
set_option maxHeartbeats 8000000 in
theorem pol_aos(M B bw bt:Nat)(ws:List (List UInt8))(w:World)(lv:Value)(n:Int)(bg:Bool)(c2 c3 c4 c5 c6 c7:Value)(hp:PlS bt [lv,.bool bg,c2,c3,c4,c5,c6,c7] M B bw ws false w w)(hW:LdW w)(hM:7<M)(hMw:M≤w.heap.size)(hbt:bt<M)(hlo:7<bt)(hl:∀s∈ws,s.length≤1000000)(hd:isW ws.tail wDeny=false)(ha:isW ws.tail wAllow=true)(hn:isW ws.tail.tail wNs=false)(hs:isW ws.tail.tail wService=true) :
  Calls Tryz.prog 56 #[.pointer (some ⟨bt,0,none⟩),.int .i64 n,.pointer (some ⟨bw,0,none⟩)] w fun e w'=>PolP bt lv n M B bw ws w e w':=by
 have hbw:=hp.wd.lt
 have hne:bt≠bw:=by omega
 have hbs:bt≤w.heap.size:=by omega
 have hl2:∀s∈ws.tail.tail.tail,s.length≤1000000:=fun s hs=>hl s (tail_mem 3 hs)
 obtain⟨e0,e1,e2,e3,e4,e5,e6,e7,g0,g1,g2,g3,g4,g5,g6,g7⟩:=hp.cells
 have HP:=Lib.hid hp;clear hp
 have HW:=Lib.hid hW;clear hW
 have Hhd:=Lib.hid hd;clear hd
 have Hha:=Lib.hid ha;clear ha
 have Hhn:=Lib.hid hn;clear hn
 have Hhs:=Lib.hid hs;clear hs
 go_enter Tryz.func56,Tryz.ntmps56
 go_wp2_with fail
 refine absC (PlS bt [lv,.bool true,c2,c3,c4,c5,c6,.int .i64 n] M B bw ws false w) ((HP.out.set hbt 1 (.bool true)).set hbt 7 (.int .i64 n)) ?_
 rintro u0 k0
 clear e0 g0 e1 g1 e2 g2 e3 g3 e4 g4 e5 g5 e6 g6 e7 g7
 refine (number_any M B bw ws false u0 (k0.ld HW.out hM hbw.1 hlo hbs) hM (Nat.le_trans hMw k0.off.size) hl k0.wd).mono ?_
 rintro e w1 ⟨v,rfl,hv64,kw1,o1,hv⟩
 have k1:=k0.word hne kw1 o1
 have HV:=Lib.hid hv;clear hv kw1 o1 k0
 generalize hb1:(false||(numO (ws.headD [])).isNone)=b1 at k1
 have HB1:=Lib.hid hb1;clear hb1
 obtain⟨e0,e1,e2,e3,e4,e5,e6,e7,g0,g1,g2,g3,g4,g5,g6,g7⟩:=k1.cells
 go_wp2_with fail
 refine absC (PlS bt [lv,.bool true,.int .u64 (v:Int),.string ⟨#[]⟩,.int .u64 0,.int .i64 0,.slice none 0 0,.int .i64 n] M B bw ws.tail b1 w) (((((k1.set hbt 2 (.int .u64 (v:Int))).set hbt 3 (.string ⟨#[]⟩)).set hbt 4 (.int .u64 0)).set hbt 5 (.int .i64 0)).set hbt 6 (.slice none 0 0)) ?_
 rintro u2 k2
 clear e0 g0 e1 g1 e2 g2 e3 g3 e4 g4 e5 g5 e6 g6 e7 g7
 clear k1
 rw[wDeny_s]
 refine (is_false M B bw b1 ws.tail wDeny u2 k2.wd Hhd.out).mono ?_
 rintro e w9 ⟨rfl,rfl⟩
 obtain⟨e0,e1,e2,e3,e4,e5,e6,e7,g0,g1,g2,g3,g4,g5,g6,g7⟩:=k2.cells
 go_wp2_with fail
 rw[wAllow_s]
 clear e0 g0
 clear e1 g1
 clear e2 g2
 clear e3 g3
 clear e4 g4
 clear e5 g5
 clear e6 g6
 clear e7 g7
 refine (is_true M B bw b1 ws.tail wAllow u2 k2.wd Hha.out).mono ?_
 rintro e w3 ⟨rfl,kw,o⟩
 have k3:=k2.word hne kw o
 clear kw o k2
 obtain⟨e0,e1,e2,e3,e4,e5,e6,e7,g0,g1,g2,g3,g4,g5,g6,g7⟩:=k3.cells
 go_wp2_with fail
 refine absC (PlS bt [lv,.bool true,.int .u64 (v:Int),.string ⟨#[]⟩,.int .u64 0,.int .i64 0,.slice none 0 0,.int .i64 n] M B bw ws.tail.tail b1 w) (k3) ?_
 rintro u4 k4
 clear e0 g0 e1 g1 e2 g2 e3 g3 e4 g4 e5 g5 e6 g6 e7 g7
 clear k3
 rw[wNs_s]
 refine (is_false M B bw b1 ws.tail.tail wNs u4 k4.wd Hhn.out).mono ?_
 rintro e w9 ⟨rfl,rfl⟩
 obtain⟨e0,e1,e2,e3,e4,e5,e6,e7,g0,g1,g2,g3,g4,g5,g6,g7⟩:=k4.cells
 go_wp2_with fail
 refine absC (PlS bt [lv,.bool true,.int .u64 (v:Int),.string ⟨#[]⟩,.int .u64 0,.int .i64 0,.slice none 0 0,.int .i64 n] M B bw ws.tail.tail b1 w) (k4) ?_
 rintro u8 k8
 clear e0 g0 e1 g1 e2 g2 e3 g3 e4 g4 e5 g5 e6 g6 e7 g7
 clear k4
 rw[wService_s]
 refine (is_true M B bw b1 ws.tail.tail wService u8 k8.wd Hhs.out).mono ?_
 rintro e w9 ⟨rfl,kw,o⟩
 have k9:=k8.word hne kw o
 clear kw o k8
 obtain⟨e0,e1,e2,e3,e4,e5,e6,e7,g0,g1,g2,g3,g4,g5,g6,g7⟩:=k9.cells
 go_wp2_with fail
 refine absC (PlS bt [lv,.bool true,.int .u64 (v:Int),.string ⟨#[]⟩,.int .u64 0,.int .i64 0,.slice none 0 0,.int .i64 n] M B bw ws.tail.tail.tail b1 w) (k9) ?_
 rintro u10 k10
 clear e0 g0 e1 g1 e2 g2 e3 g3 e4 g4 e5 g5 e6 g6 e7 g7
 clear k9
 refine (number_any M B bw (ws.tail.tail.tail) b1 u10 (k10.ld HW.out hM hbw.1 hlo hbs) hM (Nat.le_trans hMw k10.off.size) hl2 k10.wd).mono ?_
 rintro e w11 ⟨sv,rfl,hs64,kw1,o1,hsv⟩
 have k11:=k10.word hne kw1 o1
 have HSV:=Lib.hid hsv;clear hsv kw1 o1 k10
 generalize hb4:(b1||(numO (ws.tail.tail.tail.headD [])).isNone)=b4 at k11
 have HB4:=Lib.hid hb4;clear hb4
 obtain⟨e0,e1,e2,e3,e4,e5,e6,e7,g0,g1,g2,g3,g4,g5,g6,g7⟩:=k11.cells
 obtain⟨_,A0,n0,c0,kb0,_⟩:=id k11.wd
 have x1:w11.cell? ⟨bw,1,none⟩=some (.bool b4):=kb0.cell 1
 have x2:w11.frozen? ⟨bw,1,none⟩=false:=kb0.frozen 1
 have hne2:¬bw=bt:=fun h=>hne h.symm
 have hne3:¬bt=bw:=hne
 clear kb0
 have HF:∀x:Bool,x=(b4||decide (sv=0))→Hid (PolP bt lv n M B bw ws w (.returned (.tuple #[])) ((w11.setCell ⟨bt,4,none⟩ (.int .u64 (sv:Int))).setCell ⟨bw,1,none⟩ (.bool x))):=fun x hx=>Lib.hid ⟨⟨v,[],sv,0,[]⟩,ws.tail.tail.tail.tail,x,rfl,(k11.set hbt 4 (.int .u64 (sv:Int))).badw hne x,rfl,(pol_rel (b4:=x) HV.out (.inr (.inl ⟨Hhd.out,Hha.out,rfl,rfl,HB1.out.symm.trans (Bool.false_or _)⟩)) (.inr ⟨Hhn.out,rfl,rfl,rfl⟩) (.inl ⟨Hhs.out,HSV.out,rfl,hx.trans (by rw[←HB4.out])⟩)).1,(pol_rel (b4:=x) HV.out (.inr (.inl ⟨Hhd.out,Hha.out,rfl,rfl,HB1.out.symm.trans (Bool.false_or _)⟩)) (.inr ⟨Hhn.out,rfl,rfl,rfl⟩) (.inl ⟨Hhs.out,HSV.out,rfl,hx.trans (by rw[←HB4.out])⟩)).2⟩
 have hz:((sv:Int)==0)=decide (sv=0):=by rw[Bool.eq_iff_iff];simp
 generalize decide (sv=0)=zb at *
 clear k11
 rcases b4 with _|_
 ·go_wp2_with fail
  go_end0
  exact (HF zb (by simp)).out
 go_wp2_with fail
 go_end0
 exact (HF true (by simp)).out
set_option maxRecDepth 100000 in
set_option maxHeartbeats 8000000 in
theorem pol_aot(M B bw bt:Nat)(ws:List (List UInt8))(w:World)(lv:Value)(n:Int)(bg:Bool)(c2 c3 c4 c5 c6 c7:Value)(hp:PlS bt [lv,.bool bg,c2,c3,c4,c5,c6,c7] M B bw ws false w w)(hW:LdW w)(hM:7<M)(hMw:M≤w.heap.size)(hbt:bt<M)(hlo:7<bt)(hl:∀s∈ws,s.length≤1000000)(hd:isW ws.tail wDeny=false)(ha:isW ws.tail wAllow=true)(hn:isW ws.tail.tail wNs=false)(hs:isW ws.tail.tail wService=false) :
  Calls Tryz.prog 56 #[.pointer (some ⟨bt,0,none⟩),.int .i64 n,.pointer (some ⟨bw,0,none⟩)] w fun e w'=>PolP bt lv n M B bw ws w e w':=by
 have hbw:=hp.wd.lt
 have hne:bt≠bw:=by omega
 have hbs:bt≤w.heap.size:=by omega
 have hl2:∀s∈ws.tail.tail.tail,s.length≤1000000:=fun s hs=>hl s (tail_mem 3 hs)
 obtain⟨e0,e1,e2,e3,e4,e5,e6,e7,g0,g1,g2,g3,g4,g5,g6,g7⟩:=hp.cells
 have HP:=Lib.hid hp;clear hp
 have HW:=Lib.hid hW;clear hW
 have Hhd:=Lib.hid hd;clear hd
 have Hha:=Lib.hid ha;clear ha
 have Hhn:=Lib.hid hn;clear hn
 have Hhs:=Lib.hid hs;clear hs
 go_enter Tryz.func56,Tryz.ntmps56
 go_wp2_with fail
 refine absC (PlS bt [lv,.bool true,c2,c3,c4,c5,c6,.int .i64 n] M B bw ws false w) ((HP.out.set hbt 1 (.bool true)).set hbt 7 (.int .i64 n)) ?_
 rintro u0 k0
 clear e0 g0 e1 g1 e2 g2 e3 g3 e4 g4 e5 g5 e6 g6 e7 g7
 refine (number_any M B bw ws false u0 (k0.ld HW.out hM hbw.1 hlo hbs) hM (Nat.le_trans hMw k0.off.size) hl k0.wd).mono ?_
 rintro e w1 ⟨v,rfl,hv64,kw1,o1,hv⟩
 have k1:=k0.word hne kw1 o1
 have HV:=Lib.hid hv;clear hv kw1 o1 k0
 generalize hb1:(false||(numO (ws.headD [])).isNone)=b1 at k1
 have HB1:=Lib.hid hb1;clear hb1
 obtain⟨e0,e1,e2,e3,e4,e5,e6,e7,g0,g1,g2,g3,g4,g5,g6,g7⟩:=k1.cells
 go_wp2_with fail
 refine absC (PlS bt [lv,.bool true,.int .u64 (v:Int),.string ⟨#[]⟩,.int .u64 0,.int .i64 0,.slice none 0 0,.int .i64 n] M B bw ws.tail b1 w) (((((k1.set hbt 2 (.int .u64 (v:Int))).set hbt 3 (.string ⟨#[]⟩)).set hbt 4 (.int .u64 0)).set hbt 5 (.int .i64 0)).set hbt 6 (.slice none 0 0)) ?_
 rintro u2 k2
 clear e0 g0 e1 g1 e2 g2 e3 g3 e4 g4 e5 g5 e6 g6 e7 g7
 clear k1
 rw[wDeny_s]
 refine (is_false M B bw b1 ws.tail wDeny u2 k2.wd Hhd.out).mono ?_
 rintro e w9 ⟨rfl,rfl⟩
 obtain⟨e0,e1,e2,e3,e4,e5,e6,e7,g0,g1,g2,g3,g4,g5,g6,g7⟩:=k2.cells
 go_wp2_with fail
 rw[wAllow_s]
 clear e0 g0
 clear e1 g1
 clear e2 g2
 clear e3 g3
 clear e4 g4
 clear e5 g5
 clear e6 g6
 clear e7 g7
 refine (is_true M B bw b1 ws.tail wAllow u2 k2.wd Hha.out).mono ?_
 rintro e w3 ⟨rfl,kw,o⟩
 have k3:=k2.word hne kw o
 clear kw o k2
 obtain⟨e0,e1,e2,e3,e4,e5,e6,e7,g0,g1,g2,g3,g4,g5,g6,g7⟩:=k3.cells
 go_wp2_with fail
 refine absC (PlS bt [lv,.bool true,.int .u64 (v:Int),.string ⟨#[]⟩,.int .u64 0,.int .i64 0,.slice none 0 0,.int .i64 n] M B bw ws.tail.tail b1 w) (k3) ?_
 rintro u4 k4
 clear e0 g0 e1 g1 e2 g2 e3 g3 e4 g4 e5 g5 e6 g6 e7 g7
 clear k3
 rw[wNs_s]
 refine (is_false M B bw b1 ws.tail.tail wNs u4 k4.wd Hhn.out).mono ?_
 rintro e w9 ⟨rfl,rfl⟩
 obtain⟨e0,e1,e2,e3,e4,e5,e6,e7,g0,g1,g2,g3,g4,g5,g6,g7⟩:=k4.cells
 go_wp2_with fail
 refine absC (PlS bt [lv,.bool true,.int .u64 (v:Int),.string ⟨#[]⟩,.int .u64 0,.int .i64 0,.slice none 0 0,.int .i64 n] M B bw ws.tail.tail b1 w) (k4) ?_
 rintro u8 k8
 clear e0 g0 e1 g1 e2 g2 e3 g3 e4 g4 e5 g5 e6 g6 e7 g7
 clear k4
 rw[wService_s]
 refine (is_false M B bw b1 ws.tail.tail wService u8 k8.wd Hhs.out).mono ?_
 rintro e w9 ⟨rfl,rfl⟩
 obtain⟨e0,e1,e2,e3,e4,e5,e6,e7,g0,g1,g2,g3,g4,g5,g6,g7⟩:=k8.cells
 have HF:Hid (PolP bt lv n M B bw ws w (.returned (.tuple #[])) u8):=Lib.hid ⟨⟨v,[],0,0,[]⟩,ws.tail.tail,b1,rfl,k8,rfl,(pol_rel HV.out (.inr (.inl ⟨Hhd.out,Hha.out,rfl,rfl,HB1.out.symm.trans (Bool.false_or _)⟩)) (.inr ⟨Hhn.out,rfl,rfl,rfl⟩) (.inr ⟨Hhs.out,rfl,rfl,rfl⟩)).1,(pol_rel HV.out (.inr (.inl ⟨Hhd.out,Hha.out,rfl,rfl,HB1.out.symm.trans (Bool.false_or _)⟩)) (.inr ⟨Hhn.out,rfl,rfl,rfl⟩) (.inr ⟨Hhs.out,rfl,rfl,rfl⟩)).2⟩
 clear k8
 go_wp2_with fail
 go_end0
 exact HF.out
set_option maxRecDepth 100000 in
set_option maxHeartbeats 8000000 in
theorem pol_xns(M B bw bt:Nat)(ws:List (List UInt8))(w:World)(lv:Value)(n:Int)(bg:Bool)(c2 c3 c4 c5 c6 c7:Value)(hp:PlS bt [lv,.bool bg,c2,c3,c4,c5,c6,c7] M B bw ws false w w)(hW:LdW w)(hM:7<M)(hMw:M≤w.heap.size)(hbt:bt<M)(hlo:7<bt)(hl:∀s∈ws,s.length≤1000000)(hd:isW ws.tail wDeny=false)(ha:isW ws.tail wAllow=false)(hn:isW ws.tail wNs=true)(hs:isW (ws.tail.tail.tail) wService=true) :
  Calls Tryz.prog 56 #[.pointer (some ⟨bt,0,none⟩),.int .i64 n,.pointer (some ⟨bw,0,none⟩)] w fun e w'=>PolP bt lv n M B bw ws w e w':=by
 have hbw:=hp.wd.lt
 have hne:bt≠bw:=by omega
 have hbs:bt≤w.heap.size:=by omega
 have hl2:∀s∈(ws.tail.tail.tail).tail,s.length≤1000000:=fun s hs=>hl s (tail_mem 4 hs)
 obtain⟨e0,e1,e2,e3,e4,e5,e6,e7,g0,g1,g2,g3,g4,g5,g6,g7⟩:=hp.cells
 have HP:=Lib.hid hp;clear hp
 have HW:=Lib.hid hW;clear hW
 have Hhd:=Lib.hid hd;clear hd
 have Hha:=Lib.hid ha;clear ha
 have Hhn:=Lib.hid hn;clear hn
 have Hhs:=Lib.hid hs;clear hs
 go_enter Tryz.func56,Tryz.ntmps56
 go_wp2_with fail
 refine absC (PlS bt [lv,.bool true,c2,c3,c4,c5,c6,.int .i64 n] M B bw ws false w) ((HP.out.set hbt 1 (.bool true)).set hbt 7 (.int .i64 n)) ?_
 rintro u0 k0
 clear e0 g0 e1 g1 e2 g2 e3 g3 e4 g4 e5 g5 e6 g6 e7 g7
 refine (number_any M B bw ws false u0 (k0.ld HW.out hM hbw.1 hlo hbs) hM (Nat.le_trans hMw k0.off.size) hl k0.wd).mono ?_
 rintro e w1 ⟨v,rfl,hv64,kw1,o1,hv⟩
 have k1:=k0.word hne kw1 o1
 have HV:=Lib.hid hv;clear hv kw1 o1 k0
 generalize hb1:(false||(numO (ws.headD [])).isNone)=b1 at k1
 have HB1:=Lib.hid hb1;clear hb1
 obtain⟨e0,e1,e2,e3,e4,e5,e6,e7,g0,g1,g2,g3,g4,g5,g6,g7⟩:=k1.cells
 go_wp2_with fail
 refine absC (PlS bt [lv,.bool true,.int .u64 (v:Int),.string ⟨#[]⟩,.int .u64 0,.int .i64 0,.slice none 0 0,.int .i64 n] M B bw ws.tail b1 w) (((((k1.set hbt 2 (.int .u64 (v:Int))).set hbt 3 (.string ⟨#[]⟩)).set hbt 4 (.int .u64 0)).set hbt 5 (.int .i64 0)).set hbt 6 (.slice none 0 0)) ?_
 rintro u2 k2
 clear e0 g0 e1 g1 e2 g2 e3 g3 e4 g4 e5 g5 e6 g6 e7 g7
 clear k1
 rw[wDeny_s]
 refine (is_false M B bw b1 ws.tail wDeny u2 k2.wd Hhd.out).mono ?_
 rintro e w9 ⟨rfl,rfl⟩
 obtain⟨e0,e1,e2,e3,e4,e5,e6,e7,g0,g1,g2,g3,g4,g5,g6,g7⟩:=k2.cells
 go_wp2_with fail
 rw[wAllow_s]
 clear e0 g0
 clear e1 g1
 clear e2 g2
 clear e3 g3
 clear e4 g4
 clear e5 g5
 clear e6 g6
 clear e7 g7
 refine (is_false M B bw b1 ws.tail wAllow u2 k2.wd Hha.out).mono ?_
 rintro e w9 ⟨rfl,rfl⟩
 obtain⟨e0,e1,e2,e3,e4,e5,e6,e7,g0,g1,g2,g3,g4,g5,g6,g7⟩:=k2.cells
 obtain⟨_,A0,n0,c0,kb0,_⟩:=id k2.wd
 have x1:u2.cell? ⟨bw,1,none⟩=some (.bool b1):=kb0.cell 1
 have x2:u2.frozen? ⟨bw,1,none⟩=false:=kb0.frozen 1
 clear kb0
 go_wp2_with fail
 clear x1 x2
 refine absC (PlS bt [lv,.bool true,.int .u64 (v:Int),.string ⟨#[]⟩,.int .u64 0,.int .i64 0,.slice none 0 0,.int .i64 n] M B bw ws.tail true w) (k2.badw hne true) ?_
 rintro u4 k4
 clear e0 g0 e1 g1 e2 g2 e3 g3 e4 g4 e5 g5 e6 g6 e7 g7
 clear k2
 rw[wNs_s]
 refine (is_true M B bw true ws.tail wNs u4 k4.wd Hhn.out).mono ?_
 rintro e w5 ⟨rfl,kw,o⟩
 have k5:=k4.word hne kw o
 clear kw o k4
 obtain⟨e0,e1,e2,e3,e4,e5,e6,e7,g0,g1,g2,g3,g4,g5,g6,g7⟩:=k5.cells
 go_wp2_with fail
 refine absC (PlS bt [lv,.bool true,.int .u64 (v:Int),.string ⟨#[]⟩,.int .u64 0,.int .i64 0,.slice none 0 0,.int .i64 n] M B bw ws.tail.tail true w) (k5) ?_
 rintro u6 k6
 clear e0 g0 e1 g1 e2 g2 e3 g3 e4 g4 e5 g5 e6 g6 e7 g7
 clear k5
 refine (take_any M B bw true (ws.tail.tail) u6 k6.wd).mono ?_
 rintro e w7 ⟨rfl,kw,o⟩
 have k7:=k6.word hne kw o
 clear kw o k6
 obtain⟨nss,hns⟩:∃nss,strB (ws.tail.tail.headD [])=nss:=⟨_,rfl⟩
 rw[hns]
 generalize hb3:(true||(ws.tail.tail.headD []).isEmpty)=b3 at k7
 have HB3:=Lib.hid hb3;have HNS:=Lib.hid hns;clear hb3 hns
 obtain⟨e0,e1,e2,e3,e4,e5,e6,e7,g0,g1,g2,g3,g4,g5,g6,g7⟩:=k7.cells
 go_wp2_with fail
 refine absC (PlS bt [lv,.bool true,.int .u64 (v:Int),.string nss,.int .u64 0,.int .i64 0,.slice none 0 0,.int .i64 n] M B bw (ws.tail.tail.tail) b3 w) (k7.set hbt 3 (.string nss)) ?_
 rintro u8 k8
 clear e0 g0 e1 g1 e2 g2 e3 g3 e4 g4 e5 g5 e6 g6 e7 g7
 clear k7
 rw[wService_s]
 refine (is_true M B bw b3 (ws.tail.tail.tail) wService u8 k8.wd Hhs.out).mono ?_
 rintro e w9 ⟨rfl,kw,o⟩
 have k9:=k8.word hne kw o
 clear kw o k8
 obtain⟨e0,e1,e2,e3,e4,e5,e6,e7,g0,g1,g2,g3,g4,g5,g6,g7⟩:=k9.cells
 go_wp2_with fail
 refine absC (PlS bt [lv,.bool true,.int .u64 (v:Int),.string nss,.int .u64 0,.int .i64 0,.slice none 0 0,.int .i64 n] M B bw (ws.tail.tail.tail).tail b3 w) (k9) ?_
 rintro u10 k10
 clear e0 g0 e1 g1 e2 g2 e3 g3 e4 g4 e5 g5 e6 g6 e7 g7
 clear k9
 refine (number_any M B bw ((ws.tail.tail.tail).tail) b3 u10 (k10.ld HW.out hM hbw.1 hlo hbs) hM (Nat.le_trans hMw k10.off.size) hl2 k10.wd).mono ?_
 rintro e w11 ⟨sv,rfl,hs64,kw1,o1,hsv⟩
 have k11:=k10.word hne kw1 o1
 have HSV:=Lib.hid hsv;clear hsv kw1 o1 k10
 generalize hb4:(b3||(numO ((ws.tail.tail.tail).tail.headD [])).isNone)=b4 at k11
 have HB4:=Lib.hid hb4;clear hb4
 obtain⟨e0,e1,e2,e3,e4,e5,e6,e7,g0,g1,g2,g3,g4,g5,g6,g7⟩:=k11.cells
 obtain⟨_,A0,n0,c0,kb0,_⟩:=id k11.wd
 have x1:w11.cell? ⟨bw,1,none⟩=some (.bool b4):=kb0.cell 1
 have x2:w11.frozen? ⟨bw,1,none⟩=false:=kb0.frozen 1
 have hne2:¬bw=bt:=fun h=>hne h.symm
 have hne3:¬bt=bw:=hne
 clear kb0
 have HF:∀x:Bool,x=(b4||decide (sv=0))→Hid (PolP bt lv n M B bw ws w (.returned (.tuple #[])) ((w11.setCell ⟨bt,4,none⟩ (.int .u64 (sv:Int))).setCell ⟨bw,1,none⟩ (.bool x))):=fun x hx=>Lib.hid ⟨⟨v,(ws.tail.tail.headD []),sv,0,[]⟩,(ws.tail.tail.tail).tail.tail,x,rfl,by show PlS bt [lv,.bool true,.int .u64 (v:Int),.string (strB (ws.tail.tail.headD [])),.int .u64 (sv:Int),.int .i64 0,.slice none 0 0,.int .i64 n] M B bw _ x w _;rw[HNS.out];exact (k11.set hbt 4 (.int .u64 (sv:Int))).badw hne x,rfl,(pol_rel (b4:=x) HV.out (.inr (.inr ⟨Hhd.out,Hha.out,rfl,rfl,rfl⟩)) (.inl ⟨Hhn.out,rfl,rfl,HB3.out.symm⟩) (.inl ⟨Hhs.out,HSV.out,rfl,hx.trans (by rw[←HB4.out])⟩)).1,(pol_rel (b4:=x) HV.out (.inr (.inr ⟨Hhd.out,Hha.out,rfl,rfl,rfl⟩)) (.inl ⟨Hhn.out,rfl,rfl,HB3.out.symm⟩) (.inl ⟨Hhs.out,HSV.out,rfl,hx.trans (by rw[←HB4.out])⟩)).2⟩
 have hz:((sv:Int)==0)=decide (sv=0):=by rw[Bool.eq_iff_iff];simp
 generalize decide (sv=0)=zb at *
 clear k11
 rcases b4 with _|_
 ·go_wp2_with fail
  go_end0
  exact (HF zb (by simp)).out
 go_wp2_with fail
 go_end0
 exact (HF true (by simp)).out
set_option maxRecDepth 100000 in
set_option maxHeartbeats 8000000 in
theorem pol_xnt(M B bw bt:Nat)(ws:List (List UInt8))(w:World)(lv:Value)(n:Int)(bg:Bool)(c2 c3 c4 c5 c6 c7:Value)(hp:PlS bt [lv,.bool bg,c2,c3,c4,c5,c6,c7] M B bw ws false w w)(hW:LdW w)(hM:7<M)(hMw:M≤w.heap.size)(hbt:bt<M)(hlo:7<bt)(hl:∀s∈ws,s.length≤1000000)(hd:isW ws.tail wDeny=false)(ha:isW ws.tail wAllow=false)(hn:isW ws.tail wNs=true)(hs:isW (ws.tail.tail.tail) wService=false) :
  Calls Tryz.prog 56 #[.pointer (some ⟨bt,0,none⟩),.int .i64 n,.pointer (some ⟨bw,0,none⟩)] w fun e w'=>PolP bt lv n M B bw ws w e w':=by
 have hbw:=hp.wd.lt
 have hne:bt≠bw:=by omega
 have hbs:bt≤w.heap.size:=by omega
 have hl2:∀s∈(ws.tail.tail.tail).tail,s.length≤1000000:=fun s hs=>hl s (tail_mem 4 hs)
 obtain⟨e0,e1,e2,e3,e4,e5,e6,e7,g0,g1,g2,g3,g4,g5,g6,g7⟩:=hp.cells
 have HP:=Lib.hid hp;clear hp
 have HW:=Lib.hid hW;clear hW
 have Hhd:=Lib.hid hd;clear hd
 have Hha:=Lib.hid ha;clear ha
 have Hhn:=Lib.hid hn;clear hn
 have Hhs:=Lib.hid hs;clear hs
 go_enter Tryz.func56,Tryz.ntmps56
 go_wp2_with fail
 refine absC (PlS bt [lv,.bool true,c2,c3,c4,c5,c6,.int .i64 n] M B bw ws false w) ((HP.out.set hbt 1 (.bool true)).set hbt 7 (.int .i64 n)) ?_
 rintro u0 k0
 clear e0 g0 e1 g1 e2 g2 e3 g3 e4 g4 e5 g5 e6 g6 e7 g7
 refine (number_any M B bw ws false u0 (k0.ld HW.out hM hbw.1 hlo hbs) hM (Nat.le_trans hMw k0.off.size) hl k0.wd).mono ?_
 rintro e w1 ⟨v,rfl,hv64,kw1,o1,hv⟩
 have k1:=k0.word hne kw1 o1
 have HV:=Lib.hid hv;clear hv kw1 o1 k0
 generalize hb1:(false||(numO (ws.headD [])).isNone)=b1 at k1
 have HB1:=Lib.hid hb1;clear hb1
 obtain⟨e0,e1,e2,e3,e4,e5,e6,e7,g0,g1,g2,g3,g4,g5,g6,g7⟩:=k1.cells
 go_wp2_with fail
 refine absC (PlS bt [lv,.bool true,.int .u64 (v:Int),.string ⟨#[]⟩,.int .u64 0,.int .i64 0,.slice none 0 0,.int .i64 n] M B bw ws.tail b1 w) (((((k1.set hbt 2 (.int .u64 (v:Int))).set hbt 3 (.string ⟨#[]⟩)).set hbt 4 (.int .u64 0)).set hbt 5 (.int .i64 0)).set hbt 6 (.slice none 0 0)) ?_
 rintro u2 k2
 clear e0 g0 e1 g1 e2 g2 e3 g3 e4 g4 e5 g5 e6 g6 e7 g7
 clear k1
 rw[wDeny_s]
 refine (is_false M B bw b1 ws.tail wDeny u2 k2.wd Hhd.out).mono ?_
 rintro e w9 ⟨rfl,rfl⟩
 obtain⟨e0,e1,e2,e3,e4,e5,e6,e7,g0,g1,g2,g3,g4,g5,g6,g7⟩:=k2.cells
 go_wp2_with fail
 rw[wAllow_s]
 clear e0 g0
 clear e1 g1
 clear e2 g2
 clear e3 g3
 clear e4 g4
 clear e5 g5
 clear e6 g6
 clear e7 g7
 refine (is_false M B bw b1 ws.tail wAllow u2 k2.wd Hha.out).mono ?_
 rintro e w9 ⟨rfl,rfl⟩
 obtain⟨e0,e1,e2,e3,e4,e5,e6,e7,g0,g1,g2,g3,g4,g5,g6,g7⟩:=k2.cells
 obtain⟨_,A0,n0,c0,kb0,_⟩:=id k2.wd
 have x1:u2.cell? ⟨bw,1,none⟩=some (.bool b1):=kb0.cell 1
 have x2:u2.frozen? ⟨bw,1,none⟩=false:=kb0.frozen 1
 clear kb0
 go_wp2_with fail
 clear x1 x2
 refine absC (PlS bt [lv,.bool true,.int .u64 (v:Int),.string ⟨#[]⟩,.int .u64 0,.int .i64 0,.slice none 0 0,.int .i64 n] M B bw ws.tail true w) (k2.badw hne true) ?_
 rintro u4 k4
 clear e0 g0 e1 g1 e2 g2 e3 g3 e4 g4 e5 g5 e6 g6 e7 g7
 clear k2
 rw[wNs_s]
 refine (is_true M B bw true ws.tail wNs u4 k4.wd Hhn.out).mono ?_
 rintro e w5 ⟨rfl,kw,o⟩
 have k5:=k4.word hne kw o
 clear kw o k4
 obtain⟨e0,e1,e2,e3,e4,e5,e6,e7,g0,g1,g2,g3,g4,g5,g6,g7⟩:=k5.cells
 go_wp2_with fail
 refine absC (PlS bt [lv,.bool true,.int .u64 (v:Int),.string ⟨#[]⟩,.int .u64 0,.int .i64 0,.slice none 0 0,.int .i64 n] M B bw ws.tail.tail true w) (k5) ?_
 rintro u6 k6
 clear e0 g0 e1 g1 e2 g2 e3 g3 e4 g4 e5 g5 e6 g6 e7 g7
 clear k5
 refine (take_any M B bw true (ws.tail.tail) u6 k6.wd).mono ?_
 rintro e w7 ⟨rfl,kw,o⟩
 have k7:=k6.word hne kw o
 clear kw o k6
 obtain⟨nss,hns⟩:∃nss,strB (ws.tail.tail.headD [])=nss:=⟨_,rfl⟩
 rw[hns]
 generalize hb3:(true||(ws.tail.tail.headD []).isEmpty)=b3 at k7
 have HB3:=Lib.hid hb3;have HNS:=Lib.hid hns;clear hb3 hns
 obtain⟨e0,e1,e2,e3,e4,e5,e6,e7,g0,g1,g2,g3,g4,g5,g6,g7⟩:=k7.cells
 go_wp2_with fail
 refine absC (PlS bt [lv,.bool true,.int .u64 (v:Int),.string nss,.int .u64 0,.int .i64 0,.slice none 0 0,.int .i64 n] M B bw (ws.tail.tail.tail) b3 w) (k7.set hbt 3 (.string nss)) ?_
 rintro u8 k8
 clear e0 g0 e1 g1 e2 g2 e3 g3 e4 g4 e5 g5 e6 g6 e7 g7
 clear k7
 rw[wService_s]
 refine (is_false M B bw b3 (ws.tail.tail.tail) wService u8 k8.wd Hhs.out).mono ?_
 rintro e w9 ⟨rfl,rfl⟩
 obtain⟨e0,e1,e2,e3,e4,e5,e6,e7,g0,g1,g2,g3,g4,g5,g6,g7⟩:=k8.cells
 have HF:Hid (PolP bt lv n M B bw ws w (.returned (.tuple #[])) u8):=Lib.hid ⟨⟨v,(ws.tail.tail.headD []),0,0,[]⟩,(ws.tail.tail.tail),b3,rfl,by show PlS bt [lv,.bool true,.int .u64 (v:Int),.string (strB (ws.tail.tail.headD [])),.int .u64 0,.int .i64 0,.slice none 0 0,.int .i64 n] M B bw _ _ w _;rw[HNS.out];exact k8,rfl,(pol_rel HV.out (.inr (.inr ⟨Hhd.out,Hha.out,rfl,rfl,rfl⟩)) (.inl ⟨Hhn.out,rfl,rfl,HB3.out.symm⟩) (.inr ⟨Hhs.out,rfl,rfl,rfl⟩)).1,(pol_rel HV.out (.inr (.inr ⟨Hhd.out,Hha.out,rfl,rfl,rfl⟩)) (.inl ⟨Hhn.out,rfl,rfl,HB3.out.symm⟩) (.inr ⟨Hhs.out,rfl,rfl,rfl⟩)).2⟩
 clear k8
 go_wp2_with fail
 go_end0
 exact HF.out
set_option maxRecDepth 100000 in
set_option maxHeartbeats 8000000 in
theorem pol_xos(M B bw bt:Nat)(ws:List (List UInt8))(w:World)(lv:Value)(n:Int)(bg:Bool)(c2 c3 c4 c5 c6 c7:Value)(hp:PlS bt [lv,.bool bg,c2,c3,c4,c5,c6,c7] M B bw ws false w w)(hW:LdW w)(hM:7<M)(hMw:M≤w.heap.size)(hbt:bt<M)(hlo:7<bt)(hl:∀s∈ws,s.length≤1000000)(hd:isW ws.tail wDeny=false)(ha:isW ws.tail wAllow=false)(hn:isW ws.tail wNs=false)(hs:isW ws.tail wService=true) :
  Calls Tryz.prog 56 #[.pointer (some ⟨bt,0,none⟩),.int .i64 n,.pointer (some ⟨bw,0,none⟩)] w fun e w'=>PolP bt lv n M B bw ws w e w':=by
 have hbw:=hp.wd.lt
 have hne:bt≠bw:=by omega
 have hbs:bt≤w.heap.size:=by omega
 have hl2:∀s∈ws.tail.tail,s.length≤1000000:=fun s hs=>hl s (tail_mem 2 hs)
 obtain⟨e0,e1,e2,e3,e4,e5,e6,e7,g0,g1,g2,g3,g4,g5,g6,g7⟩:=hp.cells
 have HP:=Lib.hid hp;clear hp
 have HW:=Lib.hid hW;clear hW
 have Hhd:=Lib.hid hd;clear hd
 have Hha:=Lib.hid ha;clear ha
 have Hhn:=Lib.hid hn;clear hn
 have Hhs:=Lib.hid hs;clear hs
 go_enter Tryz.func56,Tryz.ntmps56
 go_wp2_with fail
 refine absC (PlS bt [lv,.bool true,c2,c3,c4,c5,c6,.int .i64 n] M B bw ws false w) ((HP.out.set hbt 1 (.bool true)).set hbt 7 (.int .i64 n)) ?_
 rintro u0 k0
 clear e0 g0 e1 g1 e2 g2 e3 g3 e4 g4 e5 g5 e6 g6 e7 g7
 refine (number_any M B bw ws false u0 (k0.ld HW.out hM hbw.1 hlo hbs) hM (Nat.le_trans hMw k0.off.size) hl k0.wd).mono ?_
 rintro e w1 ⟨v,rfl,hv64,kw1,o1,hv⟩
 have k1:=k0.word hne kw1 o1
 have HV:=Lib.hid hv;clear hv kw1 o1 k0
 generalize hb1:(false||(numO (ws.headD [])).isNone)=b1 at k1
 have HB1:=Lib.hid hb1;clear hb1
 obtain⟨e0,e1,e2,e3,e4,e5,e6,e7,g0,g1,g2,g3,g4,g5,g6,g7⟩:=k1.cells
 go_wp2_with fail
 refine absC (PlS bt [lv,.bool true,.int .u64 (v:Int),.string ⟨#[]⟩,.int .u64 0,.int .i64 0,.slice none 0 0,.int .i64 n] M B bw ws.tail b1 w) (((((k1.set hbt 2 (.int .u64 (v:Int))).set hbt 3 (.string ⟨#[]⟩)).set hbt 4 (.int .u64 0)).set hbt 5 (.int .i64 0)).set hbt 6 (.slice none 0 0)) ?_
 rintro u2 k2
 clear e0 g0 e1 g1 e2 g2 e3 g3 e4 g4 e5 g5 e6 g6 e7 g7
 clear k1
 rw[wDeny_s]
 refine (is_false M B bw b1 ws.tail wDeny u2 k2.wd Hhd.out).mono ?_
 rintro e w9 ⟨rfl,rfl⟩
 obtain⟨e0,e1,e2,e3,e4,e5,e6,e7,g0,g1,g2,g3,g4,g5,g6,g7⟩:=k2.cells
 go_wp2_with fail
 rw[wAllow_s]
 clear e0 g0
 clear e1 g1
 clear e2 g2
 clear e3 g3
 clear e4 g4
 clear e5 g5
 clear e6 g6
 clear e7 g7
 refine (is_false M B bw b1 ws.tail wAllow u2 k2.wd Hha.out).mono ?_
 rintro e w9 ⟨rfl,rfl⟩
 obtain⟨e0,e1,e2,e3,e4,e5,e6,e7,g0,g1,g2,g3,g4,g5,g6,g7⟩:=k2.cells
 obtain⟨_,A0,n0,c0,kb0,_⟩:=id k2.wd
 have x1:u2.cell? ⟨bw,1,none⟩=some (.bool b1):=kb0.cell 1
 have x2:u2.frozen? ⟨bw,1,none⟩=false:=kb0.frozen 1
 clear kb0
 go_wp2_with fail
 clear x1 x2
 refine absC (PlS bt [lv,.bool true,.int .u64 (v:Int),.string ⟨#[]⟩,.int .u64 0,.int .i64 0,.slice none 0 0,.int .i64 n] M B bw ws.tail true w) (k2.badw hne true) ?_
 rintro u4 k4
 clear e0 g0 e1 g1 e2 g2 e3 g3 e4 g4 e5 g5 e6 g6 e7 g7
 clear k2
 rw[wNs_s]
 refine (is_false M B bw true ws.tail wNs u4 k4.wd Hhn.out).mono ?_
 rintro e w9 ⟨rfl,rfl⟩
 obtain⟨e0,e1,e2,e3,e4,e5,e6,e7,g0,g1,g2,g3,g4,g5,g6,g7⟩:=k4.cells
 go_wp2_with fail
 refine absC (PlS bt [lv,.bool true,.int .u64 (v:Int),.string ⟨#[]⟩,.int .u64 0,.int .i64 0,.slice none 0 0,.int .i64 n] M B bw ws.tail true w) (k4) ?_
 rintro u8 k8
 clear e0 g0 e1 g1 e2 g2 e3 g3 e4 g4 e5 g5 e6 g6 e7 g7
 clear k4
 rw[wService_s]
 refine (is_true M B bw true ws.tail wService u8 k8.wd Hhs.out).mono ?_
 rintro e w9 ⟨rfl,kw,o⟩
 have k9:=k8.word hne kw o
 clear kw o k8
 obtain⟨e0,e1,e2,e3,e4,e5,e6,e7,g0,g1,g2,g3,g4,g5,g6,g7⟩:=k9.cells
 go_wp2_with fail
 refine absC (PlS bt [lv,.bool true,.int .u64 (v:Int),.string ⟨#[]⟩,.int .u64 0,.int .i64 0,.slice none 0 0,.int .i64 n] M B bw ws.tail.tail true w) (k9) ?_
 rintro u10 k10
 clear e0 g0 e1 g1 e2 g2 e3 g3 e4 g4 e5 g5 e6 g6 e7 g7
 clear k9
 refine (number_any M B bw (ws.tail.tail) true u10 (k10.ld HW.out hM hbw.1 hlo hbs) hM (Nat.le_trans hMw k10.off.size) hl2 k10.wd).mono ?_
 rintro e w11 ⟨sv,rfl,hs64,kw1,o1,hsv⟩
 have k11:=k10.word hne kw1 o1
 have HSV:=Lib.hid hsv;clear hsv kw1 o1 k10
 generalize hb4:(true||(numO (ws.tail.tail.headD [])).isNone)=b4 at k11
 have HB4:=Lib.hid hb4;clear hb4
 obtain⟨e0,e1,e2,e3,e4,e5,e6,e7,g0,g1,g2,g3,g4,g5,g6,g7⟩:=k11.cells
 obtain⟨_,A0,n0,c0,kb0,_⟩:=id k11.wd
 have x1:w11.cell? ⟨bw,1,none⟩=some (.bool b4):=kb0.cell 1
 have x2:w11.frozen? ⟨bw,1,none⟩=false:=kb0.frozen 1
 have hne2:¬bw=bt:=fun h=>hne h.symm
 have hne3:¬bt=bw:=hne
 clear kb0
 have HF:∀x:Bool,x=(b4||decide (sv=0))→Hid (PolP bt lv n M B bw ws w (.returned (.tuple #[])) ((w11.setCell ⟨bt,4,none⟩ (.int .u64 (sv:Int))).setCell ⟨bw,1,none⟩ (.bool x))):=fun x hx=>Lib.hid ⟨⟨v,[],sv,0,[]⟩,ws.tail.tail.tail,x,rfl,(k11.set hbt 4 (.int .u64 (sv:Int))).badw hne x,rfl,(pol_rel (b4:=x) HV.out (.inr (.inr ⟨Hhd.out,Hha.out,rfl,rfl,rfl⟩)) (.inr ⟨Hhn.out,rfl,rfl,rfl⟩) (.inl ⟨Hhs.out,HSV.out,rfl,hx.trans (by rw[←HB4.out])⟩)).1,(pol_rel (b4:=x) HV.out (.inr (.inr ⟨Hhd.out,Hha.out,rfl,rfl,rfl⟩)) (.inr ⟨Hhn.out,rfl,rfl,rfl⟩) (.inl ⟨Hhs.out,HSV.out,rfl,hx.trans (by rw[←HB4.out])⟩)).2⟩
 have hz:((sv:Int)==0)=decide (sv=0):=by rw[Bool.eq_iff_iff];simp
 generalize decide (sv=0)=zb at *
 clear k11
 rcases b4 with _|_
 ·go_wp2_with fail
  go_end0
  exact (HF zb (by simp)).out
 go_wp2_with fail
 go_end0
 exact (HF true (by simp)).out
set_option maxRecDepth 100000 in
set_option maxHeartbeats 8000000 in
theorem pol_xot(M B bw bt:Nat)(ws:List (List UInt8))(w:World)(lv:Value)(n:Int)(bg:Bool)(c2 c3 c4 c5 c6 c7:Value)(hp:PlS bt [lv,.bool bg,c2,c3,c4,c5,c6,c7] M B bw ws false w w)(hW:LdW w)(hM:7<M)(hMw:M≤w.heap.size)(hbt:bt<M)(hlo:7<bt)(hl:∀s∈ws,s.length≤1000000)(hd:isW ws.tail wDeny=false)(ha:isW ws.tail wAllow=false)(hn:isW ws.tail wNs=false)(hs:isW ws.tail wService=false) :
  Calls Tryz.prog 56 #[.pointer (some ⟨bt,0,none⟩),.int .i64 n,.pointer (some ⟨bw,0,none⟩)] w fun e w'=>PolP bt lv n M B bw ws w e w':=by
 have hbw:=hp.wd.lt
 have hne:bt≠bw:=by omega
 have hbs:bt≤w.heap.size:=by omega
 have hl2:∀s∈ws.tail.tail,s.length≤1000000:=fun s hs=>hl s (tail_mem 2 hs)
 obtain⟨e0,e1,e2,e3,e4,e5,e6,e7,g0,g1,g2,g3,g4,g5,g6,g7⟩:=hp.cells
 have HP:=Lib.hid hp;clear hp
 have HW:=Lib.hid hW;clear hW
 have Hhd:=Lib.hid hd;clear hd
 have Hha:=Lib.hid ha;clear ha
 have Hhn:=Lib.hid hn;clear hn
 have Hhs:=Lib.hid hs;clear hs
 go_enter Tryz.func56,Tryz.ntmps56
 go_wp2_with fail
 refine absC (PlS bt [lv,.bool true,c2,c3,c4,c5,c6,.int .i64 n] M B bw ws false w) ((HP.out.set hbt 1 (.bool true)).set hbt 7 (.int .i64 n)) ?_
 rintro u0 k0
 clear e0 g0 e1 g1 e2 g2 e3 g3 e4 g4 e5 g5 e6 g6 e7 g7
 refine (number_any M B bw ws false u0 (k0.ld HW.out hM hbw.1 hlo hbs) hM (Nat.le_trans hMw k0.off.size) hl k0.wd).mono ?_
 rintro e w1 ⟨v,rfl,hv64,kw1,o1,hv⟩
 have k1:=k0.word hne kw1 o1
 have HV:=Lib.hid hv;clear hv kw1 o1 k0
 generalize hb1:(false||(numO (ws.headD [])).isNone)=b1 at k1
 have HB1:=Lib.hid hb1;clear hb1
 obtain⟨e0,e1,e2,e3,e4,e5,e6,e7,g0,g1,g2,g3,g4,g5,g6,g7⟩:=k1.cells
 go_wp2_with fail
 refine absC (PlS bt [lv,.bool true,.int .u64 (v:Int),.string ⟨#[]⟩,.int .u64 0,.int .i64 0,.slice none 0 0,.int .i64 n] M B bw ws.tail b1 w) (((((k1.set hbt 2 (.int .u64 (v:Int))).set hbt 3 (.string ⟨#[]⟩)).set hbt 4 (.int .u64 0)).set hbt 5 (.int .i64 0)).set hbt 6 (.slice none 0 0)) ?_
 rintro u2 k2
 clear e0 g0 e1 g1 e2 g2 e3 g3 e4 g4 e5 g5 e6 g6 e7 g7
 clear k1
 rw[wDeny_s]
 refine (is_false M B bw b1 ws.tail wDeny u2 k2.wd Hhd.out).mono ?_
 rintro e w9 ⟨rfl,rfl⟩
 obtain⟨e0,e1,e2,e3,e4,e5,e6,e7,g0,g1,g2,g3,g4,g5,g6,g7⟩:=k2.cells
 go_wp2_with fail
 rw[wAllow_s]
 clear e0 g0
 clear e1 g1
 clear e2 g2
 clear e3 g3
 clear e4 g4
 clear e5 g5
 clear e6 g6
 clear e7 g7
 refine (is_false M B bw b1 ws.tail wAllow u2 k2.wd Hha.out).mono ?_
 rintro e w9 ⟨rfl,rfl⟩
 obtain⟨e0,e1,e2,e3,e4,e5,e6,e7,g0,g1,g2,g3,g4,g5,g6,g7⟩:=k2.cells
 obtain⟨_,A0,n0,c0,kb0,_⟩:=id k2.wd
 have x1:u2.cell? ⟨bw,1,none⟩=some (.bool b1):=kb0.cell 1
 have x2:u2.frozen? ⟨bw,1,none⟩=false:=kb0.frozen 1
 clear kb0
 go_wp2_with fail
 clear x1 x2
 refine absC (PlS bt [lv,.bool true,.int .u64 (v:Int),.string ⟨#[]⟩,.int .u64 0,.int .i64 0,.slice none 0 0,.int .i64 n] M B bw ws.tail true w) (k2.badw hne true) ?_
 rintro u4 k4
 clear e0 g0 e1 g1 e2 g2 e3 g3 e4 g4 e5 g5 e6 g6 e7 g7
 clear k2
 rw[wNs_s]
 refine (is_false M B bw true ws.tail wNs u4 k4.wd Hhn.out).mono ?_
 rintro e w9 ⟨rfl,rfl⟩
 obtain⟨e0,e1,e2,e3,e4,e5,e6,e7,g0,g1,g2,g3,g4,g5,g6,g7⟩:=k4.cells
 go_wp2_with fail
 refine absC (PlS bt [lv,.bool true,.int .u64 (v:Int),.string ⟨#[]⟩,.int .u64 0,.int .i64 0,.slice none 0 0,.int .i64 n] M B bw ws.tail true w) (k4) ?_
 rintro u8 k8
 clear e0 g0 e1 g1 e2 g2 e3 g3 e4 g4 e5 g5 e6 g6 e7 g7
 clear k4
 rw[wService_s]
 refine (is_false M B bw true ws.tail wService u8 k8.wd Hhs.out).mono ?_
 rintro e w9 ⟨rfl,rfl⟩
 obtain⟨e0,e1,e2,e3,e4,e5,e6,e7,g0,g1,g2,g3,g4,g5,g6,g7⟩:=k8.cells
 have HF:Hid (PolP bt lv n M B bw ws w (.returned (.tuple #[])) u8):=Lib.hid ⟨⟨v,[],0,0,[]⟩,ws.tail,true,rfl,k8,rfl,(pol_rel HV.out (.inr (.inr ⟨Hhd.out,Hha.out,rfl,rfl,rfl⟩)) (.inr ⟨Hhn.out,rfl,rfl,rfl⟩) (.inr ⟨Hhs.out,rfl,rfl,rfl⟩)).1,(pol_rel HV.out (.inr (.inr ⟨Hhd.out,Hha.out,rfl,rfl,rfl⟩)) (.inr ⟨Hhn.out,rfl,rfl,rfl⟩) (.inr ⟨Hhs.out,rfl,rfl,rfl⟩)).2⟩
 clear k8
 go_wp2_with fail
 go_end0
 exact HF.out
theorem policy_any(M B bw bt:Nat)(ws:List (List UInt8))(w:World)(lv:Value)(n:Int)(bg:Bool)(c2 c3 c4 c5 c6 c7:Value)(hp:PlS bt [lv,.bool bg,c2,c3,c4,c5,c6,c7] M B bw ws false w w)(hW:LdW w)(hM:7<M)(hMw:M≤w.heap.size)(hbt:bt<M)(hlo:7<bt)(hl:∀s∈ws,s.length≤1000000) :
  Calls Tryz.prog 56 #[.pointer (some ⟨bt,0,none⟩),.int .i64 n,.pointer (some ⟨bw,0,none⟩)] w fun e w'=>PolP bt lv n M B bw ws w e w':=by
 rcases hd:isW ws.tail wDeny with _|_
 ·rcases ha:isW ws.tail wAllow with _|_
  ·rcases hn:isW ws.tail wNs with _|_
   ·rcases hs:isW ws.tail wService with _|_
    ·exact pol_xot M B bw bt ws w lv n bg c2 c3 c4 c5 c6 c7 hp hW hM hMw hbt hlo hl hd ha hn hs
    exact pol_xos M B bw bt ws w lv n bg c2 c3 c4 c5 c6 c7 hp hW hM hMw hbt hlo hl hd ha hn hs
   rcases hs:isW ws.tail.tail.tail wService with _|_
   ·exact pol_xnt M B bw bt ws w lv n bg c2 c3 c4 c5 c6 c7 hp hW hM hMw hbt hlo hl hd ha hn hs
   exact pol_xns M B bw bt ws w lv n bg c2 c3 c4 c5 c6 c7 hp hW hM hMw hbt hlo hl hd ha hn hs
  rcases hn:isW ws.tail.tail wNs with _|_
  ·rcases hs:isW ws.tail.tail wService with _|_
   ·exact pol_aot M B bw bt ws w lv n bg c2 c3 c4 c5 c6 c7 hp hW hM hMw hbt hlo hl hd ha hn hs
   exact pol_aos M B bw bt ws w lv n bg c2 c3 c4 c5 c6 c7 hp hW hM hMw hbt hlo hl hd ha hn hs
  rcases hs:isW ws.tail.tail.tail.tail wService with _|_
  ·exact pol_ant M B bw bt ws w lv n bg c2 c3 c4 c5 c6 c7 hp hW hM hMw hbt hlo hl hd ha hn hs
  exact pol_ans M B bw bt ws w lv n bg c2 c3 c4 c5 c6 c7 hp hW hM hMw hbt hlo hl hd ha hn hs
 rcases hn:isW ws.tail.tail wNs with _|_
 ·rcases hs:isW ws.tail.tail wService with _|_
  ·exact pol_dot M B bw bt ws w lv n bg c2 c3 c4 c5 c6 c7 hp hW hM hMw hbt hlo hl hd hn hs
  exact pol_dos M B bw bt ws w lv n bg c2 c3 c4 c5 c6 c7 hp hW hM hMw hbt hlo hl hd hn hs
 rcases hs:isW ws.tail.tail.tail.tail wService with _|_
 ·exact pol_dnt M B bw bt ws w lv n bg c2 c3 c4 c5 c6 c7 hp hW hM hMw hbt hlo hl hd hn hs
 exact pol_dns M B bw bt ws w lv n bg c2 c3 c4 c5 c6 c7 hp hW hM hMw hbt hlo hl hd hn hs
end Go.Proofs.YtpcdmbajfmnoiaaGreatDoor
