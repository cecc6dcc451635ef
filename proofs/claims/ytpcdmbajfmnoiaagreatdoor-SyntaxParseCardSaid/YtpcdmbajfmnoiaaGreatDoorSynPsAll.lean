/- syntax.Parse: what stands between its rounds; what the lines come to. No condition. syntax.Parse: a line, the end of a policy, between the rounds. Conditions: texts of 65536 bytes at most; the library's variables hold what they should. syntax.Parse. Conditions: the library's variables hold what they should. -/
import Derived.Test.YtpcdmbajfmnoiaaGreatDoorSynLineAll
import Derived.Test.YtpcdmbajfmnoiaaGreatDoorSynIter
import Derived.Test.YtpcdmbajfmnoiaaGreatDoorTxAll
import Derived.Test.YtpcdmbajfmnoiaaGreatDoorSynElAll
import Derived.Scope
namespace Go.Proofs.YtpcdmbajfmnoiaaGreatDoor
set_option linter.unusedVariables false
set_option linter.unusedSimpArgs false
open Go.RowKit
theorem Sub.keepC{K:Nat→Bool}{w w':World}{B:Nat}(h:∀b c t,b<B→K b=true→w.heap[b]?=some (.cells c t (0,0))→w'.heap[b]?=w.heap[b]?):Sub B (keepW K w) (keepW K w'):=fun p hp v hv=>by
 obtain⟨h1,h2,c,t,h3⟩:=keepW_in hv
 have h5:=h p.block c t hp h2 h3
 exact keepW_of ((World.cell?_of_block h5).trans h1) h2 (h5.trans h3)
structure MvC(X:Nat→Bool)(w w':World):Prop where
 size:w.heap.size≤w'.heap.size
 same:∀b c t,w.heap[b]?=some (.cells c t (0,0))→X b=false→w'.heap[b]?=w.heap[b]?
section
variable {K X:Nat→Bool} {w w':World} {lo:Nat}
theorem GrK.onC{α:Type}{k base e:Nat}{P:World→Nat→List Value→α→Prop}{v:Value}{L:List α}(hP:Mn P)(h:GrK K k P w base e v L)(m:MvC X w w')(hk:∀b,K b=true→X b=false)(hs:Sep K X v):GrK K k P w' base e v L:=by
 obtain⟨css,h1,h2,h3,h4⟩:=h
 exact⟨css,h1,ownsRow_move h2 fun b hb=>by obtain⟨cur,hc⟩:=ownsRow_typed h2 hb;exact m.same b _ _ hc (hs b hb).2,h3,fun j hj hc=>hP _ _ _ _ _ _ m.size (Sub.keepC fun b c t hb hkb hcb=>m.same b c t hcb (hk b hkb)) (h4 j hj hc)⟩
theorem RuX.onC{v1 v2 v3:Value}{r:Ru}(h:RuX K X w lo v1 v2 v3 r)(m:MvC X w w')(hk:∀b,K b=true→X b=false):RuX K X w' lo v1 v2 v3 r :=
 ⟨⟨h.1.1.onC SrP.mn m hk h.1.2,h.1.2⟩,⟨h.2.1.1.onC TgP.mn m hk h.2.1.2,h.2.1.2⟩,⟨h.2.2.1.onC WnP.mn m hk h.2.2.2,h.2.2.2⟩⟩
theorem RulesX.onC{v:Value}{R:List Ru}(h:RulesX K X w lo v R)(m:MvC X w w')(hk:∀b,K b=true→X b=false):RulesX K X w' lo v R:=by
 rcases h with h|⟨R0,r,css,v1,v2,v3,h1,h2,h3,h4,h5,h6,h7⟩
 ·exact .inl h
 exact .inr ⟨R0,r,css,v1,v2,v3,h1,h2,ownsRow_move h3 fun b hb=>by obtain⟨cur,hc⟩:=ownsRow_typed h3 hb;exact m.same b _ _ hc (h7 b hb).2,h4,fun j hj hc=>RuP.mn _ _ _ _ _ _ m.size (Sub.keepC fun b c t hb hkb hcb=>m.same b c t hcb (hk b hkb)) (h5 j hj hc),h6.onC m hk,h7⟩
variable {bt:Nat} {bg:Bool} {f:Int} {l:List Po} {lv c2 c3 c4 c5 c6 rv:Value} {p:Po}
theorem Tq.onC(h:Tq K X w lo bt bg f l lv c2 c3 c4 c5 c6)(m:MvC X w w'):Tq K X w' lo bt bg f l lv c2 c3 c4 c5 c6 :=
 ⟨(m.same bt _ _ h.box h.xb).trans h.box,h.lob,h.kb,h.xb,fun b hb=>⟨(h.kk b hb).1,Nat.lt_of_lt_of_le (h.kk b hb).2.1 m.size,(h.kk b hb).2.2⟩,fun b hb=>Nat.lt_of_lt_of_le (h.xx b hb) m.size,h.row.onC PoP.mn m (fun b hb=>(h.kk b hb).2.2) h.sep,h.sep⟩
theorem Tx.onC(h:Tx K X w lo bt bg f l p lv rv)(m:MvC X w w'):Tx K X w' lo bt bg f l p lv rv:=⟨h.q.onC m,h.rules.onC m fun b hb=>(h.q.kk b hb).2.2⟩
end
def TxS(X:Nat→Bool)(W:World)(lo bt:Nat)(st:PS):Prop :=
 match st.cur with
 | none=>∃K lv c2 c3 c4 c5 c6 f,Tq K X W lo bt false f st.l lv c2 c3 c4 c5 c6
 | some (p,n)=>∃K lv rv,Tx K X W lo bt true (n:Int) st.l p lv rv
theorem TxS.onC{X:Nat→Bool}{W W':World}{lo bt:Nat}{st:PS}(h:TxS X W lo bt st)(m:MvC X W W'):TxS X W' lo bt st:=by
 unfold TxS at h ⊢
 rcases hc:st.cur with _|⟨p,n⟩
 ·rw[hc] at h
  obtain⟨K,lv,c2,c3,c4,c5,c6,f,h⟩:=h
  exact⟨K,lv,c2,c3,c4,c5,c6,f,h.onC m⟩
 rw[hc] at h
 obtain⟨K,lv,rv,h⟩:=h
 exact⟨K,lv,rv,h.onC m⟩
theorem numd_at:∀(ps:List (List UInt8)) (k:Nat) (pre r:List (Int×List UInt8)) (n:Int) (x:List UInt8),numd k ps=pre++(n,x)::r →
  pre.map (·.2)=ps.take pre.length∧ps[pre.length]?=some x∧((n=((k+pre.length:Nat):Int)∧pre.length+1<ps.length)∨(n= -((k+pre.length:Nat):Int)∧pre.length+1=ps.length∧x≠[]))
 | [],k,pre,r,n,x,h=>by
  rw[numd] at h
  cases pre<;>cases h
 | y::ps,k,pre,r,n,x,h=>by
  rw[numd] at h
  by_cases h0:ps=[]
  ·rw[if_pos h0] at h
   by_cases hy:y=[]
   ·rw[if_pos hy] at h;cases pre<;>cases h
   rw[if_neg hy] at h
   cases pre with
   | nil =>
    rw[List.nil_append] at h
    injection h with h1 h2
    injection h1 with h1 h3
    subst h3 h1 h0
    exact⟨rfl,rfl,.inr ⟨by simp,rfl,hy⟩⟩
   | cons q pre =>
    rw[List.cons_append] at h
    injection h with _ h2
    cases pre<;>cases h2
  rw[if_neg h0] at h
  cases pre with
  | nil =>
   rw[List.nil_append] at h
   injection h with h1 h2
   injection h1 with h1 h3
   subst h3 h1
   have:0<ps.length:=List.length_pos_iff.2 h0
   exact⟨rfl,rfl,.inl ⟨by simp,by simpa using this⟩⟩
  | cons q pre =>
   rw[List.cons_append] at h
   injection h with h1 h2
   obtain⟨a,b,c⟩:=numd_at ps (k+1) pre r n x h2
   subst h1
   refine⟨by simp[a],by simpa using b,?_⟩
   rcases c with ⟨c1,c2⟩|⟨c1,c2,c3⟩
   ·exact .inl ⟨by rw[c1];simp;omega,by simp;omega⟩
   exact .inr ⟨by rw[c1];simp;omega,by simp;omega,c3⟩
theorem numd_len:∀(ps:List (List UInt8)) (k:Nat),ps≠[]→(numd k ps).length<ps.length→ps.getLast?=some []∧(numd k ps).map (·.2)=ps.dropLast
 | [],k,h,_=>absurd rfl h
 | y::ps,k,_,hl=>by
  rw[numd] at hl ⊢
  by_cases h0:ps=[]
  ·rw[if_pos h0] at hl ⊢
   by_cases hy:y=[]
   ·rw[if_pos hy];subst h0 hy;exact⟨rfl,rfl⟩
   rw[if_neg hy] at hl;subst h0;simp at hl
  rw[if_neg h0] at hl ⊢
  obtain⟨a,b⟩:=numd_len ps (k+1) h0 (by simpa using hl)
  obtain⟨z,zs,rfl⟩:=List.exists_cons_of_ne_nil h0
  exact⟨by rw[List.getLast?_cons_cons];exact a,by rw[List.map_cons,b];rfl⟩
theorem parse_step{s x:List UInt8}{i e:Nat}{st:PS}(hx:(spl 10 s)[i]?=some x)(hi:i+1<(spl 10 s).length)(h1:runP 1 ((spl 10 s).take i) ⟨[],none⟩=.ok st)(h2:stepP (i+1) x st=.error e):parseS s=.error e:=by
 unfold parseS parseL
 have hx':=List.getElem?_eq_some_iff.1 hx
 obtain⟨hl,hx'⟩:=hx'
 have hd:(spl 10 s).dropLast=(spl 10 s).take i++x::((spl 10 s).dropLast).drop (i+1):=by
  rw[←hx',List.dropLast_eq_take]
  have h3:((spl 10 s).take ((spl 10 s).length-1))=((spl 10 s).take ((spl 10 s).length-1)).take i++((spl 10 s).take ((spl 10 s).length-1)).drop i:=(List.take_append_drop _ _).symm
  rw[List.take_take,Nat.min_eq_left (by omega)] at h3
  refine h3.trans ?_
  congr 1
  rw[List.drop_eq_getElem_cons (by rw[List.length_take];omega)]
  congr 1
  simp
 rw[hd,runP_app,h1]
 simp only[List.length_take,Nat.min_eq_left (Nat.le_of_lt hl)]
 rw[runP,Nat.add_comm 1 i,h2]
theorem parse_last{s x:List UInt8}{i:Nat}{st:PS}(hx:(spl 10 s)[i]?=some x)(hi:i+1=(spl 10 s).length)(h0:x≠[])(h1:runP 1 ((spl 10 s).take i) ⟨[],none⟩=.ok st):parseS s=.error (i+1):=by
 unfold parseS parseL
 have hd:(spl 10 s).dropLast=(spl 10 s).take i:=by rw[List.dropLast_eq_take,←hi];rfl
 have hg:(spl 10 s).getLast?=some x:=by rw[List.getLast?_eq_getElem?,←hi];exact hx
 rw[hd,h1]
 simp only
 rw[hg,if_neg (fun h=>h0 (by injection h)),hi]
theorem parse_done{s:List UInt8}{st:PS}(hl:(numd 1 (spl 10 s)).length<(spl 10 s).length)(h1:runP 1 ((numd 1 (spl 10 s)).map (·.2)) ⟨[],none⟩=.ok st):parseS s=finP st:=by
 obtain⟨a,b⟩:=numd_len (spl 10 s) 1 (spl_ne 10 s) hl
 unfold parseS parseL
 rw[b] at h1
 rw[h1]
 simp only
 rw[if_pos a]
theorem run_next{s x:List UInt8}{i:Nat}{st st':PS}(hx:(spl 10 s)[i]?=some x)(h1:runP 1 ((spl 10 s).take i) ⟨[],none⟩=.ok st)(h2:stepP (i+1) x st=.ok st'):runP 1 ((spl 10 s).take (i+1)) ⟨[],none⟩=.ok st':=by
 obtain⟨hl,hx'⟩:=List.getElem?_eq_some_iff.1 hx
 rw[List.take_add_one,hx,Option.toList_some,runP_app,h1]
 simp only[List.length_take,Nat.min_eq_left (Nat.le_of_lt hl)]
 rw[Nat.add_comm 1 i,runP_one,h2]
def XP(z:Nat):Nat→Bool:=fun b=>decide (z<b∧b<z+4)
theorem XP.t{z b:Nat}(h:z<b∧b<z+4):XP z b=true:=by unfold XP;exact decide_eq_true h
theorem XP.f{z b:Nat}(h:¬(z<b∧b<z+4)):XP z b=false:=by unfold XP;exact decide_eq_false h
theorem XP.inv{z b:Nat}(h:XP z b=false):¬(z<b∧b<z+4):=of_decide_eq_false h
structure PsB(z:Nat)(m:Int)(w0 W:World):Prop where
 ptr:Blk W (z+1) 61 [.pointer (some ⟨z,0,none⟩)]
 bad:Blk W (z+2) 3 [.int .i64 m]
 low:Below z w0 W
 size:z+4≤W.heap.size
structure PsI(z:Nat)(s:List UInt8)(w0:World)(pre:List (Int×List UInt8))(W:World):Prop where
 b:PsB z 0 w0 W
 st:∃st,runP 1 ((spl 10 s).take pre.length) ⟨[],none⟩=.ok st∧TxS (XP z) W z z st∧okPS pre.length st
 len:pre.length<(spl 10 s).length
def PsX(z:Nat)(s:List UInt8)(w0:World)(c:Code)(pre:List (Int×List UInt8))(W:World):Prop:=c=.exit 0∧∃m,1≤m∧parseS s=.error m∧PsB z (m:Int) w0 W
section
variable {z:Nat} {s:List UInt8} {w0 W W':World} {pre:List (Int×List UInt8)} {m:Int}
theorem PsB.grown(h:PsB z m w0 W)(hz:w0.heap.size=z){row:Option Nat}(hg:W.grownBy W' row)(hr:∀r,row=some r→z+3≤r):PsB z m w0 W' :=
 ⟨(hg.block _ h.ptr.lt fun e=>by have:=hr _ e.symm;omega).trans h.ptr,(hg.block _ h.bad.lt fun e=>by have:=hr _ e.symm;omega).trans h.bad,⟨hg.os.trans h.low.os,hg.tape.trans h.low.tape,hg.output.trans h.low.output,Nat.le_trans h.low.size hg.size,fun k hk=>(hg.block k (by have:=h.size;omega) fun e=>by have:=hr _ e.symm;omega).trans (h.low.block k hk)⟩,Nat.le_trans h.size hg.size⟩
theorem grown_mvC{row:Option Nat}{X:Nat→Bool}(hg:W.grownBy W' row)(hr:∀r,row=some r→(∃o:Obj,W.heap[r]?=some o∧o.isCells=false)∨X r=true):MvC X W W' :=
 ⟨hg.size,fun b c t hb hx=>hg.block b (Array.getElem?_eq_some_iff.1 hb).1 fun e=>by
  rcases hr b e.symm with ⟨o,h1,h2⟩|h
  ·rw[hb] at h1;injection h1 with h1;subst h1;cases h2
  rw[hx] at h;cases h⟩
theorem PsI.own(hz:w0.heap.size=z):OwnFrom (z+4) (PsI z s w0):=by
 intro k A B row h hg hr
 obtain⟨st,h1,h2,h3⟩:=h.st
 exact⟨h.b.grown hz hg fun r e=>by have:=(hr r e).1;omega,⟨st,h1,h2.onC (grown_mvC hg fun r e=>.inl (hr r e).2),h3⟩,h.len⟩
theorem PsX.own(hz:w0.heap.size=z)(c:Code):OwnFrom (z+4) (PsX z s w0 c):=by
 intro k A B row h hg hr
 obtain⟨h1,m,h2,h3,h4⟩:=h
 exact⟨h1,m,h2,h3,h4.grown hz hg fun r e=>by have:=(hr r e).1;omega⟩
theorem PsI.blind(hz:w0.heap.size=z):Blind (z+3) (PsI z s w0):=by
 intro k A v h
 obtain⟨st,h1,h2,h3⟩:=h.st
 have hg:A.grownBy (A.setCell ⟨z+3,0,none⟩ v) (some (z+3)):=grownBy_setCell' A (z+3) v
 exact⟨h.b.grown hz hg fun r e=>by injection e with e;omega,⟨st,h1,h2.onC (grown_mvC hg fun r e=>.inr (by injection e with e;exact XP.t (by omega))),h3⟩,h.len⟩
theorem PsB.fr(h:PsB z m w0 W)(hz:w0.heap.size=z)(hf:FrT (XP z) z W W'):PsB z m w0 W' :=
 have hs:=h.size
 ⟨(hf.xs (z+1) h.ptr.lt (XP.t (by omega))).trans h.ptr,(hf.xs (z+2) h.bad.lt (XP.t (by omega))).trans h.bad,h.low.trans (hf.below (by omega)),Nat.le_trans h.size hf.size⟩
theorem PsB.set(h:PsB z m w0 W)(hz:w0.heap.size=z)(m':Int):PsB z m' w0 (W.setCell ⟨z+2,0,none⟩ (.int .i64 m')):=by
 have hs:=h.size
 refine⟨h.ptr.far (p:=⟨z+2,0,none⟩) (by simp only;omega) _,h.bad.set 0 _,?_,by simpa [World.setCell] using hs⟩
 exact⟨h.low.os,h.low.tape,h.low.output,by simpa [World.setCell] using h.low.size,fun k hk=>(Below.heap_setCell W ⟨z+2,0,none⟩ _ k (by simp only;omega)).trans (h.low.block k hk)⟩
end
section
variable {z:Nat} {s x:List UInt8} {w0 W:World} {pre:List (Int×List UInt8)}
def LnP(z:Nat)(s:List UInt8)(w0:World)(pre:List (Int×List UInt8))(q:Int×List UInt8)(n:Nat)(W:World)(e:Ending)(W':World):Prop :=
 ∃ok,e=.returned (.bool ok)∧PsB z 0 w0 W'∧FrT (XP z) z W W'∧(ok=true→PsI z s w0 (pre++[q]) W')∧(ok=false→1≤n∧parseS s=.error n)
def EnP(z:Nat)(s:List UInt8)(w0:World)(st:PS)(W:World)(e:Ending)(W1:World):Prop :=
 PsB z 0 w0 W1∧FrT (XP z) z W W1∧((e=.returned (.bool true)∧∃L,finP st=.ok L∧∃K bg f lv c2 c3 c4 c5 c6,Tq K (XP z) W1 z z bg f L lv c2 c3 c4 c5 c6)∨(e=.returned (.bool false)∧∃f,1≤f∧finP st=.error f∧W1.cell? ⟨z,7,none⟩=some (.int .i64 (f:Int))))
theorem PsI.ld(h:PsI z s w0 pre W)(hW:LdW w0)(hz:w0.heap.size=z):LdW W:=hW.below (by rw[←hz];exact hW.lt) h.b.low
theorem ended_any(h:PsB z 0 w0 W)(hz:w0.heap.size=z){st:PS}(ht:TxS (XP z) W z z st){i:Nat}(ho:okPS i st)(hi:i≤800000) :
  Calls Tryz.prog 27 #[.pointer (some ⟨z,0,none⟩)] W fun e W1=>EnP z s w0 st W e W1:=by
 unfold TxS at ht
 rcases hc:st.cur with _|⟨p,n⟩
 ·rw[hc] at ht
  obtain⟨K,lv,c2,c3,c4,c5,c6,f,ht⟩:=ht
  refine (ended_none K (XP z) W z z f st.l lv c2 c3 c4 c5 c6 ht).mono ?_
  rintro e W1 ⟨rfl,rfl⟩
  exact⟨h,FrT.refl _ _ _,.inl ⟨rfl,st.l,by unfold finP;rw[hc],K,_,_,_,_,_,_,_,_,ht⟩⟩
 rw[hc] at ht
 obtain⟨K,lv,rv,ht⟩:=ht
 obtain⟨hp,h1,h2⟩:=ho.cur p n hc
 have hl:=ho.len
 refine (ended_some K (XP z) W z z (n:Int) st.l p lv rv ht (by have:=h.size;omega) (hp.ok (by omega)) (by omega)).mono ?_
 rintro e W1 ⟨K',lv',rfl,hq,hf⟩
 refine⟨h.fr hz hf,hf,?_⟩
 cases hm:poMay p with
 | true=>exact .inl ⟨rfl,st.l++[p],by unfold finP;rw[hc];simp only;rw[if_pos hm],K',_,_,_,_,_,_,_,_,hq⟩
 | false=>exact .inr ⟨rfl,n,h1,by unfold finP;rw[hc];simp only;rw[if_neg (by rw[hm];decide)],hq.box.cell 7⟩
theorem PsI.next(h:PsI z s w0 pre W){W':World}{st st':PS}{n:Int}(hb:PsB z 0 w0 W')(hx:(spl 10 s)[pre.length]?=some x)(hi:pre.length+1<(spl 10 s).length)(h1:runP 1 ((spl 10 s).take pre.length) ⟨[],none⟩=.ok st)(h2:stepP (pre.length+1) x st=.ok st')(hs:s.length≤65536)(hok:okPS pre.length st)(ht:TxS (XP z) W' z z st'):PsI z s w0 (pre++[(n,x)]) W':=by
 have hxl:x.length≤65536:=Nat.le_trans (spl_mem_len 10 s x (List.mem_of_getElem? hx)) hs
 refine⟨hb,⟨st',?_,ht,?_⟩,by simpa using hi⟩
 ·rw[List.length_append,List.length_singleton]
  exact run_next hx h1 h2
 rw[List.length_append,List.length_singleton]
 exact stepP_ok (by omega) hxl hok h2
theorem line_any(h:PsI z s w0 pre W)(hW:LdW w0)(hz:w0.heap.size=z)(hs:s.length≤65536)(hx:(spl 10 s)[pre.length]?=some x)(hi:pre.length+1<(spl 10 s).length)(hb:begP x=false) :
  Calls Tryz.prog 28 #[.pointer (some ⟨z,0,none⟩),.int .i64 ((1+pre.length:Nat):Int),.string (strB x)] W fun e W'=>LnP z s w0 pre (((1+pre.length:Nat):Int),x) (1+pre.length) W e W':=by
 have hxl:x.length≤65536:=Nat.le_trans (spl_mem_len 10 s x (List.mem_of_getElem? hx)) hs
 have hld:=h.ld hW hz
 have hsz:=h.b.size
 have hg:7<z:=by rw[←hz];exact hW.lt
 have hpl:=spl_len 10 s
 obtain⟨st,h1,ht,hok⟩:=h.st
 have ht0:=ht
 unfold TxS at ht
 rcases hc:st.cur with _|⟨p,n⟩
 ·rw[hc] at ht
  obtain⟨K,lv,c2,c3,c4,c5,c6,f,ht⟩:=ht
  refine (line_none ht hld (by omega) hg (by omega) hb).mono ?_
  rintro e W' ⟨rfl,hf⟩
  refine⟨false,rfl,h.b.fr hz hf,hf,(fun h=>by cases h),fun _=>⟨by omega,?_⟩⟩
  rw[Nat.add_comm]
  exact parse_step hx hi h1 (by unfold stepP;rw[hb,hc];rfl)
 rw[hc] at ht
 obtain⟨K,lv,rv,ht⟩:=ht
 obtain⟨hp,h5,h6⟩:=hok.cur p n hc
 refine (line_cont ht hld (by omega) hg (by omega) hb (hp.mono (by omega))).mono ?_
 rintro e W' ⟨ok,rfl,hok',hf,hn⟩
 refine⟨ok,rfl,h.b.fr hz hf,hf,fun ho=>?_,fun ho=>⟨by omega,?_⟩⟩
 ·rw[ho] at hok'
  cases hcp:contO x p with
  | none=>rw[hcp] at hok';cases hok'
  | some p' =>
   obtain⟨K',rv',hk⟩:=hn p' hcp
   exact h.next (h.b.fr hz hf) hx hi h1 (st':=⟨st.l,some (p',n)⟩) (by unfold stepP;rw[hb,hc];simp only;rw[hcp];rfl) hs hok ⟨K',lv,rv',hk⟩
 rw[ho] at hok'
 rw[Nat.add_comm]
 refine parse_step hx hi h1 ?_
 cases hcp:contO x p with
 | none=>unfold stepP;rw[hb,hc];simp only;rw[hcp];rfl
 | some p'=>rw[hcp] at hok';cases hok'
theorem line_pol_any(h:PsI z s w0 pre W)(hW:LdW w0)(hz:w0.heap.size=z)(hs:s.length≤65536)(hx:(spl 10 s)[pre.length]?=some x)(hi:pre.length+1<(spl 10 s).length)(hb:begP x=true){st:PS}(h1:runP 1 ((spl 10 s).take pre.length) ⟨[],none⟩=.ok st)(hok:okPS pre.length st)
  {W1:World} {L:List Po} (hfin:finP st=.ok L) (hb1:PsB z 0 w0 W1) {K:Nat→Bool} {bg:Bool} {f:Int} {lv c2 c3 c4 c5 c6:Value} (hq:Tq K (XP z) W1 z z bg f L lv c2 c3 c4 c5 c6) :
  Calls Tryz.prog 28 #[.pointer (some ⟨z,0,none⟩),.int .i64 ((1+pre.length:Nat):Int),.string (strB x)] W1 fun e W'=>LnP z s w0 pre (((1+pre.length:Nat):Int),x) (1+pre.length) W1 e W':=by
 have hxl:x.length≤65536:=Nat.le_trans (spl_mem_len 10 s x (List.mem_of_getElem? hx)) hs
 have hg:7<z:=by rw[←hz];exact hW.lt
 have hld:LdW W1:=hW.below (by rw[←hz];exact hW.lt) hb1.low
 have hsz:=hb1.size
 obtain⟨q1,q2,q3⟩:=begP_is hb
 refine (line_policy hq hld (by omega) hg (by omega) q2 q3 q1).mono ?_
 rintro e W' ⟨ok,rfl,hok',hf,hn⟩
 refine⟨ok,rfl,hb1.fr hz hf,hf,fun ho=>?_,fun ho=>⟨by omega,?_⟩⟩
 ·rw[ho] at hok'
  cases hcp:policyO (spl 32 x).tail with
  | none=>rw[hcp] at hok';cases hok'
  | some p' =>
   obtain⟨K',hk⟩:=hn p' hcp
   exact h.next (hb1.fr hz hf) hx hi h1 (st':=⟨L,some (p',pre.length+1)⟩) (by unfold stepP;rw[if_pos hb,hfin];simp only;rw[hcp]) hs hok ⟨K',lv,_,by rw[Nat.add_comm] at hk;exact hk⟩
 rw[ho] at hok'
 rw[Nat.add_comm]
 refine parse_step hx hi h1 ?_
 cases hcp:policyO (spl 32 x).tail with
 | none=>unfold stepP;rw[if_pos hb,hfin];simp only;rw[hcp]
 | some p'=>rw[hcp] at hok';cases hok'
theorem ended_step{f:Nat}{st:PS}(hx:(spl 10 s)[pre.length]?=some x)(hi:pre.length+1<(spl 10 s).length)(hb:begP x=true)(h1:runP 1 ((spl 10 s).take pre.length) ⟨[],none⟩=.ok st)(hf:finP st=.error f):parseS s=.error f :=
 parse_step hx hi h1 (by unfold stepP;rw[if_pos hb,hf])
theorem keeps_bad(W:World)(v:Value):KeepsFrom (z+4) W (W.setCell ⟨z+2,0,none⟩ v) :=
 ⟨by simp[World.setCell],fun k o hk ho _=>(Below.heap_setCell W ⟨z+2,0,none⟩ v k (by simp only;omega)).trans ho⟩
theorem fr_z3(h:PsB z 0 w0 W){W':World}(hf:FrT (XP z) z W W'):W'.heap[z+3]?=W.heap[z+3]?:=hf.xs (z+3) (by have:=h.size;omega) (XP.t (by omega))
end
attribute [local go_sem] Oper.semAt_some
theorem wpIn_scope{n:Nat}{P:Program}{c:Code}{Q:Exit→Act→World→Prop}{a:Act}{w:World}(h:c.wpIn Fence.wide n P (Exit.noGoto Q) a w):(Code.scope c).wpIn Fence.wide n P Q a w:=wpIn_wide.2 (wp_scope_straight (wpIn_wide.1 h))
def onlyN(Q:Exit→Act→World→Prop):Exit→Act→World→Prop
 | .normal,a,w=>Q .normal a w
 | _,_,_=>False
theorem wpIn_onlyN{n:Nat}{P:Program}{c:Code}{Q:Exit→Act→World→Prop}{a:Act}{w:World}(h:c.wp P (onlyN Q) a w):c.wpIn Fence.wide n P Q a w :=
 wpIn_mono (wpIn_wide.2 h) fun e a w h=>by
  cases e with
  | normal=>exact h
  | _=>exact h.elim
theorem lines_any(s:ByteArray)(w:World):Calls Tryz.prog 25 #[.string s] w fun e w'=>e=.returned (.func (.func 49) #[] #[.pointer (some ⟨w.heap.size,0,none⟩)])∧w'=w.alloc (.cells #[.string s] 9):=by
 go_enter Tryz.func25,Tryz.ntmps25
 go_wp2_with fail
 go_ret
 exact⟨rfl,rfl⟩
theorem hp_any(s p:List UInt8)(w:World):Calls Tryz.prog 26 #[.string (strB s),.string (strB p)] w fun e w'=>e=.returned (.bool (p.isPrefixOf s))∧w=w':=by
 refine (strings_HasPrefix (strB s) (strB p) w).mono ?_
 rintro e w' ⟨rfl,rfl⟩
 exact⟨rfl,rfl⟩
theorem wPol7_s:(⟨#[112,111,108,105,99,121,32]⟩:ByteArray)=strB wPol7:=rfl
set_option maxRecDepth 100000 in
set_option maxHeartbeats 4000000 in
theorem psParse_long(s:List UInt8)(w:World)(hs:65536<s.length):Calls Tryz.prog 13 #[.string (strB s)] w fun e w'=>e=.returned (.tuple #[.slice none 0 0,.int .i64 0,.int .i64 6])∧Below w.heap.size w w':=by
 have hq:((65536:Int)<((strB s).size:Int)):=by rw[strB_size];omega
 refine (callsIn_wide (n:=9)).1 ?_
 refine callsIn_of_wp_marks Tryz.func13 rfl trivial ?_ rfl
 simp only[Tryz.ntmps13,List.size_toArray,List.length_cons,List.length_nil,Nat.reduceAdd,Nat.reduceSub,Array.replicate_succ,Array.replicate_zero,List.push_toArray,List.append_toArray,List.nil_append,List.cons_append]
 gi_wp2
 refine wpIn_scope ?_
 gi_wp2
 dsimp only[Exit.noGoto]
 exact⟨_,(by simp[results,Tryz.results13,go_sem]),rfl,Below.refl _ w⟩
section
variable {z:Nat} {s:List UInt8} {w0 W Wb:World} {pre:List (Int×List UInt8)} {a:Act}
theorem close_bad(hz:w0.heap.size=z)(hb:PsB z 0 w0 Wb)(hk:KeepsFrom (z+4) W Wb){m:Nat}{n:Int}(hn:n=m)(h1:1≤m)(h2:parseS s=.error m){B:Nat}(hB:B=z+4):ownPostG B (fun A B=>B.heap[z+3]?=A.heap[z+3]?) (PsI z s w0) (PsX z s w0) pre W (.exit 0) a (Wb.setCell ⟨z+2,0,none⟩ (.int .i64 n)):=by
 subst hB hn
 exact⟨hk.trans (keeps_bad Wb _),rfl,m,h1,h2,hb.set hz _⟩
theorem close_ok(hb0:PsB z 0 w0 W)(hf:FrT (XP z) z W Wb)(hi:PsI z s w0 pre Wb){B:Nat}(hB:B=z+4):ownPostG B (fun A B=>B.heap[z+3]?=A.heap[z+3]?) (PsI z s w0) (PsX z s w0) pre W .normal a Wb:=by
 subst hB
 exact⟨hf.keeps _,fr_z3 hb0 hf,hi⟩
end
theorem parse_done'{s:List UInt8}{st:PS}(hl:(numd 1 (spl 10 s)).length<(spl 10 s).length)(h1:runP 1 ((spl 10 s).take (numd 1 (spl 10 s)).length) ⟨[],none⟩=.ok st):parseS s=finP st:=by
 refine parse_done hl ?_
 obtain⟨_,b⟩:=numd_len (spl 10 s) 1 (spl_ne 10 s) hl
 have hb:=congrArg List.length b
 rw[List.length_map,List.length_dropLast] at hb
 rw[b,List.dropLast_eq_take,←hb]
 exact h1
def PsS(z:Nat)(m:Int)(u:World):Prop:=u.cell? ⟨z+2,0,none⟩=some (.int .i64 m)∧True
theorem putObj_below{z:Nat}{w W:World}(h:Below z w W)(D:Nat)(hD:z≤D)(o:Obj):Below z w (W.putObj D o):=by
 have hg:=grownBy_putObj' W D o
 exact⟨hg.os.trans h.os,hg.tape.trans h.tape,hg.output.trans h.output,Nat.le_trans h.size hg.size,fun k hk=>(World.putObj_heap_other (by omega)).trans (h.block k hk)⟩
def PsP(s:List UInt8)(w:World)(e:Ending)(w':World):Prop :=
 Below w.heap.size w w'∧((∃L v,parseS s=.ok L∧e=.returned (.tuple #[v,.int .i64 0,.int .i64 0])∧∃K,GrK K 5 PoP w' w.heap.size 39 v L)∨∃m:Nat,1≤m∧parseS s=.error m∧e=.returned (.tuple #[.slice none 0 0,.int .i64 (m:Int),.int .i64 2]))
set_option maxRecDepth 100000 in
set_option maxHeartbeats 16000000 in
theorem psParse_any(s:List UInt8)(w:World)(hW:LdW w)(hs:s.length≤65536):Calls Tryz.prog 13 #[.string (strB s)] w fun e w'=>PsP s w e w':=by
 have hq:¬((65536:Int)<((strB s).size:Int)):=by rw[strB_size];omega
 refine (callsIn_wide (n:=9)).1 ?_
 refine callsIn_of_wp_marks Tryz.func13 rfl trivial ?_ rfl
 simp only[Tryz.ntmps13,List.size_toArray,List.length_cons,List.length_nil,Nat.reduceAdd,Nat.reduceSub,Array.replicate_succ,Array.replicate_zero,List.push_toArray,List.append_toArray,List.nil_append,List.cons_append]
 gi_wp2
 refine wpIn_scope ?_
 gi_wp2
 refine wpIn_label ?_
 dsimp only[Exit.then]
 gi_wp2_with (refine⟨trivial,?_⟩;gi_at_call 25;refine (callsIn_wide.2 (lines_any _ _)).mono ?_;rintro e w2 ⟨rfl,rfl⟩)
 obtain⟨z,hz⟩:∃z,w.heap.size=z:=⟨_,rfl⟩
 obtain⟨W0,hW0⟩:∃W0,(((w.alloc (.cells #[.slice none 0 0,.bool false,.int .u64 0,.string ⟨#[]⟩,.int .u64 0,.int .i64 0,.slice none 0 0,.int .i64 0] 63)).alloc (.cells #[.pointer (some ⟨w.heap.size,0,none⟩)] 61)).alloc (.cells #[.int .i64 0] 3)).alloc (.cells #[.string (strB s)] 9)=W0:=⟨_,rfl⟩
 have hsz:W0.heap.size=z+4:=by rw[←hW0,←hz];simp
 have b0:Blk W0 z 63 [.slice none 0 0,.bool false,.int .u64 0,.string ⟨#[]⟩,.int .u64 0,.int .i64 0,.slice none 0 0,.int .i64 0]:=by rw[←hW0];exact (((Blk.newAt hz _ #[.slice none 0 0,.bool false,.int .u64 0,.string ⟨#[]⟩,.int .u64 0,.int .i64 0,.slice none 0 0,.int .i64 0]).alloc _).alloc _).alloc _
 have b1:Blk W0 (z+1) 61 [.pointer (some ⟨z,0,none⟩)]:=by rw[←hW0,hz];exact ((Blk.newAt (by simp[hz]) _ #[.pointer (some ⟨z,0,none⟩)]).alloc _).alloc _
 have b2:Blk W0 (z+2) 3 [.int .i64 0]:=by rw[←hW0,hz];exact (Blk.newAt (by simp[hz]) _ #[.int .i64 0]).alloc _
 have b3:Blk W0 (z+3) 9 [.string (strB s)]:=by rw[←hW0,hz];exact Blk.newAt (by simp[hz]) _ #[.string (strB s)]
 have hlow:Below z w W0:=by rw[←hW0,←hz];exact ((((Below.refl _ w).alloc (Nat.le_refl _) _).alloc (by simp) _).alloc (by simp;omega) _).alloc (by simp;omega) _
 have hI0:PsI z s w [] W0:=⟨⟨b1,b2,hlow,by omega⟩,⟨⟨[],none⟩,rfl,⟨fun _=>false,.slice none 0 0,.int .u64 0,.string ⟨#[]⟩,.int .u64 0,.int .i64 0,.slice none 0 0,0,b0,Nat.le_refl _,rfl,XP.f (by omega),(fun b h=>by cases h),(fun b h=>by have:=of_decide_eq_true (show decide (z<b∧b<z+4)=true from h);omega),GrK.nil,(fun b h=>by cases h)⟩,okPS0⟩,List.length_pos_iff.2 (spl_ne 10 s)⟩
 rw[hW0]
 have HW:=Lib.hid hW;have HZ:=Lib.hid hz;have HSZ:=Lib.hid hsz;have HI0:=Lib.hid hI0
 have e1:w.heap.size+1=z+1:=by rw[hz]
 have e2:w.heap.size+1+1=z+2:=by rw[hz]
 have e3:w.heap.size+1+1+1=z+3:=by rw[hz]
 first|rw[e3]|skip
 first|rw[e2]|skip
 first|rw[e1]|skip
 first|rw[hz]|skip
 clear e1 e2 e3 hW0 b0 b1 b2 hlow hI0 hW hq
 refine wpIn_box (hro:=rfl) (h1:=by omega) (gf:=49) (lb:=#[.pointer (some ⟨z+3,0,none⟩)]) rfl trivial (enters_of Tryz.func49 (by kernel_rfl) rfl)
  (lines_box (9-1) (by omega) s (z+3) W0 (by omega) b3) (by rw[hsz];omega) (fun _=>rfl)
  (PsI z s w) (PsX z s w) ?own (fun c=>?ownx) (PsI.blind hz) (fun pre W h=>h.ld HW.out hz) HI0.out
  (fun q=>{ tmps:=#[.string (strB s),undef,.slice none 0 0,.int .i64 0,.int .i64 0,.pointer (some ⟨z+1,0,none⟩),.pointer (some ⟨z+2,0,none⟩),.int .i64 q.1,.string (strB q.2),undef,.string (strB s),.int .i64 ((strB s).size:Int),.bool (decide ((65536:Int)<((strB s).size:Int))),.agg #[.slice none 0 0,.bool false,.int .u64 0,.string ⟨#[]⟩,.int .u64 0,.int .i64 0,.slice none 0 0,.int .i64 0],.pointer (some ⟨z,0,none⟩),.string (strB s),.func (.func 49) #[] #[.pointer (some ⟨z+3,0,none⟩)],.int .i64 q.1,.string (strB q.2),undef,undef,undef,undef,undef,undef,undef,undef,undef,undef,undef,undef,undef,undef,undef,undef,undef,undef,undef,undef,undef,undef,undef,undef,undef,undef,undef,undef,undef,undef,undef,undef,undef,undef,undef,undef,undef,undef,undef,undef,undef,undef,undef,undef,undef,undef,undef,undef,undef],defers:=[] }) ?assign ?body ?done ?stop
 case own =>
  rw[HSZ.out]
  exact PsI.own HZ.out
 case ownx =>
  rw[HSZ.out]
  exact PsX.own HZ.out c
 case assign =>
  intro l x W K hK
  unfold encLn
  gi_wp2
  exact hK
 case body =>
  intro l pre q W hl hI hx
  obtain⟨n,x⟩:=q
  obtain⟨r,hr⟩:=hx
  obtain⟨_,hxe,hcase⟩:=numd_at (spl 10 s) 1 pre r n x hr
  have hpl:=spl_len 10 s
  have c1:=hI.b.ptr.cell 0
  have c2:=hI.b.bad.cell 0
  have f2:=hI.b.bad.frozen 0
  have hh:=hp_any x wPol7 W
  have HI:=Lib.hid hI
  have hn1:1≤9-1-1:=by omega
  clear hI hr
  rcases hcase with ⟨hn,hi⟩|⟨hn,hi,hne⟩
  ·have hlt:¬n<0:=by omega
   have hgt:0<n:=by omega
   have hmx:max n (-n)=n:=by omega
   have hwn:IntKind.i64.wrap (-n)= -n:=IntWalk.i64_in _ (by omega)
   rcases hb:begP x with _|_
   ·have hln:=line_any HI.out HW.out HZ.out hs hxe hi hb
    rw[←hn] at hln
    rw[show wPol7.isPrefixOf x=false from hb] at hh
    rw[wPol7_s]
    have HN:=Lib.hid hn
    clear hn hb hxe
    gi_wp2_with (first
     | (refine⟨trivial,?_⟩;gi_at_call 26;refine (CallsIn.inRound l (callsIn_wide.2 hh)).mono ?_;rintro e Wa ⟨rfl,rfl⟩)
     | (refine⟨trivial,?_⟩;gi_at_call 28;refine (CallsIn.inRound l (callsIn_wide.2 hln)).mono ?_;rintro e Wb ⟨ok,rfl,hb1,hf,h1,h2⟩;have HL:=Lib.hid (show PsB z 0 w Wb∧FrT (XP z) z W Wb∧(ok=true→PsI z s w (pre++[(n,x)]) Wb)∧(ok=false→1≤1+pre.length∧parseS s=.error (1+pre.length)) from ⟨hb1,hf,h1,h2⟩);have d2:=hb1.bad.cell 0;have g2:=hb1.bad.frozen 0;clear hb1 hf h1 h2)
     | (refine⟨trivial,?_⟩;skip))
    ·rename_i hor
     have hok:ok=false:=by
      rcases hor with h|h
      ·omega
      simpa using h
     exact close_bad HZ.out HL.out.1 (HL.out.2.1.keeps _) HN.out (HL.out.2.2.2 hok).1 (HL.out.2.2.2 hok).2 HSZ.out
    rename_i hor
    have hok:ok=true:=by
     cases ok with
     | true=>rfl
     | false=>simp at hor
    exact close_ok HI.out.b HL.out.2.1 (HL.out.2.2.1 hok) HSZ.out
   obtain⟨st,hrun,hts,hokp⟩:=HI.out.st
   have hen:=ended_any HI.out.b HZ.out (s:=s) hts hokp (by omega)
   rw[show wPol7.isPrefixOf x=true from hb] at hh
   rw[wPol7_s]
   have HN:=Lib.hid hn;have HB:=Lib.hid hb;have HXE:=Lib.hid hxe;have HRUN:=Lib.hid hrun;have HOKP:=Lib.hid hokp
   clear hn hb hxe hrun hts hokp
   gi_wp2_with (first
    | (refine⟨trivial,?_⟩;gi_at_call 26;refine (CallsIn.inRound l (callsIn_wide.2 hh)).mono ?_;rintro e Wa ⟨rfl,rfl⟩)
    | fail)
   refine⟨trivial,?_⟩;gi_at_call 27
   refine (CallsIn.inRound l (callsIn_wide.2 hen)).mono ?_
   rintro e W1 ⟨hb1,hf1,(⟨rfl,L,hL,K,bg,f,lv,d3,d4,d5,d6,d7,hq1⟩|⟨rfl,f,hf,hfe,hcell⟩)⟩
   ·have hln:=line_pol_any HI.out HW.out HZ.out hs HXE.out hi HB.out HRUN.out HOKP.out hL hb1 hq1
    rw[←HN.out] at hln
    have c1':=hb1.ptr.cell 0
    have HF1:=Lib.hid hf1
    clear hb1 hf1 hL hq1
    gi_wp2_with (first
     | (refine⟨trivial,?_⟩;gi_at_call 28;refine (CallsIn.inRound l (callsIn_wide.2 hln)).mono ?_;rintro e Wb ⟨ok,rfl,hb1,hf,h1,h2⟩;have HL:=Lib.hid (show PsB z 0 w Wb∧FrT (XP z) z W1 Wb∧(ok=true→PsI z s w (pre++[(n,x)]) Wb)∧(ok=false→1≤1+pre.length∧parseS s=.error (1+pre.length)) from ⟨hb1,hf,h1,h2⟩);have d2:=hb1.bad.cell 0;have g2:=hb1.bad.frozen 0;clear hb1 hf h1 h2)
     | (refine⟨trivial,?_⟩;skip))
    ·rename_i hor
     have hok:ok=false:=by
      rcases hor with h|h
      ·omega
      simpa using h
     exact close_bad HZ.out HL.out.1 ((HF1.out.keeps _).trans (HL.out.2.1.keeps _)) HN.out (HL.out.2.2.2 hok).1 (HL.out.2.2.2 hok).2 HSZ.out
    rename_i hor
    have hok:ok=true:=by
     cases ok with
     | true=>rfl
     | false=>simp at hor
    exact close_ok HI.out.b (HF1.out.trans HL.out.2.1) (HL.out.2.2.1 hok) HSZ.out
   have c1':=hb1.ptr.cell 0
   have d2:=hb1.bad.cell 0
   have g2:=hb1.bad.frozen 0
   have HL2:=Lib.hid (show PsB z 0 w W1∧FrT (XP z) z W W1∧1≤f∧finP st=.error f from ⟨hb1,hf1,hf,hfe⟩)
   clear hb1 hf1 hf hfe
   gi_wp2_with (refine⟨trivial,?_⟩;skip)
   exact close_bad HZ.out HL2.out.1 (HL2.out.2.1.keeps _) rfl HL2.out.2.2.1 (ended_step HXE.out hi HB.out HRUN.out HL2.out.2.2.2) HSZ.out
  have hlt:n<0:=by omega
  have hgt:¬0<n:=by omega
  have hmx:max n (-n)= -n:=by omega
  have hwn:IntKind.i64.wrap (-n)= -n:=IntWalk.i64_in _ (by omega)
  have HN:=Lib.hid hn;have HXE:=Lib.hid hxe;have HNE:=Lib.hid hne
  rw[wPol7_s]
  clear hn hxe hne
  obtain⟨bg,hbg⟩:∃b,wPol7.isPrefixOf x=b:=⟨_,rfl⟩
  rw[hbg] at hh
  clear hbg
  gi_wp2_with (first
    | (refine⟨trivial,?_⟩;gi_at_call 26;refine (CallsIn.inRound l (callsIn_wide.2 hh)).mono ?_;rintro e Wa ⟨rfl,rfl⟩)
    | (refine⟨trivial,?_⟩;skip))
  obtain⟨st,hrun,_,_⟩:=HI.out.st
  exact close_bad (m:=pre.length+1) HZ.out HI.out.b (KeepsFrom.refl _ _) (by rw[HN.out];omega) (by omega) (parse_last HXE.out hi HNE.out hrun) rfl
 case done =>
  intro D W hD hI hK
  obtain⟨st,hrun,hts,hokp⟩:=hI.st
  have hlen:=hI.len
  have hpl:=spl_len 10 s
  have hen:=ended_any hI.b HZ.out (s:=s) hts hokp (by omega)
  have hpd:=parse_done' hlen hrun
  have c1:=hI.b.ptr.cell 0
  have c2:=hI.b.bad.cell 0
  have HPD:=Lib.hid hpd;have HKD:=Lib.hid hK
  rw[hsz] at hD
  have hfn:=fun W1 (hf:FrT (XP z) z W W1)=>(hf.non D _ hK rfl:W1.heap[D]?=some (.deferred (some [])))
  have HFN:=Lib.hid hfn
  clear hI hrun hts hokp hpd hfn hK
  gi_wp2
  refine⟨trivial,?_⟩;gi_at_call 27
  refine (callsIn_wide.2 hen).mono ?_
  rintro e W1 ⟨hb1,hf1,(⟨rfl,L,hL,K,bg,f,lv,d3,d4,d5,d6,d7,hq1⟩|⟨rfl,f,hf,hfe,hcell⟩)⟩
  ·obtain⟨A,cc,hlv,_⟩:=hq1.row.form
   subst hlv
   have c2':=hb1.bad.cell 0
   have c1':=hb1.ptr.cell 0
   have c0':=hq1.box.cell 0
   have hK1:=HFN.out W1 hf1
   have HQ:=Lib.hid (show PsP s w (.returned (.tuple #[.slice A L.length cc,.int .i64 0,.int .i64 0])) (W1.putObj D (.deferred none)) from ⟨by rw[HZ.out];exact putObj_below hb1.low D (by omega) _,.inl ⟨L,_,HPD.out.trans hL,rfl,K,by
    rw[HZ.out]
    exact hq1.row.onC PoP.mn (grown_mvC (X:=XP z) (grownBy_putObj' W1 D (.deferred none)) fun r e=>by injection e with e;subst e;exact .inl ⟨_,hK1,rfl⟩) (fun b hb=>(hq1.kk b hb).2.2) hq1.sep⟩⟩)
   have HK1:=Lib.hid hK1
   clear hq1 hb1 hf1 hL hen hK1
   gi_wp2
   dsimp only[Exit.noGoto]
   refine⟨by simp,.inl ⟨_,_,rfl,run_takeDeferred HK1.out,?_⟩⟩
   exact⟨_,(by simp[results,Tryz.results13,go_sem]),HQ.out⟩
  have c2':=hb1.bad.cell 0
  have g2':=hb1.bad.frozen 0
  have c1':=hb1.ptr.cell 0
  have hK1:=HFN.out W1 hf1
  have hf0:(0:Int)<(f:Int):=by omega
  have hb2:=hb1.set HZ.out (f:Int)
  have hK2:(W1.setCell ⟨z+2,0,none⟩ (.int .i64 (f:Int))).heap[D]?=some (.deferred (some [])):=(Below.heap_setCell W1 ⟨z+2,0,none⟩ _ D (by simp only;omega)).trans hK1
  have HQ:=Lib.hid (show PsP s w (.returned (.tuple #[.slice none 0 0,.int .i64 (f:Int),.int .i64 2])) ((W1.setCell ⟨z+2,0,none⟩ (.int .i64 (f:Int))).drew.putObj D (.deferred none)) from ⟨by rw[HZ.out];exact putObj_below hb2.low.drew D (by omega) _,.inr ⟨f,hf,HPD.out.trans hfe,rfl⟩⟩)
  have HK2:=Lib.hid hK2
  have d2':=hb2.bad.cell 0
  clear hb1 hf1 hfe hen hK1 hK2 hb2
  obtain⟨fi,hfi⟩:∃y,(f:Int)=y:=⟨_,rfl⟩
  rw[hfi] at hf0 HQ HK2 d2' hcell
  clear hfi hf
  gi_wp2
  have hS:PsS z fi (W1.setCell ⟨z+2,0,none⟩ (.int .i64 fi)):=⟨d2',trivial⟩
  refine wpIn_onlyN (wp_region_order (PsS z fi) 100 [(0,0),(1,0),(2,0),(3,0)] (by kernel_rfl) (by kernel_rfl) ?_)
  simp only[pick,List.filterMap_cons,List.filterMap_nil,List.getElem?_cons_zero,List.getElem?_cons_succ,Option.map_some]
  replace hS:PsS z fi ((W1.setCell ⟨z+2,0,none⟩ (.int .i64 fi))).drew:=hS
  iterate 4 (refine wpF_take (v:=?_) hS rfl ?_ (fun _ _ _ h=>h) ?_;rotate_left;(· intro w' hS';obtain⟨e0,_⟩:=hS';go_simp<;>rfl);go_simp)
  refine wpF_nil ?_
  dsimp only[onlyN,Exit.then]
  gi_wp2
  dsimp only[Exit.noGoto]
  refine⟨by simp,.inl ⟨_,_,rfl,run_takeDeferred HK2.out,?_⟩⟩
  exact⟨_,(by simp[results,Tryz.results13,go_sem]),HQ.out⟩
 case stop =>
  intro D c pre W hD h hK
  obtain⟨rfl,m,h1,h2,hb⟩:=h
  have c2:=hb.bad.cell 0
  rw[hsz] at hD
  have hm0:(0:Int)<(m:Int):=by omega
  have HQ:=Lib.hid (show PsP s w (.returned (.tuple #[.slice none 0 0,.int .i64 (m:Int),.int .i64 2])) (W.drew.putObj D (.deferred none)) from ⟨by rw[HZ.out];exact putObj_below hb.low.drew D (by omega) _,.inr ⟨m,h1,h2,rfl⟩⟩)
  have HK2:=Lib.hid hK
  clear hb hK h2
  obtain⟨mi,hmi⟩:∃y,(m:Int)=y:=⟨_,rfl⟩
  rw[hmi] at hm0 HQ c2
  have hm1:(mi==0)=false:=by rw[beq_eq_false_iff_ne];omega
  clear hmi h1
  gi_wp2
  refine⟨trivial,?_⟩
  gi_wp2
  have hS:PsS z mi W:=⟨c2,trivial⟩
  refine wpIn_onlyN (wp_region_order (PsS z mi) 100 [(0,0),(1,0),(2,0),(3,0)] (by kernel_rfl) (by kernel_rfl) ?_)
  simp only[pick,List.filterMap_cons,List.filterMap_nil,List.getElem?_cons_zero,List.getElem?_cons_succ,Option.map_some]
  replace hS:PsS z mi (W).drew:=hS
  iterate 4 (refine wpF_take (v:=?_) hS rfl ?_ (fun _ _ _ h=>h) ?_;rotate_left;(· intro w' hS';obtain⟨e0,_⟩:=hS';go_simp<;>rfl);go_simp)
  refine wpF_nil ?_
  dsimp only[onlyN,Exit.then]
  gi_wp2
  dsimp only[Exit.noGoto]
  refine⟨by simp,.inl ⟨_,_,rfl,run_takeDeferred HK2.out,?_⟩⟩
  exact⟨_,(by simp[results,Tryz.results13,go_sem]),HQ.out⟩
end Go.Proofs.YtpcdmbajfmnoiaaGreatDoor
